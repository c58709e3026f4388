/- Plain lemmas on the twins, and what the laws come to. -/
import Derived.Test.YthpklbpdchckkaaAKF0
namespace Go.Proofs.YthpklbpdchckkaaT
open Go.Proofs Go.Proofs.YthpklbpdchckkaaEv
set_option linter.unusedVariables false
set_option linter.unusedSimpArgs false
variable {R : Type}
--# in
theorem spec_l1In_eq (N : Nat) (a b c : Int) (k : Bool → Option R) : spec_l1In N a b c k = k (decide (b ≤ a) && decide (a ≤ c)) := by
  rw [spec_l1In, kc k]; cases decide (b ≤ a) <;> rfl
theorem impl_within_eq (N : Nat) (a b c : Int) (k : Bool → Option R) : impl_within N a b c k = k (decide (b ≤ a) && decide (a ≤ c)) := by
  rw [impl_within, kc k]; cases decide (b ≤ a) <;> rfl
theorem big_gt {n : Nat} (h : n ≤ 1048576) : n < BIG := by have : BIG = 4611686018427387904 := rfl; omega
--# SinkOk
def SinkOkB (s : DSink) : Bool :=
  decide ((s.1.size : Int) ≤ 4000) && (decide ((s.2.1.length : Int) ≤ 200) && ((decide (0 ≤ s.2.2.1) && decide (s.2.2.1 ≤ (s.2.1.length : Int))) && (decide (0 ≤ s.2.2.2) && decide (s.2.2.2 ≤ 1000000))))
theorem spec_SinkOk_eq (N : Nat) (s : DSink) (k : Bool → Option R) : spec_SinkOk N s k = k (SinkOkB s) := by
  simp only [spec_SinkOk, spec_l1In_eq, kc k, Bool.cond_false_right]; rfl
theorem impl_SinkOk_eq (N : Nat) (s : DSink) (k : Bool → Option R) : impl_SinkOk N s k = k (SinkOkB s) := by
  simp only [impl_SinkOk, impl_within_eq, kc k, Bool.cond_false_right]; rfl
--# NumberOk
def NumberOkB (n : Int) : Bool := (decide (1 ≤ n) && decide (n ≤ 536870911)) && !(decide (19000 ≤ n) && decide (n ≤ 19999))
theorem impl_NumberOk_eq (N : Nat) (n : Int) (k : Bool → Option R) : impl_NumberOk N n k = k (NumberOkB n) := by
  simp only [impl_NumberOk, impl_within_eq, kc k, Bool.cond_false_right]; rfl
theorem spec_NumberOk_eq (N : Nat) (n : Int) (k : Bool → Option R) : spec_NumberOk N n k = k (NumberOkB n) := by
  simp only [spec_NumberOk, spec_l1In_eq, kc k, Bool.cond_false_right]; rfl
--# Numeric
def NumericB (n : Int) : Bool := decide (1 ≤ n) && decide (n ≤ 5)
theorem impl_Numeric_eq (N : Nat) (n : Int) (k : Bool → Option R) : impl_Numeric N n k = k (NumericB n) := impl_within_eq N n 1 5 k
theorem spec_Numeric_eq (N : Nat) (n : Int) (k : Bool → Option R) : spec_Numeric N n k = k (NumericB n) := spec_l1In_eq N n 1 5 k
--# Kind
def KindB (n : Int) : Bool := decide (1 ≤ n) && decide (n ≤ 8)
theorem impl_isKind_eq (N : Nat) (n : Int) (k : Bool → Option R) : impl_isKind N n k = k (KindB n) := impl_within_eq N n 1 8 k
theorem spec_l6Kind_eq (N : Nat) (n : Int) (k : Bool → Option R) : spec_l6Kind N n k = k (KindB n) := spec_l1In_eq N n 1 8 k
--# SchemaOk
def FieldOkB (m : Int) (f : DField) : Bool :=
  NumberOkB f.1 && (KindB f.2.1 && ((!f.2.2.2.1 || (f.2.2.1 && NumericB f.2.1)) && (bif decide (f.2.1 = 8) then decide (0 ≤ f.2.2.2.2) && decide (f.2.2.2.2 ≤ m) else decide (f.2.2.2.2 = (-1)))))
theorem impl_fieldOk_eq (N : Nat) (f : DField) (b s : Int) (k : Bool → Option R) : impl_fieldOk N f b s k = k (FieldOkB (w64 (s - 1)) f && !decide (f.1 ≤ b)) := by
  simp only [impl_fieldOk, impl_NumberOk_eq, impl_isKind_eq, impl_Numeric_eq, impl_within_eq, kc k, FieldOkB]
  congr 1
  cases NumberOkB f.1 <;> cases KindB f.2.1 <;> cases f.2.2.2.1 <;> cases f.2.2.1 <;> cases NumericB f.2.1 <;> cases decide (f.1 ≤ b) <;> simp
theorem spec_l8FieldOk_eq (N : Nat) (s : List DShape) (f : DField) (k : Bool → Option R) : spec_l8FieldOk N s f k = k (FieldOkB (w64 ((s.length : Int) - 1)) f) := by
  simp only [spec_l8FieldOk, spec_NumberOk_eq, spec_l6Kind_eq, spec_Numeric_eq, spec_l1In_eq, kc k, FieldOkB]
  congr 1
  cases NumberOkB f.1 <;> cases KindB f.2.1 <;> cases f.2.2.2.1 <;> cases f.2.2.1 <;> cases NumericB f.2.1 <;> simp
def fieldsB (s : Int) : Int → List DField → Bool
  | _, [] => true
  | b, f :: t => (FieldOkB s f && !decide (f.1 ≤ b)) && fieldsB s f.1 t
theorem number_pos {n : Int} (h : NumberOkB n = true) : 1 ≤ n ∧ n ≤ 536870911 := by
  simp only [NumberOkB, Bool.and_eq_true, decide_eq_true_eq] at h; exact h.1
theorem fieldOk_pos {s : Int} {f : DField} (h : FieldOkB s f = true) : 1 ≤ f.1 := by
  simp only [FieldOkB, Bool.and_eq_true] at h; exact (number_pos h.1).1
theorem impl_SchemaOk_l0_eq (N : Nat) (v3 : List DShape) (v4 v5 : Int) (a : List DField) (b1 : List DShape) (b2 : Int) (b3 : List DField) (x0 : Bool → Option R) (x1 : List DShape → Int → Int → List DShape → Int → List DField → Option R) (ha : a.length ≤ 1048576) : ∀ (l : List DField) (j n : Nat) (num : Int), a.drop j = l → l.length < n →
    impl_SchemaOk_l0 N n num v3 v4 v5 a (a.length : Int) j b1 b2 b3 x0 x1 = cond (fieldsB (w64 ((b1.length : Int) - 1)) num l) (x1 v3 v4 v5 b1 b2 b3) (x0 false)
  | [], j, n + 1, num, hd, _ => by rw [impl_SchemaOk_l0, lt_no (drop_nil' hd), cond_false, fieldsB, cond_true]
  | f :: t, j, n + 1, num, hd, hn => by
    obtain ⟨h1, h2, h3, _⟩ := drop_cons' hd
    rw [impl_SchemaOk_l0, lt_ok h1, cond_true, idx_ok h1, cond_true, natOf, h2, impl_fieldOk_eq, w64_succ (by omega), fieldsB, impl_SchemaOk_l0_eq N v3 v4 v5 a b1 b2 b3 x0 x1 ha t (j + 1) n f.1 h3 (by simpa using hn)]
    cases (FieldOkB (w64 ((b1.length : Int) - 1)) f && !decide (f.1 ≤ num)) <;> rfl
theorem spec_SchemaOk_l0_eq (N : Nat) (i1 : Int) (b1 : List DShape) (b2 : Int) (a : List DField) (x0 : Bool → Option R) (x1 : Int → List DShape → Option R) (ha : a.length ≤ 1048576) : ∀ (l : List DField) (j n : Nat) (num : Int), a.drop j = l → l.length < n → (j = 0 → num = 0) → (0 < j → num = (a.getD (j - 1) YField.z).1) →
    spec_SchemaOk_l0 N n i1 j b1 b2 a x0 x1 = cond (fieldsB (w64 ((b1.length : Int) - 1)) num l) (x1 i1 b1) (x0 false)
  | [], j, n + 1, num, hd, _, _, _ => by rw [spec_SchemaOk_l0, lt_no (drop_nil' hd), cond_false, fieldsB, cond_true]
  | f :: t, j, n + 1, num, hd, hn, z0, z1 => by
    obtain ⟨h1, h2, h3, _⟩ := drop_cons' hd
    have ih := spec_SchemaOk_l0_eq N i1 b1 b2 a x0 x1 ha t (j + 1) n f.1 h3 (by simpa using hn) (by omega) (fun _ => by rw [show j + 1 - 1 = j from rfl, h2])
    rw [spec_SchemaOk_l0, lt_ok h1, cond_true, idx_ok h1, cond_true, natOf, h2, spec_l8FieldOk_eq, w64_succ (by omega), ih, fieldsB]
    cases hf : FieldOkB (w64 ((b1.length : Int) - 1)) f
    · rfl
    · rw [Bool.not_true, cond_false, Bool.true_and]
      cases j with
      | zero =>
        have hp := fieldOk_pos hf
        rw [z0 rfl, dF (by omega : ¬ (0 : Int) < ((0 : Nat) : Int)), cond_false, dF (by omega : ¬ f.1 ≤ 0)]; rfl
      | succ i =>
        have hw : w64 (((i + 1 : Nat) : Int) - 1) = (i : Int) := by rw [w64_id ⟨by omega, by omega⟩]; omega
        have hz := z1 (by omega)
        rw [show i + 1 - 1 = i from rfl] at hz
        rw [dT (by omega : (0 : Int) < ((i + 1 : Nat) : Int)), cond_true, hw, idx_ok (by omega), cond_true, cond_true, natOf, ← hz]
        cases decide (f.1 ≤ num) <;> rfl
def shapesB (s : Int) : Int → List DShape → Bool
  | _, [] => true
  | b, h :: t => ((!decide (h.1 ≤ b) && (!decide (99 < h.1) && !decide (8 < (h.2.length : Int)))) && fieldsB s 0 h.2) && shapesB s h.1 t
theorem impl_SchemaOk_l1_eq (N : Nat) (hN : BIG ≤ N) (a b : List DShape) (x0 : Bool → Option R) (x1 : Option R) (ha : a.length ≤ 1048576) (hs : ∀ x ∈ a, x.2.length ≤ 1048576) : ∀ (l : List DShape) (j n : Nat) (id : Int), a.drop j = l → l.length < n →
    impl_SchemaOk_l1 N n id a (a.length : Int) j b x0 x1 = cond (shapesB (w64 ((b.length : Int) - 1)) id l) x1 (x0 false)
  | [], j, n + 1, id, hd, _ => by rw [impl_SchemaOk_l1, lt_no (drop_nil' hd), cond_false, shapesB, cond_true]
  | h :: t, j, n + 1, id, hd, hn => by
    obtain ⟨h1, h2, h3, h4⟩ := drop_cons' hd
    have hl := hs h h4
    have ih := impl_SchemaOk_l1_eq N hN a b x0 x1 ha hs t (j + 1) n h.1 h3 (by simpa using hn)
    rw [impl_SchemaOk_l1, lt_ok h1, cond_true, idx_ok h1, cond_true, natOf, h2, shapesB]
    rw [show (0 : Int) = ((0 : Nat) : Int) from rfl, impl_SchemaOk_l0_eq N _ _ _ h.2 b _ _ _ _ hl h.2 0 N _ rfl (by have := big_gt hl; omega)]
    simp only [w64_succ (show j < 9223372036854775807 by omega), ih]
    cases decide (h.1 ≤ id) <;> cases decide (99 < h.1) <;> cases decide (8 < (h.2.length : Int)) <;> cases fieldsB (w64 ((b.length : Int) - 1)) ((0 : Nat) : Int) h.2 <;> rfl
theorem spec_SchemaOk_l1_eq (N : Nat) (hN : BIG ≤ N) (a : List DShape) (x0 : Bool → Option R) (x1 : Option R) (ha : a.length ≤ 1048576) (hs : ∀ x ∈ a, x.2.length ≤ 1048576) : ∀ (l : List DShape) (j n : Nat) (id : Int), a.drop j = l → l.length < n → (j = 0 → id = 0) → (0 < j → id = (a.getD (j - 1) YShape.z).1) → 0 ≤ id →
    spec_SchemaOk_l1 N n j a x0 x1 = cond (shapesB (w64 ((a.length : Int) - 1)) id l) x1 (x0 false)
  | [], j, n + 1, id, hd, _, _, _, _ => by rw [spec_SchemaOk_l1, lt_no (drop_nil' hd), cond_false, shapesB, cond_true]
  | h :: t, j, n + 1, id, hd, hn, z0, z1, zp => by
    obtain ⟨h1, h2, h3, h4⟩ := drop_cons' hd
    have hl := hs h h4
    rw [spec_SchemaOk_l1, lt_ok h1, cond_true, idx_ok h1, cond_true, natOf, h2, shapesB, spec_l1In_eq]
    rw [show (0 : Int) = ((0 : Nat) : Int) from rfl, spec_SchemaOk_l0_eq N _ a _ h.2 _ _ hl h.2 0 N 0 rfl (by have := big_gt hl; omega) (fun _ => rfl) (by omega)]
    simp only [w64_succ (show j < 9223372036854775807 by omega)]
    by_cases hp : 1 ≤ h.1
    · have ih := spec_SchemaOk_l1_eq N hN a x0 x1 ha hs t (j + 1) n h.1 h3 (by simpa using hn) (by omega) (fun _ => by rw [show j + 1 - 1 = j from rfl, h2]) (by omega)
      rw [ih]
      have hq : decide (h.1 ≤ 99) = !decide (99 < h.1) := by by_cases c : h.1 ≤ 99 <;> simp [c] <;> omega
      rw [dT hp, Bool.true_and, hq]
      cases j with
      | zero =>
        rw [z0 rfl, dF (by omega : ¬ ((0 : Nat) : Int) < ((0 : Nat) : Int)), cond_false, dF (by omega : ¬ h.1 ≤ 0)]
        cases decide (99 < h.1) <;> cases decide (8 < (h.2.length : Int)) <;> cases fieldsB (w64 ((a.length : Int) - 1)) 0 h.2 <;> rfl
      | succ i =>
        have hw : w64 (((i + 1 : Nat) : Int) - 1) = (i : Int) := by rw [w64_id ⟨by omega, by omega⟩]; omega
        have hz := z1 (by omega)
        rw [show i + 1 - 1 = i from rfl] at hz
        rw [dT (by omega : ((0 : Nat) : Int) < ((i + 1 : Nat) : Int)), cond_true, hw, idx_ok (by omega), cond_true, natOf, ← hz]
        cases decide (h.1 ≤ id) <;> cases decide (99 < h.1) <;> cases decide (8 < (h.2.length : Int)) <;> cases fieldsB (w64 ((a.length : Int) - 1)) 0 h.2 <;> rfl
    · rw [dF hp, Bool.false_and, Bool.not_false, cond_true, dT (by omega : h.1 ≤ id)]; rfl
def SchemaOkB (s : List DShape) : Bool := !decide (6 < (s.length : Int)) && shapesB (w64 ((s.length : Int) - 1)) 0 s
theorem impl_SchemaOk_eq (N : Nat) (hN : BIG ≤ N) (s : List DShape) (ha : s.length ≤ 1048576) (hs : ∀ x ∈ s, x.2.length ≤ 1048576) (k : Bool → Option R) : impl_SchemaOk N s k = k (SchemaOkB s) := by
  rw [impl_SchemaOk, SchemaOkB]
  have := impl_SchemaOk_l1_eq N hN s s (fun v => k v) (k true) ha hs s 0 N 0 rfl (by have := big_gt ha; omega)
  rw [show (((0 : Nat) : Int)) = 0 from rfl] at this
  rw [this]
  cases decide (6 < (s.length : Int)) <;> cases shapesB (w64 ((s.length : Int) - 1)) 0 s <;> rfl
theorem spec_SchemaOk_eq (N : Nat) (hN : BIG ≤ N) (s : List DShape) (ha : s.length ≤ 1048576) (hs : ∀ x ∈ s, x.2.length ≤ 1048576) (k : Bool → Option R) : spec_SchemaOk N s k = k (SchemaOkB s) := by
  rw [spec_SchemaOk, SchemaOkB]
  have := spec_SchemaOk_l1_eq N hN s (fun v => k v) (k true) ha hs s 0 N 0 rfl (by have := big_gt ha; omega) (fun _ => rfl) (by omega) (Int.le_refl _)
  rw [show (((0 : Nat) : Int)) = 0 from rfl] at this
  rw [this]
  cases decide (6 < (s.length : Int)) <;> cases shapesB (w64 ((s.length : Int) - 1)) 0 s <;> rfl
--# PlanOk
def PlanOkB (p : DPlan) : Bool := SchemaOkB p.1 && ((decide (0 ≤ p.2.1) && decide (p.2.1 ≤ w64 ((p.1.length : Int) - 1))) && ((decide (1 ≤ p.2.2.1) && decide (p.2.2.1 ≤ 8)) && (decide (0 ≤ p.2.2.2) && decide (p.2.2.2 ≤ 2000))))
theorem impl_PlanOk_eq (N : Nat) (hN : BIG ≤ N) (p : DPlan) (ha : p.1.length ≤ 1048576) (hs : ∀ x ∈ p.1, x.2.length ≤ 1048576) (k : Bool → Option R) : impl_PlanOk N p k = k (PlanOkB p) := by
  simp only [impl_PlanOk, impl_SchemaOk_eq N hN p.1 ha hs, impl_within_eq, kc k, Bool.cond_false_right]; rfl
theorem spec_PlanOk_eq (N : Nat) (hN : BIG ≤ N) (p : DPlan) (ha : p.1.length ≤ 1048576) (hs : ∀ x ∈ p.1, x.2.length ≤ 1048576) (k : Bool → Option R) : spec_PlanOk N p k = k (PlanOkB p) := by
  simp only [spec_PlanOk, spec_SchemaOk_eq N hN p.1 ha hs, spec_l1In_eq, kc k, Bool.cond_false_right]; rfl
--# law_KitNew
theorem pure_KitNew : ∃ N, ∀ {R : Type} (k : Bool → Option R), laws_FnExactKitNew N k = k true := by
  refine ⟨BIG, fun {R} k => ?_⟩
  obtain ⟨p, hp⟩ : ∃ p : DPlan, p = ([(1, [])], 0, 1, 100) := ⟨_, rfl⟩
  have hl : Len YPlan p := by
    subst hp
    exact ⟨⟨by decide, fun x hx => by
      have : x = ((1, []) : DShape) := by simpa using hx
      subst this
      exact ⟨trivial, by decide, fun _ h => by cases h⟩⟩, trivial, trivial, trivial⟩
  obtain ⟨k1, o, a, b, m, q⟩ := laws_markKit_ok BIG (Nat.le_refl _) p hl 1 (by omega) (by omega)
  have e2 : p.2 = (0, 1, 100) := by rw [hp]
  rw [e2] at m q
  rw [laws_FnExactKitNew]
  simp only [spec_KitNew, impl_KitNew, ← hp, laws_eqKit_refl BIG (Nat.le_refl _) p _ hl, m, q, dF (by omega : ¬ k1 < 0), decide_true, Bool.not_true, cond_false]
--# clone_int
theorem clone_int_eq (N : Nat) (xs : List Int) (h : xs.length ≤ 1048576) (k : List Int → Option R) : slices_Clone_int_int N xs k = k xs := by
  rw [slices_Clone_int_int, dT (by omega), cond_true]
--# clone_Field
theorem clone_Field_eq (N : Nat) (xs : List DField) (h : xs.length ≤ 1048576) (k : List DField → Option R) : slices_Clone_impl_Field_impl_Field N xs k = k xs := by
  rw [slices_Clone_impl_Field_impl_Field, dT (by omega), cond_true]
--# copySchema
theorem impl_copySchema_l0_eq (N : Nat) (a : List DShape) (x : List DShape → Option R) (ha : a.length ≤ 1048576) (hs : ∀ y ∈ a, y.2.length ≤ 1048576) : ∀ (l : List DShape) (j n : Nat) (xs : List DShape), a.drop j = l → l.length < n → xs.length = j →
    impl_copySchema_l0 N n a (a.length : Int) j xs x = x (xs ++ l)
  | [], j, n + 1, xs, hd, _, _ => by rw [impl_copySchema_l0, lt_no (drop_nil' hd), cond_false, List.append_nil]
  | y :: t, j, n + 1, xs, hd, hn, hx => by
    obtain ⟨h1, h2, h3, h4⟩ := drop_cons' hd
    rw [impl_copySchema_l0, lt_ok h1, cond_true, idx_ok h1, cond_true, natOf, h2, clone_Field_eq N y.2 (hs y h4), dT (by omega), cond_true, w64_succ (by omega),
      impl_copySchema_l0_eq N a x ha hs t (j + 1) n (xs ++ [(y.1, y.2)]) h3 (by simpa using hn) (by rw [List.length_append, List.length_singleton, hx]), List.append_assoc]
    rfl
theorem impl_copySchema_eq (N : Nat) (hN : BIG ≤ N) (a : List DShape) (ha : a.length ≤ 1048576) (hs : ∀ y ∈ a, y.2.length ≤ 1048576) (k : List DShape → Option R) : impl_copySchema N a k = k a := by
  rw [impl_copySchema, show (0 : Int) = ((0 : Nat) : Int) from rfl, impl_copySchema_l0_eq N a _ ha hs a 0 N [] rfl (by have := big_gt ha; omega) rfl]; rfl
theorem spec_l8Copy_l0_eq (N : Nat) (a : List DShape) (x : List DShape → Option R) (ha : a.length ≤ 1048576) (hs : ∀ y ∈ a, y.2.length ≤ 1048576) : ∀ (l : List DShape) (j n : Nat) (xs : List DShape), a.drop j = l → l.length < n → xs.length = j →
    spec_l8Copy_l0 N n j a xs x = x (xs ++ l)
  | [], j, n + 1, xs, hd, _, _ => by rw [spec_l8Copy_l0, lt_no (drop_nil' hd), cond_false, List.append_nil]
  | y :: t, j, n + 1, xs, hd, hn, hx => by
    obtain ⟨h1, h2, h3, h4⟩ := drop_cons' hd
    have hy := hs y h4
    rw [spec_l8Copy_l0, lt_ok h1, cond_true, idx_ok h1, cond_true, cond_true, natOf, h2, dT (by omega : (0 + y.2.length) * 32 ≤ 140737488355328), cond_true, dT (by omega), cond_true, w64_succ (by omega),
      spec_l8Copy_l0_eq N a x ha hs t (j + 1) n (xs ++ [y]) h3 (by simpa using hn) (by rw [List.length_append, List.length_singleton, hx]), List.append_assoc]
    rfl
theorem spec_l8Copy_eq (N : Nat) (hN : BIG ≤ N) (a : List DShape) (ha : a.length ≤ 1048576) (hs : ∀ y ∈ a, y.2.length ≤ 1048576) (k : List DShape → Option R) : spec_l8Copy N a k = k a := by
  rw [spec_l8Copy, show (0 : Int) = ((0 : Nat) : Int) from rfl, spec_l8Copy_l0_eq N a _ ha hs a 0 N [] rfl (by have := big_gt ha; omega) rfl]; rfl
--# EncNew
def encZ : DEncoder := (([], 0, 0, 0), (ByteArray.empty, [], 0, 0), [], 0, 0, 0)
def encNewB (p : DPlan) (s : List Int) : Bool := PlanOkB p && SinkOkB (ByteArray.empty, s, 0, 0)
def encNewV (p : DPlan) (s : List Int) : DEncoder := bif encNewB p s then (p, (ByteArray.empty, s, 0, 0), [], 0, 0, 0) else encZ
theorem spec_EncNew_eq (N : Nat) (hN : BIG ≤ N) (p : DPlan) (s : List Int) (ha : p.1.length ≤ 1048576) (hs : ∀ x ∈ p.1, x.2.length ≤ 1048576) (hl : s.length ≤ 1048576) (k : DEncoder → Bool → Option R) : spec_EncNew N p s k = k (encNewV p s) (encNewB p s) := by
  rw [spec_EncNew, dT (by omega), cond_true, spec_PlanOk_eq N hN p ha hs, spec_SinkOk_eq, spec_l8Copy_eq N hN p.1 ha hs, encNewV, encNewB]
  cases PlanOkB p <;> cases SinkOkB (ByteArray.empty, s, 0, 0) <;> rfl
theorem impl_EncNew_eq (N : Nat) (hN : BIG ≤ N) (p : DPlan) (s : List Int) (ha : p.1.length ≤ 1048576) (hs : ∀ x ∈ p.1, x.2.length ≤ 1048576) (hl : s.length ≤ 1048576) (k : DEncoder → Bool → Option R) : impl_EncNew N p s k = k (encNewV p s) (encNewB p s) := by
  rw [impl_EncNew, clone_int_eq N s hl, impl_PlanOk_eq N hN p ha hs, impl_SinkOk_eq, impl_copyPlan, impl_copySchema_eq N hN p.1 ha hs, encNewV, encNewB]
  cases PlanOkB p <;> cases SinkOkB (ByteArray.empty, s, 0, 0) <;> rfl
--# law_EncNew
theorem pure_EncNew (x : DlPlan) (s : List Int) (h : Wf Try.prog YlPlan x) (h2 : Wf Try.prog (.sl 3 (.int .i64)) s) : ∃ N, ∀ {R : Type} (k : Bool → Option R), laws_FnExactEncNew N x s k = k true := by
  have hb := bnd_of (by kernel_rfl) h
  refine ⟨BIG, fun {R} k => ?_⟩
  rw [laws_FnExactEncNew]
  by_cases hs : 1048576 < (s.length : Int)
  · rw [dT hs, cond_true]
  rw [dF hs, cond_false]
  obtain ⟨r, e, _, hf⟩ := laws_szPlan_ok BIG (Nat.le_refl _) x 1048576 (by decide) (by decide) hb
  rw [e]
  by_cases hr : r < 0
  · rw [dT hr, cond_true]
  · have hf := len_of (hf (by omega))
    have h1 : x.1.length ≤ 1048576 := hf.1.1
    have h2 : ∀ y ∈ x.1, y.2.length ≤ 1048576 := fun y hy => (hf.1.2 y hy).2.1
    have h3 : s.length ≤ 1048576 := by omega
    have hls : Len (.sl 3 (.int .i64)) s := ⟨h3, fun _ _ => trivial⟩
    have hle : Len YEncoder (encNewV x s) := by
      unfold encNewV
      cases encNewB x s
      · exact ⟨⟨⟨Nat.zero_le _, fun _ h => by cases h⟩, trivial, trivial, trivial⟩, ⟨trivial, ⟨Nat.zero_le _, fun _ h => by cases h⟩, trivial, trivial⟩, ⟨Nat.zero_le _, fun _ h => by cases h⟩, trivial, trivial, trivial⟩
      · exact ⟨hf, ⟨trivial, hls, trivial, trivial⟩, ⟨Nat.zero_le _, fun _ h => by cases h⟩, trivial, trivial, trivial⟩
    have lp : Len YPlan x := hf
    obtain ⟨k1, o1, a1, b1, m1, _⟩ := laws_markPlan_ok BIG (Nat.le_refl _) x lp 1 (by omega) (by omega)
    obtain ⟨k2, o2, a2, b2, m2, _⟩ := laws_markIntS_ok BIG (Nat.le_refl _) s hls k1 (by omega) (by omega)
    obtain ⟨k3, p0, p1, p2, a3, b3, m3, q3⟩ := laws_markEncoder_ok BIG (Nat.le_refl _) (encNewV x s) hle 1 (by omega) (by omega)
    simp only [dF hr, cond_false, laws_toPlan_eq BIG (Nat.le_refl _) x _ hf, laws_toIntS_eq BIG (Nat.le_refl _) s _ hls, spec_EncNew_eq BIG (Nat.le_refl _) x s h1 h2 h3, impl_EncNew_eq BIG (Nat.le_refl _) x s h1 h2 h3, laws_eqEncoder_refl BIG (Nat.le_refl _) _ _ hle, laws_eqPlan_refl BIG (Nat.le_refl _) x _ lp, laws_eqIntS_refl BIG (Nat.le_refl _) s _ hls, m1, m2, m3, q3, BEq.rfl, dF (by omega : ¬ k2 < 0), dF (by omega : ¬ k3 < 0), decide_true, Bool.not_true]

end Go.Proofs.YthpklbpdchckkaaT
