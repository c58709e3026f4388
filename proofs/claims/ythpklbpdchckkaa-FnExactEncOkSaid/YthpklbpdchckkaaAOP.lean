/- Plain lemmas on the twins, and what the laws come to. -/
import Derived.Test.YthpklbpdchckkaaAOF0
namespace Go.Proofs.YthpklbpdchckkaaT
open Go.Proofs Go.Proofs.YthpklbpdchckkaaEv
set_option linter.unusedVariables false
set_option linter.unusedSimpArgs false
variable {R : Type}
--# in
theorem spec_l1In_eq (N : Nat) (a b c : Int) (k : Bool → Option R) : spec_l1In N a b c k = k (decide (b ≤ a) && decide (a ≤ c)) := by
  rw [spec_l1In, kc k]; cases decide (b ≤ a) <;> rfl
theorem impl_within_eq (N : Nat) (a b c : Int) (k : Bool → Option R) : impl_within N a b c k = k (decide (b ≤ a) && decide (a ≤ c)) := by
  rw [impl_within, kc k]; cases decide (b ≤ a) <;> rfl
theorem big_gt {n : Nat} (h : n ≤ 1048576) : n < BIG := by have : BIG = 4611686018427387904 := rfl; omega
--# SinkOk
def SinkOkB (s : DSink) : Bool :=
  decide ((s.1.size : Int) ≤ 4000) && (decide ((s.2.1.length : Int) ≤ 200) && ((decide (0 ≤ s.2.2.1) && decide (s.2.2.1 ≤ (s.2.1.length : Int))) && (decide (0 ≤ s.2.2.2) && decide (s.2.2.2 ≤ 1000000))))
theorem spec_SinkOk_eq (N : Nat) (s : DSink) (k : Bool → Option R) : spec_SinkOk N s k = k (SinkOkB s) := by
  simp only [spec_SinkOk, spec_l1In_eq, kc k, Bool.cond_false_right]; rfl
theorem impl_SinkOk_eq (N : Nat) (s : DSink) (k : Bool → Option R) : impl_SinkOk N s k = k (SinkOkB s) := by
  simp only [impl_SinkOk, impl_within_eq, kc k, Bool.cond_false_right]; rfl
--# NumberOk
def NumberOkB (n : Int) : Bool := (decide (1 ≤ n) && decide (n ≤ 536870911)) && !(decide (19000 ≤ n) && decide (n ≤ 19999))
theorem impl_NumberOk_eq (N : Nat) (n : Int) (k : Bool → Option R) : impl_NumberOk N n k = k (NumberOkB n) := by
  simp only [impl_NumberOk, impl_within_eq, kc k, Bool.cond_false_right]; rfl
theorem spec_NumberOk_eq (N : Nat) (n : Int) (k : Bool → Option R) : spec_NumberOk N n k = k (NumberOkB n) := by
  simp only [spec_NumberOk, spec_l1In_eq, kc k, Bool.cond_false_right]; rfl
--# Numeric
def NumericB (n : Int) : Bool := decide (1 ≤ n) && decide (n ≤ 5)
theorem impl_Numeric_eq (N : Nat) (n : Int) (k : Bool → Option R) : impl_Numeric N n k = k (NumericB n) := impl_within_eq N n 1 5 k
theorem spec_Numeric_eq (N : Nat) (n : Int) (k : Bool → Option R) : spec_Numeric N n k = k (NumericB n) := spec_l1In_eq N n 1 5 k
--# Kind
def KindB (n : Int) : Bool := decide (1 ≤ n) && decide (n ≤ 8)
theorem impl_isKind_eq (N : Nat) (n : Int) (k : Bool → Option R) : impl_isKind N n k = k (KindB n) := impl_within_eq N n 1 8 k
theorem spec_l6Kind_eq (N : Nat) (n : Int) (k : Bool → Option R) : spec_l6Kind N n k = k (KindB n) := spec_l1In_eq N n 1 8 k
--# SchemaOk
def FieldOkB (m : Int) (f : DField) : Bool :=
  NumberOkB f.1 && (KindB f.2.1 && ((!f.2.2.2.1 || (f.2.2.1 && NumericB f.2.1)) && (bif decide (f.2.1 = 8) then decide (0 ≤ f.2.2.2.2) && decide (f.2.2.2.2 ≤ m) else decide (f.2.2.2.2 = (-1)))))
theorem impl_fieldOk_eq (N : Nat) (f : DField) (b s : Int) (k : Bool → Option R) : impl_fieldOk N f b s k = k (FieldOkB (w64 (s - 1)) f && !decide (f.1 ≤ b)) := by
  simp only [impl_fieldOk, impl_NumberOk_eq, impl_isKind_eq, impl_Numeric_eq, impl_within_eq, kc k, FieldOkB]
  congr 1
  cases NumberOkB f.1 <;> cases KindB f.2.1 <;> cases f.2.2.2.1 <;> cases f.2.2.1 <;> cases NumericB f.2.1 <;> cases decide (f.1 ≤ b) <;> simp
theorem spec_l8FieldOk_eq (N : Nat) (s : List DShape) (f : DField) (k : Bool → Option R) : spec_l8FieldOk N s f k = k (FieldOkB (w64 ((s.length : Int) - 1)) f) := by
  simp only [spec_l8FieldOk, spec_NumberOk_eq, spec_l6Kind_eq, spec_Numeric_eq, spec_l1In_eq, kc k, FieldOkB]
  congr 1
  cases NumberOkB f.1 <;> cases KindB f.2.1 <;> cases f.2.2.2.1 <;> cases f.2.2.1 <;> cases NumericB f.2.1 <;> simp
def fieldsB (s : Int) : Int → List DField → Bool
  | _, [] => true
  | b, f :: t => (FieldOkB s f && !decide (f.1 ≤ b)) && fieldsB s f.1 t
theorem number_pos {n : Int} (h : NumberOkB n = true) : 1 ≤ n ∧ n ≤ 536870911 := by
  simp only [NumberOkB, Bool.and_eq_true, decide_eq_true_eq] at h; exact h.1
theorem fieldOk_pos {s : Int} {f : DField} (h : FieldOkB s f = true) : 1 ≤ f.1 := by
  simp only [FieldOkB, Bool.and_eq_true] at h; exact (number_pos h.1).1
theorem impl_SchemaOk_l0_eq (N : Nat) (v3 : List DShape) (v4 v5 : Int) (a : List DField) (b1 : List DShape) (b2 : Int) (b3 : List DField) (x0 : Bool → Option R) (x1 : List DShape → Int → Int → List DShape → Int → List DField → Option R) (ha : a.length ≤ 1048576) : ∀ (l : List DField) (j n : Nat) (num : Int), a.drop j = l → l.length < n →
    impl_SchemaOk_l0 N n num v3 v4 v5 a (a.length : Int) j b1 b2 b3 x0 x1 = cond (fieldsB (w64 ((b1.length : Int) - 1)) num l) (x1 v3 v4 v5 b1 b2 b3) (x0 false)
  | [], j, n + 1, num, hd, _ => by rw [impl_SchemaOk_l0, lt_no (drop_nil' hd), cond_false, fieldsB, cond_true]
  | f :: t, j, n + 1, num, hd, hn => by
    obtain ⟨h1, h2, h3, _⟩ := drop_cons' hd
    rw [impl_SchemaOk_l0, lt_ok h1, cond_true, idx_ok h1, cond_true, natOf, h2, impl_fieldOk_eq, w64_succ (by omega), fieldsB, impl_SchemaOk_l0_eq N v3 v4 v5 a b1 b2 b3 x0 x1 ha t (j + 1) n f.1 h3 (by simpa using hn)]
    cases (FieldOkB (w64 ((b1.length : Int) - 1)) f && !decide (f.1 ≤ num)) <;> rfl
theorem spec_SchemaOk_l0_eq (N : Nat) (i1 : Int) (b1 : List DShape) (b2 : Int) (a : List DField) (x0 : Bool → Option R) (x1 : Int → List DShape → Option R) (ha : a.length ≤ 1048576) : ∀ (l : List DField) (j n : Nat) (num : Int), a.drop j = l → l.length < n → (j = 0 → num = 0) → (0 < j → num = (a.getD (j - 1) YField.z).1) →
    spec_SchemaOk_l0 N n i1 j b1 b2 a x0 x1 = cond (fieldsB (w64 ((b1.length : Int) - 1)) num l) (x1 i1 b1) (x0 false)
  | [], j, n + 1, num, hd, _, _, _ => by rw [spec_SchemaOk_l0, lt_no (drop_nil' hd), cond_false, fieldsB, cond_true]
  | f :: t, j, n + 1, num, hd, hn, z0, z1 => by
    obtain ⟨h1, h2, h3, _⟩ := drop_cons' hd
    have ih := spec_SchemaOk_l0_eq N i1 b1 b2 a x0 x1 ha t (j + 1) n f.1 h3 (by simpa using hn) (by omega) (fun _ => by rw [show j + 1 - 1 = j from rfl, h2])
    rw [spec_SchemaOk_l0, lt_ok h1, cond_true, idx_ok h1, cond_true, natOf, h2, spec_l8FieldOk_eq, w64_succ (by omega), ih, fieldsB]
    cases hf : FieldOkB (w64 ((b1.length : Int) - 1)) f
    · rfl
    · rw [Bool.not_true, cond_false, Bool.true_and]
      cases j with
      | zero =>
        have hp := fieldOk_pos hf
        rw [z0 rfl, dF (by omega : ¬ (0 : Int) < ((0 : Nat) : Int)), cond_false, dF (by omega : ¬ f.1 ≤ 0)]; rfl
      | succ i =>
        have hw : w64 (((i + 1 : Nat) : Int) - 1) = (i : Int) := by rw [w64_id ⟨by omega, by omega⟩]; omega
        have hz := z1 (by omega)
        rw [show i + 1 - 1 = i from rfl] at hz
        rw [dT (by omega : (0 : Int) < ((i + 1 : Nat) : Int)), cond_true, hw, idx_ok (by omega), cond_true, cond_true, natOf, ← hz]
        cases decide (f.1 ≤ num) <;> rfl
def shapesB (s : Int) : Int → List DShape → Bool
  | _, [] => true
  | b, h :: t => ((!decide (h.1 ≤ b) && (!decide (99 < h.1) && !decide (8 < (h.2.length : Int)))) && fieldsB s 0 h.2) && shapesB s h.1 t
theorem impl_SchemaOk_l1_eq (N : Nat) (hN : BIG ≤ N) (a b : List DShape) (x0 : Bool → Option R) (x1 : Option R) (ha : a.length ≤ 1048576) (hs : ∀ x ∈ a, x.2.length ≤ 1048576) : ∀ (l : List DShape) (j n : Nat) (id : Int), a.drop j = l → l.length < n →
    impl_SchemaOk_l1 N n id a (a.length : Int) j b x0 x1 = cond (shapesB (w64 ((b.length : Int) - 1)) id l) x1 (x0 false)
  | [], j, n + 1, id, hd, _ => by rw [impl_SchemaOk_l1, lt_no (drop_nil' hd), cond_false, shapesB, cond_true]
  | h :: t, j, n + 1, id, hd, hn => by
    obtain ⟨h1, h2, h3, h4⟩ := drop_cons' hd
    have hl := hs h h4
    have ih := impl_SchemaOk_l1_eq N hN a b x0 x1 ha hs t (j + 1) n h.1 h3 (by simpa using hn)
    rw [impl_SchemaOk_l1, lt_ok h1, cond_true, idx_ok h1, cond_true, natOf, h2, shapesB]
    rw [show (0 : Int) = ((0 : Nat) : Int) from rfl, impl_SchemaOk_l0_eq N _ _ _ h.2 b _ _ _ _ hl h.2 0 N _ rfl (by have := big_gt hl; omega)]
    simp only [w64_succ (show j < 9223372036854775807 by omega), ih]
    cases decide (h.1 ≤ id) <;> cases decide (99 < h.1) <;> cases decide (8 < (h.2.length : Int)) <;> cases fieldsB (w64 ((b.length : Int) - 1)) ((0 : Nat) : Int) h.2 <;> rfl
theorem spec_SchemaOk_l1_eq (N : Nat) (hN : BIG ≤ N) (a : List DShape) (x0 : Bool → Option R) (x1 : Option R) (ha : a.length ≤ 1048576) (hs : ∀ x ∈ a, x.2.length ≤ 1048576) : ∀ (l : List DShape) (j n : Nat) (id : Int), a.drop j = l → l.length < n → (j = 0 → id = 0) → (0 < j → id = (a.getD (j - 1) YShape.z).1) → 0 ≤ id →
    spec_SchemaOk_l1 N n j a x0 x1 = cond (shapesB (w64 ((a.length : Int) - 1)) id l) x1 (x0 false)
  | [], j, n + 1, id, hd, _, _, _, _ => by rw [spec_SchemaOk_l1, lt_no (drop_nil' hd), cond_false, shapesB, cond_true]
  | h :: t, j, n + 1, id, hd, hn, z0, z1, zp => by
    obtain ⟨h1, h2, h3, h4⟩ := drop_cons' hd
    have hl := hs h h4
    rw [spec_SchemaOk_l1, lt_ok h1, cond_true, idx_ok h1, cond_true, natOf, h2, shapesB, spec_l1In_eq]
    rw [show (0 : Int) = ((0 : Nat) : Int) from rfl, spec_SchemaOk_l0_eq N _ a _ h.2 _ _ hl h.2 0 N 0 rfl (by have := big_gt hl; omega) (fun _ => rfl) (by omega)]
    simp only [w64_succ (show j < 9223372036854775807 by omega)]
    by_cases hp : 1 ≤ h.1
    · have ih := spec_SchemaOk_l1_eq N hN a x0 x1 ha hs t (j + 1) n h.1 h3 (by simpa using hn) (by omega) (fun _ => by rw [show j + 1 - 1 = j from rfl, h2]) (by omega)
      rw [ih]
      have hq : decide (h.1 ≤ 99) = !decide (99 < h.1) := by by_cases c : h.1 ≤ 99 <;> simp [c] <;> omega
      rw [dT hp, Bool.true_and, hq]
      cases j with
      | zero =>
        rw [z0 rfl, dF (by omega : ¬ ((0 : Nat) : Int) < ((0 : Nat) : Int)), cond_false, dF (by omega : ¬ h.1 ≤ 0)]
        cases decide (99 < h.1) <;> cases decide (8 < (h.2.length : Int)) <;> cases fieldsB (w64 ((a.length : Int) - 1)) 0 h.2 <;> rfl
      | succ i =>
        have hw : w64 (((i + 1 : Nat) : Int) - 1) = (i : Int) := by rw [w64_id ⟨by omega, by omega⟩]; omega
        have hz := z1 (by omega)
        rw [show i + 1 - 1 = i from rfl] at hz
        rw [dT (by omega : ((0 : Nat) : Int) < ((i + 1 : Nat) : Int)), cond_true, hw, idx_ok (by omega), cond_true, natOf, ← hz]
        cases decide (h.1 ≤ id) <;> cases decide (99 < h.1) <;> cases decide (8 < (h.2.length : Int)) <;> cases fieldsB (w64 ((a.length : Int) - 1)) 0 h.2 <;> rfl
    · rw [dF hp, Bool.false_and, Bool.not_false, cond_true, dT (by omega : h.1 ≤ id)]; rfl
def SchemaOkB (s : List DShape) : Bool := !decide (6 < (s.length : Int)) && shapesB (w64 ((s.length : Int) - 1)) 0 s
theorem impl_SchemaOk_eq (N : Nat) (hN : BIG ≤ N) (s : List DShape) (ha : s.length ≤ 1048576) (hs : ∀ x ∈ s, x.2.length ≤ 1048576) (k : Bool → Option R) : impl_SchemaOk N s k = k (SchemaOkB s) := by
  rw [impl_SchemaOk, SchemaOkB]
  have := impl_SchemaOk_l1_eq N hN s s (fun v => k v) (k true) ha hs s 0 N 0 rfl (by have := big_gt ha; omega)
  rw [show (((0 : Nat) : Int)) = 0 from rfl] at this
  rw [this]
  cases decide (6 < (s.length : Int)) <;> cases shapesB (w64 ((s.length : Int) - 1)) 0 s <;> rfl
theorem spec_SchemaOk_eq (N : Nat) (hN : BIG ≤ N) (s : List DShape) (ha : s.length ≤ 1048576) (hs : ∀ x ∈ s, x.2.length ≤ 1048576) (k : Bool → Option R) : spec_SchemaOk N s k = k (SchemaOkB s) := by
  rw [spec_SchemaOk, SchemaOkB]
  have := spec_SchemaOk_l1_eq N hN s (fun v => k v) (k true) ha hs s 0 N 0 rfl (by have := big_gt ha; omega) (fun _ => rfl) (by omega) (Int.le_refl _)
  rw [show (((0 : Nat) : Int)) = 0 from rfl] at this
  rw [this]
  cases decide (6 < (s.length : Int)) <;> cases shapesB (w64 ((s.length : Int) - 1)) 0 s <;> rfl
--# PlanOk
def PlanOkB (p : DPlan) : Bool := SchemaOkB p.1 && ((decide (0 ≤ p.2.1) && decide (p.2.1 ≤ w64 ((p.1.length : Int) - 1))) && ((decide (1 ≤ p.2.2.1) && decide (p.2.2.1 ≤ 8)) && (decide (0 ≤ p.2.2.2) && decide (p.2.2.2 ≤ 2000))))
theorem impl_PlanOk_eq (N : Nat) (hN : BIG ≤ N) (p : DPlan) (ha : p.1.length ≤ 1048576) (hs : ∀ x ∈ p.1, x.2.length ≤ 1048576) (k : Bool → Option R) : impl_PlanOk N p k = k (PlanOkB p) := by
  simp only [impl_PlanOk, impl_SchemaOk_eq N hN p.1 ha hs, impl_within_eq, kc k, Bool.cond_false_right]; rfl
theorem spec_PlanOk_eq (N : Nat) (hN : BIG ≤ N) (p : DPlan) (ha : p.1.length ≤ 1048576) (hs : ∀ x ∈ p.1, x.2.length ≤ 1048576) (k : Bool → Option R) : spec_PlanOk N p k = k (PlanOkB p) := by
  simp only [spec_PlanOk, spec_SchemaOk_eq N hN p.1 ha hs, spec_l1In_eq, kc k, Bool.cond_false_right]; rfl
--# FrameStop
def stopL : List DEvent → Int → Int
  | [], _ => -1
  | e :: t, i => bif decide (e.1 = 8) then i else stopL t (i + 1)
theorem impl_FrameStop_l0_eq (N : Nat) (a : List DEvent) (x0 : Int → Option R) (x1 : Option R) (ha : a.length ≤ 1048576) : ∀ (l : List DEvent) (j n : Nat), a.drop j = l → l.length < n →
    impl_FrameStop_l0 N n a j x0 x1 = cond (decide (stopL l j < 0)) x1 (x0 (stopL l j))
  | [], j, n + 1, hd, _ => by rw [impl_FrameStop_l0, lt_no (drop_nil' hd), cond_false, stopL]; rfl
  | e :: t, j, n + 1, hd, hn => by
    obtain ⟨h1, h2, h3, _⟩ := drop_cons' hd
    rw [impl_FrameStop_l0, lt_ok h1, cond_true, idx_ok h1, cond_true, natOf, h2, w64_succ (by omega), impl_FrameStop_l0_eq N a x0 x1 ha t (j + 1) n h3 (by simpa using hn), stopL]
    by_cases c : e.1 = 8
    · rw [dT c, cond_true, cond_true, dF (by omega : ¬ (j : Int) < 0), cond_false]
    · rw [dF c, cond_false, cond_false]; rfl
theorem impl_FrameStop_eq (N : Nat) (hN : BIG ≤ N) (a : List DEvent) (j : Nat) (ha : a.length ≤ 1048576) (k : Int → Option R) : impl_FrameStop N a j k = k (bif decide (stopL (a.drop j) j < 0) then -1 else stopL (a.drop j) j) := by
  rw [impl_FrameStop, dF (by omega : ¬ (j : Int) < 0), cond_false, impl_FrameStop_l0_eq N a _ _ ha (a.drop j) j N rfl (by have := big_gt ha; rw [List.length_drop]; omega), kc k]
theorem stopL_ge : ∀ (l : List DEvent) (i : Int), 0 ≤ i → stopL l i = -1 ∨ i ≤ stopL l i
  | [], _, _ => .inl rfl
  | e :: t, i, h => by
    rw [stopL]
    by_cases c : e.1 = 8
    · rw [dT c, cond_true]; exact .inr (Int.le_refl _)
    · rw [dF c, cond_false]
      rcases stopL_ge t (i + 1) (by omega) with h | h
      · exact .inl h
      · exact .inr (by omega)
--# Many
def manyL (kind : Int) : List DEvent → Int
  | [] => 0
  | e :: t => (bif decide (e.1 = kind) then 1 else 0) + manyL kind t
theorem manyL_bnd (kind : Int) : ∀ (l : List DEvent), 0 ≤ manyL kind l ∧ manyL kind l ≤ l.length
  | [] => ⟨Int.le_refl _, Int.le_refl _⟩
  | e :: t => by
    have ih := manyL_bnd kind t
    rw [manyL, List.length_cons]
    cases decide (e.1 = kind)
    · rw [cond_false]; omega
    · rw [cond_true]; omega
theorem spec_Many_l0_eq (N : Nat) (a : List DEvent) (kind : Int) (x0 : Int → Option R) (ha : a.length ≤ 1048576) : ∀ (l : List DEvent) (j n : Nat) (m : Int), a.drop j = l → l.length < n → 0 ≤ m → m ≤ j →
    spec_Many_l0 N n a kind m j x0 = x0 (m + manyL kind l)
  | [], j, n + 1, m, hd, _, _, _ => by rw [spec_Many_l0, lt_no (drop_nil' hd), cond_false, manyL]; rw [Int.add_zero]
  | e :: t, j, n + 1, m, hd, hn, m0, m1 => by
    obtain ⟨h1, h2, h3, _⟩ := drop_cons' hd
    rw [spec_Many_l0, lt_ok h1, cond_true, idx_ok h1, cond_true, natOf, h2, w64_succ (by omega), manyL, w64_id (n := m + 1) ⟨by omega, by omega⟩, spec_Many_l0_eq N a kind x0 ha t (j + 1) n (m + 1) h3 (by simpa using hn) (by omega) (by omega), spec_Many_l0_eq N a kind x0 ha t (j + 1) n m h3 (by simpa using hn) (by omega) (by omega)]
    cases decide (e.1 = kind)
    · rw [cond_false, cond_false, Int.zero_add]
    · rw [cond_true, cond_true, Int.add_assoc]
theorem spec_Many_eq (N : Nat) (hN : BIG ≤ N) (a : List DEvent) (kind : Int) (ha : a.length ≤ 1048576) (k : Int → Option R) : spec_Many N a kind k = k (manyL kind a) := by
  have := spec_Many_l0_eq N a kind (fun n => k n) ha a 0 N 0 rfl (by have := big_gt ha; omega) (Int.le_refl _) (Int.le_refl _)
  rw [Int.zero_add] at this
  exact this
--# EncOkB
theorem stop_many : ∀ (l : List DEvent) (i : Int), 0 ≤ i → decide (stopL l i < 0) = decide (manyL 8 l = 0)
  | [], i, h => rfl
  | e :: t, i, h => by
    rw [stopL, manyL]
    have hb := manyL_bnd 8 t
    by_cases c : e.1 = 8
    · rw [dT c, cond_true, cond_true, dF (by omega : ¬ i < 0), dF (by omega)]
    · rw [dF c, cond_false, cond_false, Int.zero_add]; exact stop_many t (i + 1) (by omega)
def EncOkB (e : DEncoder) : Bool :=
  PlanOkB e.1 && (SinkOkB e.2.1 && (decide ((e.2.2.1.length : Int) ≤ 400) && (decide (manyL 8 e.2.2.1 = 0) && ((decide ((e.2.2.1.length : Int) ≤ e.2.2.2.1) && decide (e.2.2.2.1 ≤ 1000000)) && ((decide (0 ≤ e.2.2.2.2.1) && decide (e.2.2.2.2.1 ≤ 8)) && (decide (0 ≤ e.2.2.2.2.2) && decide (e.2.2.2.2.2 ≤ e.2.2.2.1)))))))
theorem spec_EncOk_eq (N : Nat) (hN : BIG ≤ N) (e : DEncoder) (ha : e.1.1.length ≤ 1048576) (hs : ∀ x ∈ e.1.1, x.2.length ≤ 1048576) (hl : e.2.2.1.length ≤ 1048576) (k : Bool → Option R) : spec_EncOk N e k = k (EncOkB e) := by
  simp only [spec_EncOk, spec_PlanOk_eq N hN e.1 ha hs, spec_SinkOk_eq, spec_Many_eq N hN e.2.2.1 8 hl, spec_l1In_eq, kc k, Bool.cond_false_right]; rfl
theorem impl_EncOk_eq (N : Nat) (hN : BIG ≤ N) (e : DEncoder) (ha : e.1.1.length ≤ 1048576) (hs : ∀ x ∈ e.1.1, x.2.length ≤ 1048576) (hl : e.2.2.1.length ≤ 1048576) (k : Bool → Option R) : impl_EncOk N e k = k (EncOkB e) := by
  have hf : ∀ {R : Type} (k : Int → Option R), impl_FrameStop N e.2.2.1 0 k = k (bif decide (stopL e.2.2.1 0 < 0) then -1 else stopL e.2.2.1 0) := fun k => impl_FrameStop_eq N hN e.2.2.1 0 hl k
  have hd : decide ((bif decide (stopL e.2.2.1 0 < 0) then -1 else stopL e.2.2.1 0) < 0) = decide (manyL 8 e.2.2.1 = 0) := by
    rw [← stop_many e.2.2.1 0 (Int.le_refl _)]
    by_cases c : stopL e.2.2.1 0 < 0
    · rw [dT c, cond_true]; rfl
    · rw [dF c, cond_false, dF c]
  simp only [impl_EncOk, impl_PlanOk_eq N hN e.1 ha hs, impl_SinkOk_eq, hf, hd, impl_within_eq, kc k, Bool.cond_false_right]; rfl
--# law_EncOk
theorem pure_EncOk (x : DlEncoder) (h : Wf Try.prog YlEncoder x) : ∃ N, ∀ {R : Type} (k : Bool → Option R), laws_FnExactEncOk N x k = k true := by
  have hb := bnd_of (by kernel_rfl) h
  refine ⟨BIG, fun {R} k => ?_⟩
  obtain ⟨r, e, _, hf⟩ := laws_szEncoder_ok BIG (Nat.le_refl _) x 1048576 (by decide) (by decide) hb
  rw [laws_FnExactEncOk, e]
  by_cases hr : r < 0
  · rw [dT hr, cond_true]
  · have hf := len_of (hf (by omega))
    have h1 : x.1.1.length ≤ 1048576 := hf.1.1.1
    have h2 : ∀ y ∈ x.1.1, y.2.length ≤ 1048576 := fun y hy => (hf.1.1.2 y hy).2.1
    have h3 : x.2.2.1.length ≤ 1048576 := hf.2.2.1.1
    simp only [dF hr, cond_false, laws_toEncoder_eq BIG (Nat.le_refl _) x _ hf, spec_EncOk_eq BIG (Nat.le_refl _) x h1 h2 h3, impl_EncOk_eq BIG (Nat.le_refl _) x h1 h2 h3, laws_eqEncoder_refl BIG (Nat.le_refl _) x _ hf, BEq.rfl, Bool.not_true]

end Go.Proofs.YthpklbpdchckkaaT
