/- The exact laws' own helpers: they hand on what they are given. -/
import Derived.Test.YthpklbpdchckkaaB
import Derived.Test.YthpklbpdchckkaaAKT0
namespace Go.Proofs.YthpklbpdchckkaaT
open Go.Proofs Go.Proofs.YthpklbpdchckkaaEv
set_option linter.unusedVariables false
set_option linter.unusedSimpArgs false
variable {R : Type}
theorem laws_eqField_refl (N : Nat) (hN : BIG ≤ N) (a : DField) (k : Bool → Option R) (h : Len YField a) : laws_eqField N a a k = k true := by
  simp only [laws_eqField, decide_true, BEq.rfl, Bool.not_true, cond_false]
theorem laws_eqFieldS_l0_refl (N : Nat) (hN : BIG ≤ N) (a : List DField) (x0 : Bool → Option R) (x1 : Option R) (ha : a.length ≤ 1048576) (hf : ∀ y ∈ a, Len YField y) : ∀ (l : List DField) (j n : Nat), a.drop j = l → l.length < n →
    laws_eqFieldS_l0 N n a a j x0 x1 = x1
  | [], j, n + 1, h, _ => by rw [laws_eqFieldS_l0, lt_no (drop_nil' h), cond_false]
  | y :: t, j, n + 1, h, hn => by
    obtain ⟨h1, h2, h3, h4⟩ := drop_cons' h
    rw [laws_eqFieldS_l0, lt_ok h1, idx_ok h1, cond_true, cond_true, cond_true, natOf, h2, laws_eqField_refl N hN _ _ (hf y h4), Bool.not_true, cond_false, w64_succ (by omega),
      laws_eqFieldS_l0_refl N hN a x0 x1 ha hf t (j + 1) n h3 (by simpa using hn)]
theorem laws_eqFieldS_refl (N : Nat) (hN : BIG ≤ N) (a : List DField) (k : Bool → Option R) (h : Len (.sl 128 YField) a) : laws_eqFieldS N a a k = k true := by
  have ha : a.length ≤ 1048576 := h.1
  rw [laws_eqFieldS, decide_eq_true rfl, Bool.not_true, cond_false, show (0 : Int) = ((0 : Nat) : Int) from rfl, laws_eqFieldS_l0_refl N hN a _ _ ha h.2 a 0 N (by simp) (by have : BIG = 4611686018427387904 := rfl; omega)]
theorem laws_eqShape_refl (N : Nat) (hN : BIG ≤ N) (a : DShape) (k : Bool → Option R) (h : Len YShape a) : laws_eqShape N a a k = k true := by
  simp only [laws_eqShape, laws_eqFieldS_refl N hN _ _ h.2, decide_true, BEq.rfl, Bool.not_true, cond_false]
theorem laws_eqShapeS_l0_refl (N : Nat) (hN : BIG ≤ N) (a : List DShape) (x0 : Bool → Option R) (x1 : Option R) (ha : a.length ≤ 1048576) (hf : ∀ y ∈ a, Len YShape y) : ∀ (l : List DShape) (j n : Nat), a.drop j = l → l.length < n →
    laws_eqShapeS_l0 N n a a j x0 x1 = x1
  | [], j, n + 1, h, _ => by rw [laws_eqShapeS_l0, lt_no (drop_nil' h), cond_false]
  | y :: t, j, n + 1, h, hn => by
    obtain ⟨h1, h2, h3, h4⟩ := drop_cons' h
    rw [laws_eqShapeS_l0, lt_ok h1, idx_ok h1, cond_true, cond_true, cond_true, natOf, h2, laws_eqShape_refl N hN _ _ (hf y h4), Bool.not_true, cond_false, w64_succ (by omega),
      laws_eqShapeS_l0_refl N hN a x0 x1 ha hf t (j + 1) n h3 (by simpa using hn)]
theorem laws_eqShapeS_refl (N : Nat) (hN : BIG ≤ N) (a : List DShape) (k : Bool → Option R) (h : Len (.sl 77 YShape) a) : laws_eqShapeS N a a k = k true := by
  have ha : a.length ≤ 1048576 := h.1
  rw [laws_eqShapeS, decide_eq_true rfl, Bool.not_true, cond_false, show (0 : Int) = ((0 : Nat) : Int) from rfl, laws_eqShapeS_l0_refl N hN a _ _ ha h.2 a 0 N (by simp) (by have : BIG = 4611686018427387904 := rfl; omega)]
theorem laws_eqSchema_refl (N : Nat) (hN : BIG ≤ N) (a : List DShape) (k : Bool → Option R) (h : Len (.sl 77 YShape) a) : laws_eqSchema N a a k = k true := by
  simp only [laws_eqSchema, laws_eqShapeS_refl N hN _ _ h, decide_true, BEq.rfl, Bool.not_true, cond_false]
theorem laws_eqPlan_refl (N : Nat) (hN : BIG ≤ N) (a : DPlan) (k : Bool → Option R) (h : Len YPlan a) : laws_eqPlan N a a k = k true := by
  simp only [laws_eqPlan, laws_eqSchema_refl N hN _ _ h.1, decide_true, BEq.rfl, Bool.not_true, cond_false]
theorem laws_eqKit_refl (N : Nat) (hN : BIG ≤ N) (a : DPlan) (k : Bool → Option R) (h : Len YPlan a) : laws_eqKit N a a k = k true := by
  simp only [laws_eqKit, laws_eqPlan_refl N hN _ _ h, decide_true, BEq.rfl, Bool.not_true, cond_false]
theorem laws_szFieldS_ok (N : Nat) (hN : BIG ≤ N) (a : List DField) (left : Int) (h0 : 0 ≤ left) (h1 : left ≤ 1048576) (hb : Bnd (.sl 143 YField) a) :
    ∃ r, (∀ (R : Type) (k : Int → Option R), laws_szFieldS N a left k = k r) ∧ r ≤ left ∧ (0 ≤ r → Fit (.sl 143 YField) a) := by
  have hl : a.length ≤ 1125899906842624 := hb.1
  have e : w64 (left - (a.length : Int)) = left - (a.length : Int) := w64_id ⟨by omega, by omega⟩
  by_cases h : left - (a.length : Int) < 0
  · exact ⟨-1, fun R k => by simp only [laws_szFieldS, e, h, decide_true, cond_true], by omega, fun h => by omega⟩
  · exact ⟨left - (a.length : Int), fun R k => by simp only [laws_szFieldS, e, h, decide_false, cond_false], by omega, fun _ => ⟨by omega, fun x hx => ⟨(hb.2 x hx).1, ⟨(hb.2 x hx).2.1, ⟨trivial, ⟨trivial, (hb.2 x hx).2.2.2.2⟩⟩⟩⟩⟩⟩
theorem laws_szShape_ok (N : Nat) (hN : BIG ≤ N) (a : DlShape) (left : Int) (h0 : 0 ≤ left) (h1 : left ≤ 1048576) (hb : Bnd YlShape a) :
    ∃ r, (∀ (R : Type) (k : Int → Option R), laws_szShape N a left k = k r) ∧ r ≤ left ∧ (0 ≤ r → Fit YlShape a) := by
  obtain ⟨r1, e1, m1, f1⟩ := laws_szFieldS_ok N hN a.2 left (by omega) (by omega) hb.2
  by_cases g1 : r1 < 0
  · exact ⟨-1, fun R k => by simp only [laws_szShape, e1, g1, decide_true, decide_false, cond_true, cond_false], by omega, fun h => by omega⟩
  exact ⟨r1, fun R k => by simp only [laws_szShape, e1, g1, decide_true, decide_false, cond_true, cond_false], by omega, fun hr => ⟨hb.1, (f1 (by omega))⟩⟩
theorem laws_szShapeS_l0_ok (N : Nat) (hN : BIG ≤ N) (a : List DlShape) (ha : a.length ≤ 1125899906842624) (hb : ∀ x ∈ a, Bnd YlShape x) : ∀ (l : List DlShape) (j n : Nat) (left : Int), a.drop j = l → l.length < n → 0 ≤ left → left ≤ 1048576 →
    ∃ r, (∀ (R : Type) (x0 x1 : Int → Option R), (0 ≤ r → laws_szShapeS_l0 N n a left j x0 x1 = x1 r) ∧ (r < 0 → laws_szShapeS_l0 N n a left j x0 x1 = x0 r)) ∧ r ≤ left ∧ (0 ≤ r → ∀ x ∈ l, Fit YlShape x)
  | [], j, n + 1, left, h, _, h0, h1 => by
    have h2 := drop_nil' h
    exact ⟨left, fun R x0 x1 => ⟨fun _ => by rw [laws_szShapeS_l0, lt_no h2, cond_false], fun h => by omega⟩, Int.le_refl _, fun _ x hx => by cases hx⟩
  | y :: t, j, n + 1, left, h, hn, h0, h1 => by
    obtain ⟨h2, h3, h4, h5⟩ := drop_cons' h
    obtain ⟨r, e, k1, k2⟩ := laws_szShape_ok N hN y left h0 h1 (hb y h5)
    by_cases hr : r < 0
    · exact ⟨-1, fun R x0 x1 => ⟨fun h => by omega, fun _ => by rw [laws_szShapeS_l0, lt_ok h2, idx_ok h2, cond_true, cond_true, natOf, h3, e, decide_eq_true hr, cond_true]⟩, by omega, fun h => by omega⟩
    · obtain ⟨q, e2, k3, k4⟩ := laws_szShapeS_l0_ok N hN a ha hb t (j + 1) n r h4 (by simpa using hn) (by omega) (by omega)
      refine ⟨q, fun R x0 x1 => ?_, by omega, fun hq x hx => ?_⟩
      · have e3 : laws_szShapeS_l0 N (n + 1) a left j x0 x1 = laws_szShapeS_l0 N n a r ((j + 1 : Nat) : Int) x0 x1 := by
          rw [laws_szShapeS_l0, lt_ok h2, idx_ok h2, cond_true, cond_true, natOf, h3, e, decide_eq_false hr, cond_false, w64_succ (by omega)]
        rw [e3]; exact e2 R x0 x1
      · rcases List.mem_cons.1 hx with rfl | hx
        · exact k2 (by omega)
        · exact k4 hq x hx
theorem laws_szShapeS_ok (N : Nat) (hN : BIG ≤ N) (a : List DlShape) (left : Int) (h0 : 0 ≤ left) (h1 : left ≤ 1048576) (hb : Bnd (.sl 133 YlShape) a) :
    ∃ r, (∀ (R : Type) (k : Int → Option R), laws_szShapeS N a left k = k r) ∧ r ≤ left ∧ (0 ≤ r → Fit (.sl 133 YlShape) a) := by
  have hl : a.length ≤ 1125899906842624 := hb.1
  have e : w64 (left - (a.length : Int)) = left - (a.length : Int) := w64_id ⟨by omega, by omega⟩
  by_cases h : left - (a.length : Int) < 0
  · exact ⟨-1, fun R k => by simp only [laws_szShapeS, e, h, decide_true, cond_true], by omega, fun h => by omega⟩
  · obtain ⟨r, e2, k1, k2⟩ := laws_szShapeS_l0_ok N hN a hl hb.2 a 0 N (left - (a.length : Int)) (by simp) (by have : BIG = 4611686018427387904 := rfl; omega) (by omega) (by omega)
    refine ⟨r, fun R k => ?_, by omega, fun hr => ⟨by omega, k2 hr⟩⟩
    rw [laws_szShapeS, e, decide_eq_false h, cond_false, show (0 : Int) = ((0 : Nat) : Int) from rfl]
    by_cases hr : r < 0
    · exact (e2 R _ _).2 hr
    · exact (e2 R _ _).1 (by omega)
theorem laws_szSchema_ok (N : Nat) (hN : BIG ≤ N) (a : List DlShape) (left : Int) (h0 : 0 ≤ left) (h1 : left ≤ 1048576) (hb : Bnd (.sl 133 YlShape) a) :
    ∃ r, (∀ (R : Type) (k : Int → Option R), laws_szSchema N a left k = k r) ∧ r ≤ left ∧ (0 ≤ r → Fit (.sl 133 YlShape) a) := by
  obtain ⟨r1, e1, m1, f1⟩ := laws_szShapeS_ok N hN a left (by omega) (by omega) hb
  by_cases g1 : r1 < 0
  · exact ⟨-1, fun R k => by simp only [laws_szSchema, e1, g1, decide_true, decide_false, cond_true, cond_false], by omega, fun h => by omega⟩
  exact ⟨r1, fun R k => by simp only [laws_szSchema, e1, g1, decide_true, decide_false, cond_true, cond_false], by omega, fun hr => (f1 (by omega))⟩
theorem laws_szPlan_ok (N : Nat) (hN : BIG ≤ N) (a : DlPlan) (left : Int) (h0 : 0 ≤ left) (h1 : left ≤ 1048576) (hb : Bnd YlPlan a) :
    ∃ r, (∀ (R : Type) (k : Int → Option R), laws_szPlan N a left k = k r) ∧ r ≤ left ∧ (0 ≤ r → Fit YlPlan a) := by
  obtain ⟨r1, e1, m1, f1⟩ := laws_szSchema_ok N hN a.1 left (by omega) (by omega) hb.1
  by_cases g1 : r1 < 0
  · exact ⟨-1, fun R k => by simp only [laws_szPlan, e1, g1, decide_true, decide_false, cond_true, cond_false], by omega, fun h => by omega⟩
  exact ⟨r1, fun R k => by simp only [laws_szPlan, e1, g1, decide_true, decide_false, cond_true, cond_false], by omega, fun hr => ⟨(f1 (by omega)), ⟨hb.2.1, ⟨hb.2.2.1, hb.2.2.2⟩⟩⟩⟩
theorem laws_toField_eq (N : Nat) (hN : BIG ≤ N) (a : DField) (k : DField → Option R) (h : Len YField a) : laws_toField N a k = k a := by
  rfl
theorem laws_toFieldS_l0_eq (N : Nat) (hN : BIG ≤ N) (a : List DField) (x : List DField → Option R) (ha : a.length ≤ 1048576) (hf : ∀ y ∈ a, Len YField y) : ∀ (l : List DField) (j n : Nat) (xs : List DField), a.drop j = l → l.length < n → xs.length = a.length →
    laws_toFieldS_l0 N n a j xs x = x (xs.take j ++ l)
  | [], j, n + 1, xs, h, _, hx => by
    have h1 := drop_nil' h
    rw [laws_toFieldS_l0, lt_no h1, cond_false, List.take_of_length_le (by omega), List.append_nil]
  | y :: t, j, n + 1, xs, h, hn, hx => by
    obtain ⟨h1, h2, h3, h4⟩ := drop_cons' h
    rw [laws_toFieldS_l0, lt_ok h1, idx_ok h1, cond_true, cond_true, natOf, h2, laws_toField_eq N hN _ _ (hf y h4), idx_ok (by omega : j < xs.length), cond_true, w64_succ (by omega), 
      laws_toFieldS_l0_eq N hN a x ha hf t (j + 1) n _ h3 (by simpa using hn) (by simpa using hx)]
    congr 1
    exact take_set_app (by omega)
theorem laws_toFieldS_eq (N : Nat) (hN : BIG ≤ N) (a : List DField) (k : List DField → Option R) (h : Len (.sl 143 YField) a) : laws_toFieldS N a k = k a := by
  have ha : a.length ≤ 1048576 := h.1
  rw [laws_toFieldS, mk_ok 32 ha (by decide), cond_true, show (0 : Int) = ((0 : Nat) : Int) from rfl, laws_toFieldS_l0_eq N hN a _ ha h.2 a 0 N _ (by simp) (by have : BIG = 4611686018427387904 := rfl; omega) (by simp)]
  simp
theorem laws_toShape_eq (N : Nat) (hN : BIG ≤ N) (a : DlShape) (k : DShape → Option R) (h : Len YlShape a) : laws_toShape N a k = k a := by
  rw [laws_toShape, laws_toFieldS_eq N hN _ _ h.2]
theorem laws_toShapeS_l0_eq (N : Nat) (hN : BIG ≤ N) (a : List DlShape) (x : List DShape → Option R) (ha : a.length ≤ 1048576) (hf : ∀ y ∈ a, Len YlShape y) : ∀ (l : List DlShape) (j n : Nat) (xs : List DShape), a.drop j = l → l.length < n → xs.length = a.length →
    laws_toShapeS_l0 N n a j xs x = x (xs.take j ++ l)
  | [], j, n + 1, xs, h, _, hx => by
    have h1 := drop_nil' h
    rw [laws_toShapeS_l0, lt_no h1, cond_false, List.take_of_length_le (by omega), List.append_nil]
  | y :: t, j, n + 1, xs, h, hn, hx => by
    obtain ⟨h1, h2, h3, h4⟩ := drop_cons' h
    rw [laws_toShapeS_l0, lt_ok h1, idx_ok h1, cond_true, cond_true, natOf, h2, laws_toShape_eq N hN _ _ (hf y h4), idx_ok (by omega : j < xs.length), cond_true, w64_succ (by omega), 
      laws_toShapeS_l0_eq N hN a x ha hf t (j + 1) n _ h3 (by simpa using hn) (by simpa using hx)]
    congr 1
    exact take_set_app (by omega)
theorem laws_toShapeS_eq (N : Nat) (hN : BIG ≤ N) (a : List DlShape) (k : List DShape → Option R) (h : Len (.sl 133 YlShape) a) : laws_toShapeS N a k = k a := by
  have ha : a.length ≤ 1048576 := h.1
  rw [laws_toShapeS, mk_ok 32 ha (by decide), cond_true, show (0 : Int) = ((0 : Nat) : Int) from rfl, laws_toShapeS_l0_eq N hN a _ ha h.2 a 0 N _ (by simp) (by have : BIG = 4611686018427387904 := rfl; omega) (by simp)]
  simp
theorem laws_toSchema_eq (N : Nat) (hN : BIG ≤ N) (a : List DlShape) (k : List DShape → Option R) (h : Len (.sl 133 YlShape) a) : laws_toSchema N a k = k a := by
  rw [laws_toSchema, laws_toShapeS_eq N hN _ _ h]
theorem laws_toPlan_eq (N : Nat) (hN : BIG ≤ N) (a : DlPlan) (k : DPlan → Option R) (h : Len YlPlan a) : laws_toPlan N a k = k a := by
  rw [laws_toPlan, laws_toSchema_eq N hN _ _ h.1]
theorem laws_toIntS_l0_eq (N : Nat) (hN : BIG ≤ N) (a : List Int) (x : List Int → Option R) (ha : a.length ≤ 1048576) (hf : ∀ y ∈ a, Len (.int .i64) y) : ∀ (l : List Int) (j n : Nat) (xs : List Int), a.drop j = l → l.length < n → xs.length = a.length →
    laws_toIntS_l0 N n a j xs x = x (xs.take j ++ l)
  | [], j, n + 1, xs, h, _, hx => by
    have h1 := drop_nil' h
    rw [laws_toIntS_l0, lt_no h1, cond_false, List.take_of_length_le (by omega), List.append_nil]
  | y :: t, j, n + 1, xs, h, hn, hx => by
    obtain ⟨h1, h2, h3, h4⟩ := drop_cons' h
    rw [laws_toIntS_l0, lt_ok h1, idx_ok h1, cond_true, cond_true, idx_ok (by omega : j < xs.length), cond_true, w64_succ (by omega), natOf, h2,
      laws_toIntS_l0_eq N hN a x ha hf t (j + 1) n _ h3 (by simpa using hn) (by simpa using hx)]
    congr 1
    exact take_set_app (by omega)
theorem laws_toIntS_eq (N : Nat) (hN : BIG ≤ N) (a : List Int) (k : List Int → Option R) (h : Len (.sl 3 (.int .i64)) a) : laws_toIntS N a k = k a := by
  have ha : a.length ≤ 1048576 := h.1
  rw [laws_toIntS, mk_ok 8 ha (by decide), cond_true, show (0 : Int) = ((0 : Nat) : Int) from rfl, laws_toIntS_l0_eq N hN a _ ha h.2 a 0 N _ (by simp) (by have : BIG = 4611686018427387904 := rfl; omega) (by simp)]
  simp
theorem laws_eqIntS_l0_refl (N : Nat) (hN : BIG ≤ N) (a : List Int) (x0 : Bool → Option R) (x1 : Option R) (ha : a.length ≤ 1048576) (hf : ∀ y ∈ a, Len (.int .i64) y) : ∀ (l : List Int) (j n : Nat), a.drop j = l → l.length < n →
    laws_eqIntS_l0 N n a a j x0 x1 = x1
  | [], j, n + 1, h, _ => by rw [laws_eqIntS_l0, lt_no (drop_nil' h), cond_false]
  | y :: t, j, n + 1, h, hn => by
    obtain ⟨h1, h2, h3, h4⟩ := drop_cons' h
    rw [laws_eqIntS_l0, lt_ok h1, idx_ok h1, cond_true, cond_true, cond_true, natOf, h2, decide_eq_true rfl, Bool.not_true, cond_false, w64_succ (by omega),
      laws_eqIntS_l0_refl N hN a x0 x1 ha hf t (j + 1) n h3 (by simpa using hn)]
theorem laws_eqIntS_refl (N : Nat) (hN : BIG ≤ N) (a : List Int) (k : Bool → Option R) (h : Len (.sl 3 (.int .i64)) a) : laws_eqIntS N a a k = k true := by
  have ha : a.length ≤ 1048576 := h.1
  rw [laws_eqIntS, decide_eq_true rfl, Bool.not_true, cond_false, show (0 : Int) = ((0 : Nat) : Int) from rfl, laws_eqIntS_l0_refl N hN a _ _ ha h.2 a 0 N (by simp) (by have : BIG = 4611686018427387904 := rfl; omega)]
theorem laws_eqSink_refl (N : Nat) (hN : BIG ≤ N) (a : DSink) (k : Bool → Option R) (h : Len YSink a) : laws_eqSink N a a k = k true := by
  simp only [laws_eqSink, laws_eqIntS_refl N hN _ _ h.2.1, decide_true, BEq.rfl, Bool.not_true, cond_false]
theorem laws_eqEvent_refl (N : Nat) (hN : BIG ≤ N) (a : DEvent) (k : Bool → Option R) (h : Len YEvent a) : laws_eqEvent N a a k = k true := by
  simp only [laws_eqEvent, decide_true, BEq.rfl, Bool.not_true, cond_false]
theorem laws_eqEventS_l0_refl (N : Nat) (hN : BIG ≤ N) (a : List DEvent) (x0 : Bool → Option R) (x1 : Option R) (ha : a.length ≤ 1048576) (hf : ∀ y ∈ a, Len YEvent y) : ∀ (l : List DEvent) (j n : Nat), a.drop j = l → l.length < n →
    laws_eqEventS_l0 N n a a j x0 x1 = x1
  | [], j, n + 1, h, _ => by rw [laws_eqEventS_l0, lt_no (drop_nil' h), cond_false]
  | y :: t, j, n + 1, h, hn => by
    obtain ⟨h1, h2, h3, h4⟩ := drop_cons' h
    rw [laws_eqEventS_l0, lt_ok h1, idx_ok h1, cond_true, cond_true, cond_true, natOf, h2, laws_eqEvent_refl N hN _ _ (hf y h4), Bool.not_true, cond_false, w64_succ (by omega),
      laws_eqEventS_l0_refl N hN a x0 x1 ha hf t (j + 1) n h3 (by simpa using hn)]
theorem laws_eqEventS_refl (N : Nat) (hN : BIG ≤ N) (a : List DEvent) (k : Bool → Option R) (h : Len (.sl 117 YEvent) a) : laws_eqEventS N a a k = k true := by
  have ha : a.length ≤ 1048576 := h.1
  rw [laws_eqEventS, decide_eq_true rfl, Bool.not_true, cond_false, show (0 : Int) = ((0 : Nat) : Int) from rfl, laws_eqEventS_l0_refl N hN a _ _ ha h.2 a 0 N (by simp) (by have : BIG = 4611686018427387904 := rfl; omega)]
theorem laws_eqEncoder_refl (N : Nat) (hN : BIG ≤ N) (a : DEncoder) (k : Bool → Option R) (h : Len YEncoder a) : laws_eqEncoder N a a k = k true := by
  simp only [laws_eqEncoder, laws_eqPlan_refl N hN _ _ h.1, laws_eqSink_refl N hN _ _ h.2.1, laws_eqEventS_refl N hN _ _ h.2.2.1, decide_true, BEq.rfl, Bool.not_true, cond_false]
/-- the text of a mark -/
def txtL : Nat → Int → ByteArray → ByteArray
  | 0, _, o => o
  | f + 1, k, o => if 0 < k then txtL f (k.tdiv 10) (ofBytes [wu8 (w64 (48 + k.tmod 10))] ++ o) else o
def txtV (k : Int) : ByteArray := if k ≤ 0 then bs [109, 48] else bs [109] ++ txtL 64 k ByteArray.empty
theorem txtL_size : ∀ (f : Nat) (k : Int) (o : ByteArray), (txtL f k o).size ≤ o.size + f
  | 0, _, _ => by simp [txtL]
  | f + 1, k, o => by
    simp only [txtL]
    split
    · refine Nat.le_trans (txtL_size f _ _) ?_
      have hsz : (ofBytes [wu8 (w64 (48 + k.tmod 10))]).size = 1 := rfl
      rw [ByteArray.size_append, hsz]
      omega
    · omega
theorem laws_markText_l0_eq (N : Nat) (x : ByteArray → Option R) : ∀ (f n : Nat) (k : Int) (o : ByteArray), 0 ≤ k → k < 10 ^ f → k ≤ 9223372036854775807 → f < n → o.size + f ≤ 1000 → laws_markText_l0 N n k o x = x (txtL f k o)
  | 0, n + 1, k, o, h0, h1, _, _, hs => by
    have : ¬ 0 < k := by simp at h1; omega
    rw [laws_markText_l0, dF this, cond_false, txtL]
  | f + 1, n + 1, k, o, h0, h1, h2, hn, hs => by
    by_cases c : 0 < k
    · have hd : k.tdiv 10 = k / 10 := Int.tdiv_eq_ediv_of_nonneg h0
      have hw : w64 (k.tdiv 10) = k.tdiv 10 := w64_id ⟨by omega, by omega⟩
      have hsz : (ofBytes [wu8 (w64 (48 + k.tmod 10))]).size = 1 := rfl
      rw [laws_markText_l0, dT c, cond_true, dT (by rw [hsz]; omega), cond_true, hw, laws_markText_l0_eq N x f n _ _ (by omega) (by rw [Int.pow_succ] at h1; omega) (by omega) (by omega) (by rw [ByteArray.size_append, hsz]; omega), txtL, if_pos c]
    · rw [laws_markText_l0, dF c, cond_false, txtL, if_neg c]
theorem laws_markText_eq (N : Nat) (hN : BIG ≤ N) (k : Int) (h0 : 0 ≤ k) (h1 : k ≤ 4611686018427387904) (x : ByteArray → Option R) : laws_markText N k x = x (txtV k) := by
  by_cases c : k ≤ 0
  · rw [laws_markText, dT c, cond_true, txtV, if_pos c]
  · have := txtL_size 64 k ByteArray.empty
    have e0 : (ByteArray.empty).size = 0 := rfl
    have e1 : (bs [109]).size = 1 := rfl
    have hp : k < 10 ^ 64 := Int.lt_of_le_of_lt h1 (by decide)
    rw [laws_markText, dF c, cond_false, laws_markText_l0_eq N _ 64 N k _ h0 hp (by omega) (by have : BIG = 4611686018427387904 := rfl; omega) (by rw [e0]; omega), dT (by rw [e1]; omega), cond_true, txtV, if_neg c]
def mkEFieldS (k : Int) : DField := (k, k + 1, decide ((k + 2).tmod 3 = 0), decide ((k + 3).tmod 3 = 0), k + 4)
def mkSFieldS : Int → Nat → List DField
  | _, 0 => []
  | k, n + 1 => mkEFieldS k :: mkSFieldS (k + 5) n
theorem laws_markFieldS_l0_eq (N : Nat) (hN : BIG ≤ N) (x : Int → List DField → Option R) : ∀ (l : List DField) (j n : Nat) (k : Int) (xs : List DField), xs.drop j = l → xs.length ≤ 1048576 → l.length < n → 0 ≤ k → k + 5 * l.length ≤ 4611686018427387904 →
    laws_markFieldS_l0 N n k j xs x = x (k + 5 * l.length) (xs.take j ++ mkSFieldS k l.length)
  | [], j, n + 1, k, xs, h, hl, _, _, _ => by
    have h1 := drop_nil' h
    rw [laws_markFieldS_l0, lt_no h1, cond_false, List.take_of_length_le h1]
    simp [mkSFieldS]
  | y :: t, j, n + 1, k, xs, h, hl, hn, h0, hk => by
    obtain ⟨h1, h2, h3, h4⟩ := drop_cons' h
    simp only [List.length_cons] at hk hn
    have hw : (5 : Int) * ((t.length + 1 : Nat) : Int) = 5 * t.length + 5 := by omega
    have ih := laws_markFieldS_l0_eq N hN x t (j + 1) n (k + 5) (xs.set j (mkEFieldS k)) (by rw [List.drop_set_of_lt (by omega)]; exact h3) (by simpa using hl) (by omega) (by omega) (by omega)
    have e : laws_markFieldS_l0 N (n + 1) k j xs x = laws_markFieldS_l0 N n (k + 5) ((j + 1 : Nat) : Int) (xs.set j (mkEFieldS k)) x := by
      simp only [laws_markFieldS_l0, lt_ok h1, idx_ok h1, cond_true, natOf, List.length_set, getD_set_self h1, List.set_set, (w64_id ⟨by omega, by omega⟩ : w64 (k + 1) = k + 1), (by rw [w64_id ⟨by omega, by omega⟩]; omega : w64 (k + 1 + 1) = k + 2), (by rw [w64_id ⟨by omega, by omega⟩]; omega : w64 (k + 2 + 1) = k + 3), (by rw [w64_id ⟨by omega, by omega⟩]; omega : w64 (k + 3 + 1) = k + 4), (by rw [w64_id ⟨by omega, by omega⟩]; omega : w64 (k + 4 + 1) = k + 5), w64_succ (by omega : j < 9223372036854775807), mkEFieldS]
    rw [e, ih]
    congr 1
    · simp only [List.length_cons]; omega
    · rw [take_set_app h1]; rfl
theorem mkSFieldS_drop : ∀ (n j : Nat) (k : Int), (mkSFieldS k n).drop j = mkSFieldS (k + 5 * j) (n - j)
  | 0, j, k => by simp [mkSFieldS]
  | n + 1, 0, k => by simp
  | n + 1, j + 1, k => by
    simp only [mkSFieldS, List.drop_succ_cons]
    rw [mkSFieldS_drop n j]
    congr 1 <;> omega
theorem mkSFieldS_len : ∀ (n : Nat) (k : Int), (mkSFieldS k n).length = n
  | 0, _ => rfl
  | n + 1, k => by simp [mkSFieldS, mkSFieldS_len n]
theorem laws_heldFieldS_l0_eq (N : Nat) (hN : BIG ≤ N) (a : List DField) (x0 x1 : Int → Option R) (ha : a.length ≤ 1048576) : ∀ (m j n : Nat) (k : Int), a.drop j = mkSFieldS k m → m < n → 0 ≤ k → k + 5 * m ≤ 4611686018427387904 →
    laws_heldFieldS_l0 N n a k j x0 x1 = x1 (k + 5 * m)
  | 0, j, n + 1, k, h, _, _, _ => by
    rw [laws_heldFieldS_l0, lt_no (drop_nil' h), cond_false]; simp
  | m + 1, j, n + 1, k, h, hn, h0, hk => by
    obtain ⟨h1, h2, h3, h4⟩ := drop_cons' (show a.drop j = mkEFieldS k :: mkSFieldS (k + 5) m from h)
    have ih := laws_heldFieldS_l0_eq N hN a x0 x1 ha m (j + 1) n (k + 5) h3 (by omega) (by omega) (by omega)
    have e : laws_heldFieldS_l0 N (n + 1) a k j x0 x1 = laws_heldFieldS_l0 N n a (k + 5) ((j + 1 : Nat) : Int) x0 x1 := by
      simp only [laws_heldFieldS_l0, lt_ok h1, idx_ok h1, cond_true, natOf, h2, (w64_id ⟨by omega, by omega⟩ : w64 (k + 1) = k + 1), (by rw [w64_id ⟨by omega, by omega⟩]; omega : w64 (k + 1 + 1) = k + 2), (by rw [w64_id ⟨by omega, by omega⟩]; omega : w64 (k + 2 + 1) = k + 3), (by rw [w64_id ⟨by omega, by omega⟩]; omega : w64 (k + 3 + 1) = k + 4), (by rw [w64_id ⟨by omega, by omega⟩]; omega : w64 (k + 4 + 1) = k + 5), w64_succ (by omega : j < 9223372036854775807), mkEFieldS, decide_true, Bool.not_true, cond_false, beq_self_eq_true]
    rw [e, ih]
    congr 1
    omega
theorem laws_markFieldS_ok (N : Nat) (hN : BIG ≤ N) (a : List DField) (h : Len (.sl 128 YField) a) (k : Int) (h0 : 0 ≤ k) (h1 : k ≤ 2305843009213693952) :
    ∃ k1 o, k ≤ k1 ∧ k1 ≤ k + 5 * 1048576 ∧ (∀ (R : Type) (K : Int → List DField → Option R), laws_markFieldS N a k K = K k1 o) ∧ (∀ (R : Type) (K : Int → Option R), laws_heldFieldS N o k K = K k1) := by
  have ha : a.length ≤ 1048576 := h.1
  refine ⟨k + 5 * a.length, mkSFieldS k a.length, by omega, by omega, fun R K => ?_, fun R K => ?_⟩
  · rw [laws_markFieldS, show (0 : Int) = ((0 : Nat) : Int) from rfl, laws_markFieldS_l0_eq N hN _ a 0 N k a rfl ha (by have : BIG = 4611686018427387904 := rfl; omega) h0 (by omega)]
    simp
  · rw [laws_heldFieldS, show (0 : Int) = ((0 : Nat) : Int) from rfl, laws_heldFieldS_l0_eq N hN _ _ _ (by rw [mkSFieldS_len]; exact ha) a.length 0 N k rfl (by have : BIG = 4611686018427387904 := rfl; omega) h0 (by omega)]
theorem laws_markShapeS_l0_ok (N : Nat) (hN : BIG ≤ N) : ∀ (l : List DShape) (j n : Nat) (k : Int) (xs : List DShape), xs.drop j = l → xs.length ≤ 1048576 → l.length < n → (∀ y ∈ l, Len YShape y) → 0 ≤ k → k + 5242881 * l.length ≤ 2305843009213693952 →
    ∃ k1 os, k ≤ k1 ∧ k1 ≤ k + 5242881 * l.length ∧ os.length = l.length ∧ (∀ (R : Type) (x : Int → List DShape → Option R), laws_markShapeS_l0 N n k j xs x = x k1 (xs.take j ++ os)) ∧
      (∀ (R : Type) (a : List DShape) (q m : Nat) (x0 x1 : Int → Option R), a.drop q = os → a.length ≤ 1048576 → os.length < m → laws_heldShapeS_l0 N m a k q x0 x1 = x1 k1)
  | [], j, n + 1, k, xs, h, hl, _, _, _, _ => by
    have h1 := drop_nil' h
    refine ⟨k, [], Int.le_refl _, by simp, rfl, fun R x => ?_, fun R a q m x0 x1 hq ha hm => ?_⟩
    · rw [laws_markShapeS_l0, lt_no h1, cond_false, List.take_of_length_le h1, List.append_nil]
    · cases m with
      | zero => simp at hm
      | succ m => rw [laws_heldShapeS_l0, lt_no (drop_nil' hq), cond_false]
  | y :: t, j, n + 1, k, xs, h, hl, hn, hy, h0, hk => by
    obtain ⟨h1, h2, h3, h4⟩ := drop_cons' h
    simp only [List.length_cons] at hk hn
    have hw : (5242881 : Int) * ((t.length + 1 : Nat) : Int) = 5242881 * t.length + 5242881 := by omega
    have e1 : w64 (k + 1) = k + 1 := w64_id ⟨by omega, by omega⟩
    obtain ⟨k', o, a1, b1, m1, q1⟩ := laws_markFieldS_ok N hN y.2 (hy y (List.mem_cons_self ..)).2 (k + 1) (by omega) (by omega)
    obtain ⟨k1, os, a2, b2, c2, m2, q2⟩ := laws_markShapeS_l0_ok N hN t (j + 1) n k' (xs.set j (k, o)) (by rw [List.drop_set_of_lt (by omega)]; exact h3) (by simpa using hl) (by omega) (fun z hz => hy z (List.mem_cons_of_mem _ hz)) (by omega) (by omega)
    refine ⟨k1, (k, o) :: os, by omega, by simp only [List.length_cons]; omega, by simp [c2], fun R x => ?_, fun R a q m x0 x1 hq ha hm => ?_⟩
    · have e : laws_markShapeS_l0 N (n + 1) k j xs x = laws_markShapeS_l0 N n k' ((j + 1 : Nat) : Int) (xs.set j (k, o)) x := by
        simp only [laws_markShapeS_l0, lt_ok h1, idx_ok h1, cond_true, natOf, List.length_set, getD_set_self h1, List.set_set, e1, h2, m1, w64_succ (by omega : j < 9223372036854775807)]
      rw [e, m2, take_set_app h1]
    · cases m with
      | zero => simp at hm
      | succ m =>
        obtain ⟨g1, g2, g3, g4⟩ := drop_cons' hq
        rw [laws_heldShapeS_l0, lt_ok g1, cond_true, idx_ok g1, cond_true, natOf, g2]
        simp only [decide_true, Bool.not_true, cond_false, cond_true, e1, q1, dF (by omega : ¬ k' < 0), w64_succ (by omega : q < 9223372036854775807)]
        exact q2 R a (q + 1) m x0 x1 g3 ha (by simpa using hm)
theorem laws_markShapeS_ok (N : Nat) (hN : BIG ≤ N) (a : List DShape) (h : Len (.sl 77 YShape) a) (k : Int) (h0 : 0 ≤ k) (h1 : k ≤ 2305843009213693952 - 5497559187456) :
    ∃ k1 o, k ≤ k1 ∧ k1 ≤ k + 5497559187456 ∧ (∀ (R : Type) (K : Int → List DShape → Option R), laws_markShapeS N a k K = K k1 o) ∧ (∀ (R : Type) (K : Int → Option R), laws_heldShapeS N o k K = K k1) := by
  have ha : a.length ≤ 1048576 := h.1
  obtain ⟨k1, os, a2, b2, c2, m2, q2⟩ := laws_markShapeS_l0_ok N hN a 0 N k a rfl ha (by have : BIG = 4611686018427387904 := rfl; omega) h.2 h0 (by omega)
  refine ⟨k1, os, a2, by omega, fun R K => ?_, fun R K => ?_⟩
  · rw [laws_markShapeS, show (0 : Int) = ((0 : Nat) : Int) from rfl, m2]; rfl
  · rw [laws_heldShapeS, show (0 : Int) = ((0 : Nat) : Int) from rfl]
    exact q2 R os 0 N _ _ rfl (by omega) (by have : BIG = 4611686018427387904 := rfl; omega)
theorem laws_markSchema_ok (N : Nat) (hN : BIG ≤ N) (a : List DShape) (h : Len (.sl 77 YShape) a) (k : Int) (h0 : 0 ≤ k) (h1 : k ≤ 2305843009213693952 - 5497559187456) :
    ∃ k1 o0, k ≤ k1 ∧ k1 ≤ k + 5497559187456 ∧ (∀ (R : Type) (K : Int → List DShape → Option R), laws_markSchema N a k K = K k1 o0) ∧ (∀ (R : Type) (K : Int → Option R), laws_heldSchema N o0 k K = K k1) := by
  obtain ⟨k1, o1_0, a1, b1, m1, q1⟩ := laws_markShapeS_ok N hN a h k (by omega) (by omega)
  refine ⟨k1, o1_0, by omega, by omega, fun R K => ?_, fun R K => ?_⟩
  · simp only [laws_markSchema, m1]
  · simp only [laws_heldSchema, q1, dF (by omega : ¬ k1 < 0), cond_false]
theorem laws_markPlan_ok (N : Nat) (hN : BIG ≤ N) (a : DPlan) (h : Len YPlan a) (k : Int) (h0 : 0 ≤ k) (h1 : k ≤ 2305843009213693952 - 5497559187456) :
    ∃ k1 o0, k ≤ k1 ∧ k1 ≤ k + 5497559187456 ∧ (∀ (R : Type) (K : Int → DPlan → Option R), laws_markPlan N a k K = K k1 (o0, a.2)) ∧ (∀ (R : Type) (K : Int → Option R), laws_heldPlan N (o0, a.2) k K = K k1) := by
  obtain ⟨k1, o1_0, a1, b1, m1, q1⟩ := laws_markSchema_ok N hN a.1 h.1 k (by omega) (by omega)
  refine ⟨k1, o1_0, by omega, by omega, fun R K => ?_, fun R K => ?_⟩
  · simp only [laws_markPlan, m1]
  · simp only [laws_heldPlan, q1, dF (by omega : ¬ k1 < 0), cond_false]
theorem laws_markKit_ok (N : Nat) (hN : BIG ≤ N) (a : DPlan) (h : Len YPlan a) (k : Int) (h0 : 0 ≤ k) (h1 : k ≤ 2305843009213693952 - 5497559187456) :
    ∃ k1 o0, k ≤ k1 ∧ k1 ≤ k + 5497559187456 ∧ (∀ (R : Type) (K : Int → DPlan → Option R), laws_markKit N a k K = K k1 (o0, a.2)) ∧ (∀ (R : Type) (K : Int → Option R), laws_heldKit N (o0, a.2) k K = K k1) := by
  obtain ⟨k1, o1_0, a1, b1, m1, q1⟩ := laws_markPlan_ok N hN a h k (by omega) (by omega)
  refine ⟨k1, o1_0, by omega, by omega, fun R K => ?_, fun R K => ?_⟩
  · simp only [laws_markKit, m1]
  · simp only [laws_heldKit, q1, dF (by omega : ¬ k1 < 0), cond_false]
def mkEIntS (k : Int) : Int := k
def mkSIntS : Int → Nat → List Int
  | _, 0 => []
  | k, n + 1 => mkEIntS k :: mkSIntS (k + 1) n
theorem laws_markIntS_l0_eq (N : Nat) (hN : BIG ≤ N) (x : Int → List Int → Option R) : ∀ (l : List Int) (j n : Nat) (k : Int) (xs : List Int), xs.drop j = l → xs.length ≤ 1048576 → l.length < n → 0 ≤ k → k + 1 * l.length ≤ 4611686018427387904 →
    laws_markIntS_l0 N n k j xs x = x (k + 1 * l.length) (xs.take j ++ mkSIntS k l.length)
  | [], j, n + 1, k, xs, h, hl, _, _, _ => by
    have h1 := drop_nil' h
    rw [laws_markIntS_l0, lt_no h1, cond_false, List.take_of_length_le h1]
    simp [mkSIntS]
  | y :: t, j, n + 1, k, xs, h, hl, hn, h0, hk => by
    obtain ⟨h1, h2, h3, h4⟩ := drop_cons' h
    simp only [List.length_cons] at hk hn
    have hw : (1 : Int) * ((t.length + 1 : Nat) : Int) = 1 * t.length + 1 := by omega
    have ih := laws_markIntS_l0_eq N hN x t (j + 1) n (k + 1) (xs.set j (mkEIntS k)) (by rw [List.drop_set_of_lt (by omega)]; exact h3) (by simpa using hl) (by omega) (by omega) (by omega)
    have e : laws_markIntS_l0 N (n + 1) k j xs x = laws_markIntS_l0 N n (k + 1) ((j + 1 : Nat) : Int) (xs.set j (mkEIntS k)) x := by
      simp only [laws_markIntS_l0, lt_ok h1, idx_ok h1, cond_true, natOf, List.length_set, getD_set_self h1, List.set_set, (w64_id ⟨by omega, by omega⟩ : w64 (k + 1) = k + 1), w64_succ (by omega : j < 9223372036854775807), mkEIntS]
    rw [e, ih]
    congr 1
    · simp only [List.length_cons]; omega
    · rw [take_set_app h1]; rfl
theorem mkSIntS_drop : ∀ (n j : Nat) (k : Int), (mkSIntS k n).drop j = mkSIntS (k + 1 * j) (n - j)
  | 0, j, k => by simp [mkSIntS]
  | n + 1, 0, k => by simp
  | n + 1, j + 1, k => by
    simp only [mkSIntS, List.drop_succ_cons]
    rw [mkSIntS_drop n j]
    congr 1 <;> omega
theorem mkSIntS_len : ∀ (n : Nat) (k : Int), (mkSIntS k n).length = n
  | 0, _ => rfl
  | n + 1, k => by simp [mkSIntS, mkSIntS_len n]
theorem laws_heldIntS_l0_eq (N : Nat) (hN : BIG ≤ N) (a : List Int) (x0 x1 : Int → Option R) (ha : a.length ≤ 1048576) : ∀ (m j n : Nat) (k : Int), a.drop j = mkSIntS k m → m < n → 0 ≤ k → k + 1 * m ≤ 4611686018427387904 →
    laws_heldIntS_l0 N n a k j x0 x1 = x1 (k + 1 * m)
  | 0, j, n + 1, k, h, _, _, _ => by
    rw [laws_heldIntS_l0, lt_no (drop_nil' h), cond_false]; simp
  | m + 1, j, n + 1, k, h, hn, h0, hk => by
    obtain ⟨h1, h2, h3, h4⟩ := drop_cons' (show a.drop j = mkEIntS k :: mkSIntS (k + 1) m from h)
    have ih := laws_heldIntS_l0_eq N hN a x0 x1 ha m (j + 1) n (k + 1) h3 (by omega) (by omega) (by omega)
    have e : laws_heldIntS_l0 N (n + 1) a k j x0 x1 = laws_heldIntS_l0 N n a (k + 1) ((j + 1 : Nat) : Int) x0 x1 := by
      simp only [laws_heldIntS_l0, lt_ok h1, idx_ok h1, cond_true, natOf, h2, (w64_id ⟨by omega, by omega⟩ : w64 (k + 1) = k + 1), w64_succ (by omega : j < 9223372036854775807), mkEIntS, decide_true, Bool.not_true, cond_false, beq_self_eq_true]
    rw [e, ih]
    congr 1
    omega
theorem laws_markIntS_ok (N : Nat) (hN : BIG ≤ N) (a : List Int) (h : Len (.sl 3 (.int .i64)) a) (k : Int) (h0 : 0 ≤ k) (h1 : k ≤ 2305843009213693952) :
    ∃ k1 o, k ≤ k1 ∧ k1 ≤ k + 1 * 1048576 ∧ (∀ (R : Type) (K : Int → List Int → Option R), laws_markIntS N a k K = K k1 o) ∧ (∀ (R : Type) (K : Int → Option R), laws_heldIntS N o k K = K k1) := by
  have ha : a.length ≤ 1048576 := h.1
  refine ⟨k + 1 * a.length, mkSIntS k a.length, by omega, by omega, fun R K => ?_, fun R K => ?_⟩
  · rw [laws_markIntS, show (0 : Int) = ((0 : Nat) : Int) from rfl, laws_markIntS_l0_eq N hN _ a 0 N k a rfl ha (by have : BIG = 4611686018427387904 := rfl; omega) h0 (by omega)]
    simp
  · rw [laws_heldIntS, show (0 : Int) = ((0 : Nat) : Int) from rfl, laws_heldIntS_l0_eq N hN _ _ _ (by rw [mkSIntS_len]; exact ha) a.length 0 N k rfl (by have : BIG = 4611686018427387904 := rfl; omega) h0 (by omega)]
theorem laws_markSink_ok (N : Nat) (hN : BIG ≤ N) (a : DSink) (h : Len YSink a) (k : Int) (h0 : 0 ≤ k) (h1 : k ≤ 2305843009213693952 - 1048576) :
    ∃ k1 o0, k ≤ k1 ∧ k1 ≤ k + 1048576 ∧ (∀ (R : Type) (K : Int → DSink → Option R), laws_markSink N a k K = K k1 (a.1, o0, a.2.2)) ∧ (∀ (R : Type) (K : Int → Option R), laws_heldSink N (a.1, o0, a.2.2) k K = K k1) := by
  obtain ⟨k1, o1_0, a1, b1, m1, q1⟩ := laws_markIntS_ok N hN a.2.1 h.2.1 k (by omega) (by omega)
  refine ⟨k1, o1_0, by omega, by omega, fun R K => ?_, fun R K => ?_⟩
  · simp only [laws_markSink, m1]
  · simp only [laws_heldSink, q1, dF (by omega : ¬ k1 < 0), cond_false]
def mkEEventS (k : Int) : DEvent := (k, k + 1, k + 2, k + 3, txtV (k + 4), k + 5, k + 6)
def mkSEventS : Int → Nat → List DEvent
  | _, 0 => []
  | k, n + 1 => mkEEventS k :: mkSEventS (k + 7) n
theorem laws_markEventS_l0_eq (N : Nat) (hN : BIG ≤ N) (x : Int → List DEvent → Option R) : ∀ (l : List DEvent) (j n : Nat) (k : Int) (xs : List DEvent), xs.drop j = l → xs.length ≤ 1048576 → l.length < n → 0 ≤ k → k + 7 * l.length ≤ 4611686018427387904 →
    laws_markEventS_l0 N n k j xs x = x (k + 7 * l.length) (xs.take j ++ mkSEventS k l.length)
  | [], j, n + 1, k, xs, h, hl, _, _, _ => by
    have h1 := drop_nil' h
    rw [laws_markEventS_l0, lt_no h1, cond_false, List.take_of_length_le h1]
    simp [mkSEventS]
  | y :: t, j, n + 1, k, xs, h, hl, hn, h0, hk => by
    obtain ⟨h1, h2, h3, h4⟩ := drop_cons' h
    simp only [List.length_cons] at hk hn
    have hw : (7 : Int) * ((t.length + 1 : Nat) : Int) = 7 * t.length + 7 := by omega
    have ih := laws_markEventS_l0_eq N hN x t (j + 1) n (k + 7) (xs.set j (mkEEventS k)) (by rw [List.drop_set_of_lt (by omega)]; exact h3) (by simpa using hl) (by omega) (by omega) (by omega)
    have e : laws_markEventS_l0 N (n + 1) k j xs x = laws_markEventS_l0 N n (k + 7) ((j + 1 : Nat) : Int) (xs.set j (mkEEventS k)) x := by
      simp only [laws_markEventS_l0, lt_ok h1, idx_ok h1, cond_true, natOf, List.length_set, getD_set_self h1, List.set_set, (w64_id ⟨by omega, by omega⟩ : w64 (k + 1) = k + 1), (by rw [w64_id ⟨by omega, by omega⟩]; omega : w64 (k + 1 + 1) = k + 2), (by rw [w64_id ⟨by omega, by omega⟩]; omega : w64 (k + 2 + 1) = k + 3), (by rw [w64_id ⟨by omega, by omega⟩]; omega : w64 (k + 3 + 1) = k + 4), (by rw [w64_id ⟨by omega, by omega⟩]; omega : w64 (k + 4 + 1) = k + 5), (by rw [w64_id ⟨by omega, by omega⟩]; omega : w64 (k + 5 + 1) = k + 6), (by rw [w64_id ⟨by omega, by omega⟩]; omega : w64 (k + 6 + 1) = k + 7), (wu64_id (by omega) (by omega) : wu64 (k + 2) = k + 2), laws_markText_eq N hN (k + 4) (by omega) (by omega), w64_succ (by omega : j < 9223372036854775807), mkEEventS]
    rw [e, ih]
    congr 1
    · simp only [List.length_cons]; omega
    · rw [take_set_app h1]; rfl
theorem mkSEventS_drop : ∀ (n j : Nat) (k : Int), (mkSEventS k n).drop j = mkSEventS (k + 7 * j) (n - j)
  | 0, j, k => by simp [mkSEventS]
  | n + 1, 0, k => by simp
  | n + 1, j + 1, k => by
    simp only [mkSEventS, List.drop_succ_cons]
    rw [mkSEventS_drop n j]
    congr 1 <;> omega
theorem mkSEventS_len : ∀ (n : Nat) (k : Int), (mkSEventS k n).length = n
  | 0, _ => rfl
  | n + 1, k => by simp [mkSEventS, mkSEventS_len n]
theorem laws_heldEventS_l0_eq (N : Nat) (hN : BIG ≤ N) (a : List DEvent) (x0 x1 : Int → Option R) (ha : a.length ≤ 1048576) : ∀ (m j n : Nat) (k : Int), a.drop j = mkSEventS k m → m < n → 0 ≤ k → k + 7 * m ≤ 4611686018427387904 →
    laws_heldEventS_l0 N n a k j x0 x1 = x1 (k + 7 * m)
  | 0, j, n + 1, k, h, _, _, _ => by
    rw [laws_heldEventS_l0, lt_no (drop_nil' h), cond_false]; simp
  | m + 1, j, n + 1, k, h, hn, h0, hk => by
    obtain ⟨h1, h2, h3, h4⟩ := drop_cons' (show a.drop j = mkEEventS k :: mkSEventS (k + 7) m from h)
    have ih := laws_heldEventS_l0_eq N hN a x0 x1 ha m (j + 1) n (k + 7) h3 (by omega) (by omega) (by omega)
    have e : laws_heldEventS_l0 N (n + 1) a k j x0 x1 = laws_heldEventS_l0 N n a (k + 7) ((j + 1 : Nat) : Int) x0 x1 := by
      simp only [laws_heldEventS_l0, lt_ok h1, idx_ok h1, cond_true, natOf, h2, (w64_id ⟨by omega, by omega⟩ : w64 (k + 1) = k + 1), (by rw [w64_id ⟨by omega, by omega⟩]; omega : w64 (k + 1 + 1) = k + 2), (by rw [w64_id ⟨by omega, by omega⟩]; omega : w64 (k + 2 + 1) = k + 3), (by rw [w64_id ⟨by omega, by omega⟩]; omega : w64 (k + 3 + 1) = k + 4), (by rw [w64_id ⟨by omega, by omega⟩]; omega : w64 (k + 4 + 1) = k + 5), (by rw [w64_id ⟨by omega, by omega⟩]; omega : w64 (k + 5 + 1) = k + 6), (by rw [w64_id ⟨by omega, by omega⟩]; omega : w64 (k + 6 + 1) = k + 7), (wu64_id (by omega) (by omega) : wu64 (k + 2) = k + 2), laws_markText_eq N hN (k + 4) (by omega) (by omega), w64_succ (by omega : j < 9223372036854775807), mkEEventS, decide_true, Bool.not_true, cond_false, beq_self_eq_true]
    rw [e, ih]
    congr 1
    omega
theorem laws_markEventS_ok (N : Nat) (hN : BIG ≤ N) (a : List DEvent) (h : Len (.sl 117 YEvent) a) (k : Int) (h0 : 0 ≤ k) (h1 : k ≤ 2305843009213693952) :
    ∃ k1 o, k ≤ k1 ∧ k1 ≤ k + 7 * 1048576 ∧ (∀ (R : Type) (K : Int → List DEvent → Option R), laws_markEventS N a k K = K k1 o) ∧ (∀ (R : Type) (K : Int → Option R), laws_heldEventS N o k K = K k1) := by
  have ha : a.length ≤ 1048576 := h.1
  refine ⟨k + 7 * a.length, mkSEventS k a.length, by omega, by omega, fun R K => ?_, fun R K => ?_⟩
  · rw [laws_markEventS, show (0 : Int) = ((0 : Nat) : Int) from rfl, laws_markEventS_l0_eq N hN _ a 0 N k a rfl ha (by have : BIG = 4611686018427387904 := rfl; omega) h0 (by omega)]
    simp
  · rw [laws_heldEventS, show (0 : Int) = ((0 : Nat) : Int) from rfl, laws_heldEventS_l0_eq N hN _ _ _ (by rw [mkSEventS_len]; exact ha) a.length 0 N k rfl (by have : BIG = 4611686018427387904 := rfl; omega) h0 (by omega)]
theorem laws_markEncoder_ok (N : Nat) (hN : BIG ≤ N) (a : DEncoder) (h : Len YEncoder a) (k : Int) (h0 : 0 ≤ k) (h1 : k ≤ 2305843009213693952 - 5497567576064) :
    ∃ k1 o0 o1 o2, k ≤ k1 ∧ k1 ≤ k + 5497567576064 ∧ (∀ (R : Type) (K : Int → DEncoder → Option R), laws_markEncoder N a k K = K k1 ((o0, a.1.2), (a.2.1.1, o1, a.2.1.2.2), o2, a.2.2.2)) ∧ (∀ (R : Type) (K : Int → Option R), laws_heldEncoder N ((o0, a.1.2), (a.2.1.1, o1, a.2.1.2.2), o2, a.2.2.2) k K = K k1) := by
  obtain ⟨k1, o1_0, a1, b1, m1, q1⟩ := laws_markPlan_ok N hN a.1 h.1 k (by omega) (by omega)
  obtain ⟨k2, o2_0, a2, b2, m2, q2⟩ := laws_markSink_ok N hN a.2.1 h.2.1 k1 (by omega) (by omega)
  obtain ⟨k3, o3_0, a3, b3, m3, q3⟩ := laws_markEventS_ok N hN a.2.2.1 h.2.2.1 k2 (by omega) (by omega)
  refine ⟨k3, o1_0, o2_0, o3_0, by omega, by omega, fun R K => ?_, fun R K => ?_⟩
  · simp only [laws_markEncoder, m1, m2, m3]
  · simp only [laws_heldEncoder, q1, q2, q3, dF (by omega : ¬ k1 < 0), dF (by omega : ¬ k2 < 0), dF (by omega : ¬ k3 < 0), cond_false]
end Go.Proofs.YthpklbpdchckkaaT
