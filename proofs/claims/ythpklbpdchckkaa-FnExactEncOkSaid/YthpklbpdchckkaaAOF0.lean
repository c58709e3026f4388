/- The exact laws' own helpers: they hand on what they are given. -/
import Derived.Test.YthpklbpdchckkaaB
import Derived.Test.YthpklbpdchckkaaAOT0
namespace Go.Proofs.YthpklbpdchckkaaT
open Go.Proofs Go.Proofs.YthpklbpdchckkaaEv
set_option linter.unusedVariables false
set_option linter.unusedSimpArgs false
variable {R : Type}
theorem laws_szFieldS_ok (N : Nat) (hN : BIG ≤ N) (a : List DField) (left : Int) (h0 : 0 ≤ left) (h1 : left ≤ 1048576) (hb : Bnd (.sl 143 YField) a) :
    ∃ r, (∀ (R : Type) (k : Int → Option R), laws_szFieldS N a left k = k r) ∧ r ≤ left ∧ (0 ≤ r → Fit (.sl 143 YField) a) := by
  have hl : a.length ≤ 1125899906842624 := hb.1
  have e : w64 (left - (a.length : Int)) = left - (a.length : Int) := w64_id ⟨by omega, by omega⟩
  by_cases h : left - (a.length : Int) < 0
  · exact ⟨-1, fun R k => by simp only [laws_szFieldS, e, h, decide_true, cond_true], by omega, fun h => by omega⟩
  · exact ⟨left - (a.length : Int), fun R k => by simp only [laws_szFieldS, e, h, decide_false, cond_false], by omega, fun _ => ⟨by omega, fun x hx => ⟨(hb.2 x hx).1, ⟨(hb.2 x hx).2.1, ⟨trivial, ⟨trivial, (hb.2 x hx).2.2.2.2⟩⟩⟩⟩⟩⟩
theorem laws_szShape_ok (N : Nat) (hN : BIG ≤ N) (a : DlShape) (left : Int) (h0 : 0 ≤ left) (h1 : left ≤ 1048576) (hb : Bnd YlShape a) :
    ∃ r, (∀ (R : Type) (k : Int → Option R), laws_szShape N a left k = k r) ∧ r ≤ left ∧ (0 ≤ r → Fit YlShape a) := by
  obtain ⟨r1, e1, m1, f1⟩ := laws_szFieldS_ok N hN a.2 left (by omega) (by omega) hb.2
  by_cases g1 : r1 < 0
  · exact ⟨-1, fun R k => by simp only [laws_szShape, e1, g1, decide_true, decide_false, cond_true, cond_false], by omega, fun h => by omega⟩
  exact ⟨r1, fun R k => by simp only [laws_szShape, e1, g1, decide_true, decide_false, cond_true, cond_false], by omega, fun hr => ⟨hb.1, (f1 (by omega))⟩⟩
theorem laws_szShapeS_l0_ok (N : Nat) (hN : BIG ≤ N) (a : List DlShape) (ha : a.length ≤ 1125899906842624) (hb : ∀ x ∈ a, Bnd YlShape x) : ∀ (l : List DlShape) (j n : Nat) (left : Int), a.drop j = l → l.length < n → 0 ≤ left → left ≤ 1048576 →
    ∃ r, (∀ (R : Type) (x0 x1 : Int → Option R), (0 ≤ r → laws_szShapeS_l0 N n a left j x0 x1 = x1 r) ∧ (r < 0 → laws_szShapeS_l0 N n a left j x0 x1 = x0 r)) ∧ r ≤ left ∧ (0 ≤ r → ∀ x ∈ l, Fit YlShape x)
  | [], j, n + 1, left, h, _, h0, h1 => by
    have h2 := drop_nil' h
    exact ⟨left, fun R x0 x1 => ⟨fun _ => by rw [laws_szShapeS_l0, lt_no h2, cond_false], fun h => by omega⟩, Int.le_refl _, fun _ x hx => by cases hx⟩
  | y :: t, j, n + 1, left, h, hn, h0, h1 => by
    obtain ⟨h2, h3, h4, h5⟩ := drop_cons' h
    obtain ⟨r, e, k1, k2⟩ := laws_szShape_ok N hN y left h0 h1 (hb y h5)
    by_cases hr : r < 0
    · exact ⟨-1, fun R x0 x1 => ⟨fun h => by omega, fun _ => by rw [laws_szShapeS_l0, lt_ok h2, idx_ok h2, cond_true, cond_true, natOf, h3, e, decide_eq_true hr, cond_true]⟩, by omega, fun h => by omega⟩
    · obtain ⟨q, e2, k3, k4⟩ := laws_szShapeS_l0_ok N hN a ha hb t (j + 1) n r h4 (by simpa using hn) (by omega) (by omega)
      refine ⟨q, fun R x0 x1 => ?_, by omega, fun hq x hx => ?_⟩
      · have e3 : laws_szShapeS_l0 N (n + 1) a left j x0 x1 = laws_szShapeS_l0 N n a r ((j + 1 : Nat) : Int) x0 x1 := by
          rw [laws_szShapeS_l0, lt_ok h2, idx_ok h2, cond_true, cond_true, natOf, h3, e, decide_eq_false hr, cond_false, w64_succ (by omega)]
        rw [e3]; exact e2 R x0 x1
      · rcases List.mem_cons.1 hx with rfl | hx
        · exact k2 (by omega)
        · exact k4 hq x hx
theorem laws_szShapeS_ok (N : Nat) (hN : BIG ≤ N) (a : List DlShape) (left : Int) (h0 : 0 ≤ left) (h1 : left ≤ 1048576) (hb : Bnd (.sl 133 YlShape) a) :
    ∃ r, (∀ (R : Type) (k : Int → Option R), laws_szShapeS N a left k = k r) ∧ r ≤ left ∧ (0 ≤ r → Fit (.sl 133 YlShape) a) := by
  have hl : a.length ≤ 1125899906842624 := hb.1
  have e : w64 (left - (a.length : Int)) = left - (a.length : Int) := w64_id ⟨by omega, by omega⟩
  by_cases h : left - (a.length : Int) < 0
  · exact ⟨-1, fun R k => by simp only [laws_szShapeS, e, h, decide_true, cond_true], by omega, fun h => by omega⟩
  · obtain ⟨r, e2, k1, k2⟩ := laws_szShapeS_l0_ok N hN a hl hb.2 a 0 N (left - (a.length : Int)) (by simp) (by have : BIG = 4611686018427387904 := rfl; omega) (by omega) (by omega)
    refine ⟨r, fun R k => ?_, by omega, fun hr => ⟨by omega, k2 hr⟩⟩
    rw [laws_szShapeS, e, decide_eq_false h, cond_false, show (0 : Int) = ((0 : Nat) : Int) from rfl]
    by_cases hr : r < 0
    · exact (e2 R _ _).2 hr
    · exact (e2 R _ _).1 (by omega)
theorem laws_szSchema_ok (N : Nat) (hN : BIG ≤ N) (a : List DlShape) (left : Int) (h0 : 0 ≤ left) (h1 : left ≤ 1048576) (hb : Bnd (.sl 133 YlShape) a) :
    ∃ r, (∀ (R : Type) (k : Int → Option R), laws_szSchema N a left k = k r) ∧ r ≤ left ∧ (0 ≤ r → Fit (.sl 133 YlShape) a) := by
  obtain ⟨r1, e1, m1, f1⟩ := laws_szShapeS_ok N hN a left (by omega) (by omega) hb
  by_cases g1 : r1 < 0
  · exact ⟨-1, fun R k => by simp only [laws_szSchema, e1, g1, decide_true, decide_false, cond_true, cond_false], by omega, fun h => by omega⟩
  exact ⟨r1, fun R k => by simp only [laws_szSchema, e1, g1, decide_true, decide_false, cond_true, cond_false], by omega, fun hr => (f1 (by omega))⟩
theorem laws_szPlan_ok (N : Nat) (hN : BIG ≤ N) (a : DlPlan) (left : Int) (h0 : 0 ≤ left) (h1 : left ≤ 1048576) (hb : Bnd YlPlan a) :
    ∃ r, (∀ (R : Type) (k : Int → Option R), laws_szPlan N a left k = k r) ∧ r ≤ left ∧ (0 ≤ r → Fit YlPlan a) := by
  obtain ⟨r1, e1, m1, f1⟩ := laws_szSchema_ok N hN a.1 left (by omega) (by omega) hb.1
  by_cases g1 : r1 < 0
  · exact ⟨-1, fun R k => by simp only [laws_szPlan, e1, g1, decide_true, decide_false, cond_true, cond_false], by omega, fun h => by omega⟩
  exact ⟨r1, fun R k => by simp only [laws_szPlan, e1, g1, decide_true, decide_false, cond_true, cond_false], by omega, fun hr => ⟨(f1 (by omega)), ⟨hb.2.1, ⟨hb.2.2.1, hb.2.2.2⟩⟩⟩⟩
theorem laws_szIntS_ok (N : Nat) (hN : BIG ≤ N) (a : List Int) (left : Int) (h0 : 0 ≤ left) (h1 : left ≤ 1048576) (hb : Bnd (.sl 3 (.int .i64)) a) :
    ∃ r, (∀ (R : Type) (k : Int → Option R), laws_szIntS N a left k = k r) ∧ r ≤ left ∧ (0 ≤ r → Fit (.sl 3 (.int .i64)) a) := by
  have hl : a.length ≤ 1125899906842624 := hb.1
  have e : w64 (left - (a.length : Int)) = left - (a.length : Int) := w64_id ⟨by omega, by omega⟩
  by_cases h : left - (a.length : Int) < 0
  · exact ⟨-1, fun R k => by simp only [laws_szIntS, e, h, decide_true, cond_true], by omega, fun h => by omega⟩
  · exact ⟨left - (a.length : Int), fun R k => by simp only [laws_szIntS, e, h, decide_false, cond_false], by omega, fun _ => ⟨by omega, fun x hx => (hb.2 x hx)⟩⟩
theorem laws_szSink_ok (N : Nat) (hN : BIG ≤ N) (a : DSink) (left : Int) (h0 : 0 ≤ left) (h1 : left ≤ 1048576) (hb : Bnd YSink a) :
    ∃ r, (∀ (R : Type) (k : Int → Option R), laws_szSink N a left k = k r) ∧ r ≤ left ∧ (0 ≤ r → Fit YSink a) := by
  have e1 : w64 (left - (a.1.size : Int)) = left - (a.1.size : Int) := w64_id ⟨by have : a.1.size ≤ 1125899906842624 := hb.1; omega, by have : a.1.size ≤ 1125899906842624 := hb.1; omega⟩
  by_cases g1 : left - (a.1.size : Int) < 0
  · exact ⟨-1, fun R k => by simp only [laws_szSink, e1, g1, decide_true, decide_false, cond_true, cond_false], by omega, fun h => by omega⟩
  obtain ⟨r2, e2, m2, f2⟩ := laws_szIntS_ok N hN a.2.1 (left - (a.1.size : Int)) (by omega) (by omega) hb.2.1
  by_cases g2 : r2 < 0
  · exact ⟨-1, fun R k => by simp only [laws_szSink, e1, g1, e2, g2, decide_true, decide_false, cond_true, cond_false], by omega, fun h => by omega⟩
  exact ⟨r2, fun R k => by simp only [laws_szSink, e1, g1, e2, g2, decide_true, decide_false, cond_true, cond_false], by omega, fun hr => ⟨(by have : a.1.size ≤ 1048576 := (by omega); exact this), ⟨(f2 (by omega)), ⟨hb.2.2.1, hb.2.2.2⟩⟩⟩⟩
theorem laws_szEvent_ok (N : Nat) (hN : BIG ≤ N) (a : DEvent) (left : Int) (h0 : 0 ≤ left) (h1 : left ≤ 1048576) (hb : Bnd YEvent a) :
    ∃ r, (∀ (R : Type) (k : Int → Option R), laws_szEvent N a left k = k r) ∧ r ≤ left ∧ (0 ≤ r → Fit YEvent a) := by
  have e1 : w64 (left - (a.2.2.2.2.1.size : Int)) = left - (a.2.2.2.2.1.size : Int) := w64_id ⟨by have : a.2.2.2.2.1.size ≤ 1125899906842624 := hb.2.2.2.2.1; omega, by have : a.2.2.2.2.1.size ≤ 1125899906842624 := hb.2.2.2.2.1; omega⟩
  by_cases g1 : left - (a.2.2.2.2.1.size : Int) < 0
  · exact ⟨-1, fun R k => by simp only [laws_szEvent, e1, g1, decide_true, decide_false, cond_true, cond_false], by omega, fun h => by omega⟩
  exact ⟨(left - (a.2.2.2.2.1.size : Int)), fun R k => by simp only [laws_szEvent, e1, g1, decide_true, decide_false, cond_true, cond_false], by omega, fun hr => ⟨hb.1, ⟨hb.2.1, ⟨hb.2.2.1, ⟨hb.2.2.2.1, ⟨(by have : a.2.2.2.2.1.size ≤ 1048576 := (by omega); exact this), ⟨hb.2.2.2.2.2.1, hb.2.2.2.2.2.2⟩⟩⟩⟩⟩⟩⟩
theorem laws_szEventS_l0_ok (N : Nat) (hN : BIG ≤ N) (a : List DEvent) (ha : a.length ≤ 1125899906842624) (hb : ∀ x ∈ a, Bnd YEvent x) : ∀ (l : List DEvent) (j n : Nat) (left : Int), a.drop j = l → l.length < n → 0 ≤ left → left ≤ 1048576 →
    ∃ r, (∀ (R : Type) (x0 x1 : Int → Option R), (0 ≤ r → laws_szEventS_l0 N n a left j x0 x1 = x1 r) ∧ (r < 0 → laws_szEventS_l0 N n a left j x0 x1 = x0 r)) ∧ r ≤ left ∧ (0 ≤ r → ∀ x ∈ l, Fit YEvent x)
  | [], j, n + 1, left, h, _, h0, h1 => by
    have h2 := drop_nil' h
    exact ⟨left, fun R x0 x1 => ⟨fun _ => by rw [laws_szEventS_l0, lt_no h2, cond_false], fun h => by omega⟩, Int.le_refl _, fun _ x hx => by cases hx⟩
  | y :: t, j, n + 1, left, h, hn, h0, h1 => by
    obtain ⟨h2, h3, h4, h5⟩ := drop_cons' h
    obtain ⟨r, e, k1, k2⟩ := laws_szEvent_ok N hN y left h0 h1 (hb y h5)
    by_cases hr : r < 0
    · exact ⟨-1, fun R x0 x1 => ⟨fun h => by omega, fun _ => by rw [laws_szEventS_l0, lt_ok h2, idx_ok h2, cond_true, cond_true, natOf, h3, e, decide_eq_true hr, cond_true]⟩, by omega, fun h => by omega⟩
    · obtain ⟨q, e2, k3, k4⟩ := laws_szEventS_l0_ok N hN a ha hb t (j + 1) n r h4 (by simpa using hn) (by omega) (by omega)
      refine ⟨q, fun R x0 x1 => ?_, by omega, fun hq x hx => ?_⟩
      · have e3 : laws_szEventS_l0 N (n + 1) a left j x0 x1 = laws_szEventS_l0 N n a r ((j + 1 : Nat) : Int) x0 x1 := by
          rw [laws_szEventS_l0, lt_ok h2, idx_ok h2, cond_true, cond_true, natOf, h3, e, decide_eq_false hr, cond_false, w64_succ (by omega)]
        rw [e3]; exact e2 R x0 x1
      · rcases List.mem_cons.1 hx with rfl | hx
        · exact k2 (by omega)
        · exact k4 hq x hx
theorem laws_szEventS_ok (N : Nat) (hN : BIG ≤ N) (a : List DEvent) (left : Int) (h0 : 0 ≤ left) (h1 : left ≤ 1048576) (hb : Bnd (.sl 115 YEvent) a) :
    ∃ r, (∀ (R : Type) (k : Int → Option R), laws_szEventS N a left k = k r) ∧ r ≤ left ∧ (0 ≤ r → Fit (.sl 115 YEvent) a) := by
  have hl : a.length ≤ 1125899906842624 := hb.1
  have e : w64 (left - (a.length : Int)) = left - (a.length : Int) := w64_id ⟨by omega, by omega⟩
  by_cases h : left - (a.length : Int) < 0
  · exact ⟨-1, fun R k => by simp only [laws_szEventS, e, h, decide_true, cond_true], by omega, fun h => by omega⟩
  · obtain ⟨r, e2, k1, k2⟩ := laws_szEventS_l0_ok N hN a hl hb.2 a 0 N (left - (a.length : Int)) (by simp) (by have : BIG = 4611686018427387904 := rfl; omega) (by omega) (by omega)
    refine ⟨r, fun R k => ?_, by omega, fun hr => ⟨by omega, k2 hr⟩⟩
    rw [laws_szEventS, e, decide_eq_false h, cond_false, show (0 : Int) = ((0 : Nat) : Int) from rfl]
    by_cases hr : r < 0
    · exact (e2 R _ _).2 hr
    · exact (e2 R _ _).1 (by omega)
theorem laws_szEncoder_ok (N : Nat) (hN : BIG ≤ N) (a : DlEncoder) (left : Int) (h0 : 0 ≤ left) (h1 : left ≤ 1048576) (hb : Bnd YlEncoder a) :
    ∃ r, (∀ (R : Type) (k : Int → Option R), laws_szEncoder N a left k = k r) ∧ r ≤ left ∧ (0 ≤ r → Fit YlEncoder a) := by
  obtain ⟨r1, e1, m1, f1⟩ := laws_szPlan_ok N hN a.1 left (by omega) (by omega) hb.1
  by_cases g1 : r1 < 0
  · exact ⟨-1, fun R k => by simp only [laws_szEncoder, e1, g1, decide_true, decide_false, cond_true, cond_false], by omega, fun h => by omega⟩
  obtain ⟨r2, e2, m2, f2⟩ := laws_szSink_ok N hN a.2.1 r1 (by omega) (by omega) hb.2.1
  by_cases g2 : r2 < 0
  · exact ⟨-1, fun R k => by simp only [laws_szEncoder, e1, g1, e2, g2, decide_true, decide_false, cond_true, cond_false], by omega, fun h => by omega⟩
  obtain ⟨r3, e3, m3, f3⟩ := laws_szEventS_ok N hN a.2.2.1 r2 (by omega) (by omega) hb.2.2.1
  by_cases g3 : r3 < 0
  · exact ⟨-1, fun R k => by simp only [laws_szEncoder, e1, g1, e2, g2, e3, g3, decide_true, decide_false, cond_true, cond_false], by omega, fun h => by omega⟩
  exact ⟨r3, fun R k => by simp only [laws_szEncoder, e1, g1, e2, g2, e3, g3, decide_true, decide_false, cond_true, cond_false], by omega, fun hr => ⟨(f1 (by omega)), ⟨(f2 (by omega)), ⟨(f3 (by omega)), ⟨hb.2.2.2.1, ⟨hb.2.2.2.2.1, hb.2.2.2.2.2⟩⟩⟩⟩⟩⟩
theorem laws_toField_eq (N : Nat) (hN : BIG ≤ N) (a : DField) (k : DField → Option R) (h : Len YField a) : laws_toField N a k = k a := by
  rfl
theorem laws_toFieldS_l0_eq (N : Nat) (hN : BIG ≤ N) (a : List DField) (x : List DField → Option R) (ha : a.length ≤ 1048576) (hf : ∀ y ∈ a, Len YField y) : ∀ (l : List DField) (j n : Nat) (xs : List DField), a.drop j = l → l.length < n → xs.length = a.length →
    laws_toFieldS_l0 N n a j xs x = x (xs.take j ++ l)
  | [], j, n + 1, xs, h, _, hx => by
    have h1 := drop_nil' h
    rw [laws_toFieldS_l0, lt_no h1, cond_false, List.take_of_length_le (by omega), List.append_nil]
  | y :: t, j, n + 1, xs, h, hn, hx => by
    obtain ⟨h1, h2, h3, h4⟩ := drop_cons' h
    rw [laws_toFieldS_l0, lt_ok h1, idx_ok h1, cond_true, cond_true, natOf, h2, laws_toField_eq N hN _ _ (hf y h4), idx_ok (by omega : j < xs.length), cond_true, w64_succ (by omega), 
      laws_toFieldS_l0_eq N hN a x ha hf t (j + 1) n _ h3 (by simpa using hn) (by simpa using hx)]
    congr 1
    exact take_set_app (by omega)
theorem laws_toFieldS_eq (N : Nat) (hN : BIG ≤ N) (a : List DField) (k : List DField → Option R) (h : Len (.sl 143 YField) a) : laws_toFieldS N a k = k a := by
  have ha : a.length ≤ 1048576 := h.1
  rw [laws_toFieldS, mk_ok 32 ha (by decide), cond_true, show (0 : Int) = ((0 : Nat) : Int) from rfl, laws_toFieldS_l0_eq N hN a _ ha h.2 a 0 N _ (by simp) (by have : BIG = 4611686018427387904 := rfl; omega) (by simp)]
  simp
theorem laws_toShape_eq (N : Nat) (hN : BIG ≤ N) (a : DlShape) (k : DShape → Option R) (h : Len YlShape a) : laws_toShape N a k = k a := by
  rw [laws_toShape, laws_toFieldS_eq N hN _ _ h.2]
theorem laws_toShapeS_l0_eq (N : Nat) (hN : BIG ≤ N) (a : List DlShape) (x : List DShape → Option R) (ha : a.length ≤ 1048576) (hf : ∀ y ∈ a, Len YlShape y) : ∀ (l : List DlShape) (j n : Nat) (xs : List DShape), a.drop j = l → l.length < n → xs.length = a.length →
    laws_toShapeS_l0 N n a j xs x = x (xs.take j ++ l)
  | [], j, n + 1, xs, h, _, hx => by
    have h1 := drop_nil' h
    rw [laws_toShapeS_l0, lt_no h1, cond_false, List.take_of_length_le (by omega), List.append_nil]
  | y :: t, j, n + 1, xs, h, hn, hx => by
    obtain ⟨h1, h2, h3, h4⟩ := drop_cons' h
    rw [laws_toShapeS_l0, lt_ok h1, idx_ok h1, cond_true, cond_true, natOf, h2, laws_toShape_eq N hN _ _ (hf y h4), idx_ok (by omega : j < xs.length), cond_true, w64_succ (by omega), 
      laws_toShapeS_l0_eq N hN a x ha hf t (j + 1) n _ h3 (by simpa using hn) (by simpa using hx)]
    congr 1
    exact take_set_app (by omega)
theorem laws_toShapeS_eq (N : Nat) (hN : BIG ≤ N) (a : List DlShape) (k : List DShape → Option R) (h : Len (.sl 133 YlShape) a) : laws_toShapeS N a k = k a := by
  have ha : a.length ≤ 1048576 := h.1
  rw [laws_toShapeS, mk_ok 32 ha (by decide), cond_true, show (0 : Int) = ((0 : Nat) : Int) from rfl, laws_toShapeS_l0_eq N hN a _ ha h.2 a 0 N _ (by simp) (by have : BIG = 4611686018427387904 := rfl; omega) (by simp)]
  simp
theorem laws_toSchema_eq (N : Nat) (hN : BIG ≤ N) (a : List DlShape) (k : List DShape → Option R) (h : Len (.sl 133 YlShape) a) : laws_toSchema N a k = k a := by
  rw [laws_toSchema, laws_toShapeS_eq N hN _ _ h]
theorem laws_toPlan_eq (N : Nat) (hN : BIG ≤ N) (a : DlPlan) (k : DPlan → Option R) (h : Len YlPlan a) : laws_toPlan N a k = k a := by
  rw [laws_toPlan, laws_toSchema_eq N hN _ _ h.1]
theorem laws_toIntS_l0_eq (N : Nat) (hN : BIG ≤ N) (a : List Int) (x : List Int → Option R) (ha : a.length ≤ 1048576) (hf : ∀ y ∈ a, Len (.int .i64) y) : ∀ (l : List Int) (j n : Nat) (xs : List Int), a.drop j = l → l.length < n → xs.length = a.length →
    laws_toIntS_l0 N n a j xs x = x (xs.take j ++ l)
  | [], j, n + 1, xs, h, _, hx => by
    have h1 := drop_nil' h
    rw [laws_toIntS_l0, lt_no h1, cond_false, List.take_of_length_le (by omega), List.append_nil]
  | y :: t, j, n + 1, xs, h, hn, hx => by
    obtain ⟨h1, h2, h3, h4⟩ := drop_cons' h
    rw [laws_toIntS_l0, lt_ok h1, idx_ok h1, cond_true, cond_true, idx_ok (by omega : j < xs.length), cond_true, w64_succ (by omega), natOf, h2,
      laws_toIntS_l0_eq N hN a x ha hf t (j + 1) n _ h3 (by simpa using hn) (by simpa using hx)]
    congr 1
    exact take_set_app (by omega)
theorem laws_toIntS_eq (N : Nat) (hN : BIG ≤ N) (a : List Int) (k : List Int → Option R) (h : Len (.sl 3 (.int .i64)) a) : laws_toIntS N a k = k a := by
  have ha : a.length ≤ 1048576 := h.1
  rw [laws_toIntS, mk_ok 8 ha (by decide), cond_true, show (0 : Int) = ((0 : Nat) : Int) from rfl, laws_toIntS_l0_eq N hN a _ ha h.2 a 0 N _ (by simp) (by have : BIG = 4611686018427387904 := rfl; omega) (by simp)]
  simp
theorem laws_toSink_eq (N : Nat) (hN : BIG ≤ N) (a : DSink) (k : DSink → Option R) (h : Len YSink a) : laws_toSink N a k = k a := by
  rw [laws_toSink, laws_toIntS_eq N hN _ _ h.2.1]
theorem laws_toEvent_eq (N : Nat) (hN : BIG ≤ N) (a : DEvent) (k : DEvent → Option R) (h : Len YEvent a) : laws_toEvent N a k = k a := by
  rfl
theorem laws_toEventS_l0_eq (N : Nat) (hN : BIG ≤ N) (a : List DEvent) (x : List DEvent → Option R) (ha : a.length ≤ 1048576) (hf : ∀ y ∈ a, Len YEvent y) : ∀ (l : List DEvent) (j n : Nat) (xs : List DEvent), a.drop j = l → l.length < n → xs.length = a.length →
    laws_toEventS_l0 N n a j xs x = x (xs.take j ++ l)
  | [], j, n + 1, xs, h, _, hx => by
    have h1 := drop_nil' h
    rw [laws_toEventS_l0, lt_no h1, cond_false, List.take_of_length_le (by omega), List.append_nil]
  | y :: t, j, n + 1, xs, h, hn, hx => by
    obtain ⟨h1, h2, h3, h4⟩ := drop_cons' h
    rw [laws_toEventS_l0, lt_ok h1, idx_ok h1, cond_true, cond_true, natOf, h2, laws_toEvent_eq N hN _ _ (hf y h4), idx_ok (by omega : j < xs.length), cond_true, w64_succ (by omega), 
      laws_toEventS_l0_eq N hN a x ha hf t (j + 1) n _ h3 (by simpa using hn) (by simpa using hx)]
    congr 1
    exact take_set_app (by omega)
theorem laws_toEventS_eq (N : Nat) (hN : BIG ≤ N) (a : List DEvent) (k : List DEvent → Option R) (h : Len (.sl 115 YEvent) a) : laws_toEventS N a k = k a := by
  have ha : a.length ≤ 1048576 := h.1
  rw [laws_toEventS, mk_ok 64 ha (by decide), cond_true, show (0 : Int) = ((0 : Nat) : Int) from rfl, laws_toEventS_l0_eq N hN a _ ha h.2 a 0 N _ (by simp) (by have : BIG = 4611686018427387904 := rfl; omega) (by simp)]
  simp
theorem laws_toEncoder_eq (N : Nat) (hN : BIG ≤ N) (a : DlEncoder) (k : DEncoder → Option R) (h : Len YlEncoder a) : laws_toEncoder N a k = k a := by
  rw [laws_toEncoder, laws_toPlan_eq N hN _ _ h.1, laws_toSink_eq N hN _ _ h.2.1, laws_toEventS_eq N hN _ _ h.2.2.1]
theorem laws_eqField_refl (N : Nat) (hN : BIG ≤ N) (a : DField) (k : Bool → Option R) (h : Len YField a) : laws_eqField N a a k = k true := by
  simp only [laws_eqField, decide_true, BEq.rfl, Bool.not_true, cond_false]
theorem laws_eqFieldS_l0_refl (N : Nat) (hN : BIG ≤ N) (a : List DField) (x0 : Bool → Option R) (x1 : Option R) (ha : a.length ≤ 1048576) (hf : ∀ y ∈ a, Len YField y) : ∀ (l : List DField) (j n : Nat), a.drop j = l → l.length < n →
    laws_eqFieldS_l0 N n a a j x0 x1 = x1
  | [], j, n + 1, h, _ => by rw [laws_eqFieldS_l0, lt_no (drop_nil' h), cond_false]
  | y :: t, j, n + 1, h, hn => by
    obtain ⟨h1, h2, h3, h4⟩ := drop_cons' h
    rw [laws_eqFieldS_l0, lt_ok h1, idx_ok h1, cond_true, cond_true, cond_true, natOf, h2, laws_eqField_refl N hN _ _ (hf y h4), Bool.not_true, cond_false, w64_succ (by omega),
      laws_eqFieldS_l0_refl N hN a x0 x1 ha hf t (j + 1) n h3 (by simpa using hn)]
theorem laws_eqFieldS_refl (N : Nat) (hN : BIG ≤ N) (a : List DField) (k : Bool → Option R) (h : Len (.sl 128 YField) a) : laws_eqFieldS N a a k = k true := by
  have ha : a.length ≤ 1048576 := h.1
  rw [laws_eqFieldS, decide_eq_true rfl, Bool.not_true, cond_false, show (0 : Int) = ((0 : Nat) : Int) from rfl, laws_eqFieldS_l0_refl N hN a _ _ ha h.2 a 0 N (by simp) (by have : BIG = 4611686018427387904 := rfl; omega)]
theorem laws_eqShape_refl (N : Nat) (hN : BIG ≤ N) (a : DShape) (k : Bool → Option R) (h : Len YShape a) : laws_eqShape N a a k = k true := by
  simp only [laws_eqShape, laws_eqFieldS_refl N hN _ _ h.2, decide_true, BEq.rfl, Bool.not_true, cond_false]
theorem laws_eqShapeS_l0_refl (N : Nat) (hN : BIG ≤ N) (a : List DShape) (x0 : Bool → Option R) (x1 : Option R) (ha : a.length ≤ 1048576) (hf : ∀ y ∈ a, Len YShape y) : ∀ (l : List DShape) (j n : Nat), a.drop j = l → l.length < n →
    laws_eqShapeS_l0 N n a a j x0 x1 = x1
  | [], j, n + 1, h, _ => by rw [laws_eqShapeS_l0, lt_no (drop_nil' h), cond_false]
  | y :: t, j, n + 1, h, hn => by
    obtain ⟨h1, h2, h3, h4⟩ := drop_cons' h
    rw [laws_eqShapeS_l0, lt_ok h1, idx_ok h1, cond_true, cond_true, cond_true, natOf, h2, laws_eqShape_refl N hN _ _ (hf y h4), Bool.not_true, cond_false, w64_succ (by omega),
      laws_eqShapeS_l0_refl N hN a x0 x1 ha hf t (j + 1) n h3 (by simpa using hn)]
theorem laws_eqShapeS_refl (N : Nat) (hN : BIG ≤ N) (a : List DShape) (k : Bool → Option R) (h : Len (.sl 77 YShape) a) : laws_eqShapeS N a a k = k true := by
  have ha : a.length ≤ 1048576 := h.1
  rw [laws_eqShapeS, decide_eq_true rfl, Bool.not_true, cond_false, show (0 : Int) = ((0 : Nat) : Int) from rfl, laws_eqShapeS_l0_refl N hN a _ _ ha h.2 a 0 N (by simp) (by have : BIG = 4611686018427387904 := rfl; omega)]
theorem laws_eqSchema_refl (N : Nat) (hN : BIG ≤ N) (a : List DShape) (k : Bool → Option R) (h : Len (.sl 77 YShape) a) : laws_eqSchema N a a k = k true := by
  simp only [laws_eqSchema, laws_eqShapeS_refl N hN _ _ h, decide_true, BEq.rfl, Bool.not_true, cond_false]
theorem laws_eqPlan_refl (N : Nat) (hN : BIG ≤ N) (a : DPlan) (k : Bool → Option R) (h : Len YPlan a) : laws_eqPlan N a a k = k true := by
  simp only [laws_eqPlan, laws_eqSchema_refl N hN _ _ h.1, decide_true, BEq.rfl, Bool.not_true, cond_false]
theorem laws_eqIntS_l0_refl (N : Nat) (hN : BIG ≤ N) (a : List Int) (x0 : Bool → Option R) (x1 : Option R) (ha : a.length ≤ 1048576) (hf : ∀ y ∈ a, Len (.int .i64) y) : ∀ (l : List Int) (j n : Nat), a.drop j = l → l.length < n →
    laws_eqIntS_l0 N n a a j x0 x1 = x1
  | [], j, n + 1, h, _ => by rw [laws_eqIntS_l0, lt_no (drop_nil' h), cond_false]
  | y :: t, j, n + 1, h, hn => by
    obtain ⟨h1, h2, h3, h4⟩ := drop_cons' h
    rw [laws_eqIntS_l0, lt_ok h1, idx_ok h1, cond_true, cond_true, cond_true, natOf, h2, decide_eq_true rfl, Bool.not_true, cond_false, w64_succ (by omega),
      laws_eqIntS_l0_refl N hN a x0 x1 ha hf t (j + 1) n h3 (by simpa using hn)]
theorem laws_eqIntS_refl (N : Nat) (hN : BIG ≤ N) (a : List Int) (k : Bool → Option R) (h : Len (.sl 3 (.int .i64)) a) : laws_eqIntS N a a k = k true := by
  have ha : a.length ≤ 1048576 := h.1
  rw [laws_eqIntS, decide_eq_true rfl, Bool.not_true, cond_false, show (0 : Int) = ((0 : Nat) : Int) from rfl, laws_eqIntS_l0_refl N hN a _ _ ha h.2 a 0 N (by simp) (by have : BIG = 4611686018427387904 := rfl; omega)]
theorem laws_eqSink_refl (N : Nat) (hN : BIG ≤ N) (a : DSink) (k : Bool → Option R) (h : Len YSink a) : laws_eqSink N a a k = k true := by
  simp only [laws_eqSink, laws_eqIntS_refl N hN _ _ h.2.1, decide_true, BEq.rfl, Bool.not_true, cond_false]
theorem laws_eqEvent_refl (N : Nat) (hN : BIG ≤ N) (a : DEvent) (k : Bool → Option R) (h : Len YEvent a) : laws_eqEvent N a a k = k true := by
  simp only [laws_eqEvent, decide_true, BEq.rfl, Bool.not_true, cond_false]
theorem laws_eqEventS_l0_refl (N : Nat) (hN : BIG ≤ N) (a : List DEvent) (x0 : Bool → Option R) (x1 : Option R) (ha : a.length ≤ 1048576) (hf : ∀ y ∈ a, Len YEvent y) : ∀ (l : List DEvent) (j n : Nat), a.drop j = l → l.length < n →
    laws_eqEventS_l0 N n a a j x0 x1 = x1
  | [], j, n + 1, h, _ => by rw [laws_eqEventS_l0, lt_no (drop_nil' h), cond_false]
  | y :: t, j, n + 1, h, hn => by
    obtain ⟨h1, h2, h3, h4⟩ := drop_cons' h
    rw [laws_eqEventS_l0, lt_ok h1, idx_ok h1, cond_true, cond_true, cond_true, natOf, h2, laws_eqEvent_refl N hN _ _ (hf y h4), Bool.not_true, cond_false, w64_succ (by omega),
      laws_eqEventS_l0_refl N hN a x0 x1 ha hf t (j + 1) n h3 (by simpa using hn)]
theorem laws_eqEventS_refl (N : Nat) (hN : BIG ≤ N) (a : List DEvent) (k : Bool → Option R) (h : Len (.sl 117 YEvent) a) : laws_eqEventS N a a k = k true := by
  have ha : a.length ≤ 1048576 := h.1
  rw [laws_eqEventS, decide_eq_true rfl, Bool.not_true, cond_false, show (0 : Int) = ((0 : Nat) : Int) from rfl, laws_eqEventS_l0_refl N hN a _ _ ha h.2 a 0 N (by simp) (by have : BIG = 4611686018427387904 := rfl; omega)]
theorem laws_eqEncoder_refl (N : Nat) (hN : BIG ≤ N) (a : DEncoder) (k : Bool → Option R) (h : Len YEncoder a) : laws_eqEncoder N a a k = k true := by
  simp only [laws_eqEncoder, laws_eqPlan_refl N hN _ _ h.1, laws_eqSink_refl N hN _ _ h.2.1, laws_eqEventS_refl N hN _ _ h.2.2.1, decide_true, BEq.rfl, Bool.not_true, cond_false]
end Go.Proofs.YthpklbpdchckkaaT
