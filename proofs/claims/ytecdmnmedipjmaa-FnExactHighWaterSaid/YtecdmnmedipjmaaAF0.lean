/- The exact laws' own helpers: they hand on what they are given. -/
import Derived.Test.YtecdmnmedipjmaaB
import Derived.Test.YtecdmnmedipjmaaAT0
namespace Go.Proofs.YtecdmnmedipjmaaT
open Go.Proofs Go.Proofs.YtecdmnmedipjmaaEv
set_option linter.unusedVariables false
set_option linter.unusedSimpArgs false
variable {R : Type}
theorem laws_szIntS_ok (N : Nat) (hN : BIG ≤ N) (a : List Int) (left : Int) (h0 : 0 ≤ left) (h1 : left ≤ 1048576) (hb : Bnd (.sl 3 (.int .i64)) a) :
    ∃ r, (∀ (R : Type) (k : Int → Option R), laws_szIntS N a left k = k r) ∧ r ≤ left ∧ (0 ≤ r → Fit (.sl 3 (.int .i64)) a) := by
  have hl : a.length ≤ 1125899906842624 := hb.1
  have e : w64 (left - (a.length : Int)) = left - (a.length : Int) := w64_id ⟨by omega, by omega⟩
  by_cases h : left - (a.length : Int) < 0
  · exact ⟨-1, fun R k => by simp only [laws_szIntS, e, h, decide_true, cond_true], by omega, fun h => by omega⟩
  · exact ⟨left - (a.length : Int), fun R k => by simp only [laws_szIntS, e, h, decide_false, cond_false], by omega, fun _ => ⟨by omega, fun x hx => (hb.2 x hx)⟩⟩
theorem laws_szSink_ok (N : Nat) (hN : BIG ≤ N) (a : YSink.D) (left : Int) (h0 : 0 ≤ left) (h1 : left ≤ 1048576) (hb : Bnd YSink a) :
    ∃ r, (∀ (R : Type) (k : Int → Option R), laws_szSink N a left k = k r) ∧ r ≤ left ∧ (0 ≤ r → Fit YSink a) := by
  have e1 : w64 (left - (a.1.size : Int)) = left - (a.1.size : Int) := w64_id ⟨by have : a.1.size ≤ 1125899906842624 := hb.1; omega, by have : a.1.size ≤ 1125899906842624 := hb.1; omega⟩
  by_cases g1 : left - (a.1.size : Int) < 0
  · exact ⟨-1, fun R k => by simp only [laws_szSink, e1, g1, decide_true, decide_false, cond_true, cond_false], by omega, fun h => by omega⟩
  obtain ⟨r2, e2, m2, f2⟩ := laws_szIntS_ok N hN a.2.1 (left - (a.1.size : Int)) (by omega) (by omega) hb.2.1
  by_cases g2 : r2 < 0
  · exact ⟨-1, fun R k => by simp only [laws_szSink, e1, g1, e2, g2, decide_true, decide_false, cond_true, cond_false], by omega, fun h => by omega⟩
  exact ⟨r2, fun R k => by simp only [laws_szSink, e1, g1, e2, g2, decide_true, decide_false, cond_true, cond_false], by omega, fun hr => ⟨(by have : a.1.size ≤ 1048576 := (by omega); exact this), ⟨(f2 (by omega)), ⟨hb.2.2.1, hb.2.2.2⟩⟩⟩⟩
theorem laws_toIntS_l0_eq (N : Nat) (hN : BIG ≤ N) (a : List Int) (x : List Int → Option R) (ha : a.length ≤ 1048576) (hf : ∀ y ∈ a, Fit (.int .i64) y) : ∀ (l : List Int) (j n : Nat) (xs : List Int), a.drop j = l → l.length < n → xs.length = a.length →
    laws_toIntS_l0 N n a j xs x = x (xs.take j ++ l)
  | [], j, n + 1, xs, h, _, hx => by
    have h1 := drop_nil' h
    rw [laws_toIntS_l0, lt_no h1, cond_false, List.take_of_length_le (by omega), List.append_nil]
  | y :: t, j, n + 1, xs, h, hn, hx => by
    obtain ⟨h1, h2, h3, h4⟩ := drop_cons' h
    rw [laws_toIntS_l0, lt_ok h1, idx_ok h1, cond_true, cond_true, idx_ok (by omega : j < xs.length), cond_true, w64_succ (by omega), natOf, h2,
      laws_toIntS_l0_eq N hN a x ha hf t (j + 1) n _ h3 (by simpa using hn) (by simpa using hx)]
    congr 1
    exact take_set_app (by omega)
theorem laws_toIntS_eq (N : Nat) (hN : BIG ≤ N) (a : List Int) (k : List Int → Option R) (h : Fit (.sl 3 (.int .i64)) a) : laws_toIntS N a k = k a := by
  have ha : a.length ≤ 1048576 := h.1
  rw [laws_toIntS, mk_ok 8 ha (by decide), cond_true, show (0 : Int) = ((0 : Nat) : Int) from rfl, laws_toIntS_l0_eq N hN a _ ha h.2 a 0 N _ (by simp) (by have : BIG = 4611686018427387904 := rfl; omega) (by simp)]
  simp
theorem laws_toSink_eq (N : Nat) (hN : BIG ≤ N) (a : YSink.D) (k : YSink.D → Option R) (h : Fit YSink a) : laws_toSink N a k = k a := by
  rw [laws_toSink, laws_toIntS_eq N hN _ _ h.2.1]
theorem laws_eqIntS_l0_refl (N : Nat) (hN : BIG ≤ N) (a : List Int) (x0 : Bool → Option R) (x1 : Option R) (ha : a.length ≤ 1048576) (hf : ∀ y ∈ a, Fit (.int .i64) y) : ∀ (l : List Int) (j n : Nat), a.drop j = l → l.length < n →
    laws_eqIntS_l0 N n a a j x0 x1 = x1
  | [], j, n + 1, h, _ => by rw [laws_eqIntS_l0, lt_no (drop_nil' h), cond_false]
  | y :: t, j, n + 1, h, hn => by
    obtain ⟨h1, h2, h3, h4⟩ := drop_cons' h
    rw [laws_eqIntS_l0, lt_ok h1, idx_ok h1, cond_true, cond_true, cond_true, natOf, h2, decide_eq_true rfl, Bool.not_true, cond_false, w64_succ (by omega),
      laws_eqIntS_l0_refl N hN a x0 x1 ha hf t (j + 1) n h3 (by simpa using hn)]
theorem laws_eqIntS_refl (N : Nat) (hN : BIG ≤ N) (a : List Int) (k : Bool → Option R) (h : Fit (.sl 3 (.int .i64)) a) : laws_eqIntS N a a k = k true := by
  have ha : a.length ≤ 1048576 := h.1
  rw [laws_eqIntS, decide_eq_true rfl, Bool.not_true, cond_false, show (0 : Int) = ((0 : Nat) : Int) from rfl, laws_eqIntS_l0_refl N hN a _ _ ha h.2 a 0 N (by simp) (by have : BIG = 4611686018427387904 := rfl; omega)]
theorem laws_eqSink_refl (N : Nat) (hN : BIG ≤ N) (a : YSink.D) (k : Bool → Option R) (h : Fit YSink a) : laws_eqSink N a a k = k true := by
  simp only [laws_eqSink, laws_eqIntS_refl N hN _ _ h.2.1, decide_true, Bool.not_true, cond_false]
theorem laws_szReadS_ok (N : Nat) (hN : BIG ≤ N) (a : List YRead.D) (left : Int) (h0 : 0 ≤ left) (h1 : left ≤ 1048576) (hb : Bnd (.sl 72 YRead) a) :
    ∃ r, (∀ (R : Type) (k : Int → Option R), laws_szReadS N a left k = k r) ∧ r ≤ left ∧ (0 ≤ r → Fit (.sl 72 YRead) a) := by
  have hl : a.length ≤ 1125899906842624 := hb.1
  have e : w64 (left - (a.length : Int)) = left - (a.length : Int) := w64_id ⟨by omega, by omega⟩
  by_cases h : left - (a.length : Int) < 0
  · exact ⟨-1, fun R k => by simp only [laws_szReadS, e, h, decide_true, cond_true], by omega, fun h => by omega⟩
  · exact ⟨left - (a.length : Int), fun R k => by simp only [laws_szReadS, e, h, decide_false, cond_false], by omega, fun _ => ⟨by omega, fun x hx => ⟨(hb.2 x hx).1, (hb.2 x hx).2⟩⟩⟩
theorem laws_toRead_eq (N : Nat) (hN : BIG ≤ N) (a : YRead.D) (k : YRead.D → Option R) (h : Fit YRead a) : laws_toRead N a k = k a := by
  rfl
theorem laws_toReadS_l0_eq (N : Nat) (hN : BIG ≤ N) (a : List YRead.D) (x : List YRead.D → Option R) (ha : a.length ≤ 1048576) (hf : ∀ y ∈ a, Fit YRead y) : ∀ (l : List YRead.D) (j n : Nat) (xs : List YRead.D), a.drop j = l → l.length < n → xs.length = a.length →
    laws_toReadS_l0 N n a j xs x = x (xs.take j ++ l)
  | [], j, n + 1, xs, h, _, hx => by
    have h1 := drop_nil' h
    rw [laws_toReadS_l0, lt_no h1, cond_false, List.take_of_length_le (by omega), List.append_nil]
  | y :: t, j, n + 1, xs, h, hn, hx => by
    obtain ⟨h1, h2, h3, h4⟩ := drop_cons' h
    rw [laws_toReadS_l0, lt_ok h1, idx_ok h1, cond_true, cond_true, natOf, h2, laws_toRead_eq N hN _ _ (hf y h4), idx_ok (by omega : j < xs.length), cond_true, w64_succ (by omega), 
      laws_toReadS_l0_eq N hN a x ha hf t (j + 1) n _ h3 (by simpa using hn) (by simpa using hx)]
    congr 1
    exact take_set_app (by omega)
theorem laws_toReadS_eq (N : Nat) (hN : BIG ≤ N) (a : List YRead.D) (k : List YRead.D → Option R) (h : Fit (.sl 72 YRead) a) : laws_toReadS N a k = k a := by
  have ha : a.length ≤ 1048576 := h.1
  rw [laws_toReadS, mk_ok 16 ha (by decide), cond_true, show (0 : Int) = ((0 : Nat) : Int) from rfl, laws_toReadS_l0_eq N hN a _ ha h.2 a 0 N _ (by simp) (by have : BIG = 4611686018427387904 := rfl; omega) (by simp)]
  simp
theorem laws_eqRead_refl (N : Nat) (hN : BIG ≤ N) (a : YRead.D) (k : Bool → Option R) (h : Fit YRead a) : laws_eqRead N a a k = k true := by
  simp only [laws_eqRead, decide_true, Bool.not_true, cond_false]
theorem laws_eqReadS_l0_refl (N : Nat) (hN : BIG ≤ N) (a : List YRead.D) (x0 : Bool → Option R) (x1 : Option R) (ha : a.length ≤ 1048576) (hf : ∀ y ∈ a, Fit YRead y) : ∀ (l : List YRead.D) (j n : Nat), a.drop j = l → l.length < n →
    laws_eqReadS_l0 N n a a j x0 x1 = x1
  | [], j, n + 1, h, _ => by rw [laws_eqReadS_l0, lt_no (drop_nil' h), cond_false]
  | y :: t, j, n + 1, h, hn => by
    obtain ⟨h1, h2, h3, h4⟩ := drop_cons' h
    rw [laws_eqReadS_l0, lt_ok h1, idx_ok h1, cond_true, cond_true, cond_true, natOf, h2, laws_eqRead_refl N hN _ _ (hf y h4), Bool.not_true, cond_false, w64_succ (by omega),
      laws_eqReadS_l0_refl N hN a x0 x1 ha hf t (j + 1) n h3 (by simpa using hn)]
theorem laws_eqReadS_refl (N : Nat) (hN : BIG ≤ N) (a : List YRead.D) (k : Bool → Option R) (h : Fit (.sl 70 YRead) a) : laws_eqReadS N a a k = k true := by
  have ha : a.length ≤ 1048576 := h.1
  rw [laws_eqReadS, decide_eq_true rfl, Bool.not_true, cond_false, show (0 : Int) = ((0 : Nat) : Int) from rfl, laws_eqReadS_l0_refl N hN a _ _ ha h.2 a 0 N (by simp) (by have : BIG = 4611686018427387904 := rfl; omega)]
theorem laws_szEvent_ok (N : Nat) (hN : BIG ≤ N) (a : YEvent.D) (left : Int) (h0 : 0 ≤ left) (h1 : left ≤ 1048576) (hb : Bnd YEvent a) :
    ∃ r, (∀ (R : Type) (k : Int → Option R), laws_szEvent N a left k = k r) ∧ r ≤ left ∧ (0 ≤ r → Fit YEvent a) := by
  have e1 : w64 (left - (a.2.2.2.2.1.size : Int)) = left - (a.2.2.2.2.1.size : Int) := w64_id ⟨by have : a.2.2.2.2.1.size ≤ 1125899906842624 := hb.2.2.2.2.1; omega, by have : a.2.2.2.2.1.size ≤ 1125899906842624 := hb.2.2.2.2.1; omega⟩
  by_cases g1 : left - (a.2.2.2.2.1.size : Int) < 0
  · exact ⟨-1, fun R k => by simp only [laws_szEvent, e1, g1, decide_true, decide_false, cond_true, cond_false], by omega, fun h => by omega⟩
  exact ⟨(left - (a.2.2.2.2.1.size : Int)), fun R k => by simp only [laws_szEvent, e1, g1, decide_true, decide_false, cond_true, cond_false], by omega, fun hr => ⟨hb.1, ⟨hb.2.1, ⟨hb.2.2.1, ⟨hb.2.2.2.1, ⟨(by have : a.2.2.2.2.1.size ≤ 1048576 := (by omega); exact this), ⟨hb.2.2.2.2.2.1, hb.2.2.2.2.2.2⟩⟩⟩⟩⟩⟩⟩
theorem laws_szEventS_l0_ok (N : Nat) (hN : BIG ≤ N) (a : List YEvent.D) (ha : a.length ≤ 1125899906842624) (hb : ∀ x ∈ a, Bnd YEvent x) : ∀ (l : List YEvent.D) (j n : Nat) (left : Int), a.drop j = l → l.length < n → 0 ≤ left → left ≤ 1048576 →
    ∃ r, (∀ (R : Type) (x0 x1 : Int → Option R), (0 ≤ r → laws_szEventS_l0 N n a left j x0 x1 = x1 r) ∧ (r < 0 → laws_szEventS_l0 N n a left j x0 x1 = x0 r)) ∧ r ≤ left ∧ (0 ≤ r → ∀ x ∈ l, Fit YEvent x)
  | [], j, n + 1, left, h, _, h0, h1 => by
    have h2 := drop_nil' h
    exact ⟨left, fun R x0 x1 => ⟨fun _ => by rw [laws_szEventS_l0, lt_no h2, cond_false], fun h => by omega⟩, Int.le_refl _, fun _ x hx => by cases hx⟩
  | y :: t, j, n + 1, left, h, hn, h0, h1 => by
    obtain ⟨h2, h3, h4, h5⟩ := drop_cons' h
    obtain ⟨r, e, k1, k2⟩ := laws_szEvent_ok N hN y left h0 h1 (hb y h5)
    by_cases hr : r < 0
    · exact ⟨-1, fun R x0 x1 => ⟨fun h => by omega, fun _ => by rw [laws_szEventS_l0, lt_ok h2, idx_ok h2, cond_true, cond_true, natOf, h3, e, decide_eq_true hr, cond_true]⟩, by omega, fun h => by omega⟩
    · obtain ⟨q, e2, k3, k4⟩ := laws_szEventS_l0_ok N hN a ha hb t (j + 1) n r h4 (by simpa using hn) (by omega) (by omega)
      refine ⟨q, fun R x0 x1 => ?_, by omega, fun hq x hx => ?_⟩
      · have e3 : laws_szEventS_l0 N (n + 1) a left j x0 x1 = laws_szEventS_l0 N n a r ((j + 1 : Nat) : Int) x0 x1 := by
          rw [laws_szEventS_l0, lt_ok h2, idx_ok h2, cond_true, cond_true, natOf, h3, e, decide_eq_false hr, cond_false, w64_succ (by omega)]
        rw [e3]; exact e2 R x0 x1
      · rcases List.mem_cons.1 hx with rfl | hx
        · exact k2 (by omega)
        · exact k4 hq x hx
theorem laws_szEventS_ok (N : Nat) (hN : BIG ≤ N) (a : List YEvent.D) (left : Int) (h0 : 0 ≤ left) (h1 : left ≤ 1048576) (hb : Bnd (.sl 75 YEvent) a) :
    ∃ r, (∀ (R : Type) (k : Int → Option R), laws_szEventS N a left k = k r) ∧ r ≤ left ∧ (0 ≤ r → Fit (.sl 75 YEvent) a) := by
  have hl : a.length ≤ 1125899906842624 := hb.1
  have e : w64 (left - (a.length : Int)) = left - (a.length : Int) := w64_id ⟨by omega, by omega⟩
  by_cases h : left - (a.length : Int) < 0
  · exact ⟨-1, fun R k => by simp only [laws_szEventS, e, h, decide_true, cond_true], by omega, fun h => by omega⟩
  · obtain ⟨r, e2, k1, k2⟩ := laws_szEventS_l0_ok N hN a hl hb.2 a 0 N (left - (a.length : Int)) (by simp) (by have : BIG = 4611686018427387904 := rfl; omega) (by omega) (by omega)
    refine ⟨r, fun R k => ?_, by omega, fun hr => ⟨by omega, k2 hr⟩⟩
    rw [laws_szEventS, e, decide_eq_false h, cond_false, show (0 : Int) = ((0 : Nat) : Int) from rfl]
    by_cases hr : r < 0
    · exact (e2 R _ _).2 hr
    · exact (e2 R _ _).1 (by omega)
theorem laws_toEvent_eq (N : Nat) (hN : BIG ≤ N) (a : YEvent.D) (k : YEvent.D → Option R) (h : Fit YEvent a) : laws_toEvent N a k = k a := by
  rfl
theorem laws_toEventS_l0_eq (N : Nat) (hN : BIG ≤ N) (a : List YEvent.D) (x : List YEvent.D → Option R) (ha : a.length ≤ 1048576) (hf : ∀ y ∈ a, Fit YEvent y) : ∀ (l : List YEvent.D) (j n : Nat) (xs : List YEvent.D), a.drop j = l → l.length < n → xs.length = a.length →
    laws_toEventS_l0 N n a j xs x = x (xs.take j ++ l)
  | [], j, n + 1, xs, h, _, hx => by
    have h1 := drop_nil' h
    rw [laws_toEventS_l0, lt_no h1, cond_false, List.take_of_length_le (by omega), List.append_nil]
  | y :: t, j, n + 1, xs, h, hn, hx => by
    obtain ⟨h1, h2, h3, h4⟩ := drop_cons' h
    rw [laws_toEventS_l0, lt_ok h1, idx_ok h1, cond_true, cond_true, natOf, h2, laws_toEvent_eq N hN _ _ (hf y h4), idx_ok (by omega : j < xs.length), cond_true, w64_succ (by omega), 
      laws_toEventS_l0_eq N hN a x ha hf t (j + 1) n _ h3 (by simpa using hn) (by simpa using hx)]
    congr 1
    exact take_set_app (by omega)
theorem laws_toEventS_eq (N : Nat) (hN : BIG ≤ N) (a : List YEvent.D) (k : List YEvent.D → Option R) (h : Fit (.sl 75 YEvent) a) : laws_toEventS N a k = k a := by
  have ha : a.length ≤ 1048576 := h.1
  rw [laws_toEventS, mk_ok 64 ha (by decide), cond_true, show (0 : Int) = ((0 : Nat) : Int) from rfl, laws_toEventS_l0_eq N hN a _ ha h.2 a 0 N _ (by simp) (by have : BIG = 4611686018427387904 := rfl; omega) (by simp)]
  simp
theorem laws_eqEvent_refl (N : Nat) (hN : BIG ≤ N) (a : YEvent.D) (k : Bool → Option R) (h : Fit YEvent a) : laws_eqEvent N a a k = k true := by
  simp only [laws_eqEvent, decide_true, Bool.not_true, cond_false]
theorem laws_eqEventS_l0_refl (N : Nat) (hN : BIG ≤ N) (a : List YEvent.D) (x0 : Bool → Option R) (x1 : Option R) (ha : a.length ≤ 1048576) (hf : ∀ y ∈ a, Fit YEvent y) : ∀ (l : List YEvent.D) (j n : Nat), a.drop j = l → l.length < n →
    laws_eqEventS_l0 N n a a j x0 x1 = x1
  | [], j, n + 1, h, _ => by rw [laws_eqEventS_l0, lt_no (drop_nil' h), cond_false]
  | y :: t, j, n + 1, h, hn => by
    obtain ⟨h1, h2, h3, h4⟩ := drop_cons' h
    rw [laws_eqEventS_l0, lt_ok h1, idx_ok h1, cond_true, cond_true, cond_true, natOf, h2, laws_eqEvent_refl N hN _ _ (hf y h4), Bool.not_true, cond_false, w64_succ (by omega),
      laws_eqEventS_l0_refl N hN a x0 x1 ha hf t (j + 1) n h3 (by simpa using hn)]
theorem laws_eqEventS_refl (N : Nat) (hN : BIG ≤ N) (a : List YEvent.D) (k : Bool → Option R) (h : Fit (.sl 42 YEvent) a) : laws_eqEventS N a a k = k true := by
  have ha : a.length ≤ 1048576 := h.1
  rw [laws_eqEventS, decide_eq_true rfl, Bool.not_true, cond_false, show (0 : Int) = ((0 : Nat) : Int) from rfl, laws_eqEventS_l0_refl N hN a _ _ ha h.2 a 0 N (by simp) (by have : BIG = 4611686018427387904 := rfl; omega)]
end Go.Proofs.YtecdmnmedipjmaaT
