/- The exact laws' own helpers: they hand on what they are given. -/
import Derived.Test.YtecdmnmedipjmaaB
import Derived.Test.YtecdmnmedipjmaaAT0
namespace Go.Proofs.YtecdmnmedipjmaaT
open Go.Proofs Go.Proofs.YtecdmnmedipjmaaEv
set_option linter.unusedVariables false
set_option linter.unusedSimpArgs false
variable {R : Type}
theorem laws_toIntS_l0_eq (N : Nat) (hN : BIG ≤ N) (a : List Int) (x : List Int → Option R) (ha : a.length ≤ 1048576) (hf : ∀ y ∈ a, Len (.int .i64) y) : ∀ (l : List Int) (j n : Nat) (xs : List Int), a.drop j = l → l.length < n → xs.length = a.length →
    laws_toIntS_l0 N n a j xs x = x (xs.take j ++ l)
  | [], j, n + 1, xs, h, _, hx => by
    have h1 := drop_nil' h
    rw [laws_toIntS_l0, lt_no h1, cond_false, List.take_of_length_le (by omega), List.append_nil]
  | y :: t, j, n + 1, xs, h, hn, hx => by
    obtain ⟨h1, h2, h3, h4⟩ := drop_cons' h
    rw [laws_toIntS_l0, lt_ok h1, idx_ok h1, cond_true, cond_true, idx_ok (by omega : j < xs.length), cond_true, w64_succ (by omega), natOf, h2,
      laws_toIntS_l0_eq N hN a x ha hf t (j + 1) n _ h3 (by simpa using hn) (by simpa using hx)]
    congr 1
    exact take_set_app (by omega)
theorem laws_toIntS_eq (N : Nat) (hN : BIG ≤ N) (a : List Int) (k : List Int → Option R) (h : Len (.sl 3 (.int .i64)) a) : laws_toIntS N a k = k a := by
  have ha : a.length ≤ 1048576 := h.1
  rw [laws_toIntS, mk_ok 8 ha (by decide), cond_true, show (0 : Int) = ((0 : Nat) : Int) from rfl, laws_toIntS_l0_eq N hN a _ ha h.2 a 0 N _ (by simp) (by have : BIG = 4611686018427387904 := rfl; omega) (by simp)]
  simp
theorem laws_eqIntS_l0_refl (N : Nat) (hN : BIG ≤ N) (a : List Int) (x0 : Bool → Option R) (x1 : Option R) (ha : a.length ≤ 1048576) (hf : ∀ y ∈ a, Len (.int .i64) y) : ∀ (l : List Int) (j n : Nat), a.drop j = l → l.length < n →
    laws_eqIntS_l0 N n a a j x0 x1 = x1
  | [], j, n + 1, h, _ => by rw [laws_eqIntS_l0, lt_no (drop_nil' h), cond_false]
  | y :: t, j, n + 1, h, hn => by
    obtain ⟨h1, h2, h3, h4⟩ := drop_cons' h
    rw [laws_eqIntS_l0, lt_ok h1, idx_ok h1, cond_true, cond_true, cond_true, natOf, h2, decide_eq_true rfl, Bool.not_true, cond_false, w64_succ (by omega),
      laws_eqIntS_l0_refl N hN a x0 x1 ha hf t (j + 1) n h3 (by simpa using hn)]
theorem laws_eqIntS_refl (N : Nat) (hN : BIG ≤ N) (a : List Int) (k : Bool → Option R) (h : Len (.sl 3 (.int .i64)) a) : laws_eqIntS N a a k = k true := by
  have ha : a.length ≤ 1048576 := h.1
  rw [laws_eqIntS, decide_eq_true rfl, Bool.not_true, cond_false, show (0 : Int) = ((0 : Nat) : Int) from rfl, laws_eqIntS_l0_refl N hN a _ _ ha h.2 a 0 N (by simp) (by have : BIG = 4611686018427387904 := rfl; omega)]
theorem laws_szEvent_ok (N : Nat) (hN : BIG ≤ N) (a : DEvent) (left : Int) (h0 : 0 ≤ left) (h1 : left ≤ 1048576) (hb : Bnd YEvent a) :
    ∃ r, (∀ (R : Type) (k : Int → Option R), laws_szEvent N a left k = k r) ∧ r ≤ left ∧ (0 ≤ r → Fit YEvent a) := by
  have e1 : w64 (left - (a.2.2.2.2.1.size : Int)) = left - (a.2.2.2.2.1.size : Int) := w64_id ⟨by have : a.2.2.2.2.1.size ≤ 1125899906842624 := hb.2.2.2.2.1; omega, by have : a.2.2.2.2.1.size ≤ 1125899906842624 := hb.2.2.2.2.1; omega⟩
  by_cases g1 : left - (a.2.2.2.2.1.size : Int) < 0
  · exact ⟨-1, fun R k => by simp only [laws_szEvent, e1, g1, decide_true, decide_false, cond_true, cond_false], by omega, fun h => by omega⟩
  exact ⟨(left - (a.2.2.2.2.1.size : Int)), fun R k => by simp only [laws_szEvent, e1, g1, decide_true, decide_false, cond_true, cond_false], by omega, fun hr => ⟨hb.1, ⟨hb.2.1, ⟨hb.2.2.1, ⟨hb.2.2.2.1, ⟨(by have : a.2.2.2.2.1.size ≤ 1048576 := (by omega); exact this), ⟨hb.2.2.2.2.2.1, hb.2.2.2.2.2.2⟩⟩⟩⟩⟩⟩⟩
theorem laws_szEventS_l0_ok (N : Nat) (hN : BIG ≤ N) (a : List DEvent) (ha : a.length ≤ 1125899906842624) (hb : ∀ x ∈ a, Bnd YEvent x) : ∀ (l : List DEvent) (j n : Nat) (left : Int), a.drop j = l → l.length < n → 0 ≤ left → left ≤ 1048576 →
    ∃ r, (∀ (R : Type) (x0 x1 : Int → Option R), (0 ≤ r → laws_szEventS_l0 N n a left j x0 x1 = x1 r) ∧ (r < 0 → laws_szEventS_l0 N n a left j x0 x1 = x0 r)) ∧ r ≤ left ∧ (0 ≤ r → ∀ x ∈ l, Fit YEvent x)
  | [], j, n + 1, left, h, _, h0, h1 => by
    have h2 := drop_nil' h
    exact ⟨left, fun R x0 x1 => ⟨fun _ => by rw [laws_szEventS_l0, lt_no h2, cond_false], fun h => by omega⟩, Int.le_refl _, fun _ x hx => by cases hx⟩
  | y :: t, j, n + 1, left, h, hn, h0, h1 => by
    obtain ⟨h2, h3, h4, h5⟩ := drop_cons' h
    obtain ⟨r, e, k1, k2⟩ := laws_szEvent_ok N hN y left h0 h1 (hb y h5)
    by_cases hr : r < 0
    · exact ⟨-1, fun R x0 x1 => ⟨fun h => by omega, fun _ => by rw [laws_szEventS_l0, lt_ok h2, idx_ok h2, cond_true, cond_true, natOf, h3, e, decide_eq_true hr, cond_true]⟩, by omega, fun h => by omega⟩
    · obtain ⟨q, e2, k3, k4⟩ := laws_szEventS_l0_ok N hN a ha hb t (j + 1) n r h4 (by simpa using hn) (by omega) (by omega)
      refine ⟨q, fun R x0 x1 => ?_, by omega, fun hq x hx => ?_⟩
      · have e3 : laws_szEventS_l0 N (n + 1) a left j x0 x1 = laws_szEventS_l0 N n a r ((j + 1 : Nat) : Int) x0 x1 := by
          rw [laws_szEventS_l0, lt_ok h2, idx_ok h2, cond_true, cond_true, natOf, h3, e, decide_eq_false hr, cond_false, w64_succ (by omega)]
        rw [e3]; exact e2 R x0 x1
      · rcases List.mem_cons.1 hx with rfl | hx
        · exact k2 (by omega)
        · exact k4 hq x hx
theorem laws_szEventS_ok (N : Nat) (hN : BIG ≤ N) (a : List DEvent) (left : Int) (h0 : 0 ≤ left) (h1 : left ≤ 1048576) (hb : Bnd (.sl 75 YEvent) a) :
    ∃ r, (∀ (R : Type) (k : Int → Option R), laws_szEventS N a left k = k r) ∧ r ≤ left ∧ (0 ≤ r → Fit (.sl 75 YEvent) a) := by
  have hl : a.length ≤ 1125899906842624 := hb.1
  have e : w64 (left - (a.length : Int)) = left - (a.length : Int) := w64_id ⟨by omega, by omega⟩
  by_cases h : left - (a.length : Int) < 0
  · exact ⟨-1, fun R k => by simp only [laws_szEventS, e, h, decide_true, cond_true], by omega, fun h => by omega⟩
  · obtain ⟨r, e2, k1, k2⟩ := laws_szEventS_l0_ok N hN a hl hb.2 a 0 N (left - (a.length : Int)) (by simp) (by have : BIG = 4611686018427387904 := rfl; omega) (by omega) (by omega)
    refine ⟨r, fun R k => ?_, by omega, fun hr => ⟨by omega, k2 hr⟩⟩
    rw [laws_szEventS, e, decide_eq_false h, cond_false, show (0 : Int) = ((0 : Nat) : Int) from rfl]
    by_cases hr : r < 0
    · exact (e2 R _ _).2 hr
    · exact (e2 R _ _).1 (by omega)
theorem laws_toEvent_eq (N : Nat) (hN : BIG ≤ N) (a : DEvent) (k : DEvent → Option R) (h : Len YEvent a) : laws_toEvent N a k = k a := by
  rfl
theorem laws_toEventS_l0_eq (N : Nat) (hN : BIG ≤ N) (a : List DEvent) (x : List DEvent → Option R) (ha : a.length ≤ 1048576) (hf : ∀ y ∈ a, Len YEvent y) : ∀ (l : List DEvent) (j n : Nat) (xs : List DEvent), a.drop j = l → l.length < n → xs.length = a.length →
    laws_toEventS_l0 N n a j xs x = x (xs.take j ++ l)
  | [], j, n + 1, xs, h, _, hx => by
    have h1 := drop_nil' h
    rw [laws_toEventS_l0, lt_no h1, cond_false, List.take_of_length_le (by omega), List.append_nil]
  | y :: t, j, n + 1, xs, h, hn, hx => by
    obtain ⟨h1, h2, h3, h4⟩ := drop_cons' h
    rw [laws_toEventS_l0, lt_ok h1, idx_ok h1, cond_true, cond_true, natOf, h2, laws_toEvent_eq N hN _ _ (hf y h4), idx_ok (by omega : j < xs.length), cond_true, w64_succ (by omega), 
      laws_toEventS_l0_eq N hN a x ha hf t (j + 1) n _ h3 (by simpa using hn) (by simpa using hx)]
    congr 1
    exact take_set_app (by omega)
theorem laws_toEventS_eq (N : Nat) (hN : BIG ≤ N) (a : List DEvent) (k : List DEvent → Option R) (h : Len (.sl 75 YEvent) a) : laws_toEventS N a k = k a := by
  have ha : a.length ≤ 1048576 := h.1
  rw [laws_toEventS, mk_ok 64 ha (by decide), cond_true, show (0 : Int) = ((0 : Nat) : Int) from rfl, laws_toEventS_l0_eq N hN a _ ha h.2 a 0 N _ (by simp) (by have : BIG = 4611686018427387904 := rfl; omega) (by simp)]
  simp
theorem laws_eqEvent_refl (N : Nat) (hN : BIG ≤ N) (a : DEvent) (k : Bool → Option R) (h : Len YEvent a) : laws_eqEvent N a a k = k true := by
  simp only [laws_eqEvent, decide_true, Bool.not_true, cond_false]
theorem laws_eqEventS_l0_refl (N : Nat) (hN : BIG ≤ N) (a : List DEvent) (x0 : Bool → Option R) (x1 : Option R) (ha : a.length ≤ 1048576) (hf : ∀ y ∈ a, Len YEvent y) : ∀ (l : List DEvent) (j n : Nat), a.drop j = l → l.length < n →
    laws_eqEventS_l0 N n a a j x0 x1 = x1
  | [], j, n + 1, h, _ => by rw [laws_eqEventS_l0, lt_no (drop_nil' h), cond_false]
  | y :: t, j, n + 1, h, hn => by
    obtain ⟨h1, h2, h3, h4⟩ := drop_cons' h
    rw [laws_eqEventS_l0, lt_ok h1, idx_ok h1, cond_true, cond_true, cond_true, natOf, h2, laws_eqEvent_refl N hN _ _ (hf y h4), Bool.not_true, cond_false, w64_succ (by omega),
      laws_eqEventS_l0_refl N hN a x0 x1 ha hf t (j + 1) n h3 (by simpa using hn)]
theorem laws_eqEventS_refl (N : Nat) (hN : BIG ≤ N) (a : List DEvent) (k : Bool → Option R) (h : Len (.sl 42 YEvent) a) : laws_eqEventS N a a k = k true := by
  have ha : a.length ≤ 1048576 := h.1
  rw [laws_eqEventS, decide_eq_true rfl, Bool.not_true, cond_false, show (0 : Int) = ((0 : Nat) : Int) from rfl, laws_eqEventS_l0_refl N hN a _ _ ha h.2 a 0 N (by simp) (by have : BIG = 4611686018427387904 := rfl; omega)]
theorem laws_szReadS_ok (N : Nat) (hN : BIG ≤ N) (a : List DRead) (left : Int) (h0 : 0 ≤ left) (h1 : left ≤ 1048576) (hb : Bnd (.sl 72 YRead) a) :
    ∃ r, (∀ (R : Type) (k : Int → Option R), laws_szReadS N a left k = k r) ∧ r ≤ left ∧ (0 ≤ r → Fit (.sl 72 YRead) a) := by
  have hl : a.length ≤ 1125899906842624 := hb.1
  have e : w64 (left - (a.length : Int)) = left - (a.length : Int) := w64_id ⟨by omega, by omega⟩
  by_cases h : left - (a.length : Int) < 0
  · exact ⟨-1, fun R k => by simp only [laws_szReadS, e, h, decide_true, cond_true], by omega, fun h => by omega⟩
  · exact ⟨left - (a.length : Int), fun R k => by simp only [laws_szReadS, e, h, decide_false, cond_false], by omega, fun _ => ⟨by omega, fun x hx => ⟨(hb.2 x hx).1, (hb.2 x hx).2⟩⟩⟩
theorem laws_toRead_eq (N : Nat) (hN : BIG ≤ N) (a : DRead) (k : DRead → Option R) (h : Len YRead a) : laws_toRead N a k = k a := by
  rfl
theorem laws_toReadS_l0_eq (N : Nat) (hN : BIG ≤ N) (a : List DRead) (x : List DRead → Option R) (ha : a.length ≤ 1048576) (hf : ∀ y ∈ a, Len YRead y) : ∀ (l : List DRead) (j n : Nat) (xs : List DRead), a.drop j = l → l.length < n → xs.length = a.length →
    laws_toReadS_l0 N n a j xs x = x (xs.take j ++ l)
  | [], j, n + 1, xs, h, _, hx => by
    have h1 := drop_nil' h
    rw [laws_toReadS_l0, lt_no h1, cond_false, List.take_of_length_le (by omega), List.append_nil]
  | y :: t, j, n + 1, xs, h, hn, hx => by
    obtain ⟨h1, h2, h3, h4⟩ := drop_cons' h
    rw [laws_toReadS_l0, lt_ok h1, idx_ok h1, cond_true, cond_true, natOf, h2, laws_toRead_eq N hN _ _ (hf y h4), idx_ok (by omega : j < xs.length), cond_true, w64_succ (by omega), 
      laws_toReadS_l0_eq N hN a x ha hf t (j + 1) n _ h3 (by simpa using hn) (by simpa using hx)]
    congr 1
    exact take_set_app (by omega)
theorem laws_toReadS_eq (N : Nat) (hN : BIG ≤ N) (a : List DRead) (k : List DRead → Option R) (h : Len (.sl 72 YRead) a) : laws_toReadS N a k = k a := by
  have ha : a.length ≤ 1048576 := h.1
  rw [laws_toReadS, mk_ok 16 ha (by decide), cond_true, show (0 : Int) = ((0 : Nat) : Int) from rfl, laws_toReadS_l0_eq N hN a _ ha h.2 a 0 N _ (by simp) (by have : BIG = 4611686018427387904 := rfl; omega) (by simp)]
  simp
theorem laws_eqRead_refl (N : Nat) (hN : BIG ≤ N) (a : DRead) (k : Bool → Option R) (h : Len YRead a) : laws_eqRead N a a k = k true := by
  simp only [laws_eqRead, decide_true, Bool.not_true, cond_false]
theorem laws_eqReadS_l0_refl (N : Nat) (hN : BIG ≤ N) (a : List DRead) (x0 : Bool → Option R) (x1 : Option R) (ha : a.length ≤ 1048576) (hf : ∀ y ∈ a, Len YRead y) : ∀ (l : List DRead) (j n : Nat), a.drop j = l → l.length < n →
    laws_eqReadS_l0 N n a a j x0 x1 = x1
  | [], j, n + 1, h, _ => by rw [laws_eqReadS_l0, lt_no (drop_nil' h), cond_false]
  | y :: t, j, n + 1, h, hn => by
    obtain ⟨h1, h2, h3, h4⟩ := drop_cons' h
    rw [laws_eqReadS_l0, lt_ok h1, idx_ok h1, cond_true, cond_true, cond_true, natOf, h2, laws_eqRead_refl N hN _ _ (hf y h4), Bool.not_true, cond_false, w64_succ (by omega),
      laws_eqReadS_l0_refl N hN a x0 x1 ha hf t (j + 1) n h3 (by simpa using hn)]
theorem laws_eqReadS_refl (N : Nat) (hN : BIG ≤ N) (a : List DRead) (k : Bool → Option R) (h : Len (.sl 70 YRead) a) : laws_eqReadS N a a k = k true := by
  have ha : a.length ≤ 1048576 := h.1
  rw [laws_eqReadS, decide_eq_true rfl, Bool.not_true, cond_false, show (0 : Int) = ((0 : Nat) : Int) from rfl, laws_eqReadS_l0_refl N hN a _ _ ha h.2 a 0 N (by simp) (by have : BIG = 4611686018427387904 := rfl; omega)]
theorem laws_szIntS_ok (N : Nat) (hN : BIG ≤ N) (a : List Int) (left : Int) (h0 : 0 ≤ left) (h1 : left ≤ 1048576) (hb : Bnd (.sl 3 (.int .i64)) a) :
    ∃ r, (∀ (R : Type) (k : Int → Option R), laws_szIntS N a left k = k r) ∧ r ≤ left ∧ (0 ≤ r → Fit (.sl 3 (.int .i64)) a) := by
  have hl : a.length ≤ 1125899906842624 := hb.1
  have e : w64 (left - (a.length : Int)) = left - (a.length : Int) := w64_id ⟨by omega, by omega⟩
  by_cases h : left - (a.length : Int) < 0
  · exact ⟨-1, fun R k => by simp only [laws_szIntS, e, h, decide_true, cond_true], by omega, fun h => by omega⟩
  · exact ⟨left - (a.length : Int), fun R k => by simp only [laws_szIntS, e, h, decide_false, cond_false], by omega, fun _ => ⟨by omega, fun x hx => (hb.2 x hx)⟩⟩
theorem laws_szSink_ok (N : Nat) (hN : BIG ≤ N) (a : DSink) (left : Int) (h0 : 0 ≤ left) (h1 : left ≤ 1048576) (hb : Bnd YSink a) :
    ∃ r, (∀ (R : Type) (k : Int → Option R), laws_szSink N a left k = k r) ∧ r ≤ left ∧ (0 ≤ r → Fit YSink a) := by
  have e1 : w64 (left - (a.1.size : Int)) = left - (a.1.size : Int) := w64_id ⟨by have : a.1.size ≤ 1125899906842624 := hb.1; omega, by have : a.1.size ≤ 1125899906842624 := hb.1; omega⟩
  by_cases g1 : left - (a.1.size : Int) < 0
  · exact ⟨-1, fun R k => by simp only [laws_szSink, e1, g1, decide_true, decide_false, cond_true, cond_false], by omega, fun h => by omega⟩
  obtain ⟨r2, e2, m2, f2⟩ := laws_szIntS_ok N hN a.2.1 (left - (a.1.size : Int)) (by omega) (by omega) hb.2.1
  by_cases g2 : r2 < 0
  · exact ⟨-1, fun R k => by simp only [laws_szSink, e1, g1, e2, g2, decide_true, decide_false, cond_true, cond_false], by omega, fun h => by omega⟩
  exact ⟨r2, fun R k => by simp only [laws_szSink, e1, g1, e2, g2, decide_true, decide_false, cond_true, cond_false], by omega, fun hr => ⟨(by have : a.1.size ≤ 1048576 := (by omega); exact this), ⟨(f2 (by omega)), ⟨hb.2.2.1, hb.2.2.2⟩⟩⟩⟩
theorem laws_toSink_eq (N : Nat) (hN : BIG ≤ N) (a : DSink) (k : DSink → Option R) (h : Len YSink a) : laws_toSink N a k = k a := by
  rw [laws_toSink, laws_toIntS_eq N hN _ _ h.2.1]
theorem laws_eqSink_refl (N : Nat) (hN : BIG ≤ N) (a : DSink) (k : Bool → Option R) (h : Len YSink a) : laws_eqSink N a a k = k true := by
  simp only [laws_eqSink, laws_eqIntS_refl N hN _ _ h.2.1, decide_true, Bool.not_true, cond_false]
/-- the text of a mark -/
def txtL : Nat → Int → ByteArray → ByteArray
  | 0, _, o => o
  | f + 1, k, o => if 0 < k then txtL f (k.tdiv 10) (ofBytes [wu8 (w64 (48 + k.tmod 10))] ++ o) else o
def txtV (k : Int) : ByteArray := if k ≤ 0 then bs [109, 48] else bs [109] ++ txtL 64 k ByteArray.empty
theorem txtL_size : ∀ (f : Nat) (k : Int) (o : ByteArray), (txtL f k o).size ≤ o.size + f
  | 0, _, _ => by simp [txtL]
  | f + 1, k, o => by
    simp only [txtL]
    split
    · refine Nat.le_trans (txtL_size f _ _) ?_
      have hsz : (ofBytes [wu8 (w64 (48 + k.tmod 10))]).size = 1 := rfl
      rw [ByteArray.size_append, hsz]
      omega
    · omega
theorem laws_markText_l0_eq (N : Nat) (x : ByteArray → Option R) : ∀ (f n : Nat) (k : Int) (o : ByteArray), 0 ≤ k → k < 10 ^ f → k ≤ 9223372036854775807 → f < n → o.size + f ≤ 1000 → laws_markText_l0 N n k o x = x (txtL f k o)
  | 0, n + 1, k, o, h0, h1, _, _, hs => by
    have : ¬ 0 < k := by simp at h1; omega
    rw [laws_markText_l0, dF this, cond_false, txtL]
  | f + 1, n + 1, k, o, h0, h1, h2, hn, hs => by
    by_cases c : 0 < k
    · have hd : k.tdiv 10 = k / 10 := Int.tdiv_eq_ediv_of_nonneg h0
      have hw : w64 (k.tdiv 10) = k.tdiv 10 := w64_id ⟨by omega, by omega⟩
      have hsz : (ofBytes [wu8 (w64 (48 + k.tmod 10))]).size = 1 := rfl
      rw [laws_markText_l0, dT c, cond_true, dT (by rw [hsz]; omega), cond_true, hw, laws_markText_l0_eq N x f n _ _ (by omega) (by rw [Int.pow_succ] at h1; omega) (by omega) (by omega) (by rw [ByteArray.size_append, hsz]; omega), txtL, if_pos c]
    · rw [laws_markText_l0, dF c, cond_false, txtL, if_neg c]
theorem laws_markText_eq (N : Nat) (hN : BIG ≤ N) (k : Int) (h0 : 0 ≤ k) (h1 : k ≤ 4611686018427387904) (x : ByteArray → Option R) : laws_markText N k x = x (txtV k) := by
  by_cases c : k ≤ 0
  · rw [laws_markText, dT c, cond_true, txtV, if_pos c]
  · have := txtL_size 64 k ByteArray.empty
    have e0 : (ByteArray.empty).size = 0 := rfl
    have e1 : (bs [109]).size = 1 := rfl
    have hp : k < 10 ^ 64 := Int.lt_of_le_of_lt h1 (by decide)
    rw [laws_markText, dF c, cond_false, laws_markText_l0_eq N _ 64 N k _ h0 hp (by omega) (by have : BIG = 4611686018427387904 := rfl; omega) (by rw [e0]; omega), dT (by rw [e1]; omega), cond_true, txtV, if_neg c]
def mkEEventS (k : Int) : DEvent := (k, k + 1, k + 2, k + 3, txtV (k + 4), k + 5, k + 6)
def mkSEventS : Int → Nat → List DEvent
  | _, 0 => []
  | k, n + 1 => mkEEventS k :: mkSEventS (k + 7) n
theorem laws_markEventS_l0_eq (N : Nat) (hN : BIG ≤ N) (x : Int → List DEvent → Option R) : ∀ (l : List DEvent) (j n : Nat) (k : Int) (xs : List DEvent), xs.drop j = l → xs.length ≤ 1048576 → l.length < n → 0 ≤ k → k + 7 * l.length ≤ 4611686018427387904 →
    laws_markEventS_l0 N n k j xs x = x (k + 7 * l.length) (xs.take j ++ mkSEventS k l.length)
  | [], j, n + 1, k, xs, h, hl, _, _, _ => by
    have h1 := drop_nil' h
    rw [laws_markEventS_l0, lt_no h1, cond_false, List.take_of_length_le h1]
    simp [mkSEventS]
  | y :: t, j, n + 1, k, xs, h, hl, hn, h0, hk => by
    obtain ⟨h1, h2, h3, h4⟩ := drop_cons' h
    simp only [List.length_cons] at hk hn
    have hw : (7 : Int) * ((t.length + 1 : Nat) : Int) = 7 * t.length + 7 := by omega
    have ih := laws_markEventS_l0_eq N hN x t (j + 1) n (k + 7) (xs.set j (mkEEventS k)) (by rw [List.drop_set_of_lt (by omega)]; exact h3) (by simpa using hl) (by omega) (by omega) (by omega)
    have e : laws_markEventS_l0 N (n + 1) k j xs x = laws_markEventS_l0 N n (k + 7) ((j + 1 : Nat) : Int) (xs.set j (mkEEventS k)) x := by
      simp only [laws_markEventS_l0, lt_ok h1, idx_ok h1, cond_true, natOf, List.length_set, getD_set_self h1, List.set_set, (w64_id ⟨by omega, by omega⟩ : w64 (k + 1) = k + 1), (by rw [w64_id ⟨by omega, by omega⟩]; omega : w64 (k + 1 + 1) = k + 2), (by rw [w64_id ⟨by omega, by omega⟩]; omega : w64 (k + 2 + 1) = k + 3), (by rw [w64_id ⟨by omega, by omega⟩]; omega : w64 (k + 3 + 1) = k + 4), (by rw [w64_id ⟨by omega, by omega⟩]; omega : w64 (k + 4 + 1) = k + 5), (by rw [w64_id ⟨by omega, by omega⟩]; omega : w64 (k + 5 + 1) = k + 6), (by rw [w64_id ⟨by omega, by omega⟩]; omega : w64 (k + 6 + 1) = k + 7), (wu64_id (by omega) (by omega) : wu64 (k + 2) = k + 2), laws_markText_eq N hN (k + 4) (by omega) (by omega), w64_succ (by omega : j < 9223372036854775807), mkEEventS]
    rw [e, ih]
    congr 1
    · simp only [List.length_cons]; omega
    · rw [take_set_app h1]; rfl
theorem mkSEventS_drop : ∀ (n j : Nat) (k : Int), (mkSEventS k n).drop j = mkSEventS (k + 7 * j) (n - j)
  | 0, j, k => by simp [mkSEventS]
  | n + 1, 0, k => by simp
  | n + 1, j + 1, k => by
    simp only [mkSEventS, List.drop_succ_cons]
    rw [mkSEventS_drop n j]
    congr 1 <;> omega
theorem mkSEventS_len : ∀ (n : Nat) (k : Int), (mkSEventS k n).length = n
  | 0, _ => rfl
  | n + 1, k => by simp [mkSEventS, mkSEventS_len n]
theorem laws_heldEventS_l0_eq (N : Nat) (hN : BIG ≤ N) (a : List DEvent) (x0 x1 : Int → Option R) (ha : a.length ≤ 1048576) : ∀ (m j n : Nat) (k : Int), a.drop j = mkSEventS k m → m < n → 0 ≤ k → k + 7 * m ≤ 4611686018427387904 →
    laws_heldEventS_l0 N n a k j x0 x1 = x1 (k + 7 * m)
  | 0, j, n + 1, k, h, _, _, _ => by
    rw [laws_heldEventS_l0, lt_no (drop_nil' h), cond_false]; simp
  | m + 1, j, n + 1, k, h, hn, h0, hk => by
    obtain ⟨h1, h2, h3, h4⟩ := drop_cons' (show a.drop j = mkEEventS k :: mkSEventS (k + 7) m from h)
    have ih := laws_heldEventS_l0_eq N hN a x0 x1 ha m (j + 1) n (k + 7) h3 (by omega) (by omega) (by omega)
    have e : laws_heldEventS_l0 N (n + 1) a k j x0 x1 = laws_heldEventS_l0 N n a (k + 7) ((j + 1 : Nat) : Int) x0 x1 := by
      simp only [laws_heldEventS_l0, lt_ok h1, idx_ok h1, cond_true, natOf, h2, (w64_id ⟨by omega, by omega⟩ : w64 (k + 1) = k + 1), (by rw [w64_id ⟨by omega, by omega⟩]; omega : w64 (k + 1 + 1) = k + 2), (by rw [w64_id ⟨by omega, by omega⟩]; omega : w64 (k + 2 + 1) = k + 3), (by rw [w64_id ⟨by omega, by omega⟩]; omega : w64 (k + 3 + 1) = k + 4), (by rw [w64_id ⟨by omega, by omega⟩]; omega : w64 (k + 4 + 1) = k + 5), (by rw [w64_id ⟨by omega, by omega⟩]; omega : w64 (k + 5 + 1) = k + 6), (by rw [w64_id ⟨by omega, by omega⟩]; omega : w64 (k + 6 + 1) = k + 7), (wu64_id (by omega) (by omega) : wu64 (k + 2) = k + 2), laws_markText_eq N hN (k + 4) (by omega) (by omega), w64_succ (by omega : j < 9223372036854775807), mkEEventS, decide_true, Bool.not_true, cond_false, beq_self_eq_true]
    rw [e, ih]
    congr 1
    omega
theorem laws_markEventS_ok (N : Nat) (hN : BIG ≤ N) (a : List DEvent) (h : Len (.sl 42 YEvent) a) (k : Int) (h0 : 0 ≤ k) (h1 : k ≤ 2305843009213693952) :
    ∃ k1 o, k ≤ k1 ∧ k1 ≤ k + 7 * 1048576 ∧ (∀ (R : Type) (K : Int → List DEvent → Option R), laws_markEventS N a k K = K k1 o) ∧ (∀ (R : Type) (K : Int → Option R), laws_heldEventS N o k K = K k1) := by
  have ha : a.length ≤ 1048576 := h.1
  refine ⟨k + 7 * a.length, mkSEventS k a.length, by omega, by omega, fun R K => ?_, fun R K => ?_⟩
  · rw [laws_markEventS, show (0 : Int) = ((0 : Nat) : Int) from rfl, laws_markEventS_l0_eq N hN _ a 0 N k a rfl ha (by have : BIG = 4611686018427387904 := rfl; omega) h0 (by omega)]
    simp
  · rw [laws_heldEventS, show (0 : Int) = ((0 : Nat) : Int) from rfl, laws_heldEventS_l0_eq N hN _ _ _ (by rw [mkSEventS_len]; exact ha) a.length 0 N k rfl (by have : BIG = 4611686018427387904 := rfl; omega) h0 (by omega)]
def mkEIntS (k : Int) : Int := k
def mkSIntS : Int → Nat → List Int
  | _, 0 => []
  | k, n + 1 => mkEIntS k :: mkSIntS (k + 1) n
theorem laws_markIntS_l0_eq (N : Nat) (hN : BIG ≤ N) (x : Int → List Int → Option R) : ∀ (l : List Int) (j n : Nat) (k : Int) (xs : List Int), xs.drop j = l → xs.length ≤ 1048576 → l.length < n → 0 ≤ k → k + 1 * l.length ≤ 4611686018427387904 →
    laws_markIntS_l0 N n k j xs x = x (k + 1 * l.length) (xs.take j ++ mkSIntS k l.length)
  | [], j, n + 1, k, xs, h, hl, _, _, _ => by
    have h1 := drop_nil' h
    rw [laws_markIntS_l0, lt_no h1, cond_false, List.take_of_length_le h1]
    simp [mkSIntS]
  | y :: t, j, n + 1, k, xs, h, hl, hn, h0, hk => by
    obtain ⟨h1, h2, h3, h4⟩ := drop_cons' h
    simp only [List.length_cons] at hk hn
    have hw : (1 : Int) * ((t.length + 1 : Nat) : Int) = 1 * t.length + 1 := by omega
    have ih := laws_markIntS_l0_eq N hN x t (j + 1) n (k + 1) (xs.set j (mkEIntS k)) (by rw [List.drop_set_of_lt (by omega)]; exact h3) (by simpa using hl) (by omega) (by omega) (by omega)
    have e : laws_markIntS_l0 N (n + 1) k j xs x = laws_markIntS_l0 N n (k + 1) ((j + 1 : Nat) : Int) (xs.set j (mkEIntS k)) x := by
      simp only [laws_markIntS_l0, lt_ok h1, idx_ok h1, cond_true, natOf, List.length_set, getD_set_self h1, List.set_set, (w64_id ⟨by omega, by omega⟩ : w64 (k + 1) = k + 1), w64_succ (by omega : j < 9223372036854775807), mkEIntS]
    rw [e, ih]
    congr 1
    · simp only [List.length_cons]; omega
    · rw [take_set_app h1]; rfl
theorem mkSIntS_drop : ∀ (n j : Nat) (k : Int), (mkSIntS k n).drop j = mkSIntS (k + 1 * j) (n - j)
  | 0, j, k => by simp [mkSIntS]
  | n + 1, 0, k => by simp
  | n + 1, j + 1, k => by
    simp only [mkSIntS, List.drop_succ_cons]
    rw [mkSIntS_drop n j]
    congr 1 <;> omega
theorem mkSIntS_len : ∀ (n : Nat) (k : Int), (mkSIntS k n).length = n
  | 0, _ => rfl
  | n + 1, k => by simp [mkSIntS, mkSIntS_len n]
theorem laws_heldIntS_l0_eq (N : Nat) (hN : BIG ≤ N) (a : List Int) (x0 x1 : Int → Option R) (ha : a.length ≤ 1048576) : ∀ (m j n : Nat) (k : Int), a.drop j = mkSIntS k m → m < n → 0 ≤ k → k + 1 * m ≤ 4611686018427387904 →
    laws_heldIntS_l0 N n a k j x0 x1 = x1 (k + 1 * m)
  | 0, j, n + 1, k, h, _, _, _ => by
    rw [laws_heldIntS_l0, lt_no (drop_nil' h), cond_false]; simp
  | m + 1, j, n + 1, k, h, hn, h0, hk => by
    obtain ⟨h1, h2, h3, h4⟩ := drop_cons' (show a.drop j = mkEIntS k :: mkSIntS (k + 1) m from h)
    have ih := laws_heldIntS_l0_eq N hN a x0 x1 ha m (j + 1) n (k + 1) h3 (by omega) (by omega) (by omega)
    have e : laws_heldIntS_l0 N (n + 1) a k j x0 x1 = laws_heldIntS_l0 N n a (k + 1) ((j + 1 : Nat) : Int) x0 x1 := by
      simp only [laws_heldIntS_l0, lt_ok h1, idx_ok h1, cond_true, natOf, h2, (w64_id ⟨by omega, by omega⟩ : w64 (k + 1) = k + 1), w64_succ (by omega : j < 9223372036854775807), mkEIntS, decide_true, Bool.not_true, cond_false, beq_self_eq_true]
    rw [e, ih]
    congr 1
    omega
theorem laws_markIntS_ok (N : Nat) (hN : BIG ≤ N) (a : List Int) (h : Len (.sl 3 (.int .i64)) a) (k : Int) (h0 : 0 ≤ k) (h1 : k ≤ 2305843009213693952) :
    ∃ k1 o, k ≤ k1 ∧ k1 ≤ k + 1 * 1048576 ∧ (∀ (R : Type) (K : Int → List Int → Option R), laws_markIntS N a k K = K k1 o) ∧ (∀ (R : Type) (K : Int → Option R), laws_heldIntS N o k K = K k1) := by
  have ha : a.length ≤ 1048576 := h.1
  refine ⟨k + 1 * a.length, mkSIntS k a.length, by omega, by omega, fun R K => ?_, fun R K => ?_⟩
  · rw [laws_markIntS, show (0 : Int) = ((0 : Nat) : Int) from rfl, laws_markIntS_l0_eq N hN _ a 0 N k a rfl ha (by have : BIG = 4611686018427387904 := rfl; omega) h0 (by omega)]
    simp
  · rw [laws_heldIntS, show (0 : Int) = ((0 : Nat) : Int) from rfl, laws_heldIntS_l0_eq N hN _ _ _ (by rw [mkSIntS_len]; exact ha) a.length 0 N k rfl (by have : BIG = 4611686018427387904 := rfl; omega) h0 (by omega)]
theorem laws_markSink_ok (N : Nat) (hN : BIG ≤ N) (a : DSink) (h : Len YSink a) (k : Int) (h0 : 0 ≤ k) (h1 : k ≤ 2305843009213693952 - 1048576) :
    ∃ k1 o0, k ≤ k1 ∧ k1 ≤ k + 1048576 ∧ (∀ (R : Type) (K : Int → DSink → Option R), laws_markSink N a k K = K k1 (a.1, o0, a.2.2)) ∧ (∀ (R : Type) (K : Int → Option R), laws_heldSink N (a.1, o0, a.2.2) k K = K k1) := by
  obtain ⟨k1, o1_0, a1, b1, m1, q1⟩ := laws_markIntS_ok N hN a.2.1 h.2.1 k (by omega) (by omega)
  refine ⟨k1, o1_0, by omega, by omega, fun R K => ?_, fun R K => ?_⟩
  · simp only [laws_markSink, m1]
  · simp only [laws_heldSink, q1, dF (by omega : ¬ k1 < 0), cond_false]
end Go.Proofs.YtecdmnmedipjmaaT
