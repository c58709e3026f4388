/- The exact laws' own helpers: they hand on what they are given. -/
import Derived.Test.YthpklbpdchckkaaB
import Derived.Test.YthpklbpdchckkaaAPT0
namespace Go.Proofs.YthpklbpdchckkaaT
open Go.Proofs Go.Proofs.YthpklbpdchckkaaEv
set_option linter.unusedVariables false
set_option linter.unusedSimpArgs false
variable {R : Type}
theorem laws_szReadS_ok (N : Nat) (hN : BIG ≤ N) (a : List DRead) (left : Int) (h0 : 0 ≤ left) (h1 : left ≤ 1048576) (hb : Bnd (.sl 87 YRead) a) :
    ∃ r, (∀ (R : Type) (k : Int → Option R), laws_szReadS N a left k = k r) ∧ r ≤ left ∧ (0 ≤ r → Fit (.sl 87 YRead) a) := by
  have hl : a.length ≤ 1125899906842624 := hb.1
  have e : w64 (left - (a.length : Int)) = left - (a.length : Int) := w64_id ⟨by omega, by omega⟩
  by_cases h : left - (a.length : Int) < 0
  · exact ⟨-1, fun R k => by simp only [laws_szReadS, e, h, decide_true, cond_true], by omega, fun h => by omega⟩
  · exact ⟨left - (a.length : Int), fun R k => by simp only [laws_szReadS, e, h, decide_false, cond_false], by omega, fun _ => ⟨by omega, fun x hx => ⟨(hb.2 x hx).1, (hb.2 x hx).2⟩⟩⟩
theorem laws_toRead_eq (N : Nat) (hN : BIG ≤ N) (a : DRead) (k : DRead → Option R) (h : Len YRead a) : laws_toRead N a k = k a := by
  rfl
theorem laws_toReadS_l0_eq (N : Nat) (hN : BIG ≤ N) (a : List DRead) (x : List DRead → Option R) (ha : a.length ≤ 1048576) (hf : ∀ y ∈ a, Len YRead y) : ∀ (l : List DRead) (j n : Nat) (xs : List DRead), a.drop j = l → l.length < n → xs.length = a.length →
    laws_toReadS_l0 N n a j xs x = x (xs.take j ++ l)
  | [], j, n + 1, xs, h, _, hx => by
    have h1 := drop_nil' h
    rw [laws_toReadS_l0, lt_no h1, cond_false, List.take_of_length_le (by omega), List.append_nil]
  | y :: t, j, n + 1, xs, h, hn, hx => by
    obtain ⟨h1, h2, h3, h4⟩ := drop_cons' h
    rw [laws_toReadS_l0, lt_ok h1, idx_ok h1, cond_true, cond_true, natOf, h2, laws_toRead_eq N hN _ _ (hf y h4), idx_ok (by omega : j < xs.length), cond_true, w64_succ (by omega), 
      laws_toReadS_l0_eq N hN a x ha hf t (j + 1) n _ h3 (by simpa using hn) (by simpa using hx)]
    congr 1
    exact take_set_app (by omega)
theorem laws_toReadS_eq (N : Nat) (hN : BIG ≤ N) (a : List DRead) (k : List DRead → Option R) (h : Len (.sl 87 YRead) a) : laws_toReadS N a k = k a := by
  have ha : a.length ≤ 1048576 := h.1
  rw [laws_toReadS, mk_ok 16 ha (by decide), cond_true, show (0 : Int) = ((0 : Nat) : Int) from rfl, laws_toReadS_l0_eq N hN a _ ha h.2 a 0 N _ (by simp) (by have : BIG = 4611686018427387904 := rfl; omega) (by simp)]
  simp
theorem laws_eqStringS_l0_refl (N : Nat) (hN : BIG ≤ N) (a : List ByteArray) (x0 : Bool → Option R) (x1 : Option R) (ha : a.length ≤ 1048576) (hf : ∀ y ∈ a, Len (.str) y) : ∀ (l : List ByteArray) (j n : Nat), a.drop j = l → l.length < n →
    laws_eqStringS_l0 N n a a j x0 x1 = x1
  | [], j, n + 1, h, _ => by rw [laws_eqStringS_l0, lt_no (drop_nil' h), cond_false]
  | y :: t, j, n + 1, h, hn => by
    obtain ⟨h1, h2, h3, h4⟩ := drop_cons' h
    rw [laws_eqStringS_l0, lt_ok h1, idx_ok h1, cond_true, cond_true, cond_true, natOf, h2, decide_eq_true rfl, Bool.not_true, cond_false, w64_succ (by omega),
      laws_eqStringS_l0_refl N hN a x0 x1 ha hf t (j + 1) n h3 (by simpa using hn)]
theorem laws_eqStringS_refl (N : Nat) (hN : BIG ≤ N) (a : List ByteArray) (k : Bool → Option R) (h : Len (.sl 9 .str) a) : laws_eqStringS N a a k = k true := by
  have ha : a.length ≤ 1048576 := h.1
  rw [laws_eqStringS, decide_eq_true rfl, Bool.not_true, cond_false, show (0 : Int) = ((0 : Nat) : Int) from rfl, laws_eqStringS_l0_refl N hN a _ _ ha h.2 a 0 N (by simp) (by have : BIG = 4611686018427387904 := rfl; omega)]
theorem laws_eqRead_refl (N : Nat) (hN : BIG ≤ N) (a : DRead) (k : Bool → Option R) (h : Len YRead a) : laws_eqRead N a a k = k true := by
  simp only [laws_eqRead, decide_true, BEq.rfl, Bool.not_true, cond_false]
theorem laws_eqReadS_l0_refl (N : Nat) (hN : BIG ≤ N) (a : List DRead) (x0 : Bool → Option R) (x1 : Option R) (ha : a.length ≤ 1048576) (hf : ∀ y ∈ a, Len YRead y) : ∀ (l : List DRead) (j n : Nat), a.drop j = l → l.length < n →
    laws_eqReadS_l0 N n a a j x0 x1 = x1
  | [], j, n + 1, h, _ => by rw [laws_eqReadS_l0, lt_no (drop_nil' h), cond_false]
  | y :: t, j, n + 1, h, hn => by
    obtain ⟨h1, h2, h3, h4⟩ := drop_cons' h
    rw [laws_eqReadS_l0, lt_ok h1, idx_ok h1, cond_true, cond_true, cond_true, natOf, h2, laws_eqRead_refl N hN _ _ (hf y h4), Bool.not_true, cond_false, w64_succ (by omega),
      laws_eqReadS_l0_refl N hN a x0 x1 ha hf t (j + 1) n h3 (by simpa using hn)]
theorem laws_eqReadS_refl (N : Nat) (hN : BIG ≤ N) (a : List DRead) (k : Bool → Option R) (h : Len (.sl 85 YRead) a) : laws_eqReadS N a a k = k true := by
  have ha : a.length ≤ 1048576 := h.1
  rw [laws_eqReadS, decide_eq_true rfl, Bool.not_true, cond_false, show (0 : Int) = ((0 : Nat) : Int) from rfl, laws_eqReadS_l0_refl N hN a _ _ ha h.2 a 0 N (by simp) (by have : BIG = 4611686018427387904 := rfl; omega)]
/-- the text of a mark -/
def txtL : Nat → Int → ByteArray → ByteArray
  | 0, _, o => o
  | f + 1, k, o => if 0 < k then txtL f (k.tdiv 10) (ofBytes [wu8 (w64 (48 + k.tmod 10))] ++ o) else o
def txtV (k : Int) : ByteArray := if k ≤ 0 then bs [109, 48] else bs [109] ++ txtL 64 k ByteArray.empty
theorem txtL_size : ∀ (f : Nat) (k : Int) (o : ByteArray), (txtL f k o).size ≤ o.size + f
  | 0, _, _ => by simp [txtL]
  | f + 1, k, o => by
    simp only [txtL]
    split
    · refine Nat.le_trans (txtL_size f _ _) ?_
      have hsz : (ofBytes [wu8 (w64 (48 + k.tmod 10))]).size = 1 := rfl
      rw [ByteArray.size_append, hsz]
      omega
    · omega
theorem laws_markText_l0_eq (N : Nat) (x : ByteArray → Option R) : ∀ (f n : Nat) (k : Int) (o : ByteArray), 0 ≤ k → k < 10 ^ f → k ≤ 9223372036854775807 → f < n → o.size + f ≤ 1000 → laws_markText_l0 N n k o x = x (txtL f k o)
  | 0, n + 1, k, o, h0, h1, _, _, hs => by
    have : ¬ 0 < k := by simp at h1; omega
    rw [laws_markText_l0, dF this, cond_false, txtL]
  | f + 1, n + 1, k, o, h0, h1, h2, hn, hs => by
    by_cases c : 0 < k
    · have hd : k.tdiv 10 = k / 10 := Int.tdiv_eq_ediv_of_nonneg h0
      have hw : w64 (k.tdiv 10) = k.tdiv 10 := w64_id ⟨by omega, by omega⟩
      have hsz : (ofBytes [wu8 (w64 (48 + k.tmod 10))]).size = 1 := rfl
      rw [laws_markText_l0, dT c, cond_true, dT (by rw [hsz]; omega), cond_true, hw, laws_markText_l0_eq N x f n _ _ (by omega) (by rw [Int.pow_succ] at h1; omega) (by omega) (by omega) (by rw [ByteArray.size_append, hsz]; omega), txtL, if_pos c]
    · rw [laws_markText_l0, dF c, cond_false, txtL, if_neg c]
theorem laws_markText_eq (N : Nat) (hN : BIG ≤ N) (k : Int) (h0 : 0 ≤ k) (h1 : k ≤ 4611686018427387904) (x : ByteArray → Option R) : laws_markText N k x = x (txtV k) := by
  by_cases c : k ≤ 0
  · rw [laws_markText, dT c, cond_true, txtV, if_pos c]
  · have := txtL_size 64 k ByteArray.empty
    have e0 : (ByteArray.empty).size = 0 := rfl
    have e1 : (bs [109]).size = 1 := rfl
    have hp : k < 10 ^ 64 := Int.lt_of_le_of_lt h1 (by decide)
    rw [laws_markText, dF c, cond_false, laws_markText_l0_eq N _ 64 N k _ h0 hp (by omega) (by have : BIG = 4611686018427387904 := rfl; omega) (by rw [e0]; omega), dT (by rw [e1]; omega), cond_true, txtV, if_neg c]
def mkEReadS (k : Int) : DRead := (k, k + 1)
def mkSReadS : Int → Nat → List DRead
  | _, 0 => []
  | k, n + 1 => mkEReadS k :: mkSReadS (k + 2) n
theorem laws_markReadS_l0_eq (N : Nat) (hN : BIG ≤ N) (x : Int → List DRead → Option R) : ∀ (l : List DRead) (j n : Nat) (k : Int) (xs : List DRead), xs.drop j = l → xs.length ≤ 1048576 → l.length < n → 0 ≤ k → k + 2 * l.length ≤ 4611686018427387904 →
    laws_markReadS_l0 N n k j xs x = x (k + 2 * l.length) (xs.take j ++ mkSReadS k l.length)
  | [], j, n + 1, k, xs, h, hl, _, _, _ => by
    have h1 := drop_nil' h
    rw [laws_markReadS_l0, lt_no h1, cond_false, List.take_of_length_le h1]
    simp [mkSReadS]
  | y :: t, j, n + 1, k, xs, h, hl, hn, h0, hk => by
    obtain ⟨h1, h2, h3, h4⟩ := drop_cons' h
    simp only [List.length_cons] at hk hn
    have hw : (2 : Int) * ((t.length + 1 : Nat) : Int) = 2 * t.length + 2 := by omega
    have ih := laws_markReadS_l0_eq N hN x t (j + 1) n (k + 2) (xs.set j (mkEReadS k)) (by rw [List.drop_set_of_lt (by omega)]; exact h3) (by simpa using hl) (by omega) (by omega) (by omega)
    have e : laws_markReadS_l0 N (n + 1) k j xs x = laws_markReadS_l0 N n (k + 2) ((j + 1 : Nat) : Int) (xs.set j (mkEReadS k)) x := by
      simp only [laws_markReadS_l0, lt_ok h1, idx_ok h1, cond_true, natOf, List.length_set, getD_set_self h1, List.set_set, (w64_id ⟨by omega, by omega⟩ : w64 (k + 1) = k + 1), (by rw [w64_id ⟨by omega, by omega⟩]; omega : w64 (k + 1 + 1) = k + 2), w64_succ (by omega : j < 9223372036854775807), mkEReadS]
    rw [e, ih]
    congr 1
    · simp only [List.length_cons]; omega
    · rw [take_set_app h1]; rfl
theorem mkSReadS_drop : ∀ (n j : Nat) (k : Int), (mkSReadS k n).drop j = mkSReadS (k + 2 * j) (n - j)
  | 0, j, k => by simp [mkSReadS]
  | n + 1, 0, k => by simp
  | n + 1, j + 1, k => by
    simp only [mkSReadS, List.drop_succ_cons]
    rw [mkSReadS_drop n j]
    congr 1 <;> omega
theorem mkSReadS_len : ∀ (n : Nat) (k : Int), (mkSReadS k n).length = n
  | 0, _ => rfl
  | n + 1, k => by simp [mkSReadS, mkSReadS_len n]
theorem laws_markReadS_ok (N : Nat) (hN : BIG ≤ N) (a : List DRead) (h : Len (.sl 85 YRead) a) (k : Int) (h0 : 0 ≤ k) (h1 : k ≤ 2305843009213693952) :
    ∃ k1 o, k ≤ k1 ∧ k1 ≤ k + 2 * 1048576 ∧ (∀ (R : Type) (K : Int → List DRead → Option R), laws_markReadS N a k K = K k1 o) := by
  have ha : a.length ≤ 1048576 := h.1
  refine ⟨k + 2 * a.length, mkSReadS k a.length, by omega, by omega, fun R K => ?_⟩
  · rw [laws_markReadS, show (0 : Int) = ((0 : Nat) : Int) from rfl, laws_markReadS_l0_eq N hN _ a 0 N k a rfl ha (by have : BIG = 4611686018427387904 := rfl; omega) h0 (by omega)]
    simp
def mkEStringS (k : Int) : ByteArray := txtV (k)
def mkSStringS : Int → Nat → List ByteArray
  | _, 0 => []
  | k, n + 1 => mkEStringS k :: mkSStringS (k + 1) n
theorem laws_markStringS_l0_eq (N : Nat) (hN : BIG ≤ N) (x : Int → List ByteArray → Option R) : ∀ (l : List ByteArray) (j n : Nat) (k : Int) (xs : List ByteArray), xs.drop j = l → xs.length ≤ 1048576 → l.length < n → 0 ≤ k → k + 1 * l.length ≤ 4611686018427387904 →
    laws_markStringS_l0 N n k j xs x = x (k + 1 * l.length) (xs.take j ++ mkSStringS k l.length)
  | [], j, n + 1, k, xs, h, hl, _, _, _ => by
    have h1 := drop_nil' h
    rw [laws_markStringS_l0, lt_no h1, cond_false, List.take_of_length_le h1]
    simp [mkSStringS]
  | y :: t, j, n + 1, k, xs, h, hl, hn, h0, hk => by
    obtain ⟨h1, h2, h3, h4⟩ := drop_cons' h
    simp only [List.length_cons] at hk hn
    have hw : (1 : Int) * ((t.length + 1 : Nat) : Int) = 1 * t.length + 1 := by omega
    have ih := laws_markStringS_l0_eq N hN x t (j + 1) n (k + 1) (xs.set j (mkEStringS k)) (by rw [List.drop_set_of_lt (by omega)]; exact h3) (by simpa using hl) (by omega) (by omega) (by omega)
    have e : laws_markStringS_l0 N (n + 1) k j xs x = laws_markStringS_l0 N n (k + 1) ((j + 1 : Nat) : Int) (xs.set j (mkEStringS k)) x := by
      simp only [laws_markStringS_l0, lt_ok h1, idx_ok h1, cond_true, natOf, List.length_set, getD_set_self h1, List.set_set, (w64_id ⟨by omega, by omega⟩ : w64 (k + 1) = k + 1), laws_markText_eq N hN k (by omega) (by omega), w64_succ (by omega : j < 9223372036854775807), mkEStringS]
    rw [e, ih]
    congr 1
    · simp only [List.length_cons]; omega
    · rw [take_set_app h1]; rfl
theorem mkSStringS_drop : ∀ (n j : Nat) (k : Int), (mkSStringS k n).drop j = mkSStringS (k + 1 * j) (n - j)
  | 0, j, k => by simp [mkSStringS]
  | n + 1, 0, k => by simp
  | n + 1, j + 1, k => by
    simp only [mkSStringS, List.drop_succ_cons]
    rw [mkSStringS_drop n j]
    congr 1 <;> omega
theorem mkSStringS_len : ∀ (n : Nat) (k : Int), (mkSStringS k n).length = n
  | 0, _ => rfl
  | n + 1, k => by simp [mkSStringS, mkSStringS_len n]
theorem laws_heldStringS_l0_eq (N : Nat) (hN : BIG ≤ N) (a : List ByteArray) (x0 x1 : Int → Option R) (ha : a.length ≤ 1048576) : ∀ (m j n : Nat) (k : Int), a.drop j = mkSStringS k m → m < n → 0 ≤ k → k + 1 * m ≤ 4611686018427387904 →
    laws_heldStringS_l0 N n a k j x0 x1 = x1 (k + 1 * m)
  | 0, j, n + 1, k, h, _, _, _ => by
    rw [laws_heldStringS_l0, lt_no (drop_nil' h), cond_false]; simp
  | m + 1, j, n + 1, k, h, hn, h0, hk => by
    obtain ⟨h1, h2, h3, h4⟩ := drop_cons' (show a.drop j = mkEStringS k :: mkSStringS (k + 1) m from h)
    have ih := laws_heldStringS_l0_eq N hN a x0 x1 ha m (j + 1) n (k + 1) h3 (by omega) (by omega) (by omega)
    have e : laws_heldStringS_l0 N (n + 1) a k j x0 x1 = laws_heldStringS_l0 N n a (k + 1) ((j + 1 : Nat) : Int) x0 x1 := by
      simp only [laws_heldStringS_l0, lt_ok h1, idx_ok h1, cond_true, natOf, h2, (w64_id ⟨by omega, by omega⟩ : w64 (k + 1) = k + 1), laws_markText_eq N hN k (by omega) (by omega), w64_succ (by omega : j < 9223372036854775807), mkEStringS, decide_true, Bool.not_true, cond_false, beq_self_eq_true]
    rw [e, ih]
    congr 1
    omega
theorem laws_markStringS_ok (N : Nat) (hN : BIG ≤ N) (a : List ByteArray) (h : Len (.sl 9 .str) a) (k : Int) (h0 : 0 ≤ k) (h1 : k ≤ 2305843009213693952) :
    ∃ k1 o, k ≤ k1 ∧ k1 ≤ k + 1 * 1048576 ∧ (∀ (R : Type) (K : Int → List ByteArray → Option R), laws_markStringS N a k K = K k1 o) ∧ (∀ (R : Type) (K : Int → Option R), laws_heldStringS N o k K = K k1) := by
  have ha : a.length ≤ 1048576 := h.1
  refine ⟨k + 1 * a.length, mkSStringS k a.length, by omega, by omega, fun R K => ?_, fun R K => ?_⟩
  · rw [laws_markStringS, show (0 : Int) = ((0 : Nat) : Int) from rfl, laws_markStringS_l0_eq N hN _ a 0 N k a rfl ha (by have : BIG = 4611686018427387904 := rfl; omega) h0 (by omega)]
    simp
  · rw [laws_heldStringS, show (0 : Int) = ((0 : Nat) : Int) from rfl, laws_heldStringS_l0_eq N hN _ _ _ (by rw [mkSStringS_len]; exact ha) a.length 0 N k rfl (by have : BIG = 4611686018427387904 := rfl; omega) h0 (by omega)]
end Go.Proofs.YthpklbpdchckkaaT
