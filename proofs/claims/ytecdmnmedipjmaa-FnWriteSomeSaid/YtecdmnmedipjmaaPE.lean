/- The draws' cursor; FnCalls, FnSink, FnWriteSome, on the twins. -/
import Derived.Test.YtecdmnmedipjmaaPC
namespace Go.Proofs.YtecdmnmedipjmaaT
open Go.Proofs Go.Proofs.YtecdmnmedipjmaaEv
set_option linter.unusedVariables false
set_option linter.unusedSimpArgs false
variable {R : Type}

theorem and255 (v : Int) : 0 ≤ ibits .and .i64 v 255 ∧ ibits .and .i64 v 255 ≤ 255 := by
  have e : ibits .and .i64 v 255 = w64 ((BitVec.ofInt 64 v &&& BitVec.ofInt 64 255).toNat : Int) := rfl
  have h : (BitVec.ofInt 64 v &&& BitVec.ofInt 64 255).toNat ≤ 255 := by
    rw [BitVec.toNat_and]
    exact Nat.le_trans Nat.and_le_right (by decide)
  rw [e, w64_id ⟨by omega, by omega⟩]
  omega
structure CurOk (c : Dl1Cur) : Prop where
  len : c.1.length ≤ 1048576
  i0 : 0 ≤ c.2.1
  i1 : c.2.1 ≤ (c.1.length : Int)
theorem spec_l1New_l0_ok (N : Nat) (a : List Int) (ha : a.length ≤ 1048576) : ∀ (l : List Int) (j n : Nat) (h : Int), a.drop j = l → l.length < n →
    ∃ h', ∀ (R : Type) (x : List Int → Int → Option R), spec_l1New_l0 N n a h j x = x a h'
  | [], j, n + 1, h, hd, _ => ⟨h, fun R x => by rw [spec_l1New_l0, lt_no (drop_nil' hd), cond_false]⟩
  | e :: t, j, n + 1, h, hd, hn => by
    obtain ⟨h1, h2, h3, _⟩ := drop_cons' hd
    by_cases c : (j : Int) < 4000
    · obtain ⟨h', ih⟩ := spec_l1New_l0_ok N a ha t (j + 1) n (ibits .and .i64 (w64 ((w64 ((w64 (h * 131)) + (w64 e))) + 7)) 1073741823) h3 (by simpa using hn)
      exact ⟨h', fun R x => by rw [spec_l1New_l0, lt_ok h1, cond_true, dT c, cond_true, idx_ok h1, cond_true, natOf, h2, w64_succ (by omega), ih]⟩
    · exact ⟨h, fun R x => by rw [spec_l1New_l0, lt_ok h1, cond_true, dF c, cond_false]⟩
theorem spec_l1New_ok (N : Nat) (hN : BIG ≤ N) (a : List Int) (ha : a.length ≤ 1048576) : ∃ c, CurOk c ∧ ∀ (R : Type) (k : Dl1Cur → Option R), spec_l1New N a k = k c := by
  obtain ⟨h', ih⟩ := spec_l1New_l0_ok N a ha a 0 N (w64 (28433 + (a.length : Int))) rfl (by have : BIG = 4611686018427387904 := rfl; omega)
  exact ⟨(a, 0, h'), ⟨ha, Int.le_refl _, by simp⟩, fun R k => by rw [spec_l1New, show (0 : Int) = ((0 : Nat) : Int) from rfl, ih]⟩
theorem spec_l1Byte_ok (N : Nat) (c : Dl1Cur) (hc : CurOk c) : ∃ r c', CurOk c' ∧ 0 ≤ r ∧ r ≤ 255 ∧ ∀ (R : Type) (k : Int → Dl1Cur → Option R), spec_l1Byte N c k = k r c' := by
  obtain ⟨h1, h2, h3⟩ := hc
  by_cases h : c.2.1 < (c.1.length : Int)
  · refine ⟨_, (c.1, w64 (c.2.1 + 1), w64 ((w64 (c.2.2 * 6364136223846793005)) + 1442695040888963407)), ⟨h1, ?_, ?_⟩, (and255 _).1, (and255 _).2, fun R k => by rw [spec_l1Byte]; simp only [dT h, cond_true]; rw [show idxE c.1.length c.2.1 = true from dT ⟨h2, h⟩, cond_true]⟩
    · show 0 ≤ w64 (c.2.1 + 1)
      rw [w64_id ⟨by omega, by omega⟩]; omega
    · show w64 (c.2.1 + 1) ≤ (c.1.length : Int)
      rw [w64_id ⟨by omega, by omega⟩]; omega
  · refine ⟨ibits .and .i64 (ibits .xor .i64 (ishr .i64 (w64 ((w64 (c.2.2 * 6364136223846793005)) + 1442695040888963407)) 33) (ishr .i64 (w64 ((w64 (c.2.2 * 6364136223846793005)) + 1442695040888963407)) 45)) 255, (c.1, c.2.1, w64 ((w64 (c.2.2 * 6364136223846793005)) + 1442695040888963407)), ⟨h1, h2, h3⟩, (and255 _).1, (and255 _).2, fun R k => by rw [spec_l1Byte]; simp only [dF h, cond_false]⟩
theorem spec_l1Below_ok (N : Nat) (c : Dl1Cur) (n : Int) (hc : CurOk c) : ∃ r c', CurOk c' ∧ 0 ≤ r ∧ (0 < n → r < n) ∧ (n ≤ 0 → r = 0) ∧ ∀ (R : Type) (k : Int → Dl1Cur → Option R), spec_l1Below N c n k = k r c' := by
  by_cases h0 : n ≤ 0
  · exact ⟨0, c, hc, Int.le_refl _, by omega, fun _ => rfl, fun R k => by rw [spec_l1Below, dT h0, cond_true]⟩
  have hne : ¬ n = 0 := by omega
  by_cases h1 : n ≤ 256
  · obtain ⟨r, c', k1, k2, k3, k4⟩ := spec_l1Byte_ok N c hc
    exact ⟨r.tmod n, c', k1, Int.tmod_nonneg _ k2, fun h => Int.tmod_lt_of_pos _ h, by omega, fun R k => by rw [spec_l1Below, dF h0, cond_false, dT h1, cond_true, k4, dF hne, Bool.not_false, cond_true]⟩
  · obtain ⟨r1, c1, a1, a2, a3, a4⟩ := spec_l1Byte_ok N c hc
    obtain ⟨r2, c2, b1, b2, b3, b4⟩ := spec_l1Byte_ok N c1 a1
    obtain ⟨r3, c3, d1, d2, d3, d4⟩ := spec_l1Byte_ok N c2 b1
    obtain ⟨r4, c4, e1, e2, e3, e4⟩ := spec_l1Byte_ok N c3 d1
    have hv : 0 ≤ (w64 ((w64 ((w64 ((w64 (r1 * 16777216)) + (w64 (r2 * 65536)))) + (w64 (r3 * 256)))) + r4)) := by
      rw [w64_id (n := r1 * 16777216) ⟨by omega, by omega⟩, w64_id (n := r2 * 65536) ⟨by omega, by omega⟩, w64_id (n := r3 * 256) ⟨by omega, by omega⟩, w64_id (n := r1 * 16777216 + r2 * 65536) ⟨by omega, by omega⟩,
        w64_id (n := r1 * 16777216 + r2 * 65536 + r3 * 256) ⟨by omega, by omega⟩, w64_id ⟨by omega, by omega⟩]
      omega
    exact ⟨_, c4, e1, Int.tmod_nonneg _ hv, fun h => Int.tmod_lt_of_pos _ h, by omega, fun R k => by rw [spec_l1Below, dF h0, cond_false, dF h1, cond_false, a4, b4, d4, e4, dF hne, Bool.not_false, cond_true]⟩
theorem spec_l1Bytes_l0_ok (N : Nat) (n_ : Int) (hn_ : n_ ≤ 1048576) : ∀ (m j n : Nat) (c : Dl1Cur) (xs : List Int), CurOk c → n_ ≤ j + m → m < n → xs.length ≤ j → j ≤ 1048576 →
    ∃ ys c', CurOk c' ∧ ys.length ≤ xs.length + m ∧ ∀ (R : Type) (x : List Int → List Int → Int → Int → Option R), spec_l1Bytes_l0 N n n_ j c.1 c.2.1 c.2.2 xs x = x ys c'.1 c'.2.1 c'.2.2
  | 0, j, n + 1, c, xs, hc, hm, _, hx, hj => ⟨xs, c, hc, by omega, fun R x => by rw [spec_l1Bytes_l0, dF (by omega), cond_false]⟩
  | m + 1, j, n + 1, c, xs, hc, hm, hn, hx, hj => by
    by_cases h : (j : Int) < n_
    · obtain ⟨r, c', k1, k2, k3, k4⟩ := spec_l1Byte_ok N c hc
      obtain ⟨ys, c2, q1, q2, q3⟩ := spec_l1Bytes_l0_ok N n_ hn_ m (j + 1) n c' (xs ++ [wu8 r]) k1 (by omega) (by omega) (by simp; omega) (by omega)
      exact ⟨ys, c2, q1, by simp at q2; omega, fun R x => by rw [spec_l1Bytes_l0, dT h, cond_true, show (c.1, c.2.1, c.2.2) = c from rfl, k4, dT (by omega), cond_true, w64_succ (by omega), q3]⟩
    · exact ⟨xs, c, hc, by omega, fun R x => by rw [spec_l1Bytes_l0, dF h, cond_false]⟩
theorem spec_l1Bytes_ok (N : Nat) (hN : BIG ≤ N) (c : Dl1Cur) (n : Int) (hc : CurOk c) (hn : n ≤ 1000000) : ∃ ys c', CurOk c' ∧ ys.length ≤ n.toNat ∧ ∀ (R : Type) (k : List Int → Dl1Cur → Option R), spec_l1Bytes N c n k = k ys c' := by
  obtain ⟨ys, c', q1, q2, q3⟩ := spec_l1Bytes_l0_ok N n (by omega) n.toNat 0 N c [] hc (by omega) (by have : BIG = 4611686018427387904 := rfl; omega) (by simp) (by omega)
  exact ⟨ys, c', q1, by simpa using q2, fun R k => by rw [spec_l1Bytes, show (0 : Int) = ((0 : Nat) : Int) from rfl, q3]⟩
theorem spec_l1PickInt_ok (N : Nat) (c : Dl1Cur) (l : List Int) (hc : CurOk c) (hl : l ≠ []) : ∃ r c', CurOk c' ∧ r ∈ l ∧ ∀ (R : Type) (k : Int → Dl1Cur → Option R), spec_l1PickInt N c l k = k r c' := by
  have hp : 0 < l.length := List.length_pos_iff.2 hl
  obtain ⟨r, c', k1, k2, k3, k4, k5⟩ := spec_l1Below_ok N c l.length hc
  have k3 := k3 (by omega)
  obtain ⟨i, rfl⟩ : ∃ i : Nat, r = i := ⟨r.toNat, by omega⟩
  have hi : i < l.length := by omega
  refine ⟨l.getD i 0, c', k1, ?_, fun R k => by rw [spec_l1PickInt, k5, idx_ok hi, cond_true, natOf]⟩
  rw [List.getD_eq_getElem?_getD, List.getElem?_eq_getElem hi]
  exact List.getElem_mem hi
theorem spec_l24Script_l0_ok (N : Nat) (n_ : Int) (hn_ : n_ ≤ 1000) : ∀ (m j n : Nat) (c : Dl1Cur) (xs : List Int), CurOk c → n_ ≤ j + m → m < n → xs.length ≤ j → j ≤ 1000 →
    ∃ ys c', CurOk c' ∧ ys.length ≤ xs.length + m ∧ ∀ (R : Type) (x : List Int → List Int → Int → Int → Option R), spec_l24Script_l0 N n n_ j c.1 c.2.1 c.2.2 xs x = x ys c'.1 c'.2.1 c'.2.2
  | 0, j, n + 1, c, xs, hc, hm, _, hx, hj => ⟨xs, c, hc, by omega, fun R x => by rw [spec_l24Script_l0, dF (by omega), cond_false]⟩
  | m + 1, j, n + 1, c, xs, hc, hm, hn, hx, hj => by
    by_cases h : (j : Int) < n_
    · obtain ⟨r, c', k1, k2, k4⟩ := spec_l1PickInt_ok N c [0, 1, 2, 5, 16, 17, (-1), 9223372036854775807, (-9223372036854775808)] hc (by simp)
      obtain ⟨ys, c2, q1, q2, q3⟩ := spec_l24Script_l0_ok N n_ hn_ m (j + 1) n c' (xs ++ [r]) k1 (by omega) (by omega) (by simp; omega) (by omega)
      exact ⟨ys, c2, q1, by simp at q2; omega, fun R x => by rw [spec_l24Script_l0, dT h, cond_true, show (c.1, c.2.1, c.2.2) = c from rfl, k4, dT (by omega), cond_true, w64_succ (by omega), q3]⟩
    · exact ⟨xs, c, hc, by omega, fun R x => by rw [spec_l24Script_l0, dF h, cond_false]⟩
theorem spec_l24Script_ok (N : Nat) (hN : BIG ≤ N) (c : Dl1Cur) (hc : CurOk c) : ∃ ys c', CurOk c' ∧ ys.length ≤ 7 ∧ ∀ (R : Type) (k : List Int → Dl1Cur → Option R), spec_l24Script N c k = k ys c' := by
  obtain ⟨r, c1, k1, k2, k3, k4, k5⟩ := spec_l1Below_ok N c 7 hc
  have k3 := k3 (by omega)
  obtain ⟨ys, c', q1, q2, q3⟩ := spec_l24Script_l0_ok N r (by omega) 7 0 N c1 [] k1 (by omega) (by have : BIG = 4611686018427387904 := rfl; omega) (by simp) (by omega)
  exact ⟨ys, c', q1, by simpa using q2, fun R k => by rw [spec_l24Script, k5, show (0 : Int) = ((0 : Nat) : Int) from rfl, q3]⟩
theorem spec_l24Bent_ok (N : Nat) (hN : BIG ≤ N) (c : Dl1Cur) (hc : CurOk c) : ∃ s c', CurOk c' ∧ s.2.1.length ≤ 7 ∧ s.1.size ≤ 10000 ∧ ∀ (R : Type) (k : DSink → Dl1Cur → Option R), spec_l24Bent N c k = k s c' := by
  obtain ⟨sc, c1, a1, a2, a3⟩ := spec_l24Script_ok N hN c hc
  obtain ⟨r, c2, b1, b2, b3, b4, b5⟩ := spec_l1Below_ok N c1 20 a1
  have b3 := b3 (by omega)
  obtain ⟨ys, c3, d1, d2, d3⟩ := spec_l1Bytes_ok N hN c2 r b1 (by omega)
  obtain ⟨q, c4, e1, e2, e3, e4, e5⟩ := spec_l1Below_ok N c3 14 d1
  have hw := fun (R : Type) (K : DSink → Option R) => spec_WriteAll_eq N hN (ByteArray.empty, sc, 0, 0) (ofBytes ys) (show sc.length ≤ 1048576 by omega) (by rw [ofBytes_size]; omega) K
  have hl : (waV (ByteArray.empty, sc, 0, 0) (ofBytes ys)).2.1.length ≤ 7 := by rw [waV_len]; exact a2
  have hz : (waV (ByteArray.empty, sc, 0, 0) (ofBytes ys)).1.size ≤ 10000 := by
    unfold waV; split
    · show (ByteArray.empty ++ ofBytes ys).size ≤ 10000
      rw [ByteArray.size_append, ofBytes_size]
      have : (ByteArray.empty).size = 0 := rfl
      omega
    · show (ByteArray.empty).size ≤ 10000
      decide
  obtain ⟨w, hweq⟩ : ∃ w, w = waV (ByteArray.empty, sc, 0, 0) (ofBytes ys) := ⟨_, rfl⟩
  rw [← hweq] at hl hz
  by_cases q0 : q = 0
  · obtain ⟨p, c5, f1, f2, f3⟩ := spec_l1PickInt_ok N c4 [(-1), 0, (w.2.1.length : Int), w64 ((w.2.1.length : Int) + 1)] e1 (by simp)
    exact ⟨(w.1, w.2.1, p, w.2.2.2), c5, f1, hl, hz, fun R k => by rw [spec_l24Bent, a3, b5, d3, hw, ← hweq, e5, dT q0, cond_true, f3]⟩
  by_cases q1 : q = 1
  · obtain ⟨p, c5, f1, f2, f3⟩ := spec_l1PickInt_ok N c4 [(-1), 0, 1000000, 1000001] e1 (by simp)
    exact ⟨(w.1, w.2.1, w.2.2.1, p), c5, f1, hl, hz, fun R k => by rw [spec_l24Bent, a3, b5, d3, hw, ← hweq, e5, dF q0, cond_false, dT q1, cond_true, f3]⟩
  by_cases q2 : q = 2
  · obtain ⟨p, c5, f1, f2, f3, f4, f5⟩ := spec_l1Below_ok N c4 12 e1
    have f3 := f3 (by omega)
    have hw2 : w64 (3990 + p) = 3990 + p := w64_id ⟨by omega, by omega⟩
    refine ⟨(ofBytes (List.replicate (3990 + p).toNat 0), w.2), c5, f1, hl, ?_, fun R k => by rw [spec_l24Bent, a3, b5, d3, hw, ← hweq, e5, dF q0, cond_false, dF q1, cond_false, dT q2, cond_true, f5, hw2, spec_l24Zeros, zeros_dec (by omega) (by omega), cond_true]⟩
    show (ofBytes (List.replicate (3990 + p).toNat 0)).size ≤ 10000
    rw [ofBytes_size, List.length_replicate]; omega
  · exact ⟨w, c4, e1, hl, hz, fun R k => by rw [spec_l24Bent, a3, b5, d3, hw, ← hweq, e5, dF q0, cond_false, dF q1, cond_false, dF q2, cond_false]⟩

/-! ### FnCalls -/
theorem xyz_loop (N : Nat) (n_ m : Int) (xs : List Int) : ∀ (d j n : Nat) (s : ByteArray), (40 - j : Nat) ≤ d → d < n → s.size ≤ j → j ≤ 40 → (j : Int) ≤ n_ ∨ j = 0 →
    ∃ s' : ByteArray, (∀ (R : Type) (x : Int → Int → ByteArray → List Int → Option R), laws_FnCalls_l0 N n n_ m s j xs x = x n_ m s' xs) ∧ (0 ≤ n_ → n_ ≤ 40 → (s'.size : Int) = s.size + (n_ - j))
  | 0, j, n + 1, s, hd, _, hs, hj, hjn => by
    have : ¬ (j : Int) < 40 := by omega
    by_cases c : (j : Int) < n_
    · exact ⟨s, fun R x => by rw [laws_FnCalls_l0, dT c, cond_true, dF this, cond_false], by omega⟩
    · exact ⟨s, fun R x => by rw [laws_FnCalls_l0, dF c, cond_false], by omega⟩
  | d + 1, j, n + 1, s, hd, hn, hs, hj, hjn => by
    by_cases c : (j : Int) < n_
    · by_cases c2 : (j : Int) < 40
      · have hm : (j : Int).tmod 3 = ((j % 3 : Nat) : Int) := by rw [Int.tmod_eq_emod_of_nonneg (by omega)]; omega
        have hw : w64 ((j : Int).tmod 3 + 1) = ((j % 3 + 1 : Nat) : Int) := by rw [hm, w64_succ (by omega)]
        have h3 : j % 3 < 3 := Nat.mod_lt _ (by decide)
        have e3 : (bs [120, 121, 122]).size = 3 := rfl
        have hsz : ((bs [120, 121, 122]).extract (j % 3) (j % 3 + 1)).size = 1 := by rw [size_extract (by rw [e3]; omega)]; omega
        obtain ⟨s', q1, q2⟩ := xyz_loop N n_ m xs d (j + 1) n (s ++ (bs [120, 121, 122]).extract (j % 3) (j % 3 + 1)) (by omega) (by omega) (by rw [ByteArray.size_append, hsz]; omega) (by omega) (by omega)
        refine ⟨s', fun R x => ?_, fun h h' => ?_⟩
        · rw [laws_FnCalls_l0, dT c, cond_true, dT c2, cond_true, hw, hm, natOf, natOf, e3, dT ⟨by omega, by omega, by omega⟩, cond_true, hsz, dT (by omega), cond_true, w64_succ (by omega), q1]
        · have := q2 h h'
          rw [ByteArray.size_append, hsz] at this
          omega
      · exact ⟨s, fun R x => by rw [laws_FnCalls_l0, dT c, cond_true, dF c2, cond_false], by omega⟩
    · exact ⟨s, fun R x => by rw [laws_FnCalls_l0, dF c, cond_false], by omega⟩
theorem calls_size {script : List Int} {s t : ByteArray} (h : s.size = t.size) : (waV (ByteArray.empty, script, 0, 0) s).2.2.2 = (waV (ByteArray.empty, script, 0, 0) t).2.2.2 := by
  have hf : FitsB (ByteArray.empty, script, 0, 0) s = FitsB (ByteArray.empty, script, 0, 0) t := by simp only [FitsB, h]
  unfold waV
  rw [hf]
  split
  · simp only [wall, wleft, h]
  · rfl
theorem pure_Calls (x : List Int) (h : Wf Try.prog (.sl 5 (.int .u8)) x) : ∃ N, ∀ {R : Type} (k : Bool → Option R), laws_FnCalls N x k = k true := by
  have hN := Nat.le_refl BIG
  refine ⟨BIG, fun {R} k => ?_⟩
  rw [laws_FnCalls, laws_big]
  by_cases hs : 1048576 < (x.length : Int)
  · rw [dT hs, cond_true]
  rw [dF hs, cond_false]
  obtain ⟨c, a1, a2⟩ := spec_l1New_ok BIG hN x (by omega)
  obtain ⟨sc, c1, b1, b2, b3⟩ := spec_l24Script_ok BIG hN c a1
  obtain ⟨n, c2, d1, d2, d3⟩ := spec_l1PickInt_ok BIG c1 [0, 1, 5, 16, 17, 40, 4000, 4001, (-1)] b1 (by simp)
  rw [spec_DrawCallsFor, a2, b3, d3, impl_CallsFor_eq BIG hN sc n (by omega), spec_CallsFor_eq BIG hN sc n (by omega), dT rfl, Bool.not_true, cond_false]
  by_cases n0 : n < 0
  · rw [dT n0, cond_true, cfV, if_neg (by omega)]; rfl
  by_cases n1 : 4000 < n
  · rw [dF n0, cond_false, dT n1, cond_true, cfV, if_neg (by omega)]; rfl
  rw [dF n0, cond_false, dF n1, cond_false]
  have e0 : (ByteArray.empty).size = 0 := rfl
  obtain ⟨s', q1, q2⟩ := xyz_loop BIG n (cfV sc n) sc 40 0 BIG ByteArray.empty (by omega) (by decide) (by decide) (by omega) (.inr rfl)
  rw [show (0 : Int) = ((0 : Nat) : Int) from rfl, q1]
  by_cases n2 : 40 < n
  · rw [dT n2, cond_true]
  rw [dF n2, cond_false, impl_WriteAll_eq BIG hN _ _ (show sc.length ≤ 1048576 by omega)]
  have q2 := q2 (by omega) (by omega)
  have hok : SinkOkB (ByteArray.empty, sc, 0, 0) = true := (SnOk_iff _).2 ⟨show (0 : Nat) ≤ 4000 by omega, show sc.length ≤ 200 by omega, Int.le_refl _, show (0 : Int) ≤ (sc.length : Int) by omega, Int.le_refl _, show (0 : Int) ≤ 1000000 by omega⟩
  congr 1
  refine dT ?_
  rw [cfV, if_pos ⟨hok, by omega, by omega⟩]
  refine calls_size ?_
  rw [ofBytes_size, List.length_replicate]; omega

/-! ### FnSink -/
theorem wcount_le (script : List Int) : ∀ (d sz : Nat) (nx c : Int), 0 ≤ nx → nx ≤ script.length → 0 ≤ c → c ≤ 1000000 → (wcount script d sz nx c).2 ≤ c + ((script.length : Int) - nx) + (sz + 15) / 16 ∧ c ≤ (wcount script d sz nx c).2 ∧ (wcount script d sz nx c).2 ≤ 1000000
  | 0, sz, nx, c, h0, h1, h2, h3 => by simp only [wcount]; omega
  | d + 1, sz, nx, c, h0, h1, h2, h3 => by
    have hb := wtake_bnd script sz nx
    simp only [wcount]
    split
    · omega
    · rename_i hs
      have hx : 0 ≤ wnext script nx ∧ wnext script nx ≤ script.length := by unfold wnext; omega
      have ih := wcount_le script d (sz - (wtake script sz nx).toNat) (wnext script nx) (min (c + 1) 1000000) hx.1 hx.2 (by omega) (by omega)
      by_cases hc : nx < (script.length : Int)
      · have : wnext script nx = nx + 1 := if_pos hc
        omega
      · have e1 : wnext script nx = nx := if_neg hc
        have e2 : wtake script sz nx = max (min (min 16 16) (sz : Int)) 0 := by rw [wtake, if_neg hc]
        omega
theorem pure_Sink (x : List Int) (h : Wf Try.prog (.sl 5 (.int .u8)) x) : ∃ N, ∀ {R : Type} (k : Bool → Option R), laws_FnSink N x k = k true := by
  have hN := Nat.le_refl BIG
  refine ⟨BIG, fun {R} k => ?_⟩
  rw [laws_FnSink, laws_big]
  by_cases hs : 1048576 < (x.length : Int)
  · rw [dT hs, cond_true]
  rw [dF hs, cond_false]
  obtain ⟨c, a1, a2⟩ := spec_l1New_ok BIG hN x (by omega)
  obtain ⟨s, c1, b1, b2, b4, b3⟩ := spec_l24Bent_ok BIG hN c a1
  obtain ⟨r, c2, d1, d2, d3, d4, d5⟩ := spec_l1Below_ok BIG c1 60 b1
  have d3 := d3 (by omega)
  obtain ⟨ys, c3, e1, e2, e3⟩ := spec_l1Bytes_ok BIG hN c2 r d1 (by omega)
  have hys : (ofBytes ys).size ≤ 60 := by rw [ofBytes_size]; omega
  rw [spec_DrawWriteAll, a2, b3, d5, e3]
  generalize ofBytes ys = t at hys
  simp only [impl_WriteAll_eq BIG hN s t (by omega), spec_WriteAll_eq BIG hN s t (by omega) (by omega), decide_true, Bool.not_true, cond_false, impl_SinkOk_eq, spec_SinkOk_eq, BEq.rfl]
  cases ho : SinkOkB s
  · have : waV s t = s := by rw [waV, if_neg (by simp only [FitsB, ho, Bool.false_and]; exact Bool.false_ne_true)]
    rw [Bool.not_false, cond_true, this, dT rfl, cond_true, dT rfl]
  · rw [Bool.not_true, cond_false, spec_over s t ho (by omega)]
    cases hf : FitsB s t
    · have : waV s t = s := by rw [waV, if_neg (by rw [hf]; exact Bool.false_ne_true)]
      rw [Bool.not_false, cond_true, this, dT rfl, cond_true, dT rfl]
    · have hw : waV s t = wall s t (wleft s t) := by rw [waV, if_pos hf]
      obtain ⟨hk, hsz⟩ := FitsB_iff hf
      obtain ⟨h1, h2, h3, h4, h5, h6⟩ := hk
      rw [Bool.not_true, cond_false, dT (by omega), cond_true, hw, dT (show (wall s t (wleft s t)).1 = s.1 ++ t from rfl), cond_true]
      have hc := wcount_le s.2.1 (wleft s t) t.size s.2.2.1 s.2.2.2 h3 h4 h5 h6
      have e0 : (wall s t (wleft s t)).2.2.2 = (wcount s.2.1 (wleft s t) t.size s.2.2.1 s.2.2.2).2 := rfl
      have et : ((t.size : Int)).tdiv 16 = (t.size : Int) / 16 := Int.tdiv_eq_ediv_of_nonneg (by omega)
      rw [e0, et, w64_id (n := (wcount s.2.1 (wleft s t) t.size s.2.2.1 s.2.2.2).2 - s.2.2.2) ⟨by omega, by omega⟩, w64_id (n := (s.2.1.length : Int) - s.2.2.1) ⟨by omega, by omega⟩, w64_id (n := (t.size : Int) / 16) ⟨by omega, by omega⟩,
        w64_id (n := (s.2.1.length : Int) - s.2.2.1 + (t.size : Int) / 16) ⟨by omega, by omega⟩, w64_id ⟨by omega, by omega⟩, dT (by omega)]

/-! ### FnWriteSome -/
theorem pure_WriteSomeL (x : List Int) (h : Wf Try.prog (.sl 5 (.int .u8)) x) : ∃ N, ∀ {R : Type} (k : Bool → Option R), laws_FnWriteSome N x k = k true := by
  have hN := Nat.le_refl BIG
  refine ⟨BIG, fun {R} k => ?_⟩
  rw [laws_FnWriteSome, laws_big]
  by_cases hs : 1048576 < (x.length : Int)
  · rw [dT hs, cond_true]
  rw [dF hs, cond_false]
  obtain ⟨c, a1, a2⟩ := spec_l1New_ok BIG hN x (by omega)
  obtain ⟨s, c1, b1, b2, b4, b3⟩ := spec_l24Bent_ok BIG hN c a1
  obtain ⟨r, c2, d1, d2, d3, d4, d5⟩ := spec_l1Below_ok BIG c1 24 b1
  have d3 := d3 (by omega)
  obtain ⟨ys, c3, e1, e2, e3⟩ := spec_l1Bytes_ok BIG hN c2 r d1 (by omega)
  have hys : (ofBytes ys).size ≤ 24 := by rw [ofBytes_size]; omega
  rw [spec_DrawWriteSome, a2, b3, d5, e3]
  generalize ofBytes ys = t at hys
  simp only [impl_WriteSome_eq BIG s t (by omega), spec_WriteSome_eq BIG s t (by omega) (by omega), decide_true, Bool.not_true, cond_false]
  have e0 : t.extract 0 0 = ByteArray.empty := by
    refine bempty ?_
    rw [size_extract (by omega)]
  by_cases hw : t = ByteArray.empty ∨ FitsB s t = false
  · have : wsV s t = (s, 0) := by rw [wsV, if_pos hw]
    rw [this]
    simp only
    rw [dF (by omega : ¬ (0 : Int) < 0), cond_false, dF (by omega : ¬ (16 : Int) < 0), cond_false, dF (by omega : ¬ (t.size : Int) < 0), cond_false, dT (by omega : (0 : Int) ≤ 0 ∧ (0 : Int) ≤ (t.size : Int)), cond_true, show (0 : Int).toNat = 0 from rfl, e0, show (ByteArray.empty).size = 0 from rfl,
      dT (by omega : s.1.size + 0 ≤ 1152921504606846976), cond_true, dT (append_empty s.1).symm, cond_true]
    simp only [decide_true, cond_true]
  · have : wsV s t = (wsink s t, wtake s.2.1 t.size s.2.2.1) := by rw [wsV, if_neg hw]
    rw [this]
    simp only
    have hf : FitsB s t = true := by
      cases hh : FitsB s t
      · exact absurd (.inr hh) hw
      · rfl
    obtain ⟨hk, hsz⟩ := FitsB_iff hf
    obtain ⟨h1, h2, h3, h4, h5, h6⟩ := hk
    have hb := wtake_bnd s.2.1 t.size s.2.2.1
    have hc : (wsink s t).2.2.2 = min (s.2.2.2 + 1) 1000000 := rfl
    rw [dF (by omega), cond_false, dF (by omega), cond_false, dF (by omega), cond_false, dT ⟨hb.1, hb.2.1⟩, cond_true, size_extract (by omega), dT (by omega), cond_true, dT (show (wsink s t).1 = s.1 ++ t.extract 0 (wtake s.2.1 t.size s.2.2.1).toNat from rfl), cond_true, hc, w64_id (n := s.2.2.2 + 1) ⟨by omega, by omega⟩]
    by_cases q : s.2.2.2 = 1000000
    · rw [dT (by omega : min (s.2.2.2 + 1) 1000000 = s.2.2.2), cond_true, dT q, cond_true]
      cases decide (wtake s.2.1 t.size s.2.2.1 = 0) <;> rfl
    · rw [dF (by omega : ¬ min (s.2.2.2 + 1) 1000000 = s.2.2.2), cond_false, dT (by omega : min (s.2.2.2 + 1) 1000000 = s.2.2.2 + 1)]
end Go.Proofs.YtecdmnmedipjmaaT
