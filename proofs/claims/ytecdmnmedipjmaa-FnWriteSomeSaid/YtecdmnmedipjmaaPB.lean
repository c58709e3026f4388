/- The sink: what one write and all writes do, in the program and in the reference. -/
import Derived.Test.YtecdmnmedipjmaaPA
namespace Go.Proofs.YtecdmnmedipjmaaT
open Go.Proofs Go.Proofs.YtecdmnmedipjmaaEv
set_option linter.unusedVariables false
set_option linter.unusedSimpArgs false
variable {R : Type}

theorem imin_eq (x y : Int) : imin x y = min x y := by simp only [imin]; omega
theorem imax_eq (x y : Int) : imax x y = max x y := by simp only [imax]; omega
theorem spec_l1Min_eq (N : Nat) (a b : Int) (k : Int → Option R) : spec_l1Min N a b k = k (min a b) := by
  rw [spec_l1Min, kc k]; congr 1
  by_cases h : a < b
  · rw [decide_eq_true h, cond_true]; omega
  · rw [decide_eq_false h, cond_false]; omega
theorem spec_l1Max_eq' (N : Nat) (a b : Int) (k : Int → Option R) : spec_l1Max N a b k = k (max a b) := by
  rw [spec_l1Max_eq, imax_eq]
theorem size_extract {s : ByteArray} {a b : Nat} (h : b ≤ s.size) : (s.extract a b).size = b - a := by
  rw [ByteArray.size_extract, Nat.min_eq_left h]
theorem extract_split {s : ByteArray} {n : Nat} (h : n ≤ s.size) : s.extract 0 n ++ s.extract n s.size = s := by
  rw [ByteArray.extract_append_extract]
  simp
theorem bempty {s : ByteArray} (h : s.size = 0) : s = ByteArray.empty := by
  obtain ⟨⟨l⟩⟩ := s
  have : l = [] := List.eq_nil_of_length_eq_zero h
  subst this; rfl

/-- how many bytes a write takes -/
def wtake (script : List Int) (size : Nat) (next : Int) : Int :=
  max (min (min (if next < (script.length : Int) then script.getD next.toNat 0 else 16) 16) (size : Int)) 0
def wnext (script : List Int) (next : Int) : Int := if next < (script.length : Int) then next + 1 else next
theorem wtake_bnd (script : List Int) (size : Nat) (next : Int) : 0 ≤ wtake script size next ∧ wtake script size next ≤ size ∧ wtake script size next ≤ 16 := by
  unfold wtake; omega
/-- a sink after one write -/
def wsink (k : DSink) (s : ByteArray) : DSink :=
  (k.1 ++ s.extract 0 (wtake k.2.1 s.size k.2.2.1).toNat, k.2.1, wnext k.2.1 k.2.2.1, min (k.2.2.2 + 1) 1000000)

structure SnOk (k : DSink) : Prop where
  got : k.1.size ≤ 4000
  len : k.2.1.length ≤ 200
  n0 : 0 ≤ k.2.2.1
  n1 : k.2.2.1 ≤ k.2.1.length
  c0 : 0 ≤ k.2.2.2
  c1 : k.2.2.2 ≤ 1000000
theorem SnOk_iff (k : DSink) : SinkOkB k = true ↔ SnOk k := by
  simp only [SinkOkB, Bool.and_eq_true, decide_eq_true_eq]
  constructor
  · rintro ⟨h1, h2, ⟨h3, h4⟩, h5, h6⟩; exact ⟨by omega, by omega, h3, h4, h5, h6⟩
  · rintro ⟨h1, h2, h3, h4, h5, h6⟩; exact ⟨by omega, by omega, ⟨h3, h4⟩, h5, h6⟩

theorem write_dec {k : DSink} {s : ByteArray} (h : SnOk k) (hs : s.size ≤ 4000) {n : Int} (hn : 0 ≤ n ∧ n ≤ (s.size : Int)) :
    decide (k.1.size + (s.extract 0 n.toNat).size ≤ 1152921504606846976) = true := by
  refine dT ?_
  have := h.got
  rw [size_extract (by omega)]
  omega
theorem impl_write_eq (N : Nat) (k : DSink) (s : ByteArray) (h : SnOk k) (hs : s.size ≤ 4000) (K : Int → DSink → Option R) :
    impl_Sink_write N k s K = K (wtake k.2.1 s.size k.2.2.1) (wsink k s) := by
  have e2 : w64 (k.2.2.2 + 1) = k.2.2.2 + 1 := w64_id ⟨by have := h.c0; omega, by have := h.c1; omega⟩
  have e3 : w64 (k.2.2.1 + 1) = k.2.2.1 + 1 := w64_id ⟨by have := h.n0; omega, by have := h.n1; have := h.len; omega⟩
  have hb := wtake_bnd k.2.1 s.size k.2.2.1
  by_cases c : k.2.2.1 < (k.2.1.length : Int)
  · have hi : idxE k.2.1.length k.2.2.1 = true := dT ⟨h.n0, c⟩
    have et : max (min (min (k.2.1.getD k.2.2.1.toNat 0) 16) (s.size : Int)) 0 = wtake k.2.1 s.size k.2.2.1 := by rw [wtake, if_pos c]
    simp only [impl_Sink_write, dT c, cond_true, hi, imin_eq, imax_eq, et, e2, e3, dT (And.intro hb.1 hb.2.1), write_dec h hs ⟨hb.1, hb.2.1⟩, wsink, wnext, if_pos c]
  · have et : max (min 16 (s.size : Int)) 0 = wtake k.2.1 s.size k.2.2.1 := by rw [wtake, if_neg c]; omega
    simp only [impl_Sink_write, dF c, cond_false, cond_true, imin_eq, imax_eq, et, e2, dT (And.intro hb.1 hb.2.1), write_dec h hs ⟨hb.1, hb.2.1⟩, wsink, wnext, if_neg c]
theorem spec_some_eq (N : Nat) (k : DSink) (s : ByteArray) (h : SnOk k) (hs : s.size ≤ 4000) (K : DSink → Int → Option R) :
    spec_l24Some N k s K = K (wsink k s) (wtake k.2.1 s.size k.2.2.1) := by
  have e2 : w64 (k.2.2.2 + 1) = k.2.2.2 + 1 := w64_id ⟨by have := h.c0; omega, by have := h.c1; omega⟩
  have e3 : w64 (k.2.2.1 + 1) = k.2.2.1 + 1 := w64_id ⟨by have := h.n0; omega, by have := h.n1; have := h.len; omega⟩
  have e4 : min 1000000 (k.2.2.2 + 1) = min (k.2.2.2 + 1) 1000000 := by omega
  have hb := wtake_bnd k.2.1 s.size k.2.2.1
  by_cases c : k.2.2.1 < (k.2.1.length : Int)
  · have hi : idxE k.2.1.length k.2.2.1 = true := dT ⟨h.n0, c⟩
    have et : max 0 (min (k.2.1.getD k.2.2.1.toNat 0) (min 16 (s.size : Int))) = wtake k.2.1 s.size k.2.2.1 := by rw [wtake, if_pos c]; omega
    simp only [spec_l24Some, dT c, cond_true, hi, spec_l1Min_eq, spec_l1Max_eq', et, e2, e3, e4, dT (And.intro hb.1 hb.2.1), write_dec h hs ⟨hb.1, hb.2.1⟩, wsink, wnext, if_pos c]
  · have et : max 0 (min 16 (min 16 (s.size : Int))) = wtake k.2.1 s.size k.2.2.1 := by rw [wtake, if_neg c]; omega
    simp only [spec_l24Some, dF c, cond_false, cond_true, spec_l1Min_eq, spec_l1Max_eq', et, e2, e4, dT (And.intro hb.1 hb.2.1), write_dec h hs ⟨hb.1, hb.2.1⟩, wsink, wnext, if_neg c]

/-- place in the script and count after all writes of so many bytes -/
def wcount (script : List Int) : Nat → Nat → Int → Int → Int × Int
  | 0, _, nx, c => (nx, c)
  | d + 1, sz, nx, c => if sz = 0 then (nx, c) else wcount script d (sz - (wtake script sz nx).toNat) (wnext script nx) (min (c + 1) 1000000)

theorem wsink_ok {k : DSink} {s : ByteArray} (h : SnOk k) (hs : k.1.size + s.size ≤ 4000) : SnOk (wsink k s) ∧ (wsink k s).1.size + (s.size - (wtake k.2.1 s.size k.2.2.1).toNat) = k.1.size + s.size := by
  have hb := wtake_bnd k.2.1 s.size k.2.2.1
  obtain ⟨h1, h2, h3, h4, h5, h6⟩ := h
  have hsz : (wsink k s).1.size = k.1.size + (wtake k.2.1 s.size k.2.2.1).toNat := by
    simp only [wsink, ByteArray.size_append]
    rw [size_extract (by omega)]; omega
  refine ⟨⟨by omega, h2, ?_, ?_, ?_, ?_⟩, by omega⟩
  · show 0 ≤ wnext k.2.1 k.2.2.1
    unfold wnext; omega
  · show wnext k.2.1 k.2.2.1 ≤ k.2.1.length
    unfold wnext; omega
  · show 0 ≤ min (k.2.2.2 + 1) 1000000
    omega
  · show min (k.2.2.2 + 1) 1000000 ≤ 1000000
    omega

/-- all writes, with d more rounds than are needed -/
def wall (k : DSink) (s : ByteArray) (d : Nat) : DSink := (k.1 ++ s, k.2.1, (wcount k.2.1 d s.size k.2.2.1 k.2.2.2).1, (wcount k.2.1 d s.size k.2.2.1 k.2.2.2).2)
/-- the rounds that are left -/
def wleft (k : DSink) (s : ByteArray) : Nat := (k.2.1.length - k.2.2.1.toNat) + s.size
theorem append_empty (b : ByteArray) : b ++ ByteArray.empty = b := by simp
theorem wstep_left {k : DSink} {s : ByteArray} (h : SnOk k) (hs : s.size ≠ 0) :
    wleft (wsink k s) (s.extract (wtake k.2.1 s.size k.2.2.1).toNat s.size) < wleft k s := by
  have hb := wtake_bnd k.2.1 s.size k.2.2.1
  obtain ⟨h1, h2, h3, h4, h5, h6⟩ := h
  unfold wleft
  rw [size_extract (Nat.le_refl _)]
  show (k.2.1.length - (wnext k.2.1 k.2.2.1).toNat) + (s.size - (wtake k.2.1 s.size k.2.2.1).toNat) < _
  by_cases c : k.2.2.1 < (k.2.1.length : Int)
  · have : wnext k.2.1 k.2.2.1 = k.2.2.1 + 1 := if_pos c
    omega
  · have e1 : wnext k.2.1 k.2.2.1 = k.2.2.1 := if_neg c
    have e2 : wtake k.2.1 s.size k.2.2.1 = max (min (min 16 16) (s.size : Int)) 0 := by rw [wtake, if_neg c]
    omega
theorem wall_step {k : DSink} {s : ByteArray} (hs : s.size ≠ 0) (d : Nat) : wall k s (d + 1) = wall (wsink k s) (s.extract (wtake k.2.1 s.size k.2.2.1).toNat s.size) d := by
  have hb := wtake_bnd k.2.1 s.size k.2.2.1
  simp only [wall, wcount, if_neg hs]
  rw [size_extract (Nat.le_refl _)]
  simp only [wsink]
  rw [ByteArray.append_assoc, extract_split (by omega)]

theorem impl_loop_eq (N : Nat) : ∀ (d n : Nat) (k : DSink) (s b : ByteArray) (b1 b2 : Int) (x : ByteArray → Int → Int → ByteArray → Int → Int → List Int → Option R), SnOk k → k.1.size + s.size ≤ 4000 → wleft k s ≤ d → d < n →
    impl_WriteAll_l0 N n s b b1 b2 k.1 k.2.2.1 k.2.2.2 k.2.1 x = x b b1 b2 (wall k s d).1 (wall k s d).2.2.1 (wall k s d).2.2.2 k.2.1
  | d, 0, k, s, b, b1, b2, x, h, hs, hd, hn => absurd hn (Nat.not_lt_zero _)
  | d, n + 1, k, s, b, b1, b2, x, h, hs, hd, hn => by
    by_cases he : s.size = 0
    · have := bempty he
      subst this
      rw [impl_WriteAll_l0, dT rfl, Bool.not_true, cond_false]
      have : wall k ByteArray.empty d = k := by
        have e : wcount k.2.1 d (ByteArray.empty).size k.2.2.1 k.2.2.2 = (k.2.2.1, k.2.2.2) := by cases d <;> simp [wcount]
        simp only [wall, e, append_empty]
      rw [this]
    · have hne : ¬ s = ByteArray.empty := fun e => he (by rw [e]; rfl)
      have hb := wtake_bnd k.2.1 s.size k.2.2.1
      obtain ⟨d', rfl⟩ : ∃ d', d = d' + 1 := ⟨d - 1, by have : 0 < wleft k s := by unfold wleft; omega
                                                        omega⟩
      obtain ⟨k1, k2⟩ := wsink_ok h hs
      have hl := wstep_left h he
      rw [impl_WriteAll_l0, dF hne, Bool.not_false, cond_true, show (k.1, k.2.1, k.2.2.1, k.2.2.2) = k from rfl, impl_write_eq N k s h (by omega)]
      rw [dT (show 0 ≤ wtake k.2.1 s.size k.2.2.1 ∧ wtake k.2.1 s.size k.2.2.1 ≤ (s.size : Int) from ⟨hb.1, hb.2.1⟩), cond_true, wall_step he]
      exact impl_loop_eq N d' n (wsink k s) _ b b1 b2 x k1 (by rw [size_extract (Nat.le_refl _)]; omega) (by omega) (by omega)
theorem spec_loop_eq (N : Nat) : ∀ (d n : Nat) (k : DSink) (s b : ByteArray) (b1 b2 : Int) (x : ByteArray → Int → Int → ByteArray → Int → Int → List Int → Option R), SnOk k → k.1.size + s.size ≤ 4000 → wleft k s ≤ d → d < n →
    spec_WriteAll_l0 N n s b b1 b2 k.1 k.2.2.1 k.2.2.2 k.2.1 x = x b b1 b2 (wall k s d).1 (wall k s d).2.2.1 (wall k s d).2.2.2 k.2.1
  | d, 0, k, s, b, b1, b2, x, h, hs, hd, hn => absurd hn (Nat.not_lt_zero _)
  | d, n + 1, k, s, b, b1, b2, x, h, hs, hd, hn => by
    by_cases he : s.size = 0
    · have := bempty he
      subst this
      rw [spec_WriteAll_l0, dT rfl, Bool.not_true, cond_false]
      have : wall k ByteArray.empty d = k := by
        have e : wcount k.2.1 d (ByteArray.empty).size k.2.2.1 k.2.2.2 = (k.2.2.1, k.2.2.2) := by cases d <;> simp [wcount]
        simp only [wall, e, append_empty]
      rw [this]
    · have hne : ¬ s = ByteArray.empty := fun e => he (by rw [e]; rfl)
      have hb := wtake_bnd k.2.1 s.size k.2.2.1
      obtain ⟨d', rfl⟩ : ∃ d', d = d' + 1 := ⟨d - 1, by have : 0 < wleft k s := by unfold wleft; omega
                                                        omega⟩
      obtain ⟨k1, k2⟩ := wsink_ok h hs
      have hl := wstep_left h he
      rw [spec_WriteAll_l0, dF hne, Bool.not_false, cond_true, show (k.1, k.2.1, k.2.2.1, k.2.2.2) = k from rfl, spec_some_eq N k s h (by omega)]
      rw [dT (show 0 ≤ wtake k.2.1 s.size k.2.2.1 ∧ wtake k.2.1 s.size k.2.2.1 ≤ (s.size : Int) from ⟨hb.1, hb.2.1⟩), cond_true, wall_step he]
      exact spec_loop_eq N d' n (wsink k s) _ b b1 b2 x k1 (by rw [size_extract (Nat.le_refl _)]; omega) (by omega) (by omega)

theorem clone_int_eq (N : Nat) (s : List Int) (h : s.length ≤ 1048576) (k : List Int → Option R) : slices_Clone_int_int N s k = k s := by
  rw [slices_Clone_int_int, dT (by omega), cond_true]
theorem impl_copySink_eq (N : Nat) (s : DSink) (h : s.2.1.length ≤ 1048576) (k : DSink → Option R) : impl_copySink N s k = k s := by
  rw [impl_copySink, clone_int_eq N _ h]
theorem spec_l24Copy_eq (N : Nat) (s : DSink) (h : s.2.1.length ≤ 1048576) (k : DSink → Option R) : spec_l24Copy N s k = k s := by
  rw [spec_l24Copy, dT (by omega), cond_true]
/-- does a text fit into a sink? -/
def FitsB (k : DSink) (s : ByteArray) : Bool := SinkOkB k && decide (k.1.size + s.size ≤ 4000)
theorem impl_fits_eq (N : Nat) (k : DSink) (s : ByteArray) (K : Bool → Option R) : impl_Sink_fits N k s K = K (FitsB k s) := by
  rw [impl_Sink_fits, impl_SinkOk_eq]
  cases h : SinkOkB k
  · rw [cond_false]; simp only [FitsB, h, Bool.false_and]
  · have := (SnOk_iff k).1 h
    have := this.got
    rw [cond_true, w64_id ⟨by omega, by omega⟩]
    simp only [FitsB, h, Bool.true_and]
    congr 1
    exact decide_eq_decide.2 (by omega)
theorem spec_over (k : DSink) (s : ByteArray) (h : SinkOkB k = true) (hs : s.size ≤ 1048576) : decide (4000 < w64 ((k.1.size : Int) + (s.size : Int))) = !FitsB k s := by
  have := ((SnOk_iff k).1 h).got
  rw [w64_id ⟨by omega, by omega⟩]
  simp only [FitsB, h, Bool.true_and]
  by_cases c : k.1.size + s.size ≤ 4000
  · rw [dT c, dF (by omega)]; rfl
  · rw [dF c, dT (by omega)]; rfl

/-- WriteAll -/
def waV (k : DSink) (s : ByteArray) : DSink := if FitsB k s = true then wall k s (wleft k s) else k
theorem FitsB_iff {k : DSink} {s : ByteArray} (h : FitsB k s = true) : SnOk k ∧ k.1.size + s.size ≤ 4000 := by
  simp only [FitsB, Bool.and_eq_true, decide_eq_true_eq] at h
  exact ⟨(SnOk_iff k).1 h.1, h.2⟩
theorem impl_WriteAll_eq (N : Nat) (hN : BIG ≤ N) (k : DSink) (s : ByteArray) (hl : k.2.1.length ≤ 1048576) (K : DSink → Option R) : impl_WriteAll N k s K = K (waV k s) := by
  rw [impl_WriteAll, impl_copySink_eq N k hl, impl_fits_eq]
  cases h : FitsB k s
  · rw [Bool.not_false, cond_true, waV, if_neg (by rw [h]; exact Bool.false_ne_true)]
  · obtain ⟨h1, h2⟩ := FitsB_iff h
    rw [Bool.not_true, cond_false, waV, if_pos h]
    rw [impl_loop_eq N (wleft k s) N k s _ _ _ _ h1 h2 (Nat.le_refl _) (by have : BIG = 4611686018427387904 := rfl; unfold wleft; omega)]
    rfl
theorem spec_WriteAll_eq (N : Nat) (hN : BIG ≤ N) (k : DSink) (s : ByteArray) (hl : k.2.1.length ≤ 1048576) (hs : s.size ≤ 1048576) (K : DSink → Option R) : spec_WriteAll N k s K = K (waV k s) := by
  rw [spec_WriteAll, spec_l24Copy_eq N k hl, spec_SinkOk_eq]
  cases ho : SinkOkB k
  · rw [Bool.not_false, cond_true, waV, if_neg (by simp only [FitsB, ho, Bool.false_and]; exact Bool.false_ne_true)]
  · rw [Bool.not_true, cond_false, spec_over k s ho hs]
    cases h : FitsB k s
    · rw [Bool.not_false, cond_true, waV, if_neg (by rw [h]; exact Bool.false_ne_true)]
    · obtain ⟨h1, h2⟩ := FitsB_iff h
      rw [Bool.not_true, cond_false, waV, if_pos h]
      rw [spec_loop_eq N (wleft k s) N k s _ _ _ _ h1 h2 (Nat.le_refl _) (by have : BIG = 4611686018427387904 := rfl; unfold wleft; omega)]
      rfl
/-- WriteSome -/
def wsV (k : DSink) (s : ByteArray) : DSink × Int := if s = ByteArray.empty ∨ FitsB k s = false then (k, 0) else (wsink k s, wtake k.2.1 s.size k.2.2.1)
theorem impl_WriteSome_eq (N : Nat) (k : DSink) (s : ByteArray) (hl : k.2.1.length ≤ 1048576) (K : DSink → Int → Option R) : impl_WriteSome N k s K = K (wsV k s).1 (wsV k s).2 := by
  rw [impl_WriteSome, impl_copySink_eq N k hl]
  by_cases he : s = ByteArray.empty
  · rw [dT he, cond_true, wsV, if_pos (.inl he)]
  · rw [dF he, cond_false, impl_fits_eq]
    cases h : FitsB k s
    · rw [Bool.not_false, cond_true, wsV, if_pos (.inr h)]
    · obtain ⟨h1, h2⟩ := FitsB_iff h
      rw [Bool.not_true, cond_false, impl_write_eq N k s h1 (by omega), wsV, if_neg (by simp [he, h])]
theorem spec_WriteSome_eq (N : Nat) (k : DSink) (s : ByteArray) (hl : k.2.1.length ≤ 1048576) (hs : s.size ≤ 1048576) (K : DSink → Int → Option R) : spec_WriteSome N k s K = K (wsV k s).1 (wsV k s).2 := by
  rw [spec_WriteSome, spec_SinkOk_eq]
  simp only [spec_l24Copy_eq N k hl]
  cases ho : SinkOkB k
  · rw [Bool.not_false, cond_true, wsV, if_pos (.inr (by simp only [FitsB, ho, Bool.false_and]))]
  · rw [Bool.not_true, cond_false]
    by_cases he : s = ByteArray.empty
    · rw [dT he, cond_true, wsV, if_pos (.inl he)]
    · rw [dF he, cond_false, spec_over k s ho hs]
      cases h : FitsB k s
      · rw [Bool.not_false, cond_true, wsV, if_pos (.inr h)]
      · obtain ⟨h1, h2⟩ := FitsB_iff h
        rw [Bool.not_true, cond_false, spec_some_eq N k s h1 (by omega), wsV, if_neg (by simp [he, h])]
theorem zeros_dec {n : Int} (h : 0 ≤ n) (h2 : n ≤ 1048576) : decide (0 ≤ n ∧ n ≤ n ∧ n ≤ 4611686018427387904 ∧ (1 : Int) * n ≤ 140737488355328) = true := dT ⟨h, by omega, by omega, by omega⟩
/-- CallsFor -/
def cfV (script : List Int) (n : Int) : Int :=
  if SinkOkB (ByteArray.empty, script, 0, 0) = true ∧ 0 ≤ n ∧ n ≤ 4000 then (waV (ByteArray.empty, script, 0, 0) (ofBytes (List.replicate n.toNat 0))).2.2.2 else 0
theorem ofBytes_size (l : List Int) : (ofBytes l).size = l.length := by simp [ofBytes, ByteArray.size]
theorem impl_CallsFor_eq (N : Nat) (hN : BIG ≤ N) (script : List Int) (n : Int) (hl : script.length ≤ 1048576) (K : Int → Option R) : impl_CallsFor N script n K = K (cfV script n) := by
  rw [impl_CallsFor, impl_SinkOk_eq]
  cases ho : SinkOkB (ByteArray.empty, script, 0, 0)
  · rw [Bool.not_false, cond_true, cfV, if_neg (by simp [ho])]
  · rw [Bool.not_true, cond_false, impl_within_eq]
    by_cases hn : 0 ≤ n ∧ n ≤ 4000
    · rw [dT hn.1, dT hn.2, Bool.and_self, Bool.not_true, cond_false, zeros_dec hn.1 (by omega), cond_true, impl_WriteAll_eq N hN _ _ hl, cfV, if_pos ⟨ho, hn⟩]
    · have : (decide (0 ≤ n) && decide (n ≤ 4000)) = false := by rw [← Bool.decide_and]; exact dF hn
      rw [this, Bool.not_false, cond_true, cfV, if_neg (fun h => hn h.2)]
theorem spec_CallsFor_eq (N : Nat) (hN : BIG ≤ N) (script : List Int) (n : Int) (hl : script.length ≤ 1048576) (K : Int → Option R) : spec_CallsFor N script n K = K (cfV script n) := by
  rw [spec_CallsFor, spec_SinkOk_eq]
  cases ho : SinkOkB (ByteArray.empty, script, 0, 0)
  · rw [Bool.not_false, cond_true, cfV, if_neg (by simp [ho])]
  · rw [Bool.not_true, cond_false, spec_l1In_eq]
    by_cases hn : 0 ≤ n ∧ n ≤ 4000
    · rw [dT hn.1, dT hn.2, Bool.and_self, Bool.not_true, cond_false, spec_l24Zeros, zeros_dec hn.1 (by omega), cond_true, spec_WriteAll_eq N hN _ _ hl (by rw [ofBytes_size, List.length_replicate]; omega), cfV, if_pos ⟨ho, hn⟩]
    · have : (decide (0 ≤ n) && decide (n ≤ 4000)) = false := by rw [← Bool.decide_and]; exact dF hn
      rw [this, Bool.not_false, cond_true, cfV, if_neg (fun h => hn h.2)]
theorem pure_CallsFor (x : List Int) (n : Int) (h : Wf Try.prog (.sl 3 (.int .i64)) x) (h2 : Wf Try.prog (.int .i64) n) : ∃ N, ∀ {R : Type} (k : Bool → Option R), laws_FnExactCallsFor N x n k = k true := by
  have hb := bnd_of (by kernel_rfl) h
  refine ⟨BIG, fun {R} k => ?_⟩
  rw [laws_FnExactCallsFor]
  by_cases hr : 1048576 < (x.length : Int)
  · rw [dT hr, cond_true]
  · have hl : x.length ≤ 1048576 := by omega
    have hf : Len (.sl 3 (.int .i64)) x := ⟨hl, fun _ _ => trivial⟩
    simp only [dF hr, cond_false, laws_toIntS_eq BIG (Nat.le_refl _) x _ hf, spec_CallsFor_eq BIG (Nat.le_refl _) x n hl, impl_CallsFor_eq BIG (Nat.le_refl _) x n hl, laws_eqIntS_refl BIG (Nat.le_refl _) x _ hf, decide_true, Bool.not_true]
end Go.Proofs.YtecdmnmedipjmaaT
