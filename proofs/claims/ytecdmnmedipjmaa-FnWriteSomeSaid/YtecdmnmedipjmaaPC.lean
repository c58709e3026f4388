/- FnExactWriteSome, FnExactWriteAll, on the twins. -/
import Derived.Test.YtecdmnmedipjmaaPB
namespace Go.Proofs.YtecdmnmedipjmaaT
open Go.Proofs Go.Proofs.YtecdmnmedipjmaaEv
set_option linter.unusedVariables false
set_option linter.unusedSimpArgs false
variable {R : Type}

theorem len_sink {k : DSink} (h : k.2.1.length ≤ 1048576) : Len YSink k := ⟨trivial, ⟨h, fun _ _ => trivial⟩, trivial, trivial⟩
theorem waV_len {k : DSink} {s : ByteArray} : (waV k s).2.1 = k.2.1 := by
  unfold waV; split <;> rfl
theorem wsV_len {k : DSink} {s : ByteArray} : (wsV k s).1.2.1 = k.2.1 := by
  unfold wsV; split <;> rfl
theorem pure_WriteSome (x : DlSink) (s : ByteArray) (h : Wf Try.prog YlSink x) (h2 : Wf Try.prog .str s) : ∃ N, ∀ {R : Type} (k : Bool → Option R), laws_FnExactWriteSome N x s k = k true := by
  have hb := bnd_of (by kernel_rfl) h
  refine ⟨BIG, fun {R} k => ?_⟩
  rw [laws_FnExactWriteSome]
  by_cases hs : 1048576 < (s.size : Int)
  · rw [dT hs, cond_true]
  obtain ⟨r, e, _, hf⟩ := laws_szSink_ok BIG (Nat.le_refl _) x 1048576 (by decide) (by decide) hb
  rw [dF hs, cond_false, e]
  by_cases hr : r < 0
  · rw [dT hr, cond_true]
  · have hf := len_of (hf (by omega))
    have hl : x.2.1.length ≤ 1048576 := hf.2.1.1
    have hv : Len YSink (wsV x s).1 := len_sink (by rw [wsV_len]; exact hl)
    obtain ⟨k1, o1, a1, a2, a3, a4⟩ := laws_markSink_ok BIG (Nat.le_refl _) x (len_sink hl) 1 (by decide) (by decide)
    obtain ⟨k2, o2, b1, b2, b3, b4⟩ := laws_markSink_ok BIG (Nat.le_refl _) (wsV x s).1 hv 1 (by decide) (by decide)
    simp only [dF hr, cond_false, laws_toSink_eq BIG (Nat.le_refl _) x _ hf, spec_WriteSome_eq BIG x s hl (by omega), impl_WriteSome_eq BIG x s hl, laws_eqSink_refl BIG (Nat.le_refl _) _ _ hv, laws_eqSink_refl BIG (Nat.le_refl _) x _ (len_sink hl),
      decide_true, Bool.not_true, a3, dF (by omega : ¬ k1 < 0), b3, b4, dF (by omega : ¬ k2 < 0)]
theorem pure_WriteAll (x : DlSink) (s : ByteArray) (h : Wf Try.prog YlSink x) (h2 : Wf Try.prog .str s) : ∃ N, ∀ {R : Type} (k : Bool → Option R), laws_FnExactWriteAll N x s k = k true := by
  have hb := bnd_of (by kernel_rfl) h
  refine ⟨BIG, fun {R} k => ?_⟩
  rw [laws_FnExactWriteAll]
  by_cases hs : 1048576 < (s.size : Int)
  · rw [dT hs, cond_true]
  obtain ⟨r, e, _, hf⟩ := laws_szSink_ok BIG (Nat.le_refl _) x 1048576 (by decide) (by decide) hb
  rw [dF hs, cond_false, e]
  by_cases hr : r < 0
  · rw [dT hr, cond_true]
  · have hf := len_of (hf (by omega))
    have hl : x.2.1.length ≤ 1048576 := hf.2.1.1
    have hv : Len YSink (waV x s) := len_sink (by rw [waV_len]; exact hl)
    obtain ⟨k1, o1, a1, a2, a3, a4⟩ := laws_markSink_ok BIG (Nat.le_refl _) x (len_sink hl) 1 (by decide) (by decide)
    obtain ⟨k2, o2, b1, b2, b3, b4⟩ := laws_markSink_ok BIG (Nat.le_refl _) (waV x s) hv 1 (by decide) (by decide)
    simp only [dF hr, cond_false, laws_toSink_eq BIG (Nat.le_refl _) x _ hf, spec_WriteAll_eq BIG (Nat.le_refl _) x s hl (by omega), impl_WriteAll_eq BIG (Nat.le_refl _) x s hl, laws_eqSink_refl BIG (Nat.le_refl _) _ _ hv, laws_eqSink_refl BIG (Nat.le_refl _) x _ (len_sink hl),
      decide_true, Bool.not_true, a3, dF (by omega : ¬ k1 < 0), b3, b4, dF (by omega : ¬ k2 < 0)]
end Go.Proofs.YtecdmnmedipjmaaT
