/- FnExactSinkOk, FnExactReadsMost, FnExactHighWater, on the twins. -/
import Derived.Test.YtecdmnmedipjmaaAF0
namespace Go.Proofs.YtecdmnmedipjmaaT
open Go.Proofs Go.Proofs.YtecdmnmedipjmaaEv
set_option linter.unusedVariables false
variable {R : Type}

theorem spec_l1In_eq (N : Nat) (a b c : Int) (k : Bool → Option R) : spec_l1In N a b c k = k (decide (b ≤ a) && decide (a ≤ c)) := by
  rw [spec_l1In, kc k]; cases decide (b ≤ a) <;> rfl
theorem impl_within_eq (N : Nat) (a b c : Int) (k : Bool → Option R) : impl_within N a b c k = k (decide (b ≤ a) && decide (a ≤ c)) := by
  rw [impl_within, kc k]; cases decide (b ≤ a) <;> rfl
def SinkOkB (s : DSink) : Bool :=
  decide ((s.1.size : Int) ≤ 4000) && (decide ((s.2.1.length : Int) ≤ 200) && ((decide (0 ≤ s.2.2.1) && decide (s.2.2.1 ≤ (s.2.1.length : Int))) && (decide (0 ≤ s.2.2.2) && decide (s.2.2.2 ≤ 1000000))))
theorem spec_SinkOk_eq (N : Nat) (s : DSink) (k : Bool → Option R) : spec_SinkOk N s k = k (SinkOkB s) := by
  simp only [spec_SinkOk, spec_l1In_eq, kc k, Bool.cond_false_right]; rfl
theorem impl_SinkOk_eq (N : Nat) (s : DSink) (k : Bool → Option R) : impl_SinkOk N s k = k (SinkOkB s) := by
  simp only [impl_SinkOk, impl_within_eq, kc k, Bool.cond_false_right]; rfl

theorem pure_SinkOk (x : DlSink) (h : Wf Try.prog YlSink x) : ∃ N, ∀ {R : Type} (k : Bool → Option R), laws_FnExactSinkOk N x k = k true := by
  have hb := bnd_of (by kernel_rfl) h
  refine ⟨BIG, fun {R} k => ?_⟩
  obtain ⟨r, e, _, hf⟩ := laws_szSink_ok BIG (Nat.le_refl _) x 1048576 (by decide) (by decide) hb
  rw [laws_FnExactSinkOk, e]
  by_cases hr : r < 0
  · rw [decide_eq_true hr, cond_true]
  · have hf := len_of (hf (by omega))
    simp only [decide_eq_false hr, cond_false, laws_toSink_eq BIG (Nat.le_refl _) x _ hf, spec_SinkOk_eq, impl_SinkOk_eq, laws_eqSink_refl BIG (Nat.le_refl _) x _ hf, BEq.rfl, Bool.not_true]
theorem pure_ReadsMost (n : Int) (x : List DlRead) (h : Wf Try.prog (.int .i64) n) (h2 : Wf Try.prog (.sl 72 YlRead) x) : ∃ N, ∀ {R : Type} (k : Bool → Option R), laws_FnExactReadsMost N n x k = k true := by
  have hb := bnd_of (by kernel_rfl) h2
  refine ⟨BIG, fun {R} k => ?_⟩
  obtain ⟨r, e, _, hf⟩ := laws_szReadS_ok BIG (Nat.le_refl _) x 1048576 (by decide) (by decide) hb
  rw [laws_FnExactReadsMost, e]
  by_cases hr : r < 0
  · rw [decide_eq_true hr, cond_true]
  · have hf := len_of (hf (by omega))
    have hl : x.length ≤ 1048576 := hf.1
    have es : ∀ {R : Type} (k : Int → Option R), spec_ReadsMost BIG n x k = impl_ReadsMost BIG n x k := fun k => by
      simp only [spec_ReadsMost, impl_ReadsMost, spec_l1In_eq, impl_within_eq]
    obtain ⟨v, hv⟩ : ∃ v, ∀ {R : Type} (k : Int → Option R), impl_ReadsMost BIG n x k = k v := by
      cases hc : (decide (0 ≤ n) && decide (n ≤ 4000))
      · exact ⟨0, fun k => by simp only [impl_ReadsMost, impl_within_eq, hc, Bool.not_false, cond_true]⟩
      · exact ⟨_, fun k => by simp only [impl_ReadsMost, impl_within_eq, hc, Bool.not_true, cond_false]; rfl⟩
    simp only [decide_eq_false hr, cond_false, laws_toReadS_eq BIG (Nat.le_refl _) x _ hf, es, hv, laws_eqReadS_refl BIG (Nat.le_refl _) x _ hf, decide_true, Bool.not_true]

theorem spec_l1Max_eq (N : Nat) (a b : Int) (k : Int → Option R) : spec_l1Max N a b k = k (imax a b) := by
  rw [spec_l1Max, kc k]; congr 1
  simp only [imax]; by_cases h : b < a
  · rw [decide_eq_true h, cond_true]; split <;> omega
  · rw [decide_eq_false h, cond_false]; split <;> omega
theorem imax_comm (a b : Int) : imax a b = imax b a := by simp only [imax]; split <;> split <;> omega
/-- the greatest number of open messages, from a state on -/
def hwL : List DEvent → Int → Int → Int
  | [], _, m => m
  | e :: t, o, m =>
    if e.1 = 1 ∨ e.1 = 6 then hwL t (w64 (o + 1)) (imax m (w64 (o + 1)))
    else if e.1 = 7 ∨ e.1 = 8 then hwL t (imax (w64 (o - 1)) 0) (imax m (imax (w64 (o - 1)) 0))
    else hwL t o (imax m o)
theorem spec_HighWater_l0_eq (N : Nat) (a : List DEvent) (x : Int → Option R) (ha : a.length ≤ 1048576) : ∀ (l : List DEvent) (j n : Nat) (o m : Int), a.drop j = l → l.length < n →
    spec_HighWater_l0 N n a o m j x = x (hwL l o m)
  | [], j, n + 1, o, m, h, _ => by rw [spec_HighWater_l0, lt_no (drop_nil' h), cond_false, hwL]
  | e :: t, j, n + 1, o, m, h, hn => by
    obtain ⟨h1, h2, h3, _⟩ := drop_cons' h
    have ih := fun o m => spec_HighWater_l0_eq N a x ha t (j + 1) n o m h3 (by simpa using hn)
    simp only [spec_HighWater_l0, lt_ok h1, idx_ok h1, cond_true, natOf, h2, w64_succ (by omega : j < 9223372036854775807), spec_l1Max_eq, ih, hwL, imax_comm 0]
    by_cases c1 : e.1 = 1
    · simp [c1]
    by_cases c2 : e.1 = 6
    · simp [c2]
    by_cases c3 : e.1 = 7
    · simp [c3]
    by_cases c4 : e.1 = 8
    · simp [c4]
    simp [c1, c2, c3, c4]
theorem impl_HighWater_l0_eq (N : Nat) (a : List DEvent) (x : Int → Option R) (ha : a.length ≤ 1048576) : ∀ (l : List DEvent) (j n : Nat) (o m : Int), a.drop j = l → l.length < n →
    impl_HighWater_l0 N n o m a a.length j x = x (hwL l o m)
  | [], j, n + 1, o, m, h, _ => by rw [impl_HighWater_l0, lt_no (drop_nil' h), cond_false, hwL]
  | e :: t, j, n + 1, o, m, h, hn => by
    obtain ⟨h1, h2, h3, _⟩ := drop_cons' h
    have ih := fun o m => impl_HighWater_l0_eq N a x ha t (j + 1) n o m h3 (by simpa using hn)
    simp only [impl_HighWater_l0, lt_ok h1, idx_ok h1, cond_true, natOf, h2, w64_succ (by omega : j < 9223372036854775807), ih, hwL]
    by_cases c1 : e.1 = 1
    · simp [c1]
    by_cases c2 : e.1 = 6
    · simp [c2]
    by_cases c3 : e.1 = 7
    · simp [c3]
    by_cases c4 : e.1 = 8
    · simp [c4]
    simp [c1, c2, c3, c4]
theorem big_gt {n : Nat} (h : n ≤ 1048576) : n < BIG := by have : BIG = 4611686018427387904 := rfl; omega
theorem pure_HighWater (x : List DlEvent) (h : Wf Try.prog (.sl 75 YlEvent) x) : ∃ N, ∀ {R : Type} (k : Bool → Option R), laws_FnExactHighWater N x k = k true := by
  have hb := bnd_of (by kernel_rfl) h
  refine ⟨BIG, fun {R} k => ?_⟩
  obtain ⟨r, e, _, hf⟩ := laws_szEventS_ok BIG (Nat.le_refl _) x 1048576 (by decide) (by decide) hb
  rw [laws_FnExactHighWater, e]
  by_cases hr : r < 0
  · rw [decide_eq_true hr, cond_true]
  · have hf := len_of (hf (by omega))
    have hl : x.length ≤ 1048576 := hf.1
    have e1 : ∀ {R : Type} (k : Int → Option R), spec_HighWater BIG x k = k (hwL x 0 0) := fun k => by
      rw [spec_HighWater]; exact spec_HighWater_l0_eq BIG x _ hl x 0 BIG 0 0 rfl (big_gt hl)
    have e2 : ∀ {R : Type} (k : Int → Option R), impl_HighWater BIG x k = k (hwL x 0 0) := fun k => by
      rw [impl_HighWater]; exact impl_HighWater_l0_eq BIG x _ hl x 0 BIG 0 0 rfl (big_gt hl)
    simp only [decide_eq_false hr, cond_false, laws_toEventS_eq BIG (Nat.le_refl _) x _ hf, e1, e2, laws_eqEventS_refl BIG (Nat.le_refl _) x _ hf, decide_true, Bool.not_true]
end Go.Proofs.YtecdmnmedipjmaaT
