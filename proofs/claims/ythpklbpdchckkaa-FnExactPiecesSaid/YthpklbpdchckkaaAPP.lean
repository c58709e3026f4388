/- Plain lemmas on the twins, and what the laws come to. -/
import Derived.Test.YthpklbpdchckkaaAPF0
namespace Go.Proofs.YthpklbpdchckkaaT
open Go.Proofs Go.Proofs.YthpklbpdchckkaaEv
set_option linter.unusedVariables false
set_option linter.unusedSimpArgs false
variable {R : Type}
--# in
theorem spec_l1In_eq (N : Nat) (a b c : Int) (k : Bool → Option R) : spec_l1In N a b c k = k (decide (b ≤ a) && decide (a ≤ c)) := by
  rw [spec_l1In, kc k]; cases decide (b ≤ a) <;> rfl
theorem impl_within_eq (N : Nat) (a b c : Int) (k : Bool → Option R) : impl_within N a b c k = k (decide (b ≤ a) && decide (a ≤ c)) := by
  rw [impl_within, kc k]; cases decide (b ≤ a) <;> rfl
theorem big_gt {n : Nat} (h : n ≤ 1048576) : n < BIG := by have : BIG = 4611686018427387904 := rfl; omega
--# ReaderOk
def ReaderOkB (r : DReader) : Bool :=
  decide ((r.1.size : Int) ≤ 4000) && ((decide (0 ≤ r.2.1) && decide (r.2.1 ≤ (r.1.size : Int))) && (decide ((r.2.2.1.length : Int) ≤ 200) && ((decide (0 ≤ r.2.2.2.1) && decide (r.2.2.2.1 ≤ (r.2.2.1.length : Int))) && (decide (r.2.2.2.2 = 0) || (decide (r.2.2.2.2 = 1) || decide (20 ≤ r.2.2.2.2))))))
theorem ReaderOk_iff (r : DReader) : ReaderOkB r = true ↔ (r.1.size : Int) ≤ 4000 ∧ (0 ≤ r.2.1 ∧ r.2.1 ≤ (r.1.size : Int)) ∧ (r.2.2.1.length : Int) ≤ 200 ∧ (0 ≤ r.2.2.2.1 ∧ r.2.2.2.1 ≤ (r.2.2.1.length : Int)) ∧ (r.2.2.2.2 = 0 ∨ r.2.2.2.2 = 1 ∨ 20 ≤ r.2.2.2.2) := by
  simp only [ReaderOkB, Bool.and_eq_true, Bool.or_eq_true, decide_eq_true_eq]
theorem impl_ReaderOk_eq (N : Nat) (r : DReader) (k : Bool → Option R) : impl_ReaderOk N r k = k (ReaderOkB r) := by
  simp only [impl_ReaderOk, impl_within_eq, kc k, Bool.cond_false_right, Bool.cond_true_left]; rfl
theorem spec_ReaderOk_eq (N : Nat) (r : DReader) (k : Bool → Option R) : spec_ReaderOk N r k = k (ReaderOkB r) := by
  have h1 : decide (4000 < (r.1.size : Int)) = !decide ((r.1.size : Int) ≤ 4000) := by
    by_cases c : (r.1.size : Int) ≤ 4000
    · rw [dT c, dF (by omega)]; rfl
    · rw [dF c, dT (by omega)]; rfl
  have h2 : decide (200 < (r.2.2.1.length : Int)) = !decide ((r.2.2.1.length : Int) ≤ 200) := by
    by_cases c : (r.2.2.1.length : Int) ≤ 200
    · rw [dT c, dF (by omega)]; rfl
    · rw [dF c, dT (by omega)]; rfl
  simp only [spec_ReaderOk, spec_l1In_eq, h1, h2, Bool.cond_not, kc k, Bool.cond_false_right, Bool.cond_true_left]; rfl
--# ReadSome
def rdE (r : DReader) (room : Int) : DRead := if r.2.2.2.1 < (r.2.2.1.length : Int) then r.2.2.1.getD r.2.2.2.1.toNat YRead.z else (room, 1)
def rdN (r : DReader) (room : Int) : Int := max (min (min (rdE r room).1 room) ((r.1.size : Int) - r.2.1)) 0
def rdC (r : DReader) (room : Int) : Int := if 20 ≤ (rdE r room).2 then (rdE r room).2 else if (rdE r room).2 = 1 ∧ r.2.1 + rdN r room = (r.1.size : Int) then 1 else 0
def rdR (r : DReader) (room : Int) : DReader := (r.1, r.2.1 + rdN r room, r.2.2.1, if r.2.2.2.1 < (r.2.2.1.length : Int) then r.2.2.2.1 + 1 else r.2.2.2.1, rdC r room)
def rdV (r : DReader) (room : Int) : DReader × ByteArray × Int :=
  if ReaderOkB r = true ∧ 1 ≤ room then
    if r.2.2.2.2 = 0 then (rdR r room, r.1.extract r.2.1.toNat (r.2.1 + rdN r room).toNat, rdC r room) else (r, ByteArray.empty, r.2.2.2.2)
  else (r, ByteArray.empty, 1)
theorem rdN_bnd (r : DReader) (room : Int) (h : r.2.1 ≤ (r.1.size : Int)) : 0 ≤ rdN r room ∧ rdN r room ≤ (r.1.size : Int) - r.2.1 := by
  unfold rdN; omega
theorem l1Min_eq (N : Nat) (a b : Int) (k : Int → Option R) : spec_l1Min N a b k = k (min a b) := by
  rw [spec_l1Min, kc k]; congr 1
  by_cases c : a < b
  · rw [dT c, cond_true]; omega
  · rw [dF c, cond_false]; omega
theorem l1Max_eq (N : Nat) (a b : Int) (k : Int → Option R) : spec_l1Max N a b k = k (max a b) := by
  rw [spec_l1Max, kc k]; congr 1
  by_cases c : b < a
  · rw [dT c, cond_true]; omega
  · rw [dF c, cond_false]; omega
theorem imin_min (a b : Int) : imin a b = min a b := by unfold imin; split <;> omega
theorem imax_max (a b : Int) : imax a b = max a b := by unfold imax; split <;> omega
theorem spec_ReadSome_eq (N : Nat) (r : DReader) (room : Int) (hl : r.2.2.1.length ≤ 1048576) (hr : room ≤ 1000000) (k : DReader → ByteArray → Int → Option R) : spec_ReadSome N r room k = k (rdV r room).1 (rdV r room).2.1 (rdV r room).2.2 := by
  rw [spec_ReadSome, spec_l19Copy, dT (by omega : (0 + r.2.2.1.length) * 16 ≤ 140737488355328), cond_true, spec_ReaderOk_eq]
  cases ho : ReaderOkB r
  · rw [Bool.not_false, cond_true, rdV, if_neg (by rw [ho]; rintro ⟨h, _⟩; cases h)]
  rw [Bool.not_true, cond_false]
  by_cases h1 : room < 1
  · rw [dT h1, cond_true, rdV, if_neg (by omega)]
  rw [dF h1, cond_false, rdV, if_pos ⟨ho, by omega⟩]
  by_cases h2 : r.2.2.2.2 = 0
  rotate_left
  · rw [dF h2, Bool.not_false, cond_true, if_neg h2]
  rw [dT h2, Bool.not_true, cond_false, if_pos h2]
  obtain ⟨o1, ⟨o2, o3⟩, o4, ⟨o5, o6⟩, _⟩ := (ReaderOk_iff r).1 ho
  have hb := rdN_bnd r room o3
  have w1 : w64 ((r.1.size : Int) - r.2.1) = (r.1.size : Int) - r.2.1 := w64_id ⟨by omega, by omega⟩
  have w2 : w64 (r.2.1 + rdN r room) = r.2.1 + rdN r room := w64_id ⟨by omega, by omega⟩
  have w3 : w64 (r.2.2.2.1 + 1) = r.2.2.2.1 + 1 := w64_id ⟨by omega, by omega⟩
  have hd : decide (0 ≤ r.2.1 ∧ r.2.1 ≤ r.2.1 + rdN r room ∧ r.2.1 + rdN r room ≤ (r.1.size : Int)) = true := dT ⟨o2, by omega, by omega⟩
  by_cases h3 : r.2.2.2.1 < (r.2.2.1.length : Int)
  · have hE : rdE r room = r.2.2.1.getD r.2.2.2.1.toNat YRead.z := if_pos h3
    have hn : max 0 (min (rdE r room).1 (min room ((r.1.size : Int) - r.2.1))) = rdN r room := by unfold rdN; omega
    simp only [dT h3, cond_true, show idxE r.2.2.1.length r.2.2.2.1 = true from dT ⟨o5, h3⟩, l1Min_eq, l1Max_eq, w1, hn, w2, w3, hd, rdR, rdC, ← hE, if_pos h3]
    by_cases h4 : 20 ≤ (rdE r room).2
    · simp only [dT h4, cond_true, if_pos h4]
    · simp only [dF h4, cond_false, if_neg h4]
      by_cases h5 : (rdE r room).2 = 1
      · simp only [dT h5, cond_true, h5, true_and]
        by_cases h6 : r.2.1 + rdN r room = (r.1.size : Int)
        · simp only [h6, decide_true, cond_true, if_true]
        · simp only [h6, decide_true, cond_true, decide_false, cond_false, if_false, h2]
      · simp only [h5, decide_false, cond_false, false_and, if_false, h2]
  · have hE : rdE r room = (room, 1) := if_neg h3
    have hn : max 0 (min room (min room ((r.1.size : Int) - r.2.1))) = rdN r room := by unfold rdN; rw [hE]; omega
    simp only [dF h3, cond_false, l1Min_eq, l1Max_eq, w1, hn, w2, hd, cond_true, rdR, rdC, hE, if_neg h3]
    rw [if_neg (by omega : ¬ (20 : Int) ≤ 1)]
    by_cases h6 : r.2.1 + rdN r room = (r.1.size : Int)
    · simp only [h6, decide_true, cond_true, and_self, if_true]
    · simp only [h6, decide_false, cond_false, and_false, if_false, h2]
      rw [show r.2.2 = (r.2.2.1, r.2.2.2.1, (0 : Int)) from Prod.ext rfl (Prod.ext rfl h2)]
--# ReaderL
theorem rdC_ok (r : DReader) (room : Int) : rdC r room = 0 ∨ rdC r room = 1 ∨ 20 ≤ rdC r room := by
  unfold rdC; split
  · rename_i h; exact .inr (.inr h)
  · split
    · exact .inr (.inl rfl)
    · exact .inl rfl
theorem rdR_ok {r : DReader} {room : Int} (h : ReaderOkB r = true) : ReaderOkB (rdR r room) = true := by
  obtain ⟨o1, ⟨o2, o3⟩, o4, ⟨o5, o6⟩, _⟩ := (ReaderOk_iff r).1 h
  have hb := rdN_bnd r room o3
  refine (ReaderOk_iff _).2 ⟨o1, ⟨show 0 ≤ r.2.1 + rdN r room by omega, show r.2.1 + rdN r room ≤ (r.1.size : Int) by omega⟩, o4, ?_, rdC_ok r room⟩
  show 0 ≤ (if r.2.2.2.1 < (r.2.2.1.length : Int) then r.2.2.2.1 + 1 else r.2.2.2.1) ∧ (if r.2.2.2.1 < (r.2.2.1.length : Int) then r.2.2.2.1 + 1 else r.2.2.2.1) ≤ (r.2.2.1.length : Int)
  split <;> omega
/-- how many reads there are at most -/
def rdM (r : DReader) : Nat := ((r.2.2.1.length : Int) - r.2.2.2.1).toNat + ((r.1.size : Int) - r.2.1).toNat
theorem rdM_less {r : DReader} {room : Int} (h : ReaderOkB r = true) (hr : 1 ≤ room) (hc : rdC r room = 0) : rdM (rdR r room) < rdM r := by
  obtain ⟨o1, ⟨o2, o3⟩, o4, ⟨o5, o6⟩, _⟩ := (ReaderOk_iff r).1 h
  have hb := rdN_bnd r room o3
  show ((r.2.2.1.length : Int) - (if r.2.2.2.1 < (r.2.2.1.length : Int) then r.2.2.2.1 + 1 else r.2.2.2.1)).toNat + ((r.1.size : Int) - (r.2.1 + rdN r room)).toNat < ((r.2.2.1.length : Int) - r.2.2.2.1).toNat + ((r.1.size : Int) - r.2.1).toNat
  by_cases h3 : r.2.2.2.1 < (r.2.2.1.length : Int)
  · rw [if_pos h3]; omega
  · rw [if_neg h3]
    have hE : rdE r room = (room, 1) := if_neg h3
    have hn : rdN r room = max (min (min room room) ((r.1.size : Int) - r.2.1)) 0 := by unfold rdN; rw [hE]
    unfold rdC at hc
    rw [hE, if_neg (show ¬ (20 : Int) ≤ 1 by omega)] at hc
    by_cases h6 : r.2.1 + rdN r room = (r.1.size : Int)
    · rw [if_pos ⟨rfl, h6⟩] at hc; cases hc
    · omega
/-- all that is read, and the code at the end -/
def rdAll (room : Int) : Nat → DReader → List ByteArray → Int × List ByteArray
  | 0, _, acc => (0, acc)
  | d + 1, r, acc => if (rdV r room).2.2 = 0 then rdAll room d (rdV r room).1 (acc ++ [(rdV r room).2.1]) else ((rdV r room).2.2, acc ++ [(rdV r room).2.1])
theorem rdAll_len (room : Int) : ∀ (d : Nat) (r : DReader) (acc : List ByteArray), (rdAll room d r acc).2.length ≤ acc.length + d
  | 0, _, _ => Nat.le_refl _
  | d + 1, r, acc => by
    rw [rdAll]; split
    · refine Nat.le_trans (rdAll_len room d _ _) ?_
      rw [List.length_append, List.length_singleton]; omega
    · simp only [List.length_append, List.length_singleton]; omega
theorem rdV_next {r : DReader} {room : Int} (h : ReaderOkB r = true) (hr : 1 ≤ room) (hc : (rdV r room).2.2 = 0) : (rdV r room).1 = rdR r room ∧ rdC r room = 0 := by
  unfold rdV at hc ⊢
  rw [if_pos ⟨h, hr⟩] at hc ⊢
  by_cases h2 : r.2.2.2.2 = 0
  · rw [if_pos h2] at hc ⊢; exact ⟨rfl, hc⟩
  · rw [if_neg h2] at hc; exact absurd hc h2
--# specReadAll
theorem spec_ReadAll_l0_eq (N : Nat) (room : Int) (h1 : 1 ≤ room) (h2 : room ≤ 1000000) (x : Int → List ByteArray → Option R) : ∀ (d n : Nat) (r : DReader) (acc : List ByteArray), ReaderOkB r = true → rdM r < d → d ≤ n → acc.length + d ≤ 1000000 →
    spec_ReadAll_l0 N n room r.1 r.2.1 r.2.2.2.1 r.2.2.2.2 r.2.2.1 acc x = x (rdAll room d r acc).1 (rdAll room d r acc).2
  | d + 1, n + 1, r, acc, ho, hm, hn, ha => by
    have hl : r.2.2.1.length ≤ 1048576 := by have := ((ReaderOk_iff r).1 ho).2.2.1; omega
    rw [spec_ReadAll_l0, spec_ReadSome_eq N r room hl h2, dT (by omega : (acc.length + 1) * 16 ≤ 140737488355328), cond_true, rdAll]
    by_cases c : (rdV r room).2.2 = 0
    · obtain ⟨e1, e2⟩ := rdV_next ho h1 c
      have hm2 := rdM_less ho h1 e2
      rw [dT c, Bool.not_true, cond_false, if_pos c, e1, spec_ReadAll_l0_eq N room h1 h2 x d n (rdR r room) _ (rdR_ok ho) (by omega) (by omega) (by rw [List.length_append, List.length_singleton]; omega)]
    · rw [dF c, Bool.not_false, cond_true, if_neg c]
--# clone_Read
theorem clone_Read_eq (N : Nat) (xs : List DRead) (h : xs.length ≤ 1048576) (k : List DRead → Option R) : slices_Clone_impl_Read_impl_Read N xs k = k xs := by
  rw [slices_Clone_impl_Read_impl_Read, dT (by omega), cond_true]
--# implReadAll
theorem impl_copyReader_eq (N : Nat) (r : DReader) (h : r.2.2.1.length ≤ 1048576) (k : DReader → Option R) : impl_copyReader N r k = k r := by
  rw [impl_copyReader, clone_Read_eq N r.2.2.1 h]
theorem impl_ReadSome_eq (N : Nat) (r : DReader) (room : Int) (hl : r.2.2.1.length ≤ 1048576) (hr : room ≤ 1000000) (k : DReader → ByteArray → Int → Option R) : impl_ReadSome N r room k = k (rdV r room).1 (rdV r room).2.1 (rdV r room).2.2 := by
  rw [impl_ReadSome, impl_copyReader_eq N r hl, impl_ReaderOk_eq]
  cases ho : ReaderOkB r
  · rw [Bool.not_false, cond_true, rdV, if_neg (by rw [ho]; rintro ⟨h, _⟩; cases h)]
  rw [Bool.not_true, cond_false]
  by_cases h1 : room < 1
  · rw [dT h1, cond_true, rdV, if_neg (by omega)]
  rw [dF h1, cond_false, rdV, if_pos ⟨ho, by omega⟩]
  by_cases h2 : r.2.2.2.2 = 0
  rotate_left
  · rw [dF h2, Bool.not_false, cond_true, if_neg h2]
  rw [dT h2, Bool.not_true, cond_false, if_pos h2]
  obtain ⟨o1, ⟨o2, o3⟩, o4, ⟨o5, o6⟩, _⟩ := (ReaderOk_iff r).1 ho
  have hb := rdN_bnd r room o3
  have w1 : w64 ((r.1.size : Int) - r.2.1) = (r.1.size : Int) - r.2.1 := w64_id ⟨by omega, by omega⟩
  have w2 : w64 (r.2.1 + rdN r room) = r.2.1 + rdN r room := w64_id ⟨by omega, by omega⟩
  have w3 : w64 (r.2.2.2.1 + 1) = r.2.2.2.1 + 1 := w64_id ⟨by omega, by omega⟩
  have hd : decide (0 ≤ r.2.1 ∧ r.2.1 ≤ r.2.1 + rdN r room ∧ r.2.1 + rdN r room ≤ (r.1.size : Int)) = true := dT ⟨o2, by omega, by omega⟩
  by_cases h3 : r.2.2.2.1 < (r.2.2.1.length : Int)
  · have hE : rdE r room = r.2.2.1.getD r.2.2.2.1.toNat YRead.z := if_pos h3
    have hn : max (min (min (rdE r room).1 room) ((r.1.size : Int) - r.2.1)) 0 = rdN r room := rfl
    simp only [dT h3, cond_true, show idxE r.2.2.1.length r.2.2.2.1 = true from dT ⟨o5, h3⟩, imin_min, imax_max, w1, hn, w2, w3, hd, rdR, rdC, ← hE, if_pos h3]
    by_cases h4 : 20 ≤ (rdE r room).2
    · simp only [dT h4, cond_true, if_pos h4]
    · simp only [dF h4, cond_false, if_neg h4]
      by_cases h5 : (rdE r room).2 = 1
      · simp only [dT h5, cond_true, h5, true_and]
        by_cases h6 : r.2.1 + rdN r room = (r.1.size : Int)
        · simp only [h6, decide_true, cond_true, if_true]
        · simp only [h6, decide_true, cond_true, decide_false, cond_false, if_false, h2]
      · simp only [h5, decide_false, cond_false, false_and, if_false, h2]
  · have hE : rdE r room = (room, 1) := if_neg h3
    have hn : max (min (min room room) ((r.1.size : Int) - r.2.1)) 0 = rdN r room := by unfold rdN; rw [hE]
    simp only [dF h3, cond_false, imin_min, imax_max, w1, hn, w2, hd, cond_true, rdR, rdC, hE, if_neg h3]
    rw [if_neg (by omega : ¬ (20 : Int) ≤ 1)]
    by_cases h6 : r.2.1 + rdN r room = (r.1.size : Int)
    · simp only [h6, decide_true, cond_true, and_self, if_true]
    · simp only [h6, decide_false, cond_false, and_false, if_false, h2]
      rw [show r.2.2 = (r.2.2.1, r.2.2.2.1, (0 : Int)) from Prod.ext rfl (Prod.ext rfl h2)]
theorem impl_ReadAll_l0_eq (N : Nat) (room : Int) (h1 : 1 ≤ room) (h2 : room ≤ 1000000) (x : Int → List ByteArray → Option R) : ∀ (d n : Nat) (r : DReader) (acc : List ByteArray), ReaderOkB r = true → rdM r < d → d ≤ n → acc.length + d ≤ 1000000 →
    impl_ReadAll_l0 N n room r.1 r.2.1 r.2.2.2.1 r.2.2.2.2 r.2.2.1 acc x = x (rdAll room d r acc).1 (rdAll room d r acc).2
  | d + 1, n + 1, r, acc, ho, hm, hn, ha => by
    have hl : r.2.2.1.length ≤ 1048576 := by have := ((ReaderOk_iff r).1 ho).2.2.1; omega
    rw [impl_ReadAll_l0, impl_ReadSome_eq N r room hl h2, dT (by omega : (acc.length + 1) * 16 ≤ 140737488355328), cond_true, rdAll]
    by_cases c : (rdV r room).2.2 = 0
    · obtain ⟨e1, e2⟩ := rdV_next ho h1 c
      have hm2 := rdM_less ho h1 e2
      rw [dT c, Bool.not_true, cond_false, if_pos c, e1, impl_ReadAll_l0_eq N room h1 h2 x d n (rdR r room) _ (rdR_ok ho) (by omega) (by omega) (by rw [List.length_append, List.length_singleton]; omega)]
    · rw [dF c, Bool.not_false, cond_true, if_neg c]
--# law_Pieces
def rdA (r : DReader) (room : Int) : Int × List ByteArray := rdAll room 10000 r []
theorem rdA_spec (N : Nat) (hN : BIG ≤ N) (r : DReader) (room : Int) (h1 : 1 ≤ room) (h2 : room ≤ 1000000) (ho : ReaderOkB r = true) (k : List ByteArray → Int → Option R) : spec_ReadAll N r room k = k (rdA r room).2 (rdA r room).1 := by
  obtain ⟨o1, ⟨o2, o3⟩, o4, ⟨o5, o6⟩, _⟩ := (ReaderOk_iff r).1 ho
  have hm : rdM r < 9999 := by unfold rdM; omega
  have hl : r.2.2.1.length ≤ 1048576 := by omega
  rw [spec_ReadAll, spec_ReaderOk_eq, ho, Bool.not_true, cond_false, dF (by omega : ¬ room < 1), cond_false, spec_ReadSome_eq N r room hl h2, rdA, rdAll]
  by_cases c : (rdV r room).2.2 = 0
  · obtain ⟨e1, e2⟩ := rdV_next ho h1 c
    have hm2 := rdM_less ho h1 e2
    rw [dT c, Bool.not_true, cond_false, if_pos c, e1, spec_ReadAll_l0_eq N room h1 h2 _ 9999 N (rdR r room) _ (rdR_ok ho) (by omega) (by have : BIG = 4611686018427387904 := rfl; omega) (by simp)]; rfl
  · rw [dF c, Bool.not_false, cond_true, if_neg c]; rfl
theorem rdA_impl (N : Nat) (hN : BIG ≤ N) (r : DReader) (room : Int) (h1 : 1 ≤ room) (h2 : room ≤ 1000000) (ho : ReaderOkB r = true) (k : List ByteArray → Int → Option R) : impl_ReadAll N r room k = k (rdA r room).2 (rdA r room).1 := by
  obtain ⟨o1, ⟨o2, o3⟩, o4, ⟨o5, o6⟩, _⟩ := (ReaderOk_iff r).1 ho
  have hm : rdM r < 9999 := by unfold rdM; omega
  have hl : r.2.2.1.length ≤ 1048576 := by omega
  rw [impl_ReadAll, impl_ReaderOk_eq, ho, Bool.not_true, cond_false, dF (by omega : ¬ room < 1), cond_false, impl_ReadSome_eq N r room hl h2, rdA, rdAll]
  by_cases c : (rdV r room).2.2 = 0
  · obtain ⟨e1, e2⟩ := rdV_next ho h1 c
    have hm2 := rdM_less ho h1 e2
    rw [dT c, Bool.not_true, cond_false, if_pos c, e1, impl_ReadAll_l0_eq N room h1 h2 _ 9999 N (rdR r room) _ (rdR_ok ho) (by omega) (by have : BIG = 4611686018427387904 := rfl; omega) (by simp)]; rfl
  · rw [dF c, Bool.not_false, cond_true, if_neg c]; rfl
def pcV (data : ByteArray) (script : List DRead) : List ByteArray := if ReaderOkB (data, 0, script, 0, 0) = true then (rdA (data, 0, script, 0, 0) 16).2 else []
theorem pcV_len (data : ByteArray) (script : List DRead) : (pcV data script).length ≤ 10000 := by
  unfold pcV; split
  · have := rdAll_len 16 10000 (data, 0, script, 0, 0) []
    simpa [rdA] using this
  · exact Nat.zero_le _
theorem spec_Pieces_eq (N : Nat) (hN : BIG ≤ N) (data : ByteArray) (script : List DRead) (hl : script.length ≤ 1048576) (k : List ByteArray → Option R) : spec_Pieces N data script k = k (pcV data script) := by
  rw [spec_Pieces, spec_ReaderNew, dT (by omega : (0 + script.length) * 16 ≤ 140737488355328), cond_true, spec_ReaderOk_eq, pcV]
  cases ho : ReaderOkB (data, 0, script, 0, 0)
  · rw [Bool.not_false, cond_true, cond_true, if_neg (by simp)]
  · rw [Bool.not_true, cond_false, cond_false, if_pos rfl, rdA_spec N hN _ 16 (by decide) (by decide) ho]
theorem impl_Pieces_eq (N : Nat) (hN : BIG ≤ N) (data : ByteArray) (script : List DRead) (hl : script.length ≤ 1048576) (k : List ByteArray → Option R) : impl_Pieces N data script k = k (pcV data script) := by
  rw [impl_Pieces, impl_ReaderNew, clone_Read_eq N script hl, impl_ReaderOk_eq, pcV]
  cases ho : ReaderOkB (data, 0, script, 0, 0)
  · rw [Bool.not_false, cond_true, cond_true, if_neg (by simp)]
  · rw [Bool.not_true, cond_false, cond_false, if_pos rfl, rdA_impl N hN _ 16 (by decide) (by decide) ho]
theorem pure_Pieces (s : ByteArray) (x : List DlRead) (h1 : Wf Try.prog .str s) (h : Wf Try.prog (.sl 87 YlRead) x) : ∃ N, ∀ {R : Type} (k : Bool → Option R), laws_FnExactPieces N s x k = k true := by
  have hb := bnd_of (by kernel_rfl) h
  refine ⟨BIG, fun {R} k => ?_⟩
  rw [laws_FnExactPieces]
  by_cases hs : 1048576 < (s.size : Int)
  · rw [dT hs, cond_true]
  rw [dF hs, cond_false]
  obtain ⟨r, e, _, hf⟩ := laws_szReadS_ok BIG (Nat.le_refl _) x 1048576 (by decide) (by decide) hb
  rw [e]
  by_cases hr : r < 0
  · rw [dT hr, cond_true]
  · have hf := len_of (hf (by omega))
    have hl : x.length ≤ 1048576 := hf.1
    have hp : Len (.sl 9 .str) (pcV s x) := ⟨by have := pcV_len s x; omega, fun _ _ => trivial⟩
    obtain ⟨k1, o1, a1, b1, m1⟩ := laws_markReadS_ok BIG (Nat.le_refl _) x hf 1 (by omega) (by omega)
    obtain ⟨k2, o2, a2, b2, m2, q2⟩ := laws_markStringS_ok BIG (Nat.le_refl _) (pcV s x) hp 1 (by omega) (by omega)
    simp only [dF hr, cond_false, laws_toReadS_eq BIG (Nat.le_refl _) x _ hf, spec_Pieces_eq BIG (Nat.le_refl _) s x hl, impl_Pieces_eq BIG (Nat.le_refl _) s x hl, laws_eqReadS_refl BIG (Nat.le_refl _) x _ hf, laws_eqStringS_refl BIG (Nat.le_refl _) (pcV s x) _ hp, m1, m2, q2, dF (by omega : ¬ k1 < 0), dF (by omega : ¬ k2 < 0), decide_true, Bool.not_true]

end Go.Proofs.YthpklbpdchckkaaT
