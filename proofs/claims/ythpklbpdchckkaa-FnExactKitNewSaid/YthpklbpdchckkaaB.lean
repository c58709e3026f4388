/- Plain lemmas on numbers and lists that the twins lean on. It states nothing of the program. -/
import Derived.Test.YthpklbpdchckkaaE1
namespace Go.Proofs.YthpklbpdchckkaaT
open Go.Proofs Go.Proofs.YthpklbpdchckkaaEv
set_option linter.unusedVariables false

/-- more rounds than any list here has elements -/
abbrev BIG : Nat := 4611686018427387904
/-- the length of what lies in memory -/
abbrev LIM : Nat := 1125899906842624
theorem kc {α R : Type} (k : α → Option R) (c : Bool) (a b : α) : cond c (k a) (k b) = k (cond c a b) := by cases c <;> rfl

def I64 (n : Int) : Prop := -9223372036854775808 ≤ n ∧ n < 9223372036854775808
theorem w64_def (n : Int) : w64 n = if n % 18446744073709551616 ≥ 9223372036854775808 then n % 18446744073709551616 - 18446744073709551616 else n % 18446744073709551616 := by
  have : w64 n = if (true && decide (n % 18446744073709551616 ≥ 9223372036854775808)) = true then n % 18446744073709551616 - 18446744073709551616 else n % 18446744073709551616 := rfl
  rw [this]
  simp only [Bool.true_and, decide_eq_true_eq]
theorem w64_id {n : Int} (h : I64 n) : w64 n = n := by
  obtain ⟨h1, h2⟩ := h
  rw [w64_def]
  split <;> omega
theorem w64_nat {n : Nat} (h : n < 9223372036854775808) : w64 (n : Int) = n := w64_id ⟨by omega, by omega⟩
theorem w64_succ {n : Nat} (h : n < 9223372036854775807) : w64 ((n : Int) + 1) = ((n + 1 : Nat) : Int) := by
  rw [w64_id ⟨by omega, by omega⟩]; rfl
theorem I64_of_wf {n : Int} (h : (Lit.int .i64 n).wf = true) : I64 n := by
  simp only [Lit.wf, Bool.and_eq_true, decide_eq_true_eq] at h
  have h1 : IntKind.min .i64 = -9223372036854775808 := by decide
  have h2 : IntKind.max .i64 = 9223372036854775807 := by decide
  rw [h1, h2] at h
  exact ⟨h.1, by omega⟩

theorem drop_nil' {α : Type} {a : List α} {j : Nat} (h : a.drop j = []) : a.length ≤ j := by
  simpa using h
theorem drop_cons' {α : Type} {a t : List α} {x : α} {j : Nat} (h : a.drop j = x :: t) : j < a.length ∧ (∀ z, a.getD j z = x) ∧ a.drop (j + 1) = t ∧ x ∈ a := by
  have hl : j < a.length := by
    rcases Nat.lt_or_ge j a.length with h' | h'
    · exact h'
    · rw [List.drop_eq_nil_of_le h'] at h; cases h
  have := List.drop_eq_getElem_cons hl
  rw [h] at this
  injection this with e1 e2
  refine ⟨hl, fun z => ?_, e2.symm, List.mem_of_mem_drop (i := j) (by rw [h]; exact List.mem_cons_self ..)⟩
  rw [List.getD_eq_getElem?_getD, List.getElem?_eq_getElem hl]; exact e1.symm
theorem idx_ok {n j : Nat} (h : j < n) : idxE n (j : Int) = true := by
  simp only [idxE]; exact decide_eq_true ⟨by omega, by omega⟩
theorem lt_ok {n j : Nat} (h : j < n) : decide ((j : Int) < (n : Int)) = true := decide_eq_true (by omega)
theorem lt_no {n j : Nat} (h : n ≤ j) : decide ((j : Int) < (n : Int)) = false := decide_eq_false (by omega)
/-- what the machine's data allow -/
def Bnd : (y : Ty) → y.D → Prop
  | .int k, n => k.min ≤ n ∧ n ≤ k.max
  | .bool, _ => True
  | .str, s => s.size ≤ 1125899906842624
  | .unit, _ => True
  | .pr a b, x => Bnd a x.1 ∧ Bnd b x.2
  | .sl _ t, xs => xs.length ≤ 1125899906842624 ∧ ∀ x ∈ xs, Bnd t x
/-- of no more than a million parts, and texts of no more bytes -/
def Fit : (y : Ty) → y.D → Prop
  | .int k, n => k.min ≤ n ∧ n ≤ k.max
  | .bool, _ => True
  | .str, s => s.size ≤ 1048576
  | .unit, _ => True
  | .pr a b, x => Fit a x.1 ∧ Fit b x.2
  | .sl _ t, xs => xs.length ≤ 1048576 ∧ ∀ x ∈ xs, Fit t x
/-- of no more than a million parts each -/
def Len : (y : Ty) → y.D → Prop
  | .int _, _ => True
  | .bool, _ => True
  | .str, _ => True
  | .unit, _ => True
  | .pr a b, x => Len a x.1 ∧ Len b x.2
  | .sl _ t, xs => xs.length ≤ 1048576 ∧ ∀ x ∈ xs, Len t x
theorem len_of : ∀ {y : Ty} {x : y.D}, Fit y x → Len y x
  | .int _, _, _ | .bool, _, _ | .str, _, _ | .unit, _, _ => trivial
  | .pr _ _, _, h => ⟨len_of h.1, len_of h.2⟩
  | .sl _ _, _, h => ⟨h.1, fun x hx => len_of (h.2 x hx)⟩
theorem len_flat : ∀ {y : Ty} {x : y.D}, flat y = true → Len y x
  | .int _, _, _ | .bool, _, _ | .str, _, _ | .unit, _, _ => trivial
  | .pr _ _, _, h => by
    simp only [flat, Bool.and_eq_true] at h
    exact ⟨len_flat h.1, len_flat h.2⟩
  | .sl _ _, _, h => by cases h
def sized (P : Program) : Ty → Bool
  | .pr a b => sized P a && sized P b
  | .sl e t => Nat.ble 1 (P.bytesOf e) && sized P t
  | _ => true
theorem bnd_of {P : Program} : ∀ {y : Ty} {x : y.D}, sized P y = true → Wf P y x → Bnd y x
  | .int k, n, _, h => by
    have h : (Lit.int k n).wf = true := h
    simp only [Lit.wf, Bool.and_eq_true, decide_eq_true_eq] at h
    exact h
  | .bool, _, _, _ => trivial
  | .str, s, _, h => Nat.le_trans (show s.size ≤ reachBytes from h) (by decide)
  | .unit, _, _, _ => trivial
  | .pr a b, x, hs, h => by
    simp only [sized, Bool.and_eq_true] at hs
    exact ⟨bnd_of hs.1 h.1, bnd_of hs.2 h.2⟩
  | .sl e t, xs, hs, h => by
    simp only [sized, Bool.and_eq_true] at hs
    have hb := Nat.le_of_ble_eq_true hs.1
    refine ⟨?_, fun x hx => bnd_of hs.2 (h.2 x hx)⟩
    have h1 : xs.length * P.bytesOf e ≤ reachBytes := h.1
    have h2 : xs.length * 1 ≤ xs.length * P.bytesOf e := Nat.mul_le_mul_left _ hb
    have h3 : reachBytes ≤ 1125899906842624 := by decide
    omega
theorem i64_of {n : Int} (h : Bnd (.int .i64) n) : I64 n := by
  have h1 : IntKind.min .i64 = -9223372036854775808 := by decide
  have h2 : IntKind.max .i64 = 9223372036854775807 := by decide
  have h : IntKind.min .i64 ≤ n ∧ n ≤ IntKind.max .i64 := h
  rw [h1, h2] at h
  exact ⟨h.1, by omega⟩
theorem mk_ok {n : Nat} (b : Int) (hn : n ≤ 1048576) (h0 : 0 ≤ b ∧ b ≤ 1000) : decide (0 ≤ (n : Int) ∧ (n : Int) ≤ (n : Int) ∧ (n : Int) ≤ 4611686018427387904 ∧ b * (n : Int) ≤ 140737488355328) = true := by
  refine decide_eq_true ⟨by omega, by omega, by omega, ?_⟩
  have h1 : b * (n : Int) ≤ 1000 * 1048576 := Int.mul_le_mul h0.2 (by omega) (by omega) (by omega)
  omega
theorem natOf (j : Nat) : ((j : Int)).toNat = j := rfl
theorem take_set_app {α : Type} {xs t : List α} {y : α} {j : Nat} (h : j < xs.length) : (xs.set j y).take (j + 1) ++ t = xs.take j ++ y :: t := by
  rw [List.take_add_one, List.take_set_of_le (Nat.le_refl j)]
  simp [h]
theorem getD_set_self {α : Type} {xs : List α} {j : Nat} {v z : α} (h : j < xs.length) : (xs.set j v).getD j z = v := by
  rw [List.getD_eq_getElem?_getD, List.getElem?_set_self h]; rfl
theorem wu64_id {n : Int} (h0 : 0 ≤ n) (h1 : n < 18446744073709551616) : wu64 n = n := by
  have : wu64 n = if (false && decide (n % 18446744073709551616 ≥ 9223372036854775808)) = true then n % 18446744073709551616 - 18446744073709551616 else n % 18446744073709551616 := rfl
  rw [this, Bool.false_and, if_neg Bool.false_ne_true]
  omega
theorem dT {p : Prop} [Decidable p] (h : p) : decide p = true := decide_eq_true h
theorem dF {p : Prop} [Decidable p] (h : ¬ p) : decide p = false := decide_eq_false h
end Go.Proofs.YthpklbpdchckkaaT
