/- FnExactEndOf, FnExactTold, FnExactNested, on the twins. -/
import Derived.Test.YtecdmnmedipjmaaPC
namespace Go.Proofs.YtecdmnmedipjmaaT
open Go.Proofs Go.Proofs.YtecdmnmedipjmaaEv
set_option linter.unusedVariables false
set_option linter.unusedSimpArgs false
variable {R : Type}

/-- is an event the last one? -/
def termB (e : DEvent) : Bool := decide (e.1 = 9) || decide (e.1 = 10)
theorem spec_Terminal_eq (N : Nat) (e : DEvent) (k : Bool → Option R) : spec_Terminal N e k = k (termB e) := by
  rw [spec_Terminal, kc k]; simp only [termB]; cases decide (e.1 = 9) <;> rfl
theorem impl_Terminal_eq (N : Nat) (e : DEvent) (k : Bool → Option R) : impl_Terminal N e k = k (termB e) := by
  rw [impl_Terminal, kc k]; simp only [termB]; cases decide (e.1 = 9) <;> rfl
/-- the events before the last one -/
def toldL : List DEvent → List DEvent
  | [] => []
  | e :: t => if termB e = true then [] else e :: toldL t
/-- the last one -/
def endL : List DEvent → DEvent
  | [] => (0, 0, 0, 0, ByteArray.empty, 0, 0)
  | e :: t => if termB e = true then e else endL t
theorem toldL_le : ∀ l : List DEvent, (toldL l).length ≤ l.length
  | [] => Nat.le_refl _
  | e :: t => by
    simp only [toldL]; split
    · simp
    · have := toldL_le t; simp only [List.length_cons]; omega
theorem toldL_take : ∀ l : List DEvent, l.take (toldL l).length = toldL l
  | [] => rfl
  | e :: t => by
    simp only [toldL]; split
    · simp
    · simp [toldL_take t]
theorem told_end : ∀ (l : List DEvent) (z : DEvent), (toldL l).length < l.length → l.getD (toldL l).length z = endL l
  | [], _, h => by simp at h
  | e :: t, z, h => by
    simp only [toldL, endL] at h ⊢; split
    · simp
    · rename_i c
      simp only [c] at h
      simp only [List.length_cons, List.getD_cons_succ]
      exact told_end t z (by simpa using h)
theorem told_none : ∀ l : List DEvent, (toldL l).length = l.length → endL l = (0, 0, 0, 0, ByteArray.empty, 0, 0) ∧ toldL l = l
  | [], _ => ⟨rfl, rfl⟩
  | e :: t, h => by
    simp only [toldL, endL] at h ⊢; split
    · rename_i c; simp [c] at h
    · rename_i c
      simp only [c] at h
      have := told_none t (by simpa using h)
      exact ⟨this.1, by rw [this.2]⟩

theorem idxF_eq (N : Nat) (a : List DEvent) (x0 : Int → Option R) (x1 : Option R) (ha : a.length ≤ 1048576) : ∀ (l : List DEvent) (j n : Nat), a.drop j = l → l.length < n →
    slices_IndexFunc_impl_Event_impl_Event_Terminal_l0 N n a a.length j x0 x1 = if (toldL l).length < l.length then x0 ((j + (toldL l).length : Nat) : Int) else x1
  | [], j, n + 1, h, _ => by rw [slices_IndexFunc_impl_Event_impl_Event_Terminal_l0, lt_no (drop_nil' h), cond_false]; rfl
  | e :: t, j, n + 1, h, hn => by
    obtain ⟨h1, h2, h3, _⟩ := drop_cons' h
    rw [slices_IndexFunc_impl_Event_impl_Event_Terminal_l0, lt_ok h1, idx_ok h1, cond_true, cond_true, natOf, h2, impl_Terminal_eq]
    cases c : termB e
    · rw [cond_false, w64_succ (by omega), idxF_eq N a x0 x1 ha t (j + 1) n h3 (by simpa using hn)]
      simp only [toldL, c, Bool.false_eq_true, if_false, List.length_cons, Nat.add_lt_add_iff_right]
      rw [show j + 1 + (toldL t).length = j + ((toldL t).length + 1) by omega]
    · rw [cond_true]
      simp only [toldL, c, if_true, List.length_nil, List.length_cons, Nat.add_zero]
      rw [if_pos (by omega)]
theorem impl_EndOf_eq (N : Nat) (hN : BIG ≤ N) (a : List DEvent) (ha : a.length ≤ 1048576) (k : DEvent → Option R) : impl_EndOf N a k = k (endL a) := by
  rw [impl_EndOf, slices_IndexFunc_impl_Event_impl_Event_Terminal, show (0 : Int) = ((0 : Nat) : Int) from rfl, idxF_eq N a _ _ ha a 0 N rfl (by have : BIG = 4611686018427387904 := rfl; omega)]
  split
  · rename_i h
    rw [dF (by omega), cond_false, Nat.zero_add, idx_ok h, cond_true, natOf, told_end a _ h]
  · rename_i h
    rw [dT (by omega), cond_true, (told_none a (by have := toldL_le a; omega)).1]; rfl
theorem spec_EndOf_l0_eq (N : Nat) (a : List DEvent) (x0 x1 : Int → Int → Int → Int → ByteArray → Int → Int → Option R) (ha : a.length ≤ 1048576) (b b1 b2 b3 : Int) (b4 : ByteArray) (b5 b6 : Int) : ∀ (l : List DEvent) (j n : Nat), a.drop j = l → l.length < n →
    spec_EndOf_l0 N n a j b b1 b2 b3 b4 b5 b6 x0 x1 = if (toldL l).length < l.length then x0 (endL l).1 (endL l).2.1 (endL l).2.2.1 (endL l).2.2.2.1 (endL l).2.2.2.2.1 (endL l).2.2.2.2.2.1 (endL l).2.2.2.2.2.2 else x1 b b1 b2 b3 b4 b5 b6
  | [], j, n + 1, h, _ => by rw [spec_EndOf_l0, lt_no (drop_nil' h), cond_false]; rfl
  | e :: t, j, n + 1, h, hn => by
    obtain ⟨h1, h2, h3, _⟩ := drop_cons' h
    rw [spec_EndOf_l0, lt_ok h1, idx_ok h1, cond_true, cond_true, natOf, h2, spec_Terminal_eq]
    cases c : termB e
    · rw [cond_false, w64_succ (by omega), spec_EndOf_l0_eq N a x0 x1 ha b b1 b2 b3 b4 b5 b6 t (j + 1) n h3 (by simpa using hn)]
      simp only [toldL, endL, c, Bool.false_eq_true, if_false, List.length_cons, Nat.add_lt_add_iff_right]
    · rw [cond_true, cond_true]
      simp only [toldL, endL, c, if_true, List.length_nil, List.length_cons]
      rw [if_pos (by omega)]
theorem spec_EndOf_eq (N : Nat) (hN : BIG ≤ N) (a : List DEvent) (ha : a.length ≤ 1048576) (k : DEvent → Option R) : spec_EndOf N a k = k (endL a) := by
  rw [spec_EndOf]
  refine (spec_EndOf_l0_eq N a _ _ ha _ _ _ _ _ _ _ a 0 N rfl (by have : BIG = 4611686018427387904 := rfl; omega)).trans ?_
  split
  · rfl
  · rename_i h
    rw [(told_none a (by have := toldL_le a; omega)).1]
theorem spec_Told_l0_eq (N : Nat) (a : List DEvent) (x0 : List DEvent → Option R) (ha : a.length ≤ 1048576) : ∀ (l : List DEvent) (j n : Nat) (xs : List DEvent), a.drop j = l → l.length < n → xs.length ≤ j →
    spec_Told_l0 N n a j xs x0 = x0 (xs ++ toldL l)
  | [], j, n + 1, xs, h, _, _ => by rw [spec_Told_l0, lt_no (drop_nil' h), cond_false, toldL, List.append_nil]
  | e :: t, j, n + 1, xs, h, hn, hx => by
    obtain ⟨h1, h2, h3, _⟩ := drop_cons' h
    rw [spec_Told_l0, lt_ok h1, idx_ok h1, cond_true, cond_true, natOf, h2, spec_Terminal_eq]
    cases c : termB e
    · rw [Bool.not_false, cond_true, cond_true, dT (by omega), cond_true, w64_succ (by omega), spec_Told_l0_eq N a x0 ha t (j + 1) n _ h3 (by simpa using hn) (by simp; omega)]
      simp [toldL, c]
    · rw [Bool.not_true, cond_false]
      simp [toldL, c]
theorem spec_Told_eq (N : Nat) (hN : BIG ≤ N) (a : List DEvent) (ha : a.length ≤ 1048576) (k : List DEvent → Option R) : spec_Told N a k = k (toldL a) := by
  rw [spec_Told, show (0 : Int) = ((0 : Nat) : Int) from rfl, spec_Told_l0_eq N a _ ha a 0 N [] rfl (by have : BIG = 4611686018427387904 := rfl; omega) (by simp)]
  rfl
theorem clone_Event_eq (N : Nat) (s : List DEvent) (h : s.length ≤ 1048576) (k : List DEvent → Option R) : slices_Clone_impl_Event_impl_Event N s k = k s := by
  rw [slices_Clone_impl_Event_impl_Event, dT (by omega), cond_true]
theorem impl_Told_eq (N : Nat) (hN : BIG ≤ N) (a : List DEvent) (ha : a.length ≤ 1048576) (k : List DEvent → Option R) : impl_Told N a k = k (toldL a) := by
  rw [impl_Told, slices_IndexFunc_impl_Event_impl_Event_Terminal, show (0 : Int) = ((0 : Nat) : Int) from rfl, idxF_eq N a _ _ ha a 0 N rfl (by have : BIG = 4611686018427387904 := rfl; omega)]
  split
  · rename_i h
    rw [dF (by omega), cond_false, dT ⟨by omega, by omega⟩, cond_true, Nat.zero_add, natOf, List.drop_zero, clone_Event_eq N _ (by rw [List.length_take]; omega), toldL_take]
  · rename_i h
    rw [dT (by omega), cond_true, dT ⟨by omega, by omega⟩, cond_true, natOf, List.drop_zero, List.take_length, clone_Event_eq N _ ha, (told_none a (by have := toldL_le a; omega)).2]
theorem pure_EndOf (x : List DlEvent) (h : Wf Try.prog (.sl 75 YlEvent) x) : ∃ N, ∀ {R : Type} (k : Bool → Option R), laws_FnExactEndOf N x k = k true := by
  have hb := bnd_of (by kernel_rfl) h
  refine ⟨BIG, fun {R} k => ?_⟩
  obtain ⟨r, e, _, hf⟩ := laws_szEventS_ok BIG (Nat.le_refl _) x 1048576 (by decide) (by decide) hb
  rw [laws_FnExactEndOf, e]
  by_cases hr : r < 0
  · rw [dT hr, cond_true]
  · have hf := len_of (hf (by omega))
    have hl : x.length ≤ 1048576 := hf.1
    simp only [dF hr, cond_false, laws_toEventS_eq BIG (Nat.le_refl _) x _ hf, spec_EndOf_eq BIG (Nat.le_refl _) x hl, impl_EndOf_eq BIG (Nat.le_refl _) x hl, laws_eqEvent_refl BIG (Nat.le_refl _) _ _ (len_flat rfl), laws_eqEventS_refl BIG (Nat.le_refl _) x _ hf, Bool.not_true]
theorem len_events {l : List DEvent} (e : TypeId) (h : l.length ≤ 1048576) : Len (.sl e YEvent) l := ⟨h, fun _ _ => len_flat rfl⟩
theorem pure_Told (x : List DlEvent) (h : Wf Try.prog (.sl 75 YlEvent) x) : ∃ N, ∀ {R : Type} (k : Bool → Option R), laws_FnExactTold N x k = k true := by
  have hb := bnd_of (by kernel_rfl) h
  refine ⟨BIG, fun {R} k => ?_⟩
  obtain ⟨r, e, _, hf⟩ := laws_szEventS_ok BIG (Nat.le_refl _) x 1048576 (by decide) (by decide) hb
  rw [laws_FnExactTold, e]
  by_cases hr : r < 0
  · rw [dT hr, cond_true]
  · have hf := len_of (hf (by omega))
    have hl : x.length ≤ 1048576 := hf.1
    have ht : (toldL x).length ≤ 1048576 := Nat.le_trans (toldL_le x) hl
    obtain ⟨k1, o1, a1, a2, a3, a4⟩ := laws_markEventS_ok BIG (Nat.le_refl _) x (len_events _ hl) 1 (by decide) (by decide)
    obtain ⟨k2, o2, b1, b2, b3, b4⟩ := laws_markEventS_ok BIG (Nat.le_refl _) (toldL x) (len_events _ ht) 1 (by decide) (by decide)
    simp only [dF hr, cond_false, laws_toEventS_eq BIG (Nat.le_refl _) x _ hf, spec_Told_eq BIG (Nat.le_refl _) x hl, impl_Told_eq BIG (Nat.le_refl _) x hl, laws_eqEventS_refl BIG (Nat.le_refl _) x _ (len_events _ hl), laws_eqEventS_refl BIG (Nat.le_refl _) (toldL x) _ (len_events _ ht),
      Bool.not_true, decide_true, a3, dF (by omega : ¬ k1 < 0), b3, b4, dF (by omega : ¬ k2 < 0)]

/-! ### nested -/
def topV (o : List Int) : Int := o.getD (o.length - 1) 0
def mayB (o : List Int) (k : Int) : Bool :=
  if k = 1 ∨ k = 9 then decide (topV o = 0) else if k = 4 ∨ k = 5 then decide (topV o = 3) else if k = 7 then decide (topV o = 6) else if k = 8 then decide (topV o = 1)
  else if k = 2 ∨ k = 3 ∨ k = 6 then decide (topV o = 1) || decide (topV o = 6) else decide (k = 10)
def stepO (o : List Int) (k : Int) : List Int := if k = 1 ∨ k = 3 ∨ k = 6 then o ++ [k] else if k = 8 ∨ k = 5 ∨ k = 7 then o.take (o.length - 1) else o
theorem top_facts {o : List Int} (h : o ≠ []) (ho : o.length ≤ 1048576) : decide (0 < (o.length : Int)) = true ∧ idxE o.length (w64 ((o.length : Int) - 1)) = true ∧ o.getD (w64 ((o.length : Int) - 1)).toNat 0 = topV o ∧
    decide (0 ≤ w64 ((o.length : Int) - 1) ∧ w64 ((o.length : Int) - 1) ≤ (o.length : Int)) = true ∧ (w64 ((o.length : Int) - 1)).toNat = o.length - 1 := by
  have hl : 0 < o.length := List.length_pos_iff.2 h
  have e : w64 ((o.length : Int) - 1) = ((o.length - 1 : Nat) : Int) := by rw [w64_id ⟨by omega, by omega⟩]; omega
  refine ⟨dT (by omega), ?_, ?_, ?_, ?_⟩
  · rw [e]; exact idx_ok (by omega)
  · rw [e]; rfl
  · rw [e]; exact dT ⟨by omega, by omega⟩
  · rw [e]; rfl
theorem spec_May_eq (N : Nat) (o : List Int) (ho : o.length ≤ 1048576) (k : Int) (K : Bool → Option R) : spec_l26May N o k K = K (mayB o k) := by
  by_cases h : o = []
  · subst h
    simp only [spec_l26May, List.length_nil, mayB, topV, List.getD_nil]
    by_cases c1 : k = 1
    · subst c1; simp
    by_cases c2 : k = 9
    · subst c2; simp
    by_cases c3 : k = 4
    · subst c3; simp
    by_cases c4 : k = 5
    · subst c4; simp
    by_cases c5 : k = 7
    · subst c5; simp
    by_cases c6 : k = 8
    · subst c6; simp
    by_cases c7 : k = 2
    · subst c7; simp
    by_cases c8 : k = 3
    · subst c8; simp
    by_cases c9 : k = 6
    · subst c9; simp
    simp [c1, c2, c3, c4, c5, c6, c7, c8, c9]
  · obtain ⟨f1, f2, f3, _, _⟩ := top_facts h ho
    simp only [spec_l26May, f1, f2, f3, cond_true, mayB]
    by_cases c1 : k = 1
    · subst c1; simp
    by_cases c2 : k = 9
    · subst c2; simp
    by_cases c3 : k = 4
    · subst c3; simp
    by_cases c4 : k = 5
    · subst c4; simp
    by_cases c5 : k = 7
    · subst c5; simp
    by_cases c6 : k = 8
    · subst c6; simp
    by_cases c7 : k = 2
    · subst c7; by_cases t1 : topV o = 1 <;> simp [t1]
    by_cases c8 : k = 3
    · subst c8; by_cases t1 : topV o = 1 <;> simp [t1]
    by_cases c9 : k = 6
    · subst c9; by_cases t1 : topV o = 1 <;> simp [t1]
    simp [c1, c2, c3, c4, c5, c6, c7, c8, c9]
theorem impl_nest_eq (N : Nat) (o : List Int) (ho : o.length ≤ 1048576) (e : DEvent) (K : List Int → Bool → Option R) : ∃ o', (mayB o e.1 = true → o' = stepO o e.1) ∧ impl_nest N o e K = K o' (mayB o e.1) := by
  have hd : decide ((o.length + 1) * 8 ≤ 140737488355328) = true := dT (by omega)
  obtain ⟨k, e2⟩ := e
  simp only
  by_cases h : o = []
  · subst h
    have h0 : decide (0 < (([] : List Int).length : Int)) = false := rfl
    simp only [impl_nest, h0, cond_false, hd, cond_true, mayB, topV, List.getD_nil, stepO]
    by_cases c1 : k = 1
    · subst c1; exact ⟨[1], by simp, by simp⟩
    by_cases c2 : k = 9
    · subst c2; exact ⟨[], by simp, by simp⟩
    by_cases c3 : k = 10
    · subst c3; exact ⟨[], by simp, by simp⟩
    by_cases c4 : k = 2
    · subst c4; exact ⟨[], by simp, by simp⟩
    by_cases c5 : k = 3
    · subst c5; exact ⟨[3], by simp, by simp⟩
    by_cases c6 : k = 6
    · subst c6; exact ⟨[6], by simp, by simp⟩
    by_cases c7 : k = 4
    · subst c7; exact ⟨[], by simp, by simp⟩
    by_cases c8 : k = 8
    · subst c8; exact ⟨[], by simp, by simp⟩
    by_cases c9 : k = 5
    · subst c9; exact ⟨[], by simp, by simp⟩
    by_cases c10 : k = 7
    · subst c10; exact ⟨[], by simp, by simp⟩
    exact ⟨[], by simp [c1, c5, c6], by simp [c1, c2, c3, c4, c5, c6, c7, c8, c9, c10]⟩
  · obtain ⟨f1, f2, f3, f4, f5⟩ := top_facts h ho
    have f6 : o.getD (o.length - 1) 0 = topV o := rfl
    simp only [impl_nest, f1, f2, f4, f5, f6, cond_true, hd, mayB, stepO, List.drop_zero]
    by_cases c1 : k = 1
    · subst c1; exact ⟨o ++ [1], by simp, by by_cases t : topV o = 1 <;> simp [t]⟩
    by_cases c2 : k = 9
    · subst c2; exact ⟨o, by simp, by by_cases t : topV o = 1 <;> simp [t]⟩
    by_cases c3 : k = 10
    · subst c3; exact ⟨o, by simp, by by_cases t : topV o = 1 <;> simp [t]⟩
    by_cases c4 : k = 2
    · subst c4; exact ⟨o, by simp, by by_cases t : topV o = 1 <;> simp [t]⟩
    by_cases c5 : k = 3
    · subst c5; exact ⟨o ++ [3], by simp, by by_cases t : topV o = 1 <;> simp [t]⟩
    by_cases c6 : k = 6
    · subst c6; exact ⟨o ++ [6], by simp, by by_cases t : topV o = 1 <;> simp [t]⟩
    by_cases c7 : k = 4
    · subst c7; exact ⟨o, by simp, by by_cases t : topV o = 1 <;> simp [t]⟩
    by_cases c8 : k = 8
    · subst c8; by_cases t : topV o = 1
      · exact ⟨o.take (o.length - 1), by simp, by simp [t]⟩
      · exact ⟨o, by simp [t], by simp [t]⟩
    by_cases c9 : k = 5
    · subst c9; by_cases t : topV o = 3
      · exact ⟨o.take (o.length - 1), by simp, by simp [t]⟩
      · exact ⟨o, by simp [t], by by_cases t1 : topV o = 1 <;> simp [t, t1]⟩
    by_cases c10 : k = 7
    · subst c10; by_cases t : topV o = 6
      · exact ⟨o.take (o.length - 1), by simp, by simp [t]⟩
      · exact ⟨o, by simp [t], by by_cases t1 : topV o = 1 <;> simp [t, t1]⟩
    exact ⟨o, by simp [c1, c5, c6, c8, c9, c10], by by_cases t1 : topV o = 1 <;> simp [c1, c2, c3, c4, c5, c6, c7, c8, c9, c10, t1]⟩
theorem stepO_len (o : List Int) (k : Int) : (stepO o k).length ≤ o.length + 1 := by
  unfold stepO; split
  · simp
  · split
    · rw [List.length_take]; omega
    · omega
/-- are events nested, from a state on? p: the event before -/
def nestL : List DEvent → Option DEvent → List Int → Bool
  | [], _, _ => true
  | e :: t, p, o => mayB o e.1 && (match p with | some q => !termB q | none => true) && nestL t (some e) (stepO o e.1)
def prevO (a : List DEvent) (j : Nat) : Option DEvent := match j with | 0 => none | i + 1 => some (a.getD i YEvent.z)
theorem prev_succ {a : List DEvent} {j : Nat} {e : DEvent} (h : ∀ z, a.getD j z = e) : prevO a (j + 1) = some e := by rw [prevO, h]
theorem impl_Nested_l0_eq (N : Nat) (a : List DEvent) (x0 : Bool → Option R) (x1 : Option R) (ha : a.length ≤ 1048576) : ∀ (l : List DEvent) (j n : Nat) (o : List Int), a.drop j = l → l.length < n → o.length ≤ j →
    impl_Nested_l0 N n a a a.length j o x0 x1 = if nestL l (prevO a j) o = true then x1 else x0 false
  | [], j, n + 1, o, h, _, _ => by rw [impl_Nested_l0, lt_no (drop_nil' h), cond_false]; simp [nestL]
  | e :: t, j, n + 1, o, h, hn, ho => by
    obtain ⟨h1, h2, h3, _⟩ := drop_cons' h
    rw [impl_Nested_l0, lt_ok h1, idx_ok h1, cond_true, cond_true, natOf, h2]
    obtain ⟨o', e1, e2⟩ := impl_nest_eq N o (by omega) e (fun r r1 =>
      cond (!r1) (x0 false) (cond (decide (0 < (j : Int))) (cond (idxE a.length (w64 ((j : Int) - 1))) (impl_Terminal N (a.getD (w64 ((j : Int) - 1)).toNat YEvent.z) fun r2 => cond r2 (x0 false) (impl_Nested_l0 N n a a a.length (w64 ((j : Int) + 1)) r x0 x1)) none)
        (impl_Nested_l0 N n a a a.length (w64 ((j : Int) + 1)) r x0 x1)))
    rw [e2]
    cases hm : mayB o e.1
    · rw [Bool.not_false, cond_true]; simp [nestL, hm]
    · rw [Bool.not_true, cond_false, e1 hm, w64_succ (by omega)]
      have ih := impl_Nested_l0_eq N a x0 x1 ha t (j + 1) n (stepO o e.1) h3 (by simpa using hn) (by have := stepO_len o e.1; omega)
      rw [prev_succ h2] at ih
      cases j with
      | zero =>
        rw [show decide (0 < ((0 : Nat) : Int)) = false from rfl, cond_false, ih]
        simp [nestL, hm, prevO]
      | succ i =>
        have hw : w64 (((i + 1 : Nat) : Int) - 1) = (i : Int) := by rw [w64_id ⟨by omega, by omega⟩]; omega
        rw [dT (by omega : 0 < ((i + 1 : Nat) : Int)), cond_true, hw, idx_ok (by omega), cond_true, impl_Terminal_eq, natOf, ih]
        simp only [nestL, hm, prevO, Bool.true_and]
        cases termB (a.getD i YEvent.z) <;> simp
theorem spec_Nested_l0_eq (N : Nat) (a : List DEvent) (x0 : Bool → Option R) (x1 : Option R) (ha : a.length ≤ 1048576) : ∀ (l : List DEvent) (j n : Nat) (o : List Int), a.drop j = l → l.length < n → o.length ≤ j →
    spec_Nested_l0 N n a j o x0 x1 = if nestL l (prevO a j) o = true then x1 else x0 false
  | [], j, n + 1, o, h, _, _ => by rw [spec_Nested_l0, lt_no (drop_nil' h), cond_false]; simp [nestL]
  | e :: t, j, n + 1, o, h, hn, ho => by
    obtain ⟨h1, h2, h3, _⟩ := drop_cons' h
    have ih := spec_Nested_l0_eq N a x0 x1 ha t (j + 1) n (stepO o e.1) h3 (by simpa using hn) (by have := stepO_len o e.1; omega)
    rw [prev_succ h2] at ih
    rw [spec_Nested_l0, lt_ok h1, idx_ok h1, cond_true, cond_true, natOf, h2, spec_May_eq N o (by omega)]
    cases hm : mayB o e.1
    · rw [Bool.not_false, cond_true]; simp [nestL, hm]
    · rw [Bool.not_true, cond_false, w64_succ (by omega)]
      have hd : decide ((o.length + 1) * 8 ≤ 140737488355328) = true := dT (by omega)
      have rest : (cond (decide (e.1 = 1)) (cond (decide ((o.length + 1) * 8 ≤ 140737488355328)) (spec_Nested_l0 N n a ((j + 1 : Nat) : Int) (o ++ [e.1]) x0 x1) none)
        (cond (decide (e.1 = 3)) (cond (decide ((o.length + 1) * 8 ≤ 140737488355328)) (spec_Nested_l0 N n a ((j + 1 : Nat) : Int) (o ++ [e.1]) x0 x1) none)
        (cond (decide (e.1 = 6)) (cond (decide ((o.length + 1) * 8 ≤ 140737488355328)) (spec_Nested_l0 N n a ((j + 1 : Nat) : Int) (o ++ [e.1]) x0 x1) none)
        (cond (decide (e.1 = 8)) (cond (decide (0 ≤ w64 ((o.length : Int) - 1) ∧ w64 ((o.length : Int) - 1) ≤ (o.length : Int))) (spec_Nested_l0 N n a ((j + 1 : Nat) : Int) ((o.drop 0).take ((w64 ((o.length : Int) - 1)).toNat)) x0 x1) none)
        (cond (decide (e.1 = 5)) (cond (decide (0 ≤ w64 ((o.length : Int) - 1) ∧ w64 ((o.length : Int) - 1) ≤ (o.length : Int))) (spec_Nested_l0 N n a ((j + 1 : Nat) : Int) ((o.drop 0).take ((w64 ((o.length : Int) - 1)).toNat)) x0 x1) none)
        (cond (decide (e.1 = 7)) (cond (decide (0 ≤ w64 ((o.length : Int) - 1) ∧ w64 ((o.length : Int) - 1) ≤ (o.length : Int))) (spec_Nested_l0 N n a ((j + 1 : Nat) : Int) ((o.drop 0).take ((w64 ((o.length : Int) - 1)).toNat)) x0 x1) none)
          (spec_Nested_l0 N n a ((j + 1 : Nat) : Int) o x0 x1))))))) = spec_Nested_l0 N n a ((j + 1 : Nat) : Int) (stepO o e.1) x0 x1 := by
        have hpop : e.1 = 8 ∨ e.1 = 5 ∨ e.1 = 7 → o ≠ [] := fun hk he => by
          subst he
          rcases hk with hk | hk | hk <;> rw [hk] at hm <;> simp [mayB, topV] at hm
        by_cases c1 : e.1 = 1
        · simp [c1, hd, stepO]
        by_cases c2 : e.1 = 3
        · simp [c2, hd, stepO]
        by_cases c3 : e.1 = 6
        · simp [c3, hd, stepO]
        by_cases c4 : e.1 = 8
        · obtain ⟨_, _, _, f4, f5⟩ := top_facts (hpop (.inl c4)) (by omega)
          simp only [f4, f5]; simp [c4, stepO]
        by_cases c5 : e.1 = 5
        · obtain ⟨_, _, _, f4, f5⟩ := top_facts (hpop (.inr (.inl c5))) (by omega)
          simp only [f4, f5]; simp [c5, stepO]
        by_cases c6 : e.1 = 7
        · obtain ⟨_, _, _, f4, f5⟩ := top_facts (hpop (.inr (.inr c6))) (by omega)
          simp only [f4, f5]; simp [c6, stepO]
        simp [c1, c2, c3, c4, c5, c6, stepO]
      cases j with
      | zero =>
        rw [show decide (0 < ((0 : Nat) : Int)) = false from rfl, cond_false]
        refine rest.trans (ih.trans ?_)
        simp [nestL, hm, prevO]
      | succ i =>
        have hw : w64 (((i + 1 : Nat) : Int) - 1) = (i : Int) := by rw [w64_id ⟨by omega, by omega⟩]; omega
        rw [dT (by omega : 0 < ((i + 1 : Nat) : Int)), cond_true, hw, idx_ok (by omega), cond_true, spec_Terminal_eq, natOf]
        simp only [nestL, hm, prevO, Bool.true_and]
        cases termB (a.getD i YEvent.z)
        · rw [cond_false]
          refine rest.trans (ih.trans ?_)
          simp
        · simp
theorem pure_Nested (x : List DlEvent) (h : Wf Try.prog (.sl 75 YlEvent) x) : ∃ N, ∀ {R : Type} (k : Bool → Option R), laws_FnExactNested N x k = k true := by
  have hb := bnd_of (by kernel_rfl) h
  refine ⟨BIG, fun {R} k => ?_⟩
  obtain ⟨r, e, _, hf⟩ := laws_szEventS_ok BIG (Nat.le_refl _) x 1048576 (by decide) (by decide) hb
  rw [laws_FnExactNested, e]
  by_cases hr : r < 0
  · rw [dT hr, cond_true]
  · have hf := len_of (hf (by omega))
    have hl : x.length ≤ 1048576 := hf.1
    have e1 : ∀ {R : Type} (k : Bool → Option R), spec_Nested BIG x k = k (nestL x none []) := fun k => by
      rw [spec_Nested]
      refine (spec_Nested_l0_eq BIG x _ _ hl x 0 BIG [] rfl (big_gt hl) (by simp)).trans ?_
      simp only [prevO]; by_cases c : nestL x none [] = true <;> simp [c]
    have e2 : ∀ {R : Type} (k : Bool → Option R), impl_Nested BIG x k = k (nestL x none []) := fun k => by
      rw [impl_Nested]
      refine (impl_Nested_l0_eq BIG x _ _ hl x 0 BIG [] rfl (big_gt hl) (by simp)).trans ?_
      simp only [prevO]; by_cases c : nestL x none [] = true <;> simp [c]
    simp only [dF hr, cond_false, laws_toEventS_eq BIG (Nat.le_refl _) x _ hf, e1, e2, laws_eqEventS_refl BIG (Nat.le_refl _) x _ hf, BEq.rfl, Bool.not_true]
end Go.Proofs.YtecdmnmedipjmaaT
