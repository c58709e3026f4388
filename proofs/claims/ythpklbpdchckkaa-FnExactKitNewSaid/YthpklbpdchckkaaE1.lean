/- The evaluator's library, part 1: abstract values, the operations and calls on them, and that the machine does the same. It states nothing of the program by itself. -/
import Derived.ChangeOld
import Derived.SizedLaws
import Derived.Test.YthpklbpdchckkaaE0
namespace Go.Proofs.YthpklbpdchckkaaEv
open Go.RowKit (Below)
set_option linter.unusedVariables false
set_option linter.unusedSectionVars false
set_option linter.unusedSimpArgs false

section
variable {X : Cx} {T : Nat} {st : St} {a : Act} {w w' : World} {pl : PlM} {fp : FpM} {P : Program} {o : Oper} {u : Upd} {nm n : Nat}

theorem list1 {α β : Type} {f : α → β} {l : List α} {y : β} (h : l.map f = [y]) : ∃ x, l = [x] ∧ f x = y := by
  cases l with
  | nil => cases h
  | cons x r => cases r with
    | nil => simp at h; exact ⟨x, rfl, h⟩
    | cons _ _ => cases h
theorem list2 {α β : Type} {f : α → β} {l : List α} {y z : β} (h : l.map f = [y, z]) : ∃ x x', l = [x, x'] ∧ f x = y ∧ f x' = z := by
  cases l with
  | nil => cases h
  | cons x r =>
    obtain ⟨x', e, h'⟩ := list1 (l := r) (f := f) (y := z) (by simpa using (List.cons.inj h).2)
    exact ⟨x, x', by rw [e], (List.cons.inj h).1, h'⟩

theorem call_builtin {c : Call} {b : Builtin} (ho : o.op = .call c) (hc : c.callee = .builtin b) : (execOp a.eval o).run P w = (builtin b c.argTypes o.type (c.args.map fun | .const _ => true | _ => false) (c.args.map a.eval)).run P w := by
  unfold execOp
  rw [ho]
  simp only [resolve, hc]
  rfl

theorem arr_of_list {α : Type} {xs : Array α} {l : List α} (h : xs.toList = l) : xs = l.toArray := by rw [← h]

theorem builtin_ok (h : Inv X T st a w pl fp) {c : Call} {b : Builtin} (ho : o.op = .call c) (hc : c.callee = .builtin b) (hd : ∀ e, o.dst = some e → e < T)
    (hr : (builtinE P st.nx st.chunk b (c.args.toList.map st.ev) c.argTypes.toList).run = some u) :
    Mem X T st a w P o (cond (memB P (.call c)) (st.nx + 1) st.nx) u := by
  have go : ∀ {s : Sem Value}, (builtin b c.argTypes o.type (c.args.map fun | .const _ => true | _ => false) (c.args.map a.eval)) = (do pure (.value (← s))) → ∀ {v w'}, s.run P w = .ok v w' → (execOp a.eval o).run P w = .ok (.value v) w' := by
    intro s hs v w' hv
    rw [call_builtin ho hc, hs]; exact run_v hv
  cases b <;> simp only [builtinE] at hr <;> try (cases hr; done)
  case len =>
    rw [show memB P (.call c) = false by simp only [memB, hc]]
    split at hr
    case h_2 => cases hr
    rename_i x t hx ht
    obtain ⟨ox, ex, hx⟩ := list1 hx
    have hxx := ev_ok h ox
    have hargs : c.args.map a.eval = #[a.eval ox] := by rw [arr_of_list ex]; simp
    have hts : c.argTypes = #[t] := arr_of_list ht
    rw [hx] at hxx
    have fin : ∀ {A : Option Addr} {k cap : Nat}, a.eval ox = .slice A k cap → kndIs P t 3 = true → u = (.c (.nu .i64 (k : Int)), []) → Mem X T st a w P o (cond false (st.nx + 1) st.nx) u := by
      intro A k cap hv hk hu
      obtain ⟨e, h3⟩ := knd_slice hk
      subst hu
      exact Mem.of_quiet h hd (Nat.le_refl _) ⟨_, go (s := Builtin.len_ #[t] o.type #[a.eval ox]) (by rw [hargs, hts]; rfl) (by rw [hv]; exact run_len_slice h3 o.type A k cap), rfl, rfl⟩
    split at hr
    · rename_i s
      obtain ⟨hk, hr⟩ := Res.run_cond hr
      rw [run_pure1 hr]
      exact Mem.of_quiet h hd (Nat.le_refl _) ⟨_, go (s := Builtin.len_ #[t] o.type #[a.eval ox]) (by rw [hargs, hts]; rfl) (by rw [show a.eval ox = _ from hxx]; exact run_len_string (knd_string hk) o.type _), rfl, rfl⟩
    · obtain ⟨hk, hr⟩ := Res.run_cond hr
      exact fin (k := 0) (show a.eval ox = _ from hxx) hk (run_pure1 hr)
    · obtain ⟨hk, hr⟩ := Res.run_cond hr
      obtain ⟨p, _, hs⟩ := hxx
      obtain ⟨A, cap, hv⟩ := hs.shape
      exact fin hv hk (run_pure1 hr)
    · split at hr
      case h_2 => cases hr
      rename_i v hv
      obtain ⟨hk, hr⟩ := Res.run_cond hr
      obtain ⟨A, cap, he⟩ := view_shape h (x := x) hxx hv
      exact fin he hk (run_pure1 hr)
  case min =>
    rw [show memB P (.call c) = false by simp only [memB, hc]]
    split at hr
    case h_2 => cases hr
    rename_i k x r hx
    cases hl : c.args.toList with
    | nil => rw [hl] at hx; cases hx
    | cons ox os =>
      rw [hl] at hx
      simp only [List.map_cons, List.cons.injEq] at hx
      obtain ⟨h1, h2⟩ := hx
      rw [← h2] at hr
      obtain ⟨v, g1, g2, g3⟩ := minmax_ok h true hr
      have hxx := ev_ok h ox
      rw [h1] at hxx
      refine Mem.of_quiet h hd (Nat.le_refl _) ⟨v, go (s := Builtin.min_ c.argTypes o.type (c.args.map a.eval)) rfl ?_, g2, g3⟩
      simp only [Builtin.min_, Array.toList_map, hl, List.map_cons]
      rw [show a.eval ox = _ from hxx]
      simpa using g1
  case max =>
    rw [show memB P (.call c) = false by simp only [memB, hc]]
    split at hr
    case h_2 => cases hr
    rename_i k x r hx
    cases hl : c.args.toList with
    | nil => rw [hl] at hx; cases hx
    | cons ox os =>
      rw [hl] at hx
      simp only [List.map_cons, List.cons.injEq] at hx
      obtain ⟨h1, h2⟩ := hx
      rw [← h2] at hr
      obtain ⟨v, g1, g2, g3⟩ := minmax_ok h false hr
      have hxx := ev_ok h ox
      rw [h1] at hxx
      refine Mem.of_quiet h hd (Nat.le_refl _) ⟨v, go (s := Builtin.max_ c.argTypes o.type (c.args.map a.eval)) rfl ?_, g2, g3⟩
      simp only [Builtin.max_, Array.toList_map, hl, List.map_cons]
      rw [show a.eval ox = _ from hxx]
      simpa using g1
  case append =>
    rw [show memB P (.call c) = true by simp only [memB, hc]]
    split at hr
    case h_2 => cases hr
    rename_i s x t0 t1 hx ht
    obtain ⟨os, ox, ex, h1, h2⟩ := list2 hx
    have hargs : c.args.map a.eval = #[a.eval os, a.eval ox] := by rw [arr_of_list ex]; simp
    have hts : c.argTypes = #[t0, t1] := arr_of_list ht
    obtain ⟨v', w', pl', fp', z1, z2⟩ := append_ok (ty := o.type) h o.dst hd (Nat.le_succ st.nx) (h.nx _ (Nat.le_refl _)) (Nat.lt_succ_self _) h1 h2 hr
    exact ⟨_, v', w', pl', fp', go (s := Builtin.append_ #[t0, t1] o.type #[a.eval os, a.eval ox]) (by rw [hargs, hts]; rfl) z1, .inl rfl, z2⟩

theorem prim_ok (h : Inv X T st a w pl fp) (hd : ∀ e, o.dst = some e → e < T) (hr : (prim P st.nx st.ev st.chunk o.op).run = some u) : Mem X T st a w P o (cond (memB P o.op) (st.nx + 1) st.nx) u := by
  have hq : ∀ {b : Bool}, b = false → Quiet1 X pl P w a o u → Mem X T st a w P o (cond b (st.nx + 1) st.nx) u := by
    rintro b rfl hq
    exact Mem.of_quiet h hd (Nat.le_refl _) hq
  have hnm := h.nx st.nx (Nat.le_refl _)
  cases ho : o.op <;> rw [ho] at hr
  case move x => exact hq rfl (q_move h ho hr)
  case assign x => exact hq rfl (q_assign h ho hr)
  case pick c x y => exact hq rfl (q_pick h ho hr)
  case binOp op t x y t' => exact hq rfl (q_binOp h ho hr)
  case unOp op t x => exact hq rfl (q_unOp h ho hr)
  case nilCheck x => exact hq rfl (q_nilCheck h ho hr)
  case extract t i => exact hq rfl (q_extract h ho hr)
  case field t x f => exact hq rfl (q_field h ho hr)
  case fieldAddr t x f => exact hq rfl (q_fieldAddr h ho hr)
  case indexAddr t x i => exact hq rfl (q_indexAddr h ho hr)
  case index t x i => exact hq rfl (q_index h ho hr)
  case slice t x lo hi mx => exact hq rfl (q_slice h ho hr)
  case makeFunc f fs cs => exact hq rfl (q_makeFunc h ho hr)
  case build t ps => exact hq rfl (q_build h ho hr)
  case load t x => exact hq rfl (q_load h ho hr)
  case store t x y => exact m_store h ho hd (Nat.le_succ _) hr
  case alloc t => exact m_alloc h ho hd (Nat.le_succ _) hnm (Nat.lt_succ_self _) hr
  case box t x => exact m_box h ho hd (Nat.le_succ _) hnm (Nat.lt_succ_self _) hr
  case buildSlice t l ps => exact m_buildSlice h ho hd (Nat.le_succ _) hnm (Nat.lt_succ_self _) hr
  case makeSlice t l c => exact m_makeSlice h ho hd (Nat.le_succ _) hnm (Nat.lt_succ_self _) hr
  case convert src dst x =>
    by_cases h3 : kndIs P dst 3 = true
    · have e : memB P (.convert src dst x) = true := h3
      rw [e]
      have h2 : kndIs P dst 2 = false := by
        unfold kndIs at h3 ⊢
        split at h3
        · rename_i i hi
          rw [Nat.eq_of_beq_eq_true h3]; rfl
        · cases h3
      have h1 : kndIs P dst 1 = false := by
        unfold kndIs at h3 ⊢
        split at h3
        · rename_i i hi
          rw [Nat.eq_of_beq_eq_true h3]; rfl
        · cases h3
      cases hx : st.ev x with
      | c cx =>
        by_cases hs : ∃ s, cx = .sr s
        · obtain ⟨s, rfl⟩ := hs
          exact m_convertS h ho hx h2 hd (Nat.le_succ _) hnm (Nat.lt_succ_self _) hr
        · exfalso
          simp only [prim, hx] at hr
          unfold kndIs at h1 h2 h3
          split at hr
          · rename_i hdd _
            rw [hdd] at h1
            obtain ⟨hk, _⟩ := Res.run_cond hr
            have h1 : _ = false := h1
            exact absurd (hk.symm.trans h1) (by decide)
          · rename_i heq
            injection heq with heq
            exact hs ⟨_, heq⟩
          · rename_i hdd _
            rw [hdd] at h2
            obtain ⟨hk, _⟩ := Res.run_cond hr
            have h2 : _ = false := h2
            rw [Bool.and_eq_true] at hk
            exact absurd (hk.1.symm.trans h2) (by decide)
          · cases hr
      | _ => simp only [prim, hx] at hr; split at hr <;> first | (cases hr; done) | (rename_i heq; cases heq)
    · have e : memB P (.convert src dst x) = false := by cases hk : kndIs P dst 3 <;> simp_all [memB]
      rw [e]
      cases hx : st.ev x with
      | c cx =>
        by_cases hn : ∃ k m, cx = .nu k m
        · obtain ⟨k, m, rfl⟩ := hn
          exact Mem.of_quiet h hd (Nat.le_refl _) (q_convert (s := ByteArray.empty) h ho (.inl hx) hr)
        · by_cases hs : ∃ s, cx = .sr s
          · obtain ⟨s, rfl⟩ := hs
            by_cases h2 : kndIs P dst 2 = true
            · exact Mem.of_quiet h hd (Nat.le_refl _) (q_convert (k := .i64) (n := 0) h ho (.inr ⟨hx, h2⟩) hr)
            · exfalso
              simp only [prim, hx] at hr
              unfold kndIs at h2 h3
              split at hr <;> rename_i heq <;> first | (cases heq; done) | (cases hr; done) | skip
              · rename_i d _ _ hdd
                rw [hdd] at h2 h3
                cases e2 : Nat.beq d.knd 2
                · rw [e2] at hr
                  cases e3 : Nat.beq d.knd 3
                  · rw [e3] at hr; cases hr
                  · exact h3 e3
                · exact h2 e2
              · injection heq with heq; subst heq; exact (by assumption : ∀ (s' : ByteArray), Cell.sr s = Cell.sr s' → False) s rfl
          · exact Mem.of_quiet h hd (Nat.le_refl _) (q_convertB h ho hx (fun k m e => hn ⟨k, m, e⟩) (fun s e => hs ⟨s, e⟩) hr)
      | _ => simp only [prim, hx] at hr; split at hr <;> first | (cases hr; done) | (rename_i heq; cases heq)
  case call c =>
    simp only [prim] at hr
    split at hr
    case h_2 => cases hr
    rename_i b hc
    exact builtin_ok h ho hc hd hr
  all_goals (simp only [prim] at hr; cases hr)
end

end Go.Proofs.YthpklbpdchckkaaEv

namespace Go.Proofs.YthpklbpdchckkaaEv
open Go.RowKit (Below)
set_option linter.unusedVariables false
set_option linter.unusedSectionVars false
set_option linter.unusedSimpArgs false

section
variable {X : Cx} {T : Nat} {st : St} {a : Act} {w w' : World} {pl pl1 pl2 : PlM} {fp fp1 fp2 : FpM} {P : Program}

/-- chunks that are laid anew: those of I, and new ones from nm to nm' -/
structure Pk (X : Cx) (w : World) (pl : PlM) (fp : FpM) (nm : Nat) (I : List Nat) (cs : List (Nat × Option Chunk)) (nm' : Nat) (f : List Nat) (pl' : PlM) (fp' : FpM) : Prop where
  le : nm ≤ nm'
  lo : ∀ c, c < nm → pl' c = pl c
  hi : ∀ c, nm' ≤ c → pl' c = none
  fp : ∀ c, look cs c = none → fp' c = fp c
  dom : ∀ c, look cs c ≠ none → c ∈ I ∨ (nm ≤ c ∧ c < nm')
  cov : ∀ c ∈ I, look cs c ≠ none
  ch : ∀ c k, look cs c = some (some k) → KR X pl' fp' w c k ∧ (fp' c).Nodup ∧ ∀ b ∈ fp' c, b ∈ f
  dj : ∀ b c e k l, look cs c = some (some k) → look cs e = some (some l) → b ∈ fp' c → b ∈ fp' e → c = e

theorem KR.same {pl pl' : PlM} {fp fp' : FpM} (h : ∀ c p, pl c = some p → pl' c = some p) {c : Nat} (he : fp' c = fp c) {k : Chunk} (r : KR X pl fp w c k) : KR X pl' fp' w c k := by
  cases k with
  | box ty xs =>
    obtain ⟨p, us, e, ef, hr, ht, hc⟩ := r
    exact ⟨p, us, h _ _ e, he.trans ef, hr, ht, hc.imp fun _ _ => CR.mono h⟩
  | rows t e xs =>
    obtain ⟨p, us, f, e1, e2, e3, hh, ho⟩ := r
    exact ⟨p, us, f, h _ _ e1, e2, e3, by rw [he]; exact hh, ho⟩
  | hol t e xs i j n =>
    obtain ⟨p, q, v, f, a, u, b, fa, fm, fb, e1, e2, e3, e4, e5, e6, ht, hr, hl, e7, h1, h2, h3, hq, hv⟩ := r
    exact ⟨p, q, v, f, a, u, b, fa, fm, fb, h _ _ e1, e2, e3, e4, he.trans e5, e6, ht, hr, hl, e7, h1, h2, h3, h _ _ hq, hv⟩

theorem Pk.mono {nm nm' : Nat} {I cs f} (h : Pk X w pl fp nm I cs nm' f pl1 fp1) (h0 : ∀ c, nm ≤ c → pl c = none) : ∀ c p, pl c = some p → pl1 c = some p := fun c p hc => by
  by_cases hlt : c < nm
  · rw [h.lo c hlt]; exact hc
  · rw [h0 c (Nat.le_of_not_lt hlt)] at hc; cases hc

theorem Pk.nil {nm : Nat} (h0 : ∀ c, nm ≤ c → pl c = none) : Pk X w pl fp nm [] [] nm [] pl fp :=
  ⟨Nat.le_refl _, fun _ _ => rfl, h0, fun _ _ => rfl, fun c h => absurd rfl h, fun _ h => by simp at h, fun _ _ h => by simp [look] at h, fun _ _ _ _ _ h => by simp [look] at h⟩

theorem Pk.trans {nm nm1 nm2 : Nat} {I J : List Nat} {cs ds : List (Nat × Option Chunk)} {f g : List Nat} (h : Pk X w pl fp nm I cs nm1 f pl1 fp1) (k : Pk X w pl1 fp1 nm1 J ds nm2 g pl2 fp2)
    (hIJ : (I ++ J).Nodup) (hlt : ∀ c ∈ I ++ J, c < nm) (hfg : (f ++ g).Nodup) : Pk X w pl fp nm (I ++ J) (cs ++ ds) nm2 (f ++ g) pl2 fp2 := by
  have hIJ' := List.nodup_append.1 hIJ
  have hfg' := List.nodup_append.1 hfg
  have apart : ∀ c, look cs c ≠ none → look ds c = none := by
    intro c hc
    cases hd : look ds c with
    | none => rfl
    | some x =>
      exfalso
      rcases h.dom c hc with h1 | h1 <;> rcases k.dom c (by rw [hd]; simp) with h2 | h2
      · exact hIJ'.2.2 c h1 c h2 rfl
      · have := hlt c (List.mem_append.2 (.inl h1)); have := h.le; omega
      · have := hlt c (List.mem_append.2 (.inr h2)); omega
      · omega
  have hm : ∀ c p, pl1 c = some p → pl2 c = some p := k.mono h.hi
  refine ⟨Nat.le_trans h.le k.le, fun c hc => (k.lo c (Nat.lt_of_lt_of_le hc h.le)).trans (h.lo c hc), k.hi, fun c hc => ?_, fun c hc => ?_, fun c hc => ?_, fun c x hc => ?_, fun b c e x y hc he hb hb' => ?_⟩
  · rw [look_append] at hc
    cases hl : look cs c with
    | none => rw [hl] at hc; exact (k.fp c hc).trans (h.fp c hl)
    | some x => rw [hl] at hc; cases hc
  · rw [look_append] at hc
    cases hl : look cs c with
    | none =>
      rw [hl] at hc
      rcases k.dom c hc with h1 | h1
      · exact .inl (List.mem_append.2 (.inr h1))
      · exact .inr ⟨Nat.le_trans h.le h1.1, h1.2⟩
    | some x =>
      rcases h.dom c (by rw [hl]; simp) with h1 | h1
      · exact .inl (List.mem_append.2 (.inl h1))
      · exact .inr ⟨h1.1, Nat.lt_of_lt_of_le h1.2 k.le⟩
  · rw [look_append]
    cases hl : look cs c with
    | none =>
      rcases List.mem_append.1 hc with h1 | h1
      · exact absurd hl (h.cov c h1)
      · exact k.cov c h1
    | some x => simp
  · rw [look_append] at hc
    cases hl : look cs c with
    | none =>
      rw [hl] at hc
      obtain ⟨h1, h2, h3⟩ := k.ch c x hc
      exact ⟨h1, h2, fun b hb => List.mem_append.2 (.inr (h3 b hb))⟩
    | some y =>
      rw [hl] at hc
      simp only [Option.some.injEq] at hc; subst hc
      obtain ⟨h1, h2, h3⟩ := h.ch c x hl
      have hf := k.fp c (apart c (by rw [hl]; simp))
      exact ⟨h1.same hm hf, by rw [hf]; exact h2, fun b hb => List.mem_append.2 (.inl (h3 b (by rw [← hf]; exact hb)))⟩
  · rw [look_append] at hc he
    cases hl : look cs c with
    | none =>
      rw [hl] at hc
      cases hl' : look cs e with
      | none => rw [hl'] at he; exact k.dj b c e x y hc he hb hb'
      | some y' =>
        rw [hl'] at he
        simp only [Option.some.injEq] at he; subst he
        rw [k.fp e (apart e (by rw [hl']; simp))] at hb'
        exact absurd rfl (hfg'.2.2 b ((h.ch e y hl').2.2 b hb') b ((k.ch c x hc).2.2 b hb))
    | some x' =>
      rw [hl] at hc
      simp only [Option.some.injEq] at hc; subst hc
      rw [k.fp c (apart c (by rw [hl]; simp))] at hb
      cases hl' : look cs e with
      | none =>
        rw [hl'] at he
        exact absurd rfl (hfg'.2.2 b ((h.ch c x hl).2.2 b hb) b ((k.ch e y he).2.2 b hb'))
      | some y' =>
        rw [hl'] at he
        simp only [Option.some.injEq] at he; subst he
        rw [k.fp e (apart e (by rw [hl']; simp))] at hb'
        exact h.dj b c e x y hl hl' hb hb'

theorem CR.none_mono {x : Cell} {v : Value} (h : CR X (fun _ => none) x v) : CR X pl x v := CR.mono (fun _ _ e => by cases e) h

theorem OwS_slv {t : Ty} {e : TypeId} {xs : List t.D} {v : Value} {f : List Nat} (hx : OwS w e t.n (OwC w t) xs v f) {nm : Nat} (h0 : ∀ c, nm ≤ c → pl c = none) (hf : f.Nodup) :
    ∃ pl' fp', Pk X w pl fp nm [] [(nm, some (.rows t e xs))] (nm + 1) f pl' fp' ∧ CR X pl' (.slw nm) v := by
  have build : ∀ (p : Pl), KR X (setPl pl nm p) (setFp fp nm f) w nm (.rows t e xs) → SlV p 0 p.len v → ∃ pl' fp', Pk X w pl fp nm [] [(nm, some (.rows t e xs))] (nm + 1) f pl' fp' ∧ CR X pl' (.slw nm) v := by
    intro p hk hv
    refine ⟨setPl pl nm p, setFp fp nm f, ⟨Nat.le_succ _, fun c hc => ?_, fun c hc => ?_, fun c hc => setFp_look hc, fun c hc => ?_, fun _ h => by simp at h, fun c k hc => ?_, fun b c e k l hc he _ _ => ?_⟩, p, setPl_new .., hv⟩
    · unfold setPl; rw [if_neg (by omega)]
    · unfold setPl; rw [if_neg (by omega)]; exact h0 c (by omega)
    · cases hl : look [(nm, some (Chunk.rows t e xs))] c with
      | none => exact absurd hl hc
      | some x =>
        rcases look_one hl with ⟨rfl, _⟩ | hl
        · exact .inr ⟨Nat.le_refl _, Nat.lt_succ_self _⟩
        · simp [look] at hl
    · rcases look_one hc with ⟨rfl, e'⟩ | hl
      · injection e' with e'; subst e'
        rw [setFp_new]
        exact ⟨hk, hf, fun b hb => hb⟩
      · simp [look] at hl
    · rcases look_one hc with ⟨rfl, _⟩ | hl
      · rcases look_one he with ⟨rfl, _⟩ | hl
        · rfl
        · simp [look] at hl
      · simp [look] at hl
  rcases hx with ⟨rfl, rfl, rfl⟩ | ⟨g, o, cap, top, us, f', rfl, h1, h2, h3, h4, h5, h6, rfl⟩
  · exact build ⟨0, 0, 0, 0, t.n, false⟩ ⟨_, [], [], setPl_new .., rfl, rfl, .inl ⟨rfl, setFp_new .., rfl, rfl⟩, ⟨rfl, rfl⟩⟩ (.inl ⟨rfl, rfl, rfl⟩)
  · refine build ⟨g, o, top, xs.length, t.n, true⟩ ⟨_, us, f', setPl_new .., rfl, rfl, .inr ⟨setFp_new .., ?_, h3, h5, rfl⟩, h6⟩ (.inr ⟨o, cap, rfl, h1, h2, fun _ => ⟨by simp, by simp⟩, rfl⟩)
    have : xs.length * t.n ≤ cap * t.n := Nat.mul_le_mul_right _ h1
    simp only; omega

theorem instC_ok {nm : Nat} (h0 : ∀ c, nm ≤ c → pl c = none) {x : Cell} {v : Value} {f : List Nat} (hx : OC X w x v f) (hf : f.Nodup) :
    ∃ pl' fp', Pk X w pl fp nm [] (instC nm x).2.1 (instC nm x).2.2 f pl' fp' ∧ CR X pl' (instC nm x).1 v := by
  cases x
  case own t e xs => exact OwS_slv hx h0 hf
  case mov t e xs => exact OwS_slv hx h0 hf
  all_goals
    obtain ⟨rfl, h1⟩ := hx
    exact ⟨pl, fp, Pk.nil h0, CR.none_mono h1⟩

theorem instCs_ok : ∀ {xs : List Cell} {us : List Value} {f : List Nat} {nm : Nat} {pl : PlM} {fp : FpM}, (∀ c, nm ≤ c → pl c = none) → OCs X w xs us f → f.Nodup →
    ∃ pl' fp', Pk X w pl fp nm [] (instCs nm xs).2.1 (instCs nm xs).2.2 f pl' fp' ∧ All2 (CR X pl') (instCs nm xs).1 us
  | [], _, _, nm, pl, fp, h0, .nil, hf => ⟨pl, fp, Pk.nil h0, .nil⟩
  | x :: xs, _, _, nm, pl, fp, h0, .cons hx ht, hf => by
    have hf' := List.nodup_append.1 hf
    obtain ⟨pl1, fp1, k1, k2⟩ := instC_ok (fp := fp) h0 hx hf'.1
    obtain ⟨pl2, fp2, k3, k4⟩ := instCs_ok (fp := fp1) k1.hi ht hf'.2.1
    exact ⟨pl2, fp2, k1.trans k3 List.nodup_nil (by simp) hf, .cons (CR.mono (k3.mono k1.hi) k2) k4⟩

/-! ### what is handed over -/
def ArgR (X : Cx) (w : World) : Val → Value → List Nat → Prop
  | .c x, v, f => OC X w x v f
  | .agg xs, v, f => ∃ us : Array Value, v = .agg us ∧ OCs X w xs us.toList f
  | .bx _ xs, v, f => ∃ g us f', v = .pointer (some ⟨g, 0, none⟩) ∧ g < w.heap.size ∧ w.rangeAt g 0 us ∧ w.there g 0 us.length ∧ OCs X w xs us f' ∧ f = g :: f'
  | .tup _, _, _ => False
inductive ArgsR (X : Cx) (w : World) : List Val → List Value → List Nat → Prop where
  | nil : ArgsR X w [] [] []
  | cons {x v f xs vs g} (h : ArgR X w x v f) (t : ArgsR X w xs vs g) : ArgsR X w (x :: xs) (v :: vs) (f ++ g)

theorem inst1_ok {nm : Nat} (h0 : ∀ c, nm ≤ c → pl c = none) {x : Val} {v : Value} {f : List Nat} (hx : ArgR X w x v f) (hf : f.Nodup) :
    ∃ pl' fp', Pk X w pl fp nm [] (inst1 nm x).2.1 (inst1 nm x).2.2 f pl' fp' ∧ VR1 X pl' (inst1 nm x).1 v := by
  cases x with
  | c x => exact instC_ok h0 hx hf
  | agg xs =>
    obtain ⟨us, rfl, h1⟩ := hx
    obtain ⟨pl', fp', k1, k2⟩ := instCs_ok (fp := fp) h0 h1 hf
    exact ⟨pl', fp', k1, us, rfl, k2⟩
  | bx ty xs =>
    obtain ⟨g, us, f', rfl, h1, h2, h3, h4, rfl⟩ := hx
    have hf' := List.nodup_cons.1 hf
    have h1' : ∀ c, nm + 1 ≤ c → setPl pl nm ⟨g, 0, 0, 0, 0, true⟩ c = none := fun c hc => by unfold setPl; rw [if_neg (by omega)]; exact h0 c (by omega)
    obtain ⟨pl2, fp2, k1, k2⟩ := instCs_ok (fp := setFp fp nm [g]) h1' h4 hf'.2
    have hnl : look (instCs (nm + 1) xs).2.1 nm = none := by
      cases hl : look (instCs (nm + 1) xs).2.1 nm with
      | none => rfl
      | some x =>
        rcases k1.dom nm (by rw [hl]; simp) with h | h
        · simp at h
        · omega
    have hp2 : pl2 nm = some ⟨g, 0, 0, 0, 0, true⟩ := by rw [k1.lo nm (Nat.lt_succ_self _)]; exact setPl_new ..
    have hf2 : fp2 nm = [g] := by rw [k1.fp nm hnl]; exact setFp_new ..
    have hother : ∀ c, c ≠ nm → setPl pl nm ⟨g, 0, 0, 0, 0, true⟩ c = pl c := fun c hc => by unfold setPl; rw [if_neg hc]
    refine ⟨pl2, fp2, ⟨Nat.le_trans (Nat.le_succ _) k1.le, fun c hc => ?_, k1.hi, fun c hc => ?_, fun c hc => ?_, fun _ h => by simp at h, fun c k hc => ?_, fun b c e k l hc he hb hb' => ?_⟩, ⟨_, hp2, rfl⟩⟩
    · rw [k1.lo c (by omega), hother c (by omega)]
    · have : look (instCs (nm + 1) xs).2.1 c = none := by
        cases hl : look (instCs (nm + 1) xs).2.1 c with
        | none => rfl
        | some x =>
          exfalso
          exact look_hd (nm := nm) (k := some (.box ty (instCs (nm + 1) xs).1)) (by rw [hl]; simp) hc
      rw [k1.fp c this, setFp_look hc]
    · cases hl : look (inst1 nm (.bx ty xs)).2.1 c with
      | none => exact absurd hl hc
      | some x =>
        rcases look_one hl with ⟨rfl, _⟩ | hl
        · exact .inr ⟨Nat.le_refl _, Nat.lt_of_lt_of_le (Nat.lt_succ_self _) k1.le⟩
        · rcases k1.dom c (by rw [hl]; simp) with h | h
          · simp at h
          · exact .inr ⟨by omega, h.2⟩
    · rcases look_one hc with ⟨rfl, e'⟩ | hl
      · injection e' with e'; subst e'
        refine ⟨⟨_, us, hp2, hf2, h2, h3, k2⟩, by rw [hf2]; simp, fun b hb => ?_⟩
        rw [hf2] at hb
        rw [List.mem_singleton.1 hb]; exact List.mem_cons_self ..
      · obtain ⟨m1, m2, m3⟩ := k1.ch c k hl
        exact ⟨m1, m2, fun b hb => List.mem_cons_of_mem _ (m3 b hb)⟩
    · rcases look_one hc with ⟨rfl, _⟩ | hl
      · rcases look_one he with ⟨rfl, _⟩ | hl'
        · rfl
        · rw [hf2] at hb
          rw [List.mem_singleton.1 hb] at hb'
          exact absurd ((k1.ch e l hl').2.2 g hb') hf'.1
      · rcases look_one he with ⟨rfl, _⟩ | hl'
        · rw [hf2] at hb'
          rw [List.mem_singleton.1 hb'] at hb
          exact absurd ((k1.ch c k hl).2.2 g hb) hf'.1
        · exact k1.dj b c e k l hl hl' hb hb'
  | tup vs => exact hx.elim

theorem insts_ok : ∀ {xs : List Val} {us : List Value} {f : List Nat} {nm : Nat} {pl : PlM} {fp : FpM}, (∀ c, nm ≤ c → pl c = none) → ArgsR X w xs us f → f.Nodup →
    ∃ pl' fp', Pk X w pl fp nm [] (insts nm xs).2.1 (insts nm xs).2.2 f pl' fp' ∧ All2 (VR1 X pl') (insts nm xs).1 us
  | [], _, _, nm, pl, fp, h0, .nil, hf => ⟨pl, fp, Pk.nil h0, .nil⟩
  | x :: xs, _, _, nm, pl, fp, h0, .cons hx ht, hf => by
    have hf' := List.nodup_append.1 hf
    obtain ⟨pl1, fp1, k1, k2⟩ := inst1_ok (fp := fp) h0 hx hf'.1
    obtain ⟨pl2, fp2, k3, k4⟩ := insts_ok (fp := fp1) k1.hi ht hf'.2.1
    exact ⟨pl2, fp2, k1.trans k3 List.nodup_nil (by simp) hf, .cons (VR1.mono (k3.mono k1.hi) k2) k4⟩
end

end Go.Proofs.YthpklbpdchckkaaEv

namespace Go.Proofs.YthpklbpdchckkaaEv
open Go.RowKit (Below)
set_option linter.unusedVariables false
set_option linter.unusedSectionVars false
set_option linter.unusedSimpArgs false

section
variable {X : Cx} {T : Nat} {st : St} {a : Act} {w w' : World} {pl pl1 pl2 : PlM} {fp fp1 fp2 : FpM} {P : Program}

/-! ### the callee's context -/
def cxOf (h : Inv X T st a w pl fp) (ids : List Nat) : Cx :=
  ⟨w, fun b => ∃ c ∈ ids, OwnB st fp b c, fun z b => match z with | 0 => ∃ c, c ∉ ids ∧ OwnB st fp b c | y + 1 => X.Z y b, fun z b hz => by
    cases z with
    | zero =>
      obtain ⟨c, hc, ho⟩ := hz
      refine ⟨(h.lt b c ho).1, fun ⟨d, hd, ho'⟩ => ?_⟩
      rw [h.dj b c d ho ho'] at hc
      exact hc hd
    | succ y =>
      have hb := X.hZ y b hz
      exact ⟨Nat.lt_of_lt_of_le hb.1 h.fr.size, fun ⟨d, hd, ho'⟩ => hb.2 ((h.lt b d ho').2 hb.1)⟩, []⟩

theorem OwC.read {Z : Nat → Prop} : ∀ {t : Ty} {x : t.D} {us : List Value} {f : List Nat}, (∀ b ∈ f, Z b) → OwC w t x us f → RdC w Z t x us
  | .int _, _, _, _, _, h | .bool, _, _, _, _, h | .str, _, _, _, _, h | .unit, _, _, _, _, h => h.1
  | .pr _ _, _, _, _, hz, ⟨p, q, f, g, e, e2, h1, h2⟩ => ⟨p, q, e, OwC.read (fun b hb => hz b (by rw [e2]; exact List.mem_append.2 (.inl hb))) h1, OwC.read (fun b hb => hz b (by rw [e2]; exact List.mem_append.2 (.inr hb))) h2⟩
  | .sl _ t, xs, _, _, hz, ⟨v, e, h⟩ => by
    refine ⟨v, e, ?_⟩
    rcases h with ⟨rfl, rfl, _⟩ | ⟨g, o, cap, top, us, f', rfl, h1, h2, h3, h4, h5, h6, rfl⟩
    · exact .inl ⟨rfl, rfl⟩
    · refine .inr ⟨⟨g, o, none⟩, cap, rfl, h1, fun _ => ⟨rfl, hz g (List.mem_cons_self ..)⟩, fun i x hx => ?_⟩
      obtain ⟨u1, b, u2, f1, g', f2, e1, e2, e3, e4, _, _⟩ := h6.at_ hx
      refine ⟨b, OwC.read (fun y hy => hz y (List.mem_cons_of_mem _ (by rw [e2]; simp [hy]))) e4, ?_⟩
      rw [e1, List.append_assoc] at h5
      have := (rangeAt_append (rangeAt_append h5).2).1
      rw [e3] at this
      exact this
theorem OwS.read {Z : Nat → Prop} {t : Ty} {e : TypeId} {xs : List t.D} {v : Value} {f : List Nat} (hz : ∀ b ∈ f, Z b) (h : OwS w e t.n (OwC w t) xs v f) : RdS w Z t.n (RdC w Z t) xs v := by
  obtain ⟨v', e', h'⟩ := OwC.read (t := .sl e t) (x := xs) (us := [v]) hz ⟨v, rfl, h⟩
  injection e' with e'; subst e'
  exact h'
theorem RdS.mono {Z Z' : Nat → Prop} {t : Ty} {xs : List t.D} {v : Value} (hZ : ∀ b, Z b → Z' b) (hw : ∀ b o us, Z b → w.rangeAt b o us → w'.rangeAt b o us) (h : RdS w Z t.n (RdC w Z t) xs v) : RdS w' Z' t.n (RdC w' Z' t) xs v := by
  obtain ⟨v', e', h'⟩ := RdC.mono (t := .sl 0 t) (x := xs) (us := [v]) hZ hw ⟨v, rfl, h⟩
  injection e' with e'; subst e'
  exact h'
theorem rdZ (h : Inv X T st a w pl fp) {z b : Nat} {o : Nat} {us : List Value} (hz : X.Z z b) : X.w0.rangeAt b o us → w.rangeAt b o us := fun hr => by
  have := X.hZ z b hz; exact h.fr.rangeAt this.1 this.2 hr
theorem rdZ' (h : Inv X T st a w pl fp) {z b : Nat} {o : Nat} {us : List Value} (hz : X.Z z b) : w.rangeAt b o us → X.w0.rangeAt b o us := fun hr => by
  have := X.hZ z b hz
  intro j v hv
  rw [← h.fr.cell this.1 this.2]; exact hr j v hv

theorem lendC_ok (h : Inv X T st a w pl fp) (ids : List Nat) {x y : Cell} {v : Value} (hl : lendC st.chunk x = some y) (hx : CR X pl x v) (hd : ∀ c ∈ refC x, c ∉ ids) : OC (cxOf h ids) w y v [] := by
  have own : ∀ {c off len : Nat} {t : Ty} {e : TypeId} {xs : List t.D} {p : Pl}, st.chunk c = some (.rows t e xs) → pl c = some p → SlV p off len v → c ∉ ids → OC (cxOf h ids) w (.ro 0 t e ((xs.drop off).take len)) v [] := by
    intro c off len t e xs p hc hp hv hn
    obtain ⟨f, k1, k2, k3⟩ := chunk_own h hc hp hv
    exact ⟨rfl, k1.read (Z := (cxOf h ids).Z 0) fun b hb => ⟨c, hn, ⟨_, hc⟩, k2 b hb⟩⟩
  cases x <;> simp only [lendC] at hl <;> try (cases hl; done)
  case slw c =>
    split at hl
    case h_2 => cases hl
    rename_i t e xs hc
    injection hl with hl; subst hl
    obtain ⟨p, hp, hv⟩ := hx
    obtain ⟨p', g1, g2, g3⟩ := rows_pl h hc
    rw [hp] at g1; injection g1 with g1; subst g1
    have := own hc hp hv (hd c (by simp [refC]))
    rw [g2] at this
    simpa using this
  case sl c off len =>
    split at hl
    case h_2 => cases hl
    rename_i t e xs hc
    injection hl with hl; subst hl
    obtain ⟨p, hp, hv⟩ := hx
    exact own hc hp hv (hd c (by simp [refC]))
  case ro z t e xs =>
    injection hl with hl; subst hl
    exact ⟨rfl, RdS.mono (fun _ h => h) (fun b o us hz => rdZ h hz) (show RdS _ _ _ _ _ _ from hx)⟩
  case rp z t y' j =>
    injection hl with hl; subst hl
    obtain ⟨g, o, us, e, hz, hr, hrd⟩ := hx
    exact ⟨rfl, g, o, us, e, hz, rdZ h hz hr, RdC.mono (fun _ h => h) (fun b o us hz => rdZ h hz) hrd⟩
  case fn f cs =>
    split at hl
    case h_2 => cases hl
    injection hl with hl; subst hl
    obtain ⟨us, e, hx⟩ := hx
    cases us with
    | mk us => cases us with
      | nil => exact ⟨rfl, #[], e, .nil⟩
      | cons _ _ => cases hx
  all_goals
    injection hl with hl; subst hl
    exact ⟨rfl, hx⟩

theorem lendCs_ok (h : Inv X T st a w pl fp) (ids : List Nat) : ∀ {xs ys : List Cell} {vs : List Value}, lendCs st.chunk xs = some ys → All2 (CR X pl) xs vs → (∀ c ∈ xs.flatMap refC, c ∉ ids) → OCs (cxOf h ids) w ys vs []
  | [], ys, _, hl, .nil, _ => by simp only [lendCs, Option.some.injEq] at hl; subst hl; exact .nil
  | x :: xs, ys, _, hl, .cons hx ht, hd => by
    simp only [lendCs] at hl
    split at hl
    case h_2 => cases hl
    rename_i y ys' h1 h2
    injection hl with hl; subst hl
    exact .cons (f := []) (g := []) (lendC_ok h ids h1 hx fun c hc => hd c (by simp [List.flatMap_cons, hc])) (lendCs_ok h ids h2 ht fun c hc => hd c (by simp only [List.flatMap_cons, List.mem_append]; exact .inr hc))

def noRd : Cell → Bool
  | .ro _ _ _ _ => false
  | .rp _ _ _ _ => false
  | .rn _ _ _ _ => false
  | _ => true
theorem OC.cx {X' : Cx} {x : Cell} {v : Value} {f : List Nat} (h : OC X w x v f) (hn : noRd x = true) : OC X' w x v f := by
  cases x <;> first | exact h | (cases hn; done)
theorem ownC_noRd {H : Nat → Option Chunk} {x y : Cell} {ids : List Nat} (h : ownC H x = some (y, ids)) : noRd y = true := by
  cases x <;> simp only [ownC] at h <;> first
    | (cases h; done)
    | (split at h <;> first | (cases h; done) | (injection h with h; injection h with h1 h2; subst h1; rfl))
    | (injection h with h; injection h with h1 h2; subst h1; rfl)

theorem lendW_ok (h : Inv X T st a w pl fp) (ids : List Nat) {x y : Cell} {v : Value} {js : List Nat} (hl : lendW st.chunk x = some (y, js)) (hx : CR X pl x v) :
    ∃ f, OC (cxOf h ids) w y v f ∧ (∀ b ∈ f, ∃ c ∈ js, OwnB st fp b c) ∧ f.Nodup := by
  have own : ownC st.chunk x = some (y, js) → ∃ f, OC (cxOf h ids) w y v f ∧ (∀ b ∈ f, ∃ c ∈ js, OwnB st fp b c) ∧ f.Nodup := fun ho => by
    obtain ⟨f, k1, k2, k3⟩ := ownC_ok h ho hx
    exact ⟨f, k1.cx (ownC_noRd ho), k2, k3⟩
  cases x
  case ro z t e xs =>
    simp only [lendW, Option.some.injEq, Prod.mk.injEq] at hl
    obtain ⟨rfl, rfl⟩ := hl
    exact ⟨[], lendC_ok h ids (x := .ro z t e xs) rfl hx (by simp [refC]), by simp, List.nodup_nil⟩
  case rp z t y' j =>
    simp only [lendW, Option.some.injEq, Prod.mk.injEq] at hl
    obtain ⟨rfl, rfl⟩ := hl
    exact ⟨[], lendC_ok h ids (x := .rp z t y' j) rfl hx (by simp [refC]), by simp, List.nodup_nil⟩
  all_goals exact own hl

theorem nodup_own {f g ids jds : List Nat} (h : Inv X T st a w pl fp) (hf : ∀ b ∈ f, ∃ c ∈ ids, OwnB st fp b c) (hg : ∀ b ∈ g, ∃ c ∈ jds, OwnB st fp b c) (hfn : ids.Nodup → f.Nodup) (hgn : jds.Nodup → g.Nodup) (hn : (ids ++ jds).Nodup) : (f ++ g).Nodup :=
  nodup_join h hf hg (hfn (List.nodup_append.1 hn).1) (hgn (List.nodup_append.1 hn).2.1) hn
theorem own_join {f g ids jds : List Nat} (hf : ∀ b ∈ f, ∃ c ∈ ids, OwnB st fp b c) (hg : ∀ b ∈ g, ∃ c ∈ jds, OwnB st fp b c) : ∀ b ∈ f ++ g, ∃ c ∈ ids ++ jds, OwnB st fp b c := fun b hb => by
  rcases List.mem_append.1 hb with hb | hb
  · obtain ⟨c, hc, ho⟩ := hf b hb; exact ⟨c, List.mem_append.2 (.inl hc), ho⟩
  · obtain ⟨c, hc, ho⟩ := hg b hb; exact ⟨c, List.mem_append.2 (.inr hc), ho⟩

theorem lendWs_ok (h : Inv X T st a w pl fp) (ids : List Nat) : ∀ {xs ys : List Cell} {vs : List Value} {js : List Nat}, lendWs st.chunk xs = some (ys, js) → All2 (CR X pl) xs vs →
    ∃ f, OCs (cxOf h ids) w ys vs f ∧ (∀ b ∈ f, ∃ c ∈ js, OwnB st fp b c) ∧ (js.Nodup → f.Nodup)
  | [], ys, _, js, hl, .nil => by
    simp only [lendWs, Option.some.injEq, Prod.mk.injEq] at hl
    obtain ⟨rfl, rfl⟩ := hl
    exact ⟨[], .nil, by simp, fun _ => List.nodup_nil⟩
  | x :: xs, ys, _, js, hl, .cons hx ht => by
    simp only [lendWs] at hl
    split at hl
    case h_2 => cases hl
    rename_i y a1 ys' a2 h1 h2
    injection hl with hl; injection hl with e1 e2; subst e1; subst e2
    obtain ⟨f, k1, k2, k3⟩ := lendW_ok h ids h1 hx
    obtain ⟨g, k4, k5, k6⟩ := lendWs_ok h ids h2 ht
    exact ⟨f ++ g, .cons k1 k4, own_join k2 k5, nodup_own h k2 k5 (fun _ => k3) k6⟩

/-- cells of which rows come back: which chunks they are -/
inductive BackCs (st : St) (pl : PlM) (w : World) : List Cell → List Nat → List Value → Prop where
  | nil : BackCs st pl w [] [] []
  | own {t e xs c p v ys ids vs} (hp : pl c = some p) (hk : ∃ k, st.chunk c = some k) (hs : p.sz = t.n) (hv : SlV p 0 p.len v)
      (hr : p.rl = true → p.o + p.len * p.sz ≤ p.top ∧ w.there p.g 0 p.top ∧ p.g < w.heap.size) (h : BackCs st pl w ys ids vs) : BackCs st pl w (.own t e xs :: ys) (c :: ids) (v :: vs)
  | other {x v ys ids vs} (hx : isOwn x = false) (h : BackCs st pl w ys ids vs) : BackCs st pl w (x :: ys) ids (v :: vs)
/-- an argument that comes back: which chunk it is -/
def BackR (st : St) (pl : PlM) (w : World) (l : Lent) (v : Value) : Prop :=
  l.back = false ∨
  (∃ c rest p, l.ids = c :: rest ∧ pl c = some p ∧ (∃ k, st.chunk c = some k) ∧ (∃ ty xs, l.v = .bx ty xs ∧ v = .pointer (some ⟨p.g, 0, none⟩))) ∨
  (∃ x, l.v = .c x ∧ BackCs st pl w [x] l.ids [v]) ∨
  (∃ xs us, l.v = .agg xs ∧ v = .agg us ∧ BackCs st pl w xs l.ids us.toList)

theorem chunk_lt {st : St} (h : Inv X T st a w pl fp) {c : Nat} {p : Pl} (hp : pl c = some p) : c < st.nx := by
  rcases Nat.lt_or_ge c st.nx with h1 | h1
  · exact h1
  · rw [h.nx c h1] at hp; cases hp

theorem movC_OC {X : Cx} {x : Cell} {v : Value} {f : List Nat} (h : OC X w x v f) : OC X w (movC x) v f := by cases x <;> exact h
theorem movCs_OCs {X : Cx} {xs : List Cell} {vs : List Value} {f : List Nat} (h : OCs X w xs vs f) : OCs X w (xs.map movC) vs f := by
  induction h with
  | nil => exact .nil
  | cons hx ht ih => exact .cons (movC_OC hx) ih

theorem ownC_slw {H : Nat → Option Chunk} {x y : Cell} {js : List Nat} (ho : ownC H x = some (y, js)) (hn : ∀ c o l, x ≠ .sl c o l) : (isOwn y = true ∧ ∃ c t e xs, x = .slw c ∧ H c = some (.rows t e xs) ∧ y = .own t e xs ∧ js = [c]) ∨ (isOwn y = false ∧ js = []) := by
  cases x <;> simp only [ownC] at ho <;> first
    | (cases ho; done)
    | (exact absurd rfl (hn _ _ _))
    | (split at ho
       case h_2 => cases ho
       rename_i t e xs hc
       injection ho with ho; injection ho with e1 e2; subst e1; subst e2
       exact .inl ⟨rfl, _, t, e, xs, rfl, hc, rfl, rfl⟩)
    | (injection ho with ho; injection ho with e1 e2; subst e1; subst e2; exact .inr ⟨rfl, rfl⟩)
theorem lendB_ok (h : Inv X T st a w pl fp) (ids : List Nat) {x y : Cell} {v : Value} {js : List Nat} (hl : lendB st.chunk x = some (y, js)) (hx : CR X pl x v) :
    (∃ f, OC (cxOf h ids) w y v f ∧ (∀ b ∈ f, ∃ c ∈ js, OwnB st fp b c) ∧ f.Nodup) ∧
      (∀ ys ids' vs, BackCs st pl w ys ids' vs → BackCs st pl w (y :: ys) (js ++ ids') (v :: vs)) := by
  have hl' : lendW st.chunk x = some (y, js) ∧ ∀ c o l, x ≠ .sl c o l := by
    cases x <;> first | exact ⟨hl, fun _ _ _ h => by cases h⟩ | (cases hl; done)
  refine ⟨lendW_ok h ids hl'.1 hx, fun ys ids' vs hb => ?_⟩
  have own : ownC st.chunk x = some (y, js) → BackCs st pl w (y :: ys) (js ++ ids') (v :: vs) := fun ho => by
    rcases ownC_slw ho hl'.2 with ⟨_, c, t, e, xs, rfl, hc, rfl, rfl⟩ | ⟨h1, rfl⟩
    · obtain ⟨p, hp, hv⟩ := hx
      obtain ⟨us, f', g1, g2, hh, ho⟩ := rows_kr h hc hp
      refine .own hp ⟨_, hc⟩ g2 hv (fun hrl => ?_) hb
      rcases hh with ⟨_, _, _, hl'⟩ | ⟨e4, e5, ht, hr, _⟩
      · rw [hrl] at hl'; cases hl'
      · exact ⟨by rw [g1, g2]; exact e5, ht, (h.lt p.g c ⟨⟨_, hc⟩, by rw [e4]; exact List.mem_cons_self ..⟩).1⟩
    · exact .other h1 hb
  cases x
  case ro z t e xs =>
    simp only [lendW, Option.some.injEq, Prod.mk.injEq] at hl'
    obtain ⟨⟨rfl, rfl⟩, _⟩ := hl'
    exact .other rfl hb
  case rp z t y' j =>
    simp only [lendW, Option.some.injEq, Prod.mk.injEq] at hl'
    obtain ⟨⟨rfl, rfl⟩, _⟩ := hl'
    exact .other rfl hb
  all_goals exact own hl'.1
theorem lendBs_ok (h : Inv X T st a w pl fp) (ids : List Nat) : ∀ {xs ys : List Cell} {vs : List Value} {js : List Nat}, lendBs st.chunk xs = some (ys, js) → All2 (CR X pl) xs vs →
    (∃ f, OCs (cxOf h ids) w ys vs f ∧ (∀ b ∈ f, ∃ c ∈ js, OwnB st fp b c) ∧ (js.Nodup → f.Nodup)) ∧ BackCs st pl w ys js vs
  | [], ys, _, js, hl, .nil => by
    simp only [lendBs, Option.some.injEq, Prod.mk.injEq] at hl
    obtain ⟨rfl, rfl⟩ := hl
    exact ⟨⟨[], .nil, by simp, fun _ => List.nodup_nil⟩, .nil⟩
  | x :: xs, ys, _, js, hl, .cons hx ht => by
    simp only [lendBs] at hl
    split at hl
    case h_2 => cases hl
    rename_i y a1 ys' a2 h1 h2
    injection hl with hl; injection hl with e1 e2; subst e1; subst e2
    obtain ⟨⟨f, k1, k2, k3⟩, kb⟩ := lendB_ok h ids h1 hx
    obtain ⟨⟨g, k4, k5, k6⟩, kc⟩ := lendBs_ok h ids h2 ht
    exact ⟨⟨f ++ g, .cons k1 k4, own_join k2 k5, nodup_own h k2 k5 (fun _ => k3) k6⟩, kb _ _ _ kc⟩

theorem lend1_ok (h : Inv X T st a w pl fp) (ids : List Nat) {m : Md} {x : Val} {v : Value} {l : Lent} (hl : lend1 st.chunk m x = some l) (hx : VR1 X pl x v) (hd : ∀ c ∈ l.rd, c ∉ ids) :
    ∃ f, ArgR (cxOf h ids) w l.v v f ∧ (∀ b ∈ f, ∃ c ∈ l.ids, OwnB st fp b c) ∧ (l.ids.Nodup → f.Nodup) ∧ BackR st pl w l v := by
  cases x with
  | c x =>
    simp only [lend1] at hl
    split at hl
    · rename_i c
      split at hl
      case h_2 => cases hl
      rename_i ty cs hc
      split at hl
      case h_2 => cases hl
      rename_i ys js hw
      injection hl with hl; subst hl
      obtain ⟨p, hp, ev⟩ := hx
      obtain ⟨us, e1, e2, e3, e4⟩ := box_kr h hc hp
      obtain ⟨f, k1, k2, k3⟩ := lendWs_ok h ids hw e4
      have hown : OwnB st fp p.g c := ⟨⟨_, hc⟩, by rw [e1]; exact List.mem_singleton.2 rfl⟩
      have hall : ∀ b ∈ [p.g] ++ f, ∃ d ∈ [c] ++ js, OwnB st fp b d := own_join (fun b hb => by rw [List.mem_singleton.1 hb]; exact ⟨c, List.mem_singleton.2 rfl, hown⟩) k2
      refine ⟨p.g :: f, ⟨p.g, us, f, ev, (h.lt _ _ hown).1, e2, e3, k1, rfl⟩, hall, fun hn => ?_, .inr (.inl ⟨c, js, p, rfl, hp, ⟨_, hc⟩, ⟨ty, ys, rfl, ev⟩⟩)⟩
      exact nodup_own (ids := [c]) (f := [p.g]) h (fun b hb => by rw [List.mem_singleton.1 hb]; exact ⟨c, List.mem_singleton.2 rfl, hown⟩) k2 (fun _ => by simp) k3 hn
    · cases m with
      | rd =>
        simp only at hl
        split at hl
        case h_2 => cases hl
        rename_i y hy
        injection hl with hl; subst hl
        exact ⟨[], lendC_ok h ids hy hx hd, by simp, fun _ => List.nodup_nil, .inl rfl⟩
      | bk =>
        simp only at hl
        split at hl
        case h_2 => cases hl
        rename_i y js hy
        injection hl with hl; subst hl
        obtain ⟨⟨f, k1, k2, k3⟩, kb⟩ := lendB_ok h ids hy hx
        refine ⟨f, k1, k2, fun _ => k3, .inr (.inr (.inl ⟨y, rfl, ?_⟩))⟩
        have := kb [] [] [] .nil
        rw [List.append_nil] at this
        exact this
      | mv =>
        simp only at hl
        split at hl
        case h_2 => cases hl
        rename_i y js hy
        injection hl with hl; subst hl
        obtain ⟨f, k1, k2, k3⟩ := lendW_ok h ids hy hx
        exact ⟨f, movC_OC k1, k2, fun _ => k3, .inl rfl⟩
  | agg xs =>
    obtain ⟨us, e, hall⟩ := hx
    cases m with
    | rd =>
      simp only [lend1] at hl
      split at hl
      case h_2 => cases hl
      rename_i ys hy
      injection hl with hl; subst hl
      exact ⟨[], ⟨us, e, lendCs_ok h ids hy hall hd⟩, by simp, fun _ => List.nodup_nil, .inl rfl⟩
    | bk =>
      simp only [lend1] at hl
      split at hl
      case h_2 => cases hl
      rename_i ys js hy
      injection hl with hl; subst hl
      obtain ⟨⟨f, k1, k2, k3⟩, kb⟩ := lendBs_ok h ids hy hall
      exact ⟨f, ⟨us, e, k1⟩, k2, k3, .inr (.inr (.inr ⟨ys, us, rfl, e, kb⟩))⟩
    | mv =>
      simp only [lend1] at hl
      split at hl
      case h_2 => cases hl
      rename_i ys js hy
      injection hl with hl; subst hl
      obtain ⟨f, k1, k2, k3⟩ := lendWs_ok h ids hy hall
      exact ⟨f, ⟨us, e, movCs_OCs k1⟩, k2, k3, .inl rfl⟩
  | bx ty xs => exact hx.elim
  | tup vs => exact hx.elim

theorem lend_ok (h : Inv X T st a w pl fp) (ids : List Nat) : ∀ {ms : List Md} {xs : List Val} {vs : List Value} {ls : List Lent}, lend st.chunk ms xs = some ls → All2 (VR1 X pl) xs vs → (∀ c ∈ ls.flatMap (·.rd), c ∉ ids) →
    ∃ f, ArgsR (cxOf h ids) w (ls.map (·.v)) vs f ∧ (∀ b ∈ f, ∃ c ∈ ls.flatMap (·.ids), OwnB st fp b c) ∧ ((ls.flatMap (·.ids)).Nodup → f.Nodup) ∧ All2 (BackR st pl w) ls vs
  | ms, [], _, ls, hl, .nil, _ => by
    have : ls = [] := by cases ms <;> (simp only [lend, Option.some.injEq] at hl; exact hl.symm)
    subst this
    exact ⟨[], .nil, by simp, fun _ => List.nodup_nil, .nil⟩
  | ms, x :: xs, _, ls, hl, .cons hx ht, hd => by
    obtain ⟨m, ms', y, ys, h1, h2, e⟩ : ∃ m ms' y ys, lend1 st.chunk m x = some y ∧ lend st.chunk ms' xs = some ys ∧ ls = y :: ys := by
      cases ms with
      | nil =>
        simp only [lend] at hl
        split at hl
        case h_2 => cases hl
        rename_i y ys h1 h2
        injection hl with hl
        exact ⟨_, _, y, ys, h1, h2, hl.symm⟩
      | cons m ms =>
        simp only [lend] at hl
        split at hl
        case h_2 => cases hl
        rename_i y ys h1 h2
        injection hl with hl
        exact ⟨_, _, y, ys, h1, h2, hl.symm⟩
    subst e
    obtain ⟨f, k1, k2, k3, k4⟩ := lend1_ok h ids h1 hx fun c hc => hd c (by simp [List.flatMap_cons, hc])
    obtain ⟨g, k5, k6, k7, k8⟩ := lend_ok h ids h2 ht fun c hc => hd c (by simp only [List.flatMap_cons, List.mem_append]; exact .inr hc)
    exact ⟨f ++ g, .cons k1 k5, own_join k2 k6, fun hn => nodup_own h k2 k6 k3 k7 hn, .cons k4 k8⟩
end

end Go.Proofs.YthpklbpdchckkaaEv

namespace Go.Proofs.YthpklbpdchckkaaEv
open Go.RowKit (Below)
set_option linter.unusedVariables false
set_option linter.unusedSectionVars false
set_option linter.unusedSimpArgs false

section
variable {X : Cx} {T : Nat} {st : St} {a : Act} {w w' : World} {pl pl1 pl2 : PlM} {fp fp1 fp2 : FpM} {P : Program} {o : Oper}

theorem unC_ok (h : Inv X T st a w pl fp) {ids : List Nat} {x y : Cell} {v : Value} {f : List Nat} (hx : OC (cxOf h ids) w' x v f) (hu : unC x = some y) : OC X w' y v f := by
  cases x <;> simp only [unC] at hu <;> try (cases hu; done)
  case ro z t e xs =>
    cases z with
    | zero => cases hu
    | succ z =>
      injection hu with hu; subst hu
      exact ⟨hx.1, RdS.mono (fun _ h => h) (fun b o us hz => rdZ' h hz) (show RdS w (X.Z z) t.n (RdC w (X.Z z) t) xs v from hx.2)⟩
  case rp z t y' j =>
    cases z with
    | zero => cases hu
    | succ z =>
      injection hu with hu; subst hu
      obtain ⟨rfl, g, o, us, e, hz, hr, hrd⟩ := hx
      exact ⟨rfl, g, o, us, e, hz, rdZ' h hz hr, RdC.mono (fun _ h => h) (fun b o us hz => rdZ' h hz) (show RdC w (X.Z z) t y' us from hrd)⟩
  all_goals
    injection hu with hu; subst hu
    exact hx

theorem unCs_ok (h : Inv X T st a w pl fp) {ids : List Nat} : ∀ {xs ys : List Cell} {vs : List Value} {f : List Nat}, OCs (cxOf h ids) w' xs vs f → unCs xs = some ys → OCs X w' ys vs f
  | [], ys, _, _, .nil, hu => by simp only [unCs, Option.some.injEq] at hu; subst hu; exact .nil
  | x :: xs, ys, _, _, .cons hx ht, hu => by
    simp only [unCs] at hu
    split at hu
    case h_2 => cases hu
    rename_i y ys' h1 h2
    injection hu with hu; subst hu
    exact .cons (unC_ok h hx h1) (unCs_ok h ht h2)
theorem unV_ok (h : Inv X T st a w pl fp) {ids : List Nat} {x y : Val} {v : Value} {f : List Nat} (hx : ArgR (cxOf h ids) w' x v f) (hu : unV x = some y) : ArgR X w' y v f := by
  cases x <;> simp only [unV] at hu <;> try (cases hu; done)
  all_goals
    split at hu
    case h_2 => cases hu
    rename_i z hz
    injection hu with hu; subst hu
  · exact unC_ok h hx hz
  · obtain ⟨us, e, hx⟩ := hx
    exact ⟨us, e, unCs_ok h hx hz⟩
  · obtain ⟨g, us, f', e, h1, h2, h3, h4, h5⟩ := hx
    exact ⟨g, us, f', e, h1, h2, h3, unCs_ok h h4 hz, h5⟩
theorem unVs_ok (h : Inv X T st a w pl fp) {ids : List Nat} : ∀ {xs ys : List Val} {vs : List Value} {f : List Nat}, ArgsR (cxOf h ids) w' xs vs f → unVs xs = some ys → ArgsR X w' ys vs f
  | [], ys, _, _, .nil, hu => by simp only [unVs, Option.some.injEq] at hu; subst hu; exact .nil
  | x :: xs, ys, _, _, .cons hx ht, hu => by
    simp only [unVs] at hu
    split at hu
    case h_2 => cases hu
    rename_i y ys' h1 h2
    injection hu with hu; subst hu
    exact .cons (unV_ok h hx h1) (unVs_ok h ht h2)

theorem look_gone_app {rest : List Nat} {ds : List (Nat × Option Chunk)} {x : Nat} {k : Chunk} (h : look (gone rest ++ ds) x = some (some k)) : look ds x = some (some k) := by
  rw [look_append] at h
  cases hl : look (gone rest) x with
  | none => rw [hl] at h; exact h
  | some y => rw [hl] at h; rw [(look_gone hl).1] at h; cases h

theorem own1_ok {v : Value} {f : List Nat} {nm c : Nat} {p : Pl} {t t0 : Ty} {e : TypeId} {xs : List t.D} (hp : pl c = some p) (hsz : p.sz = t0.n) (hsl : SlV p 0 p.len v)
    (hrl : p.rl = true → p.o + p.len * p.sz ≤ p.top ∧ w.there p.g 0 p.top ∧ p.g < w.heap.size) (hx : OwS w' e t.n (OwC w' t) xs v f) (hf : f.Nodup) (h0 : ∀ c, nm ≤ c → pl1 c = none)
    (hpl : ∀ c p, pl c = some p → pl1 c = some p) {F : Nat → Prop} (hw : Fr F w w') (hk : t.n = t0.n) : ∃ pl' fp', Pk X w' pl1 fp1 nm [c] [(c, some (.rows t e xs))] nm f pl' fp' := by
    have hlc : ∀ x z, look [(c, some (Chunk.rows t e xs))] x = some (some z) → x = c ∧ z = .rows t e xs := fun x z hz => by
      rcases look_one hz with ⟨rfl, e'⟩ | hz
      · injection e' with e'; exact ⟨rfl, e'⟩
      · simp [look] at hz
    have hKR : KR X pl1 (setFp fp1 c f) w' c (.rows t e xs) := by
      rcases hx with ⟨rfl, rfl, rfl⟩ | ⟨g, o, cap, top, us, f', rfl, h1, h2, h3, h4, h5, h6, rfl⟩
      · rcases hsl with ⟨_, e0, hr⟩ | ⟨_, _, e0, _⟩
        · exact ⟨p, [], [], hpl _ _ hp, e0, hsz.trans hk.symm, .inl ⟨rfl, setFp_new .., rfl, hr⟩, ⟨rfl, rfl⟩⟩
        · cases e0
      · rcases hsl with ⟨e0, _⟩ | ⟨o', cap', e0, r1, r2, r3, r4⟩
        · cases e0
        · injection e0 with e0 e0' e0''
          injection e0 with e0; injection e0 with e0 e00
          subst e0; subst e00
          obtain ⟨s1, s2, s3⟩ := hrl r4
          refine ⟨p, us, f', hpl _ _ hp, e0'.symm, hsz.trans hk.symm, .inr ⟨setFp_new .., ?_, hw.th _ _ _ s3 s2, ?_, r4⟩, h6⟩
          · rw [e0', hk, ← hsz]; exact s1
          · by_cases hz : 0 < p.len
            · rw [(r3 hz).1] at h5; simpa using h5
            · have : us = [] := by
                have := h6.len
                rw [e0', Nat.eq_zero_of_not_pos hz, Nat.zero_mul] at this
                exact List.eq_nil_of_length_eq_zero this
              subst this; exact rangeAt_nil _ _ _
    refine ⟨pl1, setFp fp1 c f, ⟨Nat.le_refl _, fun _ _ => rfl, h0, fun x hx => setFp_look hx, fun x hx => ?_, fun x hx => ?_, fun x k hx => ?_, fun d x y k m hx hy _ _ => ?_⟩⟩
    · cases hl : look [(c, some (Chunk.rows t e xs))] x with
      | none => exact absurd hl hx
      | some z =>
        rcases look_one hl with ⟨rfl, _⟩ | hl
        · exact .inl (List.mem_cons_self ..)
        · simp [look] at hl
    · rcases List.mem_cons.1 hx with rfl | hx
      · rw [look_self]; simp
      · simp at hx
    · obtain ⟨rfl, rfl⟩ := hlc _ _ hx
      rw [setFp_new]
      exact ⟨hKR, hf, fun _ h => h⟩
    · rw [(hlc _ _ hx).1, (hlc _ _ hy).1]

theorem Pk.weak {nm nm' : Nat} {I : List Nat} {cs : List (Nat × Option Chunk)} {f g : List Nat} (h : Pk X w pl fp nm I cs nm' f pl1 fp1) (hfg : ∀ b ∈ f, b ∈ g) : Pk X w pl fp nm I cs nm' g pl1 fp1 :=
  ⟨h.le, h.lo, h.hi, h.fp, h.dom, h.cov, fun c k hc => ⟨(h.ch c k hc).1, (h.ch c k hc).2.1, fun b hb => hfg b ((h.ch c k hc).2.2 b hb)⟩, h.dj⟩
theorem Pk.gone {nm : Nat} {I : List Nat} (h0 : ∀ c, nm ≤ c → pl c = none) : Pk X w pl fp nm I (YthpklbpdchckkaaEv.gone I) nm [] pl fp :=
  ⟨Nat.le_refl _, fun _ _ => rfl, h0, fun _ _ => rfl, fun c hc => by
    cases hl : look (YthpklbpdchckkaaEv.gone I) c with
    | none => exact absurd hl hc
    | some x => exact .inl (look_gone hl).2, fun _ h => gone_look h, fun _ _ h => (by cases (look_gone h).1), fun _ _ _ _ _ h => (by cases (look_gone h).1)⟩

theorem backCs_ok {X' : Cx} {F : Nat → Prop} (hw : Fr F w w') {xs : List Cell} {ids : List Nat} {vs : List Value} (hb : BackCs st pl w xs ids vs) : ∀ {outs : List Cell} {f : List Nat} {nm : Nat} {b : List (Nat × Option Chunk)} {pl1 : PlM} {fp1 : FpM},
    OCs X' w' outs vs f → f.Nodup → (∀ c, nm ≤ c → pl1 c = none) → (∀ c p, pl c = some p → pl1 c = some p) → ids.Nodup → (∀ c ∈ ids, c < nm) → backCs xs ids outs = some b →
      ∃ pl' fp', Pk X w' pl1 fp1 nm ids b nm f pl' fp' := by
  induction hb with
  | nil =>
    intro outs f nm b pl1 fp1 hx hf h0 hpl hn hlt he
    cases hx
    simp only [backCs, Option.some.injEq] at he
    subst he
    exact ⟨pl1, fp1, Pk.nil h0⟩
  | @own t e xs c p v ys ids vs hp hk hs hv hr hbs ih =>
    intro outs f nm b pl1 fp1 hx hf h0 hpl hn hlt he
    cases hx with
    | @cons y _ f1 os _ f2 hx hxs =>
    simp only [backCs] at he
    split at he
    case h_2 => cases he
    rename_i t' e' zs c' ids' heq
    injection heq with q1 q2; subst q1; subst q2
    split at he
    case h_2 => cases he
    rename_i r hr'
    cases hkk : Nat.beq t'.n t.n
    · rw [hkk] at he; cases he
    rw [hkk] at he
    simp only [cond_true, Option.some.injEq] at he
    subst he
    have hn' := List.nodup_cons.1 hn
    have hf' := List.nodup_append.1 hf
    obtain ⟨pl2, fp2, k1⟩ := own1_ok (X := X) (fp1 := fp1) hp hs hv hr (show OwS w' e' t'.n (OwC w' t') zs v f1 from hx) hf'.1 h0 hpl hw (Nat.eq_of_beq_eq_true hkk)
    obtain ⟨pl3, fp3, k2⟩ := ih (fp1 := fp2) hxs hf'.2.1 k1.hi (fun c p hc => k1.mono h0 c p (hpl c p hc)) hn'.2 (fun c hc => hlt c (List.mem_cons_of_mem _ hc)) hr'
    exact ⟨pl3, fp3, k1.trans k2 hn hlt hf⟩
  | @other x v ys ids vs hx0 hbs ih =>
    intro outs f nm b pl1 fp1 hx hf h0 hpl hn hlt he
    cases hx with
    | @cons y _ f1 os _ f2 hx hxs =>
    have he' : backCs ys ids os = some b := by
      cases x <;> first | exact he | cases hx0
    have hf' := List.nodup_append.1 hf
    obtain ⟨pl2, fp2, k⟩ := ih (fp1 := fp1) hxs hf'.2.1 h0 hpl hn hlt he'
    exact ⟨pl2, fp2, k.weak fun b hb => List.mem_append.2 (.inr hb)⟩

theorem back1_ok (h : Inv X T st a w pl fp) {ids0 : List Nat} {l : Lent} {v : Value} {ov : Val} {f : List Nat} {nm nm' : Nat} {b : List (Nat × Option Chunk)} (hb : BackR st pl w l v) (hl : l.back = true)
    (hx : ArgR (cxOf h ids0) w' ov v f) (hf : f.Nodup) (h0 : ∀ c, nm ≤ c → pl1 c = none) (hpl : ∀ c p, pl c = some p → pl1 c = some p) (hids : l.ids.Nodup) (hlt : ∀ c ∈ l.ids, c < nm) {F : Nat → Prop} (hw : Fr F w w')
    (he : back1 nm l ov = some (b, nm')) : ∃ pl' fp', Pk X w' pl1 fp1 nm l.ids b nm' f pl' fp' := by
  cases ov with
  | bx ty xs =>
    simp only [back1] at he
    split at he
    case h_2 => cases he
    rename_i ty0 xs0 c rest hlv hi
    rw [hi] at hids hlt
    have hcn : c < nm := hlt c (List.mem_cons_self ..)
    obtain ⟨p, hp, hv⟩ : ∃ p, pl c = some p ∧ v = .pointer (some ⟨p.g, 0, none⟩) := by
      rcases hb with hb | ⟨c', rest', p, e1, hp, _, _, _, _, ev⟩ | ⟨x, e1, _⟩ | ⟨x, _, e1, _⟩
      · rw [hl] at hb; cases hb
      · rw [hi] at e1; injection e1 with e1 _; subst e1; exact ⟨p, hp, ev⟩
      · rw [hlv] at e1; cases e1
      · rw [hlv] at e1; cases e1
    split at he
    case h_2 => cases he
    rename_i ys hy
    injection he with he; injection he with e1 e2; subst e1; subst e2
    obtain ⟨g, us, f', ev, k1, k2, k3, k4, rfl⟩ := hx
    have hg : g = p.g := by
      rw [ev] at hv; injection hv with hv; injection hv with hv; injection hv
    subst hg
    have hf' := List.nodup_cons.1 hf
    obtain ⟨pl2, fp2, q1, q2⟩ := instCs_ok (fp := fp1) h0 (unCs_ok h k4 hy) hf'.2
    have hnl : look (instCs nm ys).2.1 c = none := by
      cases hl : look (instCs nm ys).2.1 c with
      | none => rfl
      | some x =>
        rcases q1.dom c (by rw [hl]; simp) with h | h
        · simp at h
        · omega
    have hne : ∀ x k, look (instCs nm ys).2.1 x = some (some k) → x ≠ c := fun x k hx e => by subst e; rw [hnl] at hx; cases hx
    rw [hi]
    refine ⟨pl2, setFp fp2 c [p.g], ⟨q1.le, q1.lo, q1.hi, fun x hx => ?_, fun x hx => ?_, fun x hx => ?_, fun x k hx => ?_, fun d x y k m hx hy hd hd' => ?_⟩⟩
    · rw [setFp_look hx]
      refine q1.fp x ?_
      cases hl : look (instCs nm ys).2.1 x with
      | none => rfl
      | some z =>
        exfalso
        refine look_hd (nm := c) (k := some (.box ty (instCs nm ys).1)) ?_ hx
        rw [look_append]
        cases hl' : look (gone rest) x with
        | none => simp only; rw [hl]; simp
        | some y => simp
    · cases hl : look ((c, some (Chunk.box ty (instCs nm ys).1)) :: (gone rest ++ (instCs nm ys).2.1)) x with
      | none => exact absurd hl hx
      | some z =>
        rcases look_one hl with ⟨rfl, _⟩ | hl
        · exact .inl (List.mem_cons_self ..)
        · rw [look_append] at hl
          cases hl' : look (gone rest) x with
          | none =>
            rw [hl'] at hl
            rcases q1.dom x (by rw [show look (instCs nm ys).2.1 x = some z from hl]; simp) with h | h
            · simp at h
            · exact .inr h
          | some y => exact .inl (List.mem_cons_of_mem _ (look_gone hl').2)
    · rcases List.mem_cons.1 hx with rfl | hx
      · rw [look_self]; simp
      · refine look_hd ?_
        rw [look_append]
        cases hl' : look (gone rest) x with
        | none => exact absurd hl' (gone_look hx)
        | some y => simp
    · rcases look_one hx with ⟨rfl, e'⟩ | hx
      · injection e' with e'; subst e'
        refine ⟨⟨p, us, by rw [q1.lo _ hcn]; exact hpl _ _ hp, setFp_new .., k2, k3, q2⟩, by rw [setFp_new]; simp, fun d hd => ?_⟩
        rw [setFp_new] at hd
        rw [List.mem_singleton.1 hd]; exact List.mem_cons_self ..
      · have hx := look_gone_app hx
        obtain ⟨m1, m2, m3⟩ := q1.ch x k hx
        have e : setFp fp2 c [p.g] x = fp2 x := by unfold setFp; rw [if_neg (hne x k hx)]
        rw [e]
        exact ⟨m1.same (fun _ _ h => h) e, m2, fun d hd => List.mem_cons_of_mem _ (m3 d hd)⟩
    · rcases look_one hx with ⟨rfl, _⟩ | hx
      · rcases look_one hy with ⟨rfl, _⟩ | hy
        · rfl
        · have hy := look_gone_app hy
          rw [setFp_new] at hd
          rw [List.mem_singleton.1 hd] at hd'
          unfold setFp at hd'; rw [if_neg (hne y m hy)] at hd'
          exact absurd ((q1.ch y m hy).2.2 _ hd') hf'.1
      · have hx' := look_gone_app hx
        clear hx
        unfold setFp at hd; rw [if_neg (hne x k hx')] at hd
        rcases look_one hy with ⟨e, _⟩ | hy
        · rw [e, setFp_new] at hd'
          rw [List.mem_singleton.1 hd'] at hd
          exact absurd ((q1.ch x k hx').2.2 _ hd) hf'.1
        · have hy := look_gone_app hy
          unfold setFp at hd'; rw [if_neg (hne y m hy)] at hd'
          exact q1.dj d x y k m hx' hy hd hd'
  | c x =>
    simp only [back1] at he
    split at he
    case h_2 => cases he
    rename_i x0 hlv
    split at he
    case h_2 => cases he
    rename_i r hr
    injection he with he; injection he with e1 e2; subst e1; subst e2
    rcases hb with hb | ⟨_, _, _, _, _, _, _, _, e1, _⟩ | ⟨x1, e1, hb⟩ | ⟨_, _, e1, _⟩
    · rw [hl] at hb; cases hb
    · rw [hlv] at e1; cases e1
    · rw [hlv] at e1; injection e1 with e1; subst e1
      have hx' : OCs (cxOf h ids0) w' [x] [v] (f ++ []) := .cons hx .nil
      rw [List.append_nil] at hx'
      exact backCs_ok hw hb hx' hf h0 hpl hids hlt hr
    · rw [hlv] at e1; cases e1
  | agg xs =>
    simp only [back1] at he
    split at he
    case h_2 => cases he
    rename_i xs0 hlv
    split at he
    case h_2 => cases he
    rename_i r hr
    injection he with he; injection he with e1 e2; subst e1; subst e2
    rcases hb with hb | ⟨_, _, _, _, _, _, _, _, e1, _⟩ | ⟨x1, e1, hb⟩ | ⟨xs1, us, e1, ev, hb⟩
    · rw [hl] at hb; cases hb
    · rw [hlv] at e1; cases e1
    · rw [hlv] at e1; cases e1
    · rw [hlv] at e1; injection e1 with e1; subst e1
      obtain ⟨us', ev', hx⟩ := hx
      rw [ev] at ev'; injection ev' with ev'; subst ev'
      exact backCs_ok hw hb hx hf h0 hpl hids hlt hr
  | tup xs => cases he

def backVals : List Val → List Value → List Value
  | v :: vs, x :: xs => cond (isBack v) (x :: backVals vs xs) (backVals vs xs)
  | _, _ => []

theorem backs_ok (h : Inv X T st a w pl fp) {ids0 : List Nat} {F : Nat → Prop} (hw : Fr F w w') : ∀ {ls : List Lent} {vs : List Value} {outs : List Val} {f : List Nat} {nm nm' : Nat} {b : List (Nat × Option Chunk)} {pl1 : PlM} {fp1 : FpM},
    All2 (BackR st pl w) ls vs → (∀ l ∈ ls, isBack l.v = l.back) → ArgsR (cxOf h ids0) w' outs (backVals (ls.map (·.v)) vs) f → f.Nodup → (∀ c, nm ≤ c → pl1 c = none) → (∀ c p, pl c = some p → pl1 c = some p) →
    (ls.flatMap (·.ids)).Nodup → (∀ c ∈ ls.flatMap (·.ids), c < nm) → backs nm ls outs = some (b, nm') → ∃ pl' fp', Pk X w' pl1 fp1 nm (ls.flatMap (·.ids)) b nm' f pl' fp'
  | [], _, [], _, nm, nm', b, pl1, fp1, .nil, _, hx, hf, h0, hpl, hn, hlt, he => by
    simp only [backs, Option.some.injEq, Prod.mk.injEq] at he
    obtain ⟨rfl, rfl⟩ := he
    cases hx
    exact ⟨pl1, fp1, Pk.nil h0⟩
  | [], _, _ :: _, _, nm, nm', b, pl1, fp1, .nil, _, hx, hf, h0, hpl, hn, hlt, he => by cases he
  | l :: ls, _, outs, f, nm, nm', b, pl1, fp1, .cons (y := v) (ys := vs) hb ht, hbk, hx, hf, h0, hpl, hn, hlt, he => by
    have hbl := hbk l (List.mem_cons_self ..)
    simp only [List.map_cons, backVals, hbl] at hx
    simp only [backs] at he
    simp only [List.flatMap_cons] at hn hlt ⊢
    cases hl : l.back
    · rw [hl] at hx he
      simp only [cond_false] at hx he
      split at he
      case h_2 => cases he
      rename_i b1 hb1
      injection he with he; injection he with e1 e2; subst e1; subst e2
      have hn' := List.nodup_append.1 hn
      have k1 : Pk X w' pl1 fp1 nm l.ids (gone l.ids) nm [] pl1 fp1 := Pk.gone h0
      obtain ⟨pl3, fp3, k2⟩ := backs_ok (fp1 := fp1) h hw ht (fun l' hl' => hbk l' (List.mem_cons_of_mem _ hl')) hx hf h0 hpl hn'.2.1
        (fun c hc => hlt c (List.mem_append.2 (.inr hc))) (show _ = some (b1.1, b1.2) from hb1)
      exact ⟨pl3, fp3, k1.trans k2 hn hlt hf⟩
    · rw [hl] at hx he
      simp only [cond_true] at hx he
      cases hx with
      | cons hx hxs =>
        rename_i ov f1 os f2
        simp only at he
        split at he
        case h_2 => cases he
        rename_i a1 ha1
        split at he
        case h_2 => cases he
        rename_i a2 ha2
        injection he with he; injection he with e1 e2; subst e1; subst e2
        have hn' := List.nodup_append.1 hn
        have hf' := List.nodup_append.1 hf
        obtain ⟨pl2, fp2, k1⟩ := back1_ok (fp1 := fp1) h hb hl hx hf'.1 h0 hpl hn'.1 (fun c hc => hlt c (List.mem_append.2 (.inl hc))) hw (show _ = some (a1.1, a1.2) from ha1)
        obtain ⟨pl3, fp3, k2⟩ := backs_ok (fp1 := fp2) h hw ht (fun l' hl' => hbk l' (List.mem_cons_of_mem _ hl')) hxs hf'.2.1 k1.hi (fun c p hc => k1.mono h0 c p (hpl c p hc)) hn'.2.1
          (fun c hc => Nat.lt_of_lt_of_le (hlt c (List.mem_append.2 (.inr hc))) k1.le) (show _ = some (a2.1, a2.2) from ha2)
        exact ⟨pl3, fp3, k1.trans k2 hn hlt hf⟩

theorem lendC_notOwn {H : Nat → Option Chunk} {x y : Cell} (h : lendC H x = some y) : isOwn y = false := by
  cases x <;> simp only [lendC] at h <;> first
    | (cases h; done)
    | (split at h <;> first | (cases h; done) | (injection h with h; subst h; rfl))
    | (injection h with h; subst h; rfl)
theorem lendCs_notOwn {H : Nat → Option Chunk} : ∀ {xs ys : List Cell}, lendCs H xs = some ys → ys.any isOwn = false
  | [], ys, h => by simp only [lendCs, Option.some.injEq] at h; subst h; rfl
  | x :: xs, ys, h => by
    simp only [lendCs] at h
    split at h
    case h_2 => cases h
    rename_i y ys' h1 h2
    injection h with h; subst h
    simp only [List.any_cons, lendC_notOwn h1, lendCs_notOwn h2, Bool.or_self]
theorem movC_notOwn (x : Cell) : isOwn (movC x) = false := by cases x <;> rfl
theorem lend1_back {H : Nat → Option Chunk} {m : Md} {x : Val} {l : Lent} (hl : lend1 H m x = some l) : isBack l.v = l.back := by
  cases x with
  | c x =>
    simp only [lend1] at hl
    split at hl
    · split at hl
      case h_2 => cases hl
      split at hl
      case h_2 => cases hl
      injection hl with hl; subst hl; rfl
    · cases m <;> simp only at hl <;> split at hl <;> first
        | (cases hl; done)
        | (rename_i y hy; injection hl with hl; subst hl; exact lendC_notOwn hy)
        | (injection hl with hl; subst hl; first | rfl | exact movC_notOwn _)
  | agg xs =>
    cases m <;> simp only [lend1] at hl <;> split at hl <;> first
      | (cases hl; done)
      | (rename_i y hy; injection hl with hl; subst hl; exact lendCs_notOwn hy)
      | (injection hl with hl; subst hl; first | rfl | (simp only [isBack, List.any_map, List.any_eq_false]; intro x _; simp [movC_notOwn]))
  | bx ty xs => cases hl
  | tup vs => cases hl
theorem lend_back {H : Nat → Option Chunk} : ∀ {ms : List Md} {xs : List Val} {ls : List Lent}, lend H ms xs = some ls → ∀ l ∈ ls, isBack l.v = l.back
  | ms, [], ls, hl => by
    have : ls = [] := by cases ms <;> (simp only [lend, Option.some.injEq] at hl; exact hl.symm)
    subst this; simp
  | [], x :: xs, ls, hl => by
    simp only [lend] at hl
    split at hl
    case h_2 => cases hl
    rename_i y ys h1 h2
    injection hl with hl; subst hl
    intro l hl
    rcases List.mem_cons.1 hl with rfl | hl
    · exact lend1_back h1
    · exact lend_back h2 l hl
  | m :: ms, x :: xs, ls, hl => by
    simp only [lend] at hl
    split at hl
    case h_2 => cases hl
    rename_i y ys h1 h2
    injection hl with hl; subst hl
    intro l hl
    rcases List.mem_cons.1 hl with rfl | hl
    · exact lend1_back h1
    · exact lend_back h2 l hl

/-! ### contracts -/
def packV : List Value → Value
  | [v] => v
  | vs => .tuple vs.toArray
def CallOk (P : Program) (f : FuncId) (vs res outs : List Val) : Prop :=
  ∀ (X : Cx) (av : List Value) (fs : List Nat), ArgsR X X.w0 vs av fs → fs.Nodup → (∀ b ∈ fs, b < X.w0.heap.size ∧ X.F0 b) →
    Calls P f av.toArray X.w0 fun e w' => ∃ rvs ga gb, e = .returned (packV rvs) ∧ Fr X.F0 X.w0 w' ∧ ArgsR X w' res rvs ga ∧ ArgsR X w' outs (backVals vs av) gb ∧ (ga ++ gb).Nodup ∧
      ∀ b ∈ ga ++ gb, b < w'.heap.size ∧ (b < X.w0.heap.size → X.F0 b)
def Enters (P : Program) (f : FuncId) : Prop := ∀ args w, (callFunc f args).run P w = .ok (.enter f args) w
def Snd {R : Type} (P : Program) (f : FuncId) (c : Con R) : Prop :=
  Enters P f ∧ ∀ vs k r, c.run vs k = some r → ∃ res outs, k res outs = some r ∧ CallOk P f vs res outs
end

end Go.Proofs.YthpklbpdchckkaaEv

namespace Go.Proofs.YthpklbpdchckkaaEv
open Go.RowKit (Below)
set_option linter.unusedVariables false
set_option linter.unusedSectionVars false
set_option linter.unusedSimpArgs false

section
variable {X : Cx} {T : Nat} {st : St} {a : Act} {w w' : World} {pl pl1 pl2 : PlM} {fp fp1 fp2 : FpM} {P : Program} {o : Oper} {R : Type}

theorem pack_ok : ∀ {xs : List Val} {vs : List Value}, All2 (VR1 X pl) xs vs → VR X pl (packRes xs) (packV vs)
  | _, _, .nil => ⟨#[], rfl, .nil⟩
  | _, _, .cons (x := x) hx .nil => by
    cases x with
    | c x => exact hx
    | agg xs => exact hx
    | bx ty xs => exact hx.elim
    | tup vs => exact hx.elim
  | _, _, .cons hx (.cons hy ht) => ⟨_, rfl, .cons hx (.cons hy ht)⟩

theorem vr1_of_lend {H : Nat → Option Chunk} : ∀ {ms : List Md} {xs : List Val} {vs : List Value} {ls : List Lent}, lend H ms xs = some ls → All2 (VR X pl) xs vs → All2 (VR1 X pl) xs vs
  | _, _, _, _, _, .nil => .nil
  | ms, x :: xs, _, ls, hl, .cons hx ht => by
    obtain ⟨m, ms', y, ys, h1, h2⟩ : ∃ m ms' y ys, lend1 H m x = some y ∧ lend H ms' xs = some ys := by
      cases ms with
      | nil =>
        simp only [lend] at hl
        split at hl
        case h_2 => cases hl
        rename_i y ys h1 h2
        exact ⟨_, _, y, ys, h1, h2⟩
      | cons m ms =>
        simp only [lend] at hl
        split at hl
        case h_2 => cases hl
        rename_i y ys h1 h2
        exact ⟨_, _, y, ys, h1, h2⟩
    refine .cons ?_ (vr1_of_lend h2 ht)
    cases x with
    | c x => exact hx
    | agg xs => exact hx
    | bx ty xs => exact hx
    | tup vs => cases h1

theorem disj_spec {xs ys : List Nat} (h : disj xs ys = true) : ∀ c ∈ xs, c ∉ ys := by
  intro c hc hy
  simp only [disj, List.all_eq_true, Bool.not_eq_true', List.any_eq_false] at h
  exact h c hc c hy (Nat.beq_refl c)

theorem caps_ok {cs : List Nat} {us : List Value} (h : All2 (fun c u => ∃ p, pl c = some p ∧ u = .pointer (some ⟨p.g, 0, none⟩)) cs us) : All2 (VR X pl) (cs.map fun c => .c (.ptr c 0)) us := by
  induction h with
  | nil => exact .nil
  | cons hx ht ih => exact .cons hx ih

theorem evs_ok (h : Inv X T st a w pl fp) : ∀ l : List Operand, All2 (VR X pl) (l.map st.ev) (l.map a.eval)
  | [] => .nil
  | x :: r => .cons (ev_ok h x) (evs_ok h r)

theorem call_run {c : Call} {f : Operand} {g : FuncId} {us : Array Value} (hE : Enters P g) (ho : o.op = .call c) (hc : c.callee = .value f) (hf : a.eval f = .func (.func g) #[] us) :
    (execOp a.eval o).run P w = .ok (.enter g (c.args.map a.eval ++ us)) w := by
  unfold execOp
  rw [ho]
  simp only [resolve, hc, hf, Deferred.ofValue, Sem.run_bind, Sem.run_pure, Result.andThen_ok, invoke, Array.empty_append]
  exact hE _ _

theorem call_ok {cn : Con R} {g : FuncId} (hS : Snd P g cn) {vals : List Val} {k : Upd → Nat → Option R} {r : R} (hr : callE cn st.nx st.chunk vals k = some r) :
    ∃ u n, k u n = some r ∧ ∀ (st' : St) (o : Oper) (c : Call) (f : Operand) (cs : List Nat), st'.nx = st.nx → lend st'.chunk cn.modes vals = lend st.chunk cn.modes vals → o.op = .call c → c.callee = .value f → st'.ev f = .c (.fn g cs) → callVals st' c cs = vals →
      ∀ X T a w pl fp, Inv X T st' a w pl fp → (∀ e, o.dst = some e → e < T) → ∀ Q, o.wp P a w (fun a' w' => ∃ pl' fp', Inv X T (upd st' o.dst n u) a' w' pl' fp') Q := by
  unfold callE at hr
  split at hr
  case h_1 => cases hr
  rename_i ls hls
  cases hk : (nodupB (ls.flatMap (·.ids)) && (disj (ls.flatMap (·.rd)) (ls.flatMap (·.ids)) && (ls.flatMap (·.ids)).all fun c => Nat.blt c st.nx))
  · rw [hk] at hr; cases hr
  rw [hk] at hr
  simp only [cond_true] at hr
  simp only [Bool.and_eq_true] at hk
  obtain ⟨hk1, hk2, hk3⟩ := hk
  have hk1 := nodupB_spec hk1
  have hk2 := disj_spec hk2
  have hk3 : ∀ c ∈ ls.flatMap (·.ids), c < st.nx := fun c hc => by
    have := List.all_eq_true.1 hk3 c hc
    exact Nat.le_of_ble_eq_true this
  obtain ⟨res, outs, hr, hC⟩ := hS.2 _ _ _ hr
  split at hr
  case h_1 => cases hr
  rename_i b nm' hb
  split at hr
  case h_1 => cases hr
  rename_i rs hrs
  refine ⟨_, _, hr, fun st' o c f cs hnx hle ho hc hf hv X T a w pl fp h hd Q => ?_⟩
  rw [← hle] at hls
  rw [← hnx] at hk3 hb
  have hff := ev_ok h f
  rw [hf] at hff
  obtain ⟨us, hfe, hcs⟩ := hff
  have hall : All2 (VR X pl) vals (c.args.toList.map a.eval ++ us.toList) := by
    rw [← hv]; exact (evs_ok h _).append (caps_ok hcs)
  obtain ⟨fs, k1, k2, k3, k4⟩ := lend_ok h (ls.flatMap (·.ids)) hls (vr1_of_lend hls hall) hk2
  have hrun := call_run (w := w) (P := P) hS.1 ho hc hfe
  unfold Oper.wp
  rw [hrun, Oper.upon_enter]
  have hcall := hC (cxOf h (ls.flatMap (·.ids))) _ fs k1 (k3 hk1) fun b hb => by
    obtain ⟨d, hd, hown⟩ := k2 b hb
    exact ⟨(h.lt b d hown).1, d, hd, hown⟩
  have e : (c.args.toList.map a.eval ++ us.toList).toArray = c.args.map a.eval ++ us := Array.ext' (by simp)
  rw [e] at hcall
  refine hcall.mono fun e w'' he => ?_
  obtain ⟨rvs, ga, gb, rfl, hFr, hres, houts, hnd, hlt⟩ := he
  have hnd' := List.nodup_append.1 hnd
  obtain ⟨pl1, fp1, q1⟩ := backs_ok (fp1 := fp) h hFr k4 (lend_back hls) houts hnd'.2.1 h.nx (fun _ _ e => e) hk1 hk3 hb
  obtain ⟨pl2, fp2, q2, q3⟩ := insts_ok (fp := fp1) q1.hi (unVs_ok h hres hrs) hnd'.1
  have q := q1.trans q2 (by simpa using hk1) (by simpa using hk3) (List.nodup_append.2 ⟨hnd'.2.1, hnd'.1, fun x hx y hy e => hnd'.2.2 y hy x hx e.symm⟩)
  have hG : ∀ b', (cxOf h (ls.flatMap (·.ids))).F0 b' → ∃ c, OwnB st' fp b' c ∧ look (b ++ (insts nm' rs).2.1) c ≠ none := by
    rintro b' ⟨d, hd, hown⟩
    exact ⟨d, hown, q.cov d (by simpa using hd)⟩
  refine ⟨pl2, fp2, h.step (G := (cxOf h (ls.flatMap (·.ids))).F0) o.dst _ _ _ hd q.le (q.mono h.nx) q.hi q.fp hFr (fun b' _ hb' => hG b' hb') (pack_ok q3) (fun d k hk => ?_) q.dj⟩
  obtain ⟨m1, m2, m3⟩ := q.ch d k hk
  refine ⟨m1, m2, fun b' hb' => ?_⟩
  have hin : b' ∈ ga ++ gb := by
    rcases List.mem_append.1 (m3 b' hb') with h1 | h1
    · exact List.mem_append.2 (.inr h1)
    · exact List.mem_append.2 (.inl h1)
  obtain ⟨n1, n2⟩ := hlt b' hin
  refine ⟨n1, ?_⟩
  rcases Nat.lt_or_ge b' w.heap.size with h1 | h1
  · exact .inr (hG b' (n2 h1))
  · exact .inl h1
end

end Go.Proofs.YthpklbpdchckkaaEv

namespace Go.Proofs.YthpklbpdchckkaaEv
open Go.RowKit (Below)
set_option linter.unusedVariables false
set_option linter.unusedSectionVars false
set_option linter.unusedSimpArgs false

section
variable {P : Program} {nm nm' : Nat} {ρ ρ' : Operand → Val} {H H' : Nat → Option Chunk}

theorem map_congr' {α β : Type} {f g : α → β} {l : List α} (h : ∀ x ∈ l, f x = g x) : l.map f = l.map g := List.map_congr_left h

theorem prim_congr (op : Op) (h : ∀ x ∈ op.operands, ρ' x = ρ x) : prim P nm ρ' H op = prim P nm ρ H op := by
  cases op <;> simp only [Op.operands] at h <;> try (first | rfl | (simp only [prim]; done))
  case slice t x lo hi mx =>
    cases mx with
    | some m => rfl
    | none =>
      have hx : ρ' x = ρ x := h x (by cases lo <;> cases hi <;> simp)
      have hb : ∀ n f, prim.bnd ρ' lo hi n f = prim.bnd ρ lo hi n f := by
        intro n f
        unfold prim.bnd
        have e1 : ∀ y, lo = some y → ρ' y = ρ y := fun y e => h y (by subst e; cases hi <;> simp)
        have e2 : ∀ y, hi = some y → ρ' y = ρ y := fun y e => h y (by subst e; cases lo <;> simp)
        cases lo <;> cases hi <;> simp_all
      simp only [prim, hx, hb]
      try (cases lo <;> cases hi <;> rfl)
  case build t ps =>
    simp only [prim]
    rw [map_congr' (l := ps.toList) (f := fun x => (x.1, ρ' x.2)) (g := fun x => (x.1, ρ x.2)) fun x hx => by rw [h x.2 (by simpa using ⟨x.1, by simpa using hx⟩)]]
  case buildSlice t l ps =>
    simp only [prim]
    rw [map_congr' (l := ps.toList) (f := fun x => ρ' x.2) (g := fun x => ρ x.2) fun x hx => by rw [h x.2 (by simpa using ⟨x.1, by simpa using hx⟩)]]
  case makeFunc f fs cs =>
    cases f <;> simp only [prim]
    rw [map_congr' (l := cs.toList) (f := ρ') (g := ρ) fun x hx => h x (by simp [Array.mem_def.2 hx])]
  case call c =>
    simp only [prim]
    split
    · rw [map_congr' (l := c.args.toList) (f := ρ') (g := ρ) fun x hx => h x (by simp [Call.operands, Array.mem_def.2 hx])]
    · rfl
  all_goals (simp_all [prim]; done)

theorem viewC_H {x : Cell} (h : ∀ c ∈ refC x, H' c = H c) : viewC H' x = viewC H x := by
  cases x <;> simp_all [viewC, refC]
theorem ownC_H {x : Cell} (h : ∀ c ∈ refC x, H' c = H c) : ownC H' x = ownC H x := by
  cases x <;> simp_all [ownC, refC]
theorem ownCs_H : ∀ {xs : List Cell}, (∀ c ∈ xs.flatMap refC, H' c = H c) → ownCs H' xs = ownCs H xs
  | [], _ => rfl
  | x :: xs, h => by
    simp only [ownCs]
    rw [ownC_H (H := H) fun c hc => h c (by simp [List.flatMap_cons, hc]), ownCs_H fun c hc => h c (by simp only [List.flatMap_cons, List.mem_append]; exact .inr hc)]
theorem cells_ref {v : Val} {c : Nat} (h : c ∈ v.cells.flatMap refC) : c ∈ refV v := by
  cases v <;> simp_all [Val.cells, refV]
theorem decVals_H {t : Ty} : ∀ {vs : List Val}, (∀ c ∈ vs.flatMap refV, H' c = H c) → decVals H' t vs = decVals H t vs
  | [], _ => rfl
  | v :: vs, h => by
    simp only [decVals]
    rw [ownCs_H (H := H) fun c hc => h c (by simp only [List.flatMap_cons, List.mem_append]; exact .inl (cells_ref hc)), decVals_H fun c hc => h c (by simp only [List.flatMap_cons, List.mem_append]; exact .inr hc)]
theorem baseC_H {u : Ty} {e : TypeId} {x : Cell} (h : ∀ c ∈ refC x, H' c = H c) : baseC H' u e x = baseC H u e x := by
  cases x <;> simp only [baseC] <;> rw [viewC_H (H := H) h]
theorem moreC_H {u : Ty} {e : TypeId} {x : Cell} (h : ∀ c ∈ refC x, H' c = H c) : moreC H' u e x = moreC H u e x := by
  cases x <;> simp only [moreC] <;> rw [viewC_H (H := H) h]
theorem appendE_H {t0 t1 : TypeId} {s x : Cell} (h1 : ∀ c ∈ refC s, H' c = H c) (h2 : ∀ c ∈ refC x, H' c = H c) : appendE P nm H' t0 t1 s x = appendE P nm H t0 t1 s x := by
  unfold appendE
  simp only [baseC_H h1, moreC_H h2]

theorem prim_H (op : Op) (h : ∀ c ∈ op.operands.toList.flatMap (fun x => refV (ρ x)), H' c = H c) : prim P nm ρ H' op = prim P nm ρ H op := by
  have one : ∀ x : Operand, x ∈ op.operands → ∀ y, ρ x = y → ∀ c ∈ refV y, H' c = H c := fun x hx y hy c hc => h c (List.mem_flatMap.2 ⟨_, Array.mem_def.1 hx, by rw [hy]; exact hc⟩)
  cases op <;> try (first | rfl | (simp only [prim]; done))
  case makeFunc f fs cs => cases f <;> rfl
  case load t a =>
    simp only [prim]
    have := one a (by simp [Op.operands])
    cases ti P t with
    | none => rfl
    | some i =>
      simp only
      cases hq : ρ a with
      | c x => cases x <;> simp only <;> rw [this _ hq _ (by simp [refV, refC])]
      | _ => rfl
  case store t a x =>
    simp only [prim]
    have h1 := one a (by simp [Op.operands])
    have h2 : ownCs H' (ρ x).cells = ownCs H (ρ x).cells := ownCs_H fun c hc => one x (by simp [Op.operands]) _ rfl c (cells_ref hc)
    cases ti P t with
    | none => rfl
    | some i =>
      simp only
      cases hq : ρ a with
      | c y => cases y <;> simp only [h2] <;> rw [h1 _ hq _ (by simp [refV, refC])]
      | _ => rfl
  case indexAddr t a ix =>
    simp only [prim]
    have h1 := one a (by simp [Op.operands])
    cases elSz P t with
    | none => rfl
    | some m =>
      cases hq : ρ a with
      | c y =>
        have e : ∀ c ∈ refC y, H' c = H c := h1 _ hq
        cases ρ ix with
        | c z => cases z <;> first | rfl | (cases y <;> first | rfl | (simp only [refC, List.mem_singleton, forall_eq] at e; simp only [e]))
        | _ => rfl
      | _ => rfl
  case slice t x lo hi mx =>
    cases mx with
    | some m => rfl
    | none =>
      simp only [prim]
      have h1 := one x (by cases lo <;> cases hi <;> simp [Op.operands])
      cases hq : ρ x with
      | c y =>
        have e : ∀ c ∈ refC y, H' c = H c := h1 _ hq
        cases y <;> first | rfl | (simp only [refC, List.mem_singleton, forall_eq] at e; simp only [e])
      | _ => rfl
  case convert src dst x =>
    simp only [prim]
    have h1 := one x (by simp [Op.operands])
    cases ti P src with
    | none => rfl
    | some i =>
      cases ti P dst with
      | none => rfl
      | some d =>
        cases hq : ρ x with
        | c y =>
          have := viewC_H (H := H) (H' := H') (x := y) (h1 _ hq)
          cases y <;> first | rfl | simp only [this]
        | _ => rfl
  case buildSlice t l ps =>
    simp only [prim]
    have hv : ∀ u, decVals H' u (ps.toList.map fun x => ρ x.2) = decVals H u (ps.toList.map fun x => ρ x.2) := fun u => decVals_H fun c hc => by
      obtain ⟨v, hv, hc⟩ := List.mem_flatMap.1 hc
      obtain ⟨x, hx, e⟩ := List.mem_map.1 hv
      exact one x.2 (by simp only [Op.operands]; exact Array.mem_def.2 (by simpa using ⟨x.1, by simpa using hx⟩)) _ e c hc
    simp only [hv]
  case call c =>
    simp only [prim]
    split
    case h_2 => rfl
    rename_i b hb
    have harg : ∀ {y : Val}, y ∈ c.args.toList.map ρ → ∀ c ∈ refV y, H' c = H c := fun hy => by
      obtain ⟨x, hx, e⟩ := List.mem_map.1 hy
      exact one x (by simp [Op.operands, Call.operands, hb, Array.mem_def.2 hx]) _ e
    cases b <;> try rfl
    · simp only [builtinE]
      split
      case h_2 => rfl
      rename_i s x t0 t1 hv ht
      rw [hv] at harg
      exact appendE_H (harg (y := .c s) (by simp)) (harg (y := .c x) (by simp))
    · simp only [builtinE]
      split
      case h_2 => rfl
      rename_i x t hv ht
      rw [hv] at harg
      have := viewC_H (H := H) (H' := H') (x := x) (harg (y := .c x) (by simp))
      cases x <;> simp only [this]

theorem prim_nm (op : Op) (h : memB P op = false) : prim P nm ρ H op = prim P nm' ρ H op := by
  cases op <;> first | rfl | (cases h; done) | skip
  case convert src dst x =>
    simp only [prim]
    have h : kndIs P dst 3 = false := h
    unfold kndIs at h
    cases hd : ti P dst with
    | none => cases ti P src <;> rfl
    | some d =>
      rw [hd] at h
      have h : Nat.beq d.knd 3 = false := h
      cases ti P src with
      | none => rfl
      | some i =>
        cases ρ x with
        | c y => cases y <;> first | rfl | (simp only [h]; rfl)
        | _ => rfl
  case makeFunc f fs cs => cases f <;> rfl
  case call c =>
    simp only [prim]
    split
    case h_2 => rfl
    rename_i b hb
    cases b <;> first | rfl | (simp only [memB, hb] at h; cases h)
end

end Go.Proofs.YthpklbpdchckkaaEv

namespace Go.Proofs.YthpklbpdchckkaaEv
open Go.RowKit (Below)
set_option linter.unusedVariables false
set_option linter.unusedSectionVars false
set_option linter.unusedSimpArgs false

/-! ### states that say the same -/
structure Eqv (s t : St) : Prop where
  get : ∀ x, s.get x = t.get x
  ch : ∀ c, s.chunk c = t.chunk c
  nx : s.nx = t.nx
  pn : s.pin = t.pin
theorem Eqv.refl (s : St) : Eqv s s := ⟨fun _ => rfl, fun _ => rfl, rfl, rfl⟩
theorem Eqv.symm {s t : St} (h : Eqv s t) : Eqv t s := ⟨fun x => (h.get x).symm, fun c => (h.ch c).symm, h.nx.symm, h.pn.symm⟩
theorem Eqv.trans {s t r : St} (h : Eqv s t) (k : Eqv t r) : Eqv s r := ⟨fun x => (h.get x).trans (k.get x), fun c => (h.ch c).trans (k.ch c), h.nx.trans k.nx, h.pn.trans k.pn⟩
theorem Eqv.ev {s t : St} (h : Eqv s t) : s.ev = t.ev := by
  funext x
  cases x <;> first | rfl | exact h.get _
theorem Eqv.chunk {s t : St} (h : Eqv s t) : s.chunk = t.chunk := funext h.ch
theorem Inv.eqv {X : Cx} {T : Nat} {s t : St} {a : Act} {w : World} {pl : PlM} {fp : FpM} (h : Inv X T s a w pl fp) (e : Eqv s t) : Inv X T t a w pl fp := by
  have own : ∀ b c, OwnB t fp b c → OwnB s fp b c := fun b c ⟨⟨k, hk⟩, hb⟩ => ⟨⟨k, by rw [e.ch]; exact hk⟩, hb⟩
  exact ⟨h.fr, h.df, h.sz, fun x => by rw [← e.get]; exact h.tm x, fun c k hk => h.ch c k (by rw [e.ch]; exact hk), fun b c ho => h.lt b c (own b c ho), fun c k hk => h.nd c k (by rw [e.ch]; exact hk),
    fun b c d h1 h2 => h.dj b c d (own b c h1) (own b d h2), fun c hc => h.nx c (by rw [e.nx]; exact hc), by rw [← e.pn]; exact h.pn⟩

theorem look_none_iff {l : List (Nat × Option Chunk)} {c : Nat} (h : c ∉ l.map (·.1)) : look l c = none := by
  induction l with
  | nil => rfl
  | cons x r ih =>
    obtain ⟨m, v⟩ := x
    simp only [List.map_cons, List.mem_cons, not_or] at h
    simp only [look]
    cases hb : Nat.beq m c
    · exact ih h.2
    · exact absurd (Nat.eq_of_beq_eq_true hb).symm h.1

/-! ### an entry: what an operation came to -/
structure Ent where
  b : Bool
  n : Nat
  u : Upd
  y : Itm
def aft (e : Ent) (st : St) : St := upd st e.y.o.dst (cond e.y.m e.n st.nx) e.u

def GA (all : Array Oper) (e : Ent) (st st' : St) : Prop :=
  (∀ d ∈ e.y.o.looksAt all, st'.get d = st.get d) ∧ (∀ c ∈ e.y.t, st'.chunk c = st.chunk c) ∧ (e.y.m = true → st'.nx = st.nx)

def IStep (P : Program) (all : Array Oper) (e : Ent) (st : St) : Prop :=
  ∀ st', GA all e st st' → ∀ X T a w pl fp, Inv X T st' a w pl fp → (∀ d, e.y.o.dst = some d → d < T) → ∀ (K : Act → World → Prop) (Q : Exit → Act → World → Prop), (∀ a' w' pl' fp', Inv X T (aft e st') a' w' pl' fp' → K a' w') →
    if Region.wanted e.y.o (yielded all a.tmps) = true then e.y.o.wp P a w K Q else K (a.put e.y.o.dst undef) w

theorem aft_get (e : Ent) (st : St) (t : Nat) : (aft e st).get t = (match e.y.o.dst with | some d => cond (Nat.beq d t) e.u.1 (st.get t) | none => st.get t) := get_upd ..
theorem aft_chunk (e : Ent) (st : St) (c : Nat) : (aft e st).chunk c = (match look e.u.2 c with | some x => x | none => st.chunk c) := chunk_upd ..
theorem aft_nx (e : Ent) (st : St) : (aft e st).nx = cond e.y.m e.n st.nx := rfl
theorem aft_eqv {e : Ent} {s t : St} (h : Eqv s t) : Eqv (aft e s) (aft e t) := by
  refine ⟨fun x => ?_, fun c => ?_, ?_, h.pn⟩
  · rw [aft_get, aft_get, h.get]
  · rw [aft_chunk, aft_chunk, h.ch]
  · rw [aft_nx, aft_nx, h.nx]
theorem GA.eqv {all : Array Oper} {e : Ent} {s t st' : St} (h : Eqv s t) (g : GA all e t st') : GA all e s st' :=
  ⟨fun d hd => (g.1 d hd).trans (h.get d).symm, fun c hc => (g.2.1 c hc).trans (h.ch c).symm, fun hm => (g.2.2 hm).trans h.nx.symm⟩
theorem IStep.eqv {P : Program} {all : Array Oper} {e : Ent} {s t : St} (h : Eqv s t) (k : IStep P all e s) : IStep P all e t := fun st' g => k st' (g.eqv h)

section
variable {P : Program} {R : Type} {Γ : Nat → Option (Con R)} {all : Array Oper}

theorem ev_agree {o : Oper} {st st' : St} (h : ∀ d ∈ o.looksAt all, st'.get d = st.get d) : ∀ x ∈ o.op.operands, st'.ev x = st.ev x := by
  intro x hx
  cases x with
  | tmp t => exact h t (List.mem_append_left _ (List.mem_filterMap.2 ⟨.tmp t, by simpa using hx, rfl⟩))
  | _ => rfl

theorem lendC_H {H H' : Nat → Option Chunk} {x : Cell} (h : ∀ c ∈ refC x, H' c = H c) : lendC H' x = lendC H x := by
  cases x <;> simp_all [lendC, refC]
theorem lendCs_H {H H' : Nat → Option Chunk} : ∀ {xs : List Cell}, (∀ c ∈ xs.flatMap refC, H' c = H c) → lendCs H' xs = lendCs H xs
  | [], _ => rfl
  | x :: xs, h => by
    simp only [lendCs]
    rw [lendC_H (H := H) fun c hc => h c (by simp [List.flatMap_cons, hc]), lendCs_H fun c hc => h c (by simp only [List.flatMap_cons, List.mem_append]; exact .inr hc)]
theorem lendW_H {H H' : Nat → Option Chunk} {x : Cell} (h : ∀ c ∈ refC x, H' c = H c) : lendW H' x = lendW H x := by
  cases x <;> first | rfl | exact ownC_H h
theorem lendWs_H {H H' : Nat → Option Chunk} : ∀ {xs : List Cell}, (∀ c ∈ xs.flatMap refC, H' c = H c) → lendWs H' xs = lendWs H xs
  | [], _ => rfl
  | x :: xs, h => by
    simp only [lendWs]
    rw [lendW_H (H := H) fun c hc => h c (by simp [List.flatMap_cons, hc]), lendWs_H fun c hc => h c (by simp only [List.flatMap_cons, List.mem_append]; exact .inr hc)]
theorem lendB_H {H H' : Nat → Option Chunk} {x : Cell} (h : ∀ c ∈ refC x, H' c = H c) : lendB H' x = lendB H x := by
  cases x <;> first | rfl | exact lendW_H h
theorem lendBs_H {H H' : Nat → Option Chunk} : ∀ {xs : List Cell}, (∀ c ∈ xs.flatMap refC, H' c = H c) → lendBs H' xs = lendBs H xs
  | [], _ => rfl
  | x :: xs, h => by
    simp only [lendBs]
    rw [lendB_H (H := H) fun c hc => h c (by simp [List.flatMap_cons, hc]), lendBs_H fun c hc => h c (by simp only [List.flatMap_cons, List.mem_append]; exact .inr hc)]
theorem lend1_H {st : St} {H' : Nat → Option Chunk} {m : Md} {v : Val} (h : ∀ c ∈ touches.refs2 st v, H' c = st.chunk c) : lend1 H' m v = lend1 st.chunk m v := by
  have h1 : ∀ c ∈ refV v, H' c = st.chunk c := fun c hc => h c (List.mem_append_left _ hc)
  cases v with
  | c x =>
    have a1 := lendC_H (H := st.chunk) (x := x) h1
    have a2 := lendB_H (H := st.chunk) (x := x) h1
    have a3 := lendW_H (H := st.chunk) (x := x) h1
    cases x with
    | ptr c j =>
      cases j with
      | zero =>
        simp only [lend1]
        rw [h1 c (by simp [refV, refC])]
        cases hc : st.chunk c with
        | none => rfl
        | some k =>
          cases k with
          | box ty cs =>
            simp only
            rw [lendWs_H (H := st.chunk) fun d hd => h d (List.mem_append_right _ (by simp only [hc, refK]; exact hd))]
          | rows t e xs => rfl
          | hol t e xs i j n => rfl
      | succ j => cases m <;> simp only [lend1, a1, a2, a3]
    | _ => cases m <;> simp only [lend1, a1, a2, a3]
  | agg xs =>
    have a1 := lendCs_H (H := st.chunk) (xs := xs) h1
    have a2 := lendBs_H (H := st.chunk) (xs := xs) h1
    have a3 := lendWs_H (H := st.chunk) (xs := xs) h1
    cases m <;> simp only [lend1, a1, a2, a3]
  | _ => rfl
theorem lend_H {st : St} {H' : Nat → Option Chunk} : ∀ {ms : List Md} {vs : List Val}, (∀ c ∈ vs.flatMap (touches.refs2 st), H' c = st.chunk c) → lend H' ms vs = lend st.chunk ms vs
  | ms, [], _ => by cases ms <;> rfl
  | [], v :: vs, h => by
    simp only [lend]
    rw [lend1_H fun c hc => h c (by simp [List.flatMap_cons, hc]), lend_H fun c hc => h c (by simp only [List.flatMap_cons, List.mem_append]; exact .inr hc)]
  | m :: ms, v :: vs, h => by
    simp only [lend]
    rw [lend1_H fun c hc => h c (by simp [List.flatMap_cons, hc]), lend_H fun c hc => h c (by simp only [List.flatMap_cons, List.mem_append]; exact .inr hc)]

theorem Mem.wp {X : Cx} {T : Nat} {st : St} {a : Act} {w : World} {o : Oper} {u : Upd} {n : Nat} (h : Mem X T st a w P o n u) (Q : Exit → Act → World → Prop) :
    o.wp P a w (fun a' w' => ∃ pl' fp', Inv X T (upd st o.dst n u) a' w' pl' fp') Q := by
  obtain ⟨r, v, w', pl', fp', h1, h2, h3⟩ := h
  rcases h2 with rfl | ⟨rfl, rfl⟩
  · exact wp_value h1 ⟨pl', fp', h3⟩
  · exact wp_skip1 h1 ⟨pl', fp', h3⟩

theorem prim_noH {P : Program} {nm : Nat} {ρ : Operand → Val} {H H' : Nat → Option Chunk} (op : Op) (h : looksB op = false) : prim P nm ρ H' op = prim P nm ρ H op := by
  cases op <;> first | rfl | cases h

def OStep (P : Program) (o : Oper) (st : St) (n : Nat) (u : Upd) : Prop :=
  (memB P o.op = false → n = st.nx) ∧ ∀ st', (∀ x ∈ o.op.operands, st'.ev x = st.ev x) → (∀ c ∈ touches st o, st'.chunk c = st.chunk c) → (memB P o.op = true → st'.nx = st.nx) →
      ∀ X T a w pl fp, Inv X T st' a w pl fp → (∀ d, o.dst = some d → d < T) → ∀ Q, o.wp P a w (fun a' w' => ∃ pl' fp', Inv X T (upd st' o.dst (cond (memB P o.op) n st'.nx) u) a' w' pl' fp') Q
/-- an operation that is carried out -/
theorem evOp_ok (hΓ : ∀ g c, Γ g = some c → Snd P g c) {o : Oper} {st : St} {k : Upd → Nat → Option R} {r : R} (hr : evOp P Γ o st k = some r) :
    ∃ u n, k u n = some r ∧ OStep P o st n u := by
  have prim : ∀ {op : Op}, o.op = op → (looksB op = false ∨ touches st o = op.operands.toList.flatMap (fun x => refV (st.ev x))) → ((prim P st.nx st.ev st.chunk op).k fun u => k u (cond (memB P op) (st.nx + 1) st.nx)) = some r → ∃ u n, k u n = some r ∧ OStep P o st n u := fun {op} ho ht hr => by
    obtain ⟨u, h1, h2⟩ := Res.k_run hr
    refine ⟨u, _, h2, fun hm => by rw [← ho, hm]; rfl, fun st' ha hc hn X T a w pl fp h hd Q => ?_⟩
    subst ho
    have h1' : (YthpklbpdchckkaaEv.prim P st'.nx st'.ev st'.chunk o.op).run = some u := by
      rw [prim_congr o.op ha, (show YthpklbpdchckkaaEv.prim P st'.nx st.ev st'.chunk o.op = YthpklbpdchckkaaEv.prim P st'.nx st.ev st.chunk o.op from by
        rcases ht with ht | ht
        · exact prim_noH o.op ht
        · exact prim_H o.op (by rw [← ht]; exact hc))]
      cases hm : memB P o.op
      · rw [prim_nm (nm' := st.nx) o.op hm]; exact h1
      · rw [hn hm]; exact h1
    have := (prim_ok h hd h1').wp Q
    cases hm : memB P o.op
    · rw [hm] at this; exact this
    · rw [hm] at this
      simp only [cond_true] at this ⊢
      rw [← hn hm]; exact this
  unfold evOp at hr
  split at hr
  · rename_i c ho
    split at hr
    · rename_i f hc
      split at hr
      case h_2 => cases hr
      rename_i g cs hf
      split at hr
      case h_2 => cases hr
      rename_i cn hg
      obtain ⟨u, n, h1, h2⟩ := call_ok (hΓ g cn hg) hr
      have hm : memB P o.op = true := by rw [ho]; simp only [memB, hc]
      refine ⟨u, n, h1, ⟨fun h => (by rw [hm] at h; cases h), fun st' ha hch hn X T a w pl fp h hd Q => ?_⟩⟩
      have hops : ∀ x ∈ c.args, st'.ev x = st.ev x := fun x hx => ha x (by rw [ho]; simp [Op.operands, Call.operands, hc, hx])
      have hfv : st'.ev f = st.ev f := ha f (by rw [ho]; simp [Op.operands, Call.operands, hc])
      have hcv : callVals st' c cs = callVals st c cs := by
        unfold callVals
        rw [map_congr' (l := c.args.toList) (f := st'.ev) (g := st.ev) fun x hx => hops x (Array.mem_def.2 hx)]
      have ht : touches st o = (callVals st c cs).flatMap fun v => touches.refs2 st v := by unfold touches; rw [ho]; simp only [hc, hf]
      have := h2 st' o c f cs (hn hm) (lend_H fun d hd => hch d (by rw [ht]; exact hd)) ho hc (hfv.trans hf) hcv X T a w pl fp h hd Q
      rw [hm]; exact this
    · rename_i b hc
      exact prim ho (.inr (by unfold touches; rw [ho]; simp only [hc])) hr
    · cases hr
  · rename_i op hne
    refine prim rfl ?_ hr
    cases hl : looksB o.op
    · exact .inl rfl
    · refine .inr ?_
      unfold touches
      split
      · rename_i c ho; exact absurd ho (hne c)
      · rw [hl]; rfl
end

end Go.Proofs.YthpklbpdchckkaaEv

namespace Go.Proofs.YthpklbpdchckkaaEv
open Go.RowKit (Below)
set_option linter.unusedVariables false
set_option linter.unusedSectionVars false
set_option linter.unusedSimpArgs false

section
variable {P : Program} {R : Type} {Γ : Nat → Option (Con R)} {all : Array Oper}

theorem touches_eq {s t : St} (h : Eqv s t) (o : Oper) : touches s o = touches t o := by
  have e : touches.refs2 s = touches.refs2 t := by
    funext v
    unfold touches.refs2
    rw [h.chunk]
  unfold touches callVals
  rw [h.ev, e]

theorem put_eqv {st : St} {d : Nat} {v : Val} (h : st.get d = v) : Eqv st (st.put (some d) v) := by
  refine ⟨fun x => ?_, fun _ => rfl, rfl, rfl⟩
  show st.get x = (match look ((d, v) :: st.tm) x with | some v => v | none => .c .dead)
  simp only [look]
  cases hb : Nat.beq d x
  · rfl
  · rw [← Nat.eq_of_beq_eq_true hb]; exact h

def mkEnt (P : Program) (st : St) (o : Oper) (b : Bool) (n : Nat) (u : Upd) : Ent := ⟨b, n, u, cond b ⟨o, touches st o, u.2.map (·.1), memB P o.op⟩ ⟨o, [], [], false⟩⟩

theorem OStep.eqv {o : Oper} {s t : St} {n : Nat} {u : Upd} (h : Eqv s t) (k : OStep P o s n u) : OStep P o t n u :=
  ⟨fun hm => (k.1 hm).trans h.nx, fun st' h1 h2 h3 => k.2 st' (fun x hx => by rw [h.ev]; exact h1 x hx) (fun c hc => by rw [h.ch]; exact h2 c (by rw [← touches_eq h]; exact hc)) fun hm => by rw [h.nx]; exact h3 hm⟩

theorem getD_bool {ts : Array Value} {d : Nat} {g : Bool} (h : ts.getD d undef = .bool g) : ts[d]? = some (.bool g) := by
  rw [Array.getD_eq_getD_getElem?] at h
  cases hq : ts[d]? with
  | none => rw [hq] at h; cases h
  | some v => rw [hq] at h; simp at h; rw [h]
theorem getD_undef {ts : Array Value} {d : Nat} (h : ts.getD d undef = .tuple #[]) : ∀ b, ts[d]? ≠ some (.bool b) := by
  intro b hb
  rw [Array.getD_eq_getD_getElem?, hb] at h
  cases h

theorem run_ok {o : Oper} {st : St} {n : Nat} {u : Upd} (h : OStep P o st n u) (hw : ∀ st', (∀ d ∈ o.looksAt all, st'.get d = st.get d) → ∀ X T a w pl fp, Inv X T st' a w pl fp → Region.wanted o (yielded all a.tmps) = true) :
    IStep P all (mkEnt P st o true n u) st ∧ Eqv (upd st o.dst n u) (aft (mkEnt P st o true n u) st) := by
  refine ⟨fun st' g X T a w pl fp hi hd K Q hK => ?_, fun _ => rfl, fun _ => rfl, ?_, rfl⟩
  · have hww := hw st' g.1 X T a w pl fp hi
    show (if Region.wanted o (yielded all a.tmps) = true then o.wp P a w K Q else K (a.put o.dst undef) w)
    rw [if_pos hww]
    refine Oper.wp_mono (fun a' w' ⟨pl', fp', h'⟩ => hK a' w' pl' fp' h') (h.2 st' (ev_agree g.1) g.2.1 g.2.2 X T a w pl fp hi hd Q)
  · show n = cond (memB P o.op) n st.nx
    cases hm : memB P o.op
    · exact h.1 hm
    · rfl
theorem skip_ok {o : Oper} {st : St} (hw : ∀ st', (∀ d ∈ o.looksAt all, st'.get d = st.get d) → ∀ X T a w pl fp, Inv X T st' a w pl fp → Region.wanted o (yielded all a.tmps) = false) :
    IStep P all (mkEnt P st o false st.nx (.tup [], [])) st ∧ Eqv (upd st o.dst st.nx (.tup [], [])) (aft (mkEnt P st o false st.nx (.tup [], [])) st) := by
  refine ⟨fun st' g X T a w pl fp hi hd K Q hK => ?_, fun _ => rfl, fun _ => rfl, rfl, rfl⟩
  have := hw st' g.1 X T a w pl fp hi
  rw [if_neg (by rw [show (mkEnt P st o false st.nx (Val.tup [], [])).y.o = o from rfl, this]; simp)]
  exact hK _ _ pl fp (hi.quiet _ _ _ undef hd (Nat.le_refl _) ⟨#[], rfl, .nil⟩)

theorem upd_eqv {s t : St} (h : Eqv s t) (d : Option Nat) (n : Nat) (u : Upd) : Eqv (upd s d n u) (upd t d n u) :=
  ⟨fun x => by rw [get_upd, get_upd, h.get], fun c => by rw [chunk_upd, chunk_upd, h.ch], rfl, h.pn⟩

theorem evG_ok (hΓ : ∀ g c, Γ g = some c → Snd P g c) {o : Oper} {st : St} {k : Bool → Upd → Nat → Option R} {r : R} (hr : evG P Γ all o st k = some r) :
    ∃ b u n, k b u n = some r ∧ IStep P all (mkEnt P st o b n u) st ∧ Eqv (upd (settle all o b st) o.dst n u) (aft (mkEnt P st o b n u) st) ∧ (b = false → u.2 = []) := by
  unfold evG at hr
  split at hr
  · rename_i hg
    obtain ⟨u, n, h1, h2⟩ := evOp_ok hΓ hr
    obtain ⟨h3, h4⟩ := run_ok (all := all) h2 fun st' _ X T a w pl fp _ => by unfold Region.wanted; rw [hg]
    exact ⟨true, u, n, h1, h3, by unfold settle; rw [hg]; exact h4, fun h => by cases h⟩
  · rename_i j want hg
    split at hr
    case h_2 => cases hr
    rename_i d hd
    have hlook : d ∈ o.looksAt all := List.mem_append_right _ (by rw [hg]; simp only [hd]; simp)
    have yes : ∀ {g : Bool}, st.get d = .c (.bo g) → ∀ st', (∀ d ∈ o.looksAt all, st'.get d = st.get d) → ∀ X T a w pl fp, Inv X T st' a w pl fp → Region.wanted o (yielded all a.tmps) = (some g == some want) := by
      intro g hgd st' hl X T a w pl fp hi
      have := hi.tm d
      rw [hl d hlook, hgd] at this
      have := getD_bool (show _ = Value.bool g from this)
      unfold Region.wanted yielded
      rw [hg]
      simp only [hd, Option.bind_some, this]
    have no : st.get d = .tup [] → ∀ st', (∀ d ∈ o.looksAt all, st'.get d = st.get d) → ∀ X T a w pl fp, Inv X T st' a w pl fp → Region.wanted o (yielded all a.tmps) = false := by
      intro hgd st' hl X T a w pl fp hi
      have := hi.tm d
      rw [hl d hlook, hgd] at this
      obtain ⟨us, e, hu⟩ := this
      have hus : us = #[] := by
        cases us with
        | mk l => cases l with
          | nil => rfl
          | cons x r => cases hu
      subst hus
      have := getD_undef e
      unfold Region.wanted yielded
      rw [hg]
      simp only [hd, Option.bind_some]
      cases hq : a.tmps[d]? with
      | none => rfl
      | some v =>
        cases v with
        | bool b => exact absurd hq (this b)
        | _ => rfl
    have hset : ∀ {g b : Bool}, st.get d = .c (.bo g) → g = cond b want (!want) → Eqv st (settle all o b st) := by
      intro g b hgd e
      unfold settle
      rw [hg]
      simp only [hd, hgd]
      rw [← e]
      exact put_eqv hgd
    split at hr
    · rename_i g hgd
      cases g <;> cases want <;> simp only [cond_true, cond_false] at hr
      · obtain ⟨u, n, h1, h2⟩ := evOp_ok hΓ hr
        obtain ⟨h3, h4⟩ := run_ok (all := all) (h2.eqv (put_eqv hgd).symm) fun st' hl X T a w pl fp hi => yes hgd st' hl X T a w pl fp hi
        exact ⟨true, u, n, h1, h3, (upd_eqv (hset (b := true) hgd rfl).symm _ _ _).trans h4, fun h => by cases h⟩
      · obtain ⟨h3, h4⟩ := skip_ok (P := P) (all := all) (o := o) (st := st) fun st' hl X T a w pl fp hi => yes hgd st' hl X T a w pl fp hi
        exact ⟨false, _, _, hr, h3, (upd_eqv (hset (b := false) hgd rfl).symm _ _ _).trans h4, fun _ => rfl⟩
      · obtain ⟨h3, h4⟩ := skip_ok (P := P) (all := all) (o := o) (st := st) fun st' hl X T a w pl fp hi => yes hgd st' hl X T a w pl fp hi
        exact ⟨false, _, _, hr, h3, (upd_eqv (hset (b := false) hgd rfl).symm _ _ _).trans h4, fun _ => rfl⟩
      · obtain ⟨u, n, h1, h2⟩ := evOp_ok hΓ hr
        obtain ⟨h3, h4⟩ := run_ok (all := all) (h2.eqv (put_eqv hgd).symm) fun st' hl X T a w pl fp hi => yes hgd st' hl X T a w pl fp hi
        exact ⟨true, u, n, h1, h3, (upd_eqv (hset (b := true) hgd rfl).symm _ _ _).trans h4, fun h => by cases h⟩
    · rename_i hgd
      obtain ⟨h3, h4⟩ := skip_ok (P := P) (all := all) (o := o) (st := st) fun st' hl X T a w pl fp hi => no hgd st' hl X T a w pl fp hi
      refine ⟨false, _, _, hr, h3, ?_, fun _ => rfl⟩
      have : settle all o false st = st := by unfold settle; rw [hg]; simp only [hd, hgd]
      rw [this]; exact h4
    · cases hr

/-! ### a slice taken out of a row's element -/
theorem hole_ok {X : Cx} {T : Nat} {st : St} {a : Act} {w : World} {pl : PlM} {fp : FpM} {o : Oper} {u : Upd} (h : Inv X T st a w pl fp) (hd : ∀ e, o.dst = some e → e < T) (hu : holeE P o st = some u) :
    o.guard = none ∧ Mem X T st a w P o (st.nx + 1) u := by
  unfold holeE at hu
  split at hu
  case h_2 => cases hu
  rename_i t x hg ho
  refine ⟨hg, ?_⟩
  cases hk : kndIs P t 3
  · rw [hk] at hu; cases hu
  rw [hk, cond_true] at hu
  have hx := ev_ok h x
  split at hu
  case h_2 => cases hu
  rename_i c q j hq
  rw [hq] at hx
  obtain ⟨p, hp, hlt, ev⟩ := hx
  split at hu
  case h_2 => cases hu
  rename_i t' e xs hc
  cases hfl : flat t'
  case true => rw [hfl] at hu; cases hu
  rw [hfl, cond_false] at hu
  split at hu
  case h_2 => cases hu
  rename_i e' u' hlt2
  split at hu
  case h_2 => cases hu
  rename_i ys hys
  injection hu with hu; subst hu
  obtain ⟨us, f, e1, e2, hh, hw⟩ := rows_kr h hc hp
  have hlt' : q < xs.length := by omega
  rcases hh with ⟨e0, _⟩ | ⟨hfp, htop, hth, hra, hrl⟩
  · subst e0; simp at hlt'
  obtain ⟨u1, b, u2, f1, g, f2, k1, k2, k3, k4, k5, k6⟩ := hw.at_ (getD_of_lt t'.z hlt')
  obtain ⟨v, g1, f0, g2, m1, m2, m3, m4⟩ := OwC.out hlt2 hys k4
  have hbl := k4.len
  -- what is read
  obtain ⟨e3, hsl⟩ := knd_slice hk
  have hcell : w.cell? ⟨p.g, p.o + q * p.sz + j, none⟩ = some v := by
    have hj : j < b.length := (List.getElem?_eq_some_iff.1 m2).1
    have := hra (q * t'.n + j) v (by rw [k1, List.append_assoc, List.getElem?_append_right (by omega), k3, Nat.add_sub_cancel_left, List.getElem?_append_left hj]; exact m2)
    rw [e2, Nat.add_assoc]; exact this
  have hrun : (execOp a.eval o).run P w = .ok (.value v) w := by
    unfold execOp; rw [ho]
    refine run_v ?_
    rw [ev]
    have ha := run_isAgg' hsl w
    simp [Instr.loadAt, Instr.sureAddr, loadVar, ha, aggB, load, Sem.run, hcell]
  have hnm : pl st.nx = none := h.nx _ (Nat.le_refl _)
  have hcn : c ≠ st.nx := fun hh => by rw [hh, hnm] at hp; cases hp
  have hown : ∀ b' ∈ fp c, OwnB st fp b' c := fun b' hb' => ⟨⟨_, hc⟩, hb'⟩
  have hndp := h.nd c _ hc
  have hfe : f = f1 ++ (g1 ++ f0 ++ g2) ++ f2 := by rw [k2, m1]
  have hsub : ∀ b' ∈ f, b' ∈ fp c := fun b' hb' => by rw [hfp]; exact List.mem_cons_of_mem _ hb'
  have hf0 : ∀ b' ∈ f0, b' ∈ f := fun b' hb' => by rw [hfe]; simp [hb']
  -- the new chunk's place
  obtain ⟨P0, hP0, hS0⟩ : ∃ P0 : Pl, SlV P0 0 P0.len v ∧ ∃ us' f', P0.len = ys.length ∧ P0.sz = u'.n ∧
      ((ys = [] ∧ f0 = [] ∧ f' = [] ∧ P0.rl = false) ∨ (f0 = P0.g :: f' ∧ P0.o + ys.length * u'.n ≤ P0.top ∧ w.there P0.g 0 P0.top ∧ w.rangeAt P0.g P0.o us' ∧ P0.rl = true)) ∧ OwR (OwC w u') ys us' f' := by
    rcases m4 with ⟨rfl, rfl, rfl⟩ | ⟨g', o', cap, top, us', f', rfl, n1, n2, n3, n4, n5, n6, rfl⟩
    · exact ⟨⟨0, 0, 0, 0, u'.n, false⟩, .inl ⟨rfl, rfl, rfl⟩, [], [], rfl, rfl, .inl ⟨rfl, rfl, rfl, rfl⟩, ⟨rfl, rfl⟩⟩
    · refine ⟨⟨g', o', top, ys.length, u'.n, true⟩, .inr ⟨o', cap, rfl, n1, n2, fun _ => ⟨by simp, by simp⟩, rfl⟩, us', f', rfl, rfl, .inr ⟨rfl, ?_, n3, n5, rfl⟩, n6⟩
      have := Nat.mul_le_mul_right u'.n n1
      show o' + ys.length * u'.n ≤ top
      omega
  obtain ⟨us', f', q1, q2, q3, q4⟩ := hS0
  have hfp' : fp c = p.g :: (f1 ++ (g1 ++ f0 ++ g2) ++ f2) := by rw [hfp, hfe]
  have hnd0 : f0.Nodup ∧ (p.g :: (f1 ++ (g1 ++ g2) ++ f2)).Nodup ∧ ∀ b' ∈ f0, b' ∉ p.g :: (f1 ++ (g1 ++ g2) ++ f2) := by
    rw [hfp'] at hndp
    have cnt := List.nodup_iff_count.1 hndp
    have key : ∀ b', List.count b' (p.g :: (f1 ++ (g1 ++ f0 ++ g2) ++ f2)) = List.count b' f0 + List.count b' (p.g :: (f1 ++ (g1 ++ g2) ++ f2)) := fun b' => by
      simp only [List.count_cons, List.count_append]; omega
    refine ⟨List.nodup_iff_count.2 fun b' => ?_, List.nodup_iff_count.2 fun b' => ?_, fun b' hb' hb2 => ?_⟩
    · have := cnt b'; rw [key] at this; omega
    · have := cnt b'; rw [key] at this; omega
    · have := cnt b'; rw [key] at this
      have c1 := List.count_pos_iff.2 hb'
      have c2 := List.count_pos_iff.2 hb2
      omega
  obtain ⟨nd1, nd2, nd3⟩ := hnd0
  have hmem : ∀ b' ∈ p.g :: (f1 ++ (g1 ++ g2) ++ f2), b' ∈ fp c := fun b' hb' => by
    rw [hfp']
    simp only [List.mem_cons, List.mem_append] at hb' ⊢
    rcases hb' with hb' | (hb' | hb' | hb') | hb' <;> simp [hb']
  refine ⟨_, v, w, setPl pl st.nx P0, setFp (setFp fp st.nx f0) c (p.g :: (f1 ++ (g1 ++ g2) ++ f2)), hrun, .inl rfl, ?_⟩
  have F1 : setFp (setFp fp st.nx f0) c (p.g :: (f1 ++ (g1 ++ g2) ++ f2)) st.nx = f0 := by
    unfold setFp; rw [if_neg (fun hh => hcn hh.symm), if_pos rfl]
  have hw' : Fr (fun _ => False) w w := Fr.refl _ _
  refine h.step (G := fun _ => False) o.dst (st.nx + 1) (_, _) v hd (Nat.le_succ _) (setPl_old hnm) (setPl_fresh (fun c hc => h.nx c (Nat.le_trans (Nat.le_succ _) hc)) (Nat.lt_succ_self _)) ?_ hw' (fun _ _ hg => hg.elim)
    ⟨P0, setPl_new .., hP0⟩ ?_ ?_
  · intro d hl
    have h1 : d ≠ st.nx := by rintro rfl; rw [look_self] at hl; cases hl
    have h2 : d ≠ c := by
      rintro rfl
      simp only [look] at hl
      cases hb : Nat.beq st.nx d
      · rw [hb, Nat.beq_refl] at hl; cases hl
      · rw [hb] at hl; cases hl
    unfold setFp; rw [if_neg h2, if_neg h1]
  · intro c' k hk'
    rcases look_one hk' with ⟨rfl, e5⟩ | hk'
    · injection e5 with e5; subst e5
      refine ⟨⟨P0, us', f', setPl_new .., q1, q2, by rw [F1]; exact q3, q4⟩, ?_⟩
      rw [F1]
      refine ⟨nd1, fun b' hb' => ⟨(h.lt b' c (hown _ (hsub _ (hf0 _ hb')))).1, .inr ⟨c, hown _ (hsub _ (hf0 _ hb')), ?_⟩⟩⟩
      exact look_hd (by rw [look_self]; simp)
    · rcases look_one hk' with ⟨rfl, e5⟩ | hk'
      · injection e5 with e5; subst e5
        rw [setFp_new]
        refine ⟨⟨p, P0, v, f1 ++ (g1 ++ g2) ++ f2, u1, b, u2, f1, g1 ++ g2, f2, setPl_old hnm _ _ hp, e1, e2, hlt', setFp_new .., htop, hth, by rw [← k1]; exact hra, hrl, rfl, k5, m3, k6, setPl_new .., hP0⟩, nd2, fun b' hb' => ⟨(h.lt b' c' (hown _ (hmem _ hb'))).1, .inr ⟨c', hown _ (hmem _ hb'), ?_⟩⟩⟩
        exact look_hd (by rw [look_self]; simp)
      · cases hk'
  · intro b' c1 c2 k l h1 h2 b1 b2
    rcases look_one h1 with ⟨rfl, _⟩ | h1
    · rcases look_one h2 with ⟨rfl, _⟩ | h2
      · rfl
      · rcases look_one h2 with ⟨rfl, _⟩ | h2
        · rw [F1] at b1; rw [setFp_new] at b2; exact absurd b2 (nd3 _ b1)
        · cases h2
    · rcases look_one h1 with ⟨rfl, _⟩ | h1
      · rcases look_one h2 with ⟨rfl, _⟩ | h2
        · rw [F1] at b2; rw [setFp_new] at b1; exact absurd b1 (nd3 _ b2)
        · rcases look_one h2 with ⟨rfl, _⟩ | h2
          · rfl
          · cases h2
      · cases h1

/-! ### in order -/
theorem evOps_ok (hΓ : ∀ g c, Γ g = some c → Snd P g c) {X : Cx} {T : Nat} {k : St → Option R} {r : R} {Q : Exit → Act → World → Prop} (hQ : ∀ st' a' w' pl' fp', k st' = some r → Inv X T st' a' w' pl' fp' → Q .normal a' w') :
    ∀ {l : List Oper} {st : St} {a : Act} {w : World} {pl : PlM} {fp : FpM}, (∀ o ∈ l, ∀ d, o.dst = some d → d < T) → evOps P Γ all l st k = some r → Inv X T st a w pl fp → wpList P all Q l a w
  | [], st, a, w, pl, fp, hd, hr, hi => hQ st a w pl fp hr hi
  | o :: l, st, a, w, pl, fp, hd, hr, hi => by
    rw [evOps] at hr
    split at hr
    · rename_i u hu
      obtain ⟨hg, hm⟩ := hole_ok hi (hd o (List.mem_cons_self ..)) hu
      have hwp := hm.wp Q
      unfold wpList
      rw [if_pos (by unfold Region.wanted; rw [hg])]
      exact .inl (Oper.wp_mono (fun a' w' ⟨pl', fp', h'⟩ => evOps_ok hΓ hQ (fun o' ho' => hd o' (List.mem_cons_of_mem _ ho')) hr h') hwp)
    rename_i hnone
    obtain ⟨b, u, n, h1, h2, h3, _⟩ := evG_ok hΓ hr
    have hy : (mkEnt P st o b n u).y.o = o := by cases b <;> rfl
    have := h2 st ⟨fun _ _ => rfl, fun _ _ => rfl, fun _ => rfl⟩ X T a w pl fp hi (by rw [hy]; exact hd o (List.mem_cons_self ..)) (wpList P all Q l) Q
      fun a' w' pl' fp' h' => evOps_ok hΓ hQ (fun o' ho' => hd o' (List.mem_cons_of_mem _ ho')) h1 (h'.eqv h3.symm)
    rw [hy] at this
    unfold wpList
    split
    · rename_i hw; rw [if_pos hw] at this; exact .inl this
    · rename_i hw; rw [if_neg hw] at this; exact this
end

end Go.Proofs.YthpklbpdchckkaaEv

namespace Go.Proofs.YthpklbpdchckkaaEv
open Go.RowKit (Below)
set_option linter.unusedVariables false
set_option linter.unusedSectionVars false
set_option linter.unusedSimpArgs false

section
variable {P : Program} {R : Type} {Γ : Nat → Option (Con R)} {all : Array Oper} {its : List Ent} {stF : St}

structure Ind (all : Array Oper) (e f : Ent) : Prop where
  look1 : ∀ d, e.y.o.dst = some d → d ∉ f.y.o.looksAt all
  dst : ∀ d, e.y.o.dst = some d → f.y.o.dst ≠ some d
  look2 : ∀ d, f.y.o.dst = some d → d ∉ e.y.o.looksAt all
  t1 : ∀ c ∈ e.y.t, look f.u.2 c = none
  t2 : ∀ c ∈ f.y.t, look e.u.2 c = none
  w : ∀ c, look e.u.2 c ≠ none → look f.u.2 c = none
  m : e.y.m = true → f.y.m = false
theorem Ind.symm {e f : Ent} (h : Ind all e f) : Ind all f e :=
  ⟨h.look2, fun d h1 h2 => h.dst d h2 h1, h.look1, h.t2, h.t1, fun c hc => by
    cases hl : look e.u.2 c with
    | none => rfl
    | some x => exact absurd (h.w c (by rw [hl]; simp)) hc, fun hm => by
    cases he : e.y.m
    · rfl
    · rw [h.m he] at hm; cases hm⟩

theorem look_mem {l : List (Nat × Option Chunk)} {c : Nat} (h : look l c ≠ none) : c ∈ l.map (·.1) := Classical.byContradiction fun hn => h (look_none_iff hn)
theorem indep_ok {e f : Ent} (he : e.y.w = e.u.2.map (·.1)) (hf : f.y.w = f.u.2.map (·.1)) (h : indep all e.y f.y = true) : Ind all e f := by
  simp only [indep, Bool.and_eq_true, Bool.not_eq_true', Bool.and_eq_false_iff] at h
  obtain ⟨h1, h2, h3, h4, h5⟩ := h
  obtain ⟨a1, a2, a3⟩ := Oper.apart_spec h1
  have h2 := disj_spec h2
  have h3 := disj_spec h3
  have h4 := disj_spec h4
  rw [hf] at h2 h4
  rw [he] at h3 h4
  refine ⟨a1, a2, a3, fun c hc => look_none_iff (h2 c hc), fun c hc => look_none_iff fun hm => h3 c hm hc, fun c hc => look_none_iff (h4 c (look_mem hc)), fun hm => ?_⟩
  rcases h5 with h5 | h5
  · rw [hm] at h5; cases h5
  · exact h5

theorem aft_same {e f : Ent} (h : Ind all e f) (st : St) : (∀ d ∈ f.y.o.looksAt all, (aft e st).get d = st.get d) ∧ (∀ c ∈ f.y.t, (aft e st).chunk c = st.chunk c) ∧ (f.y.m = true → (aft e st).nx = st.nx) := by
  refine ⟨fun d hd => ?_, fun c hc => ?_, fun hm => ?_⟩
  · rw [aft_get]
    cases hq : e.y.o.dst with
    | none => rfl
    | some d' =>
      have : Nat.beq d' d = false := Bool.eq_false_iff.mpr fun hb => h.look1 d' hq (by rw [Nat.eq_of_beq_eq_true hb]; exact hd)
      simp only [this]; rfl
  · rw [aft_chunk, h.t2 c hc]
  · rw [aft_nx, h.symm.m hm]; rfl
theorem IStep.back {e f : Ent} (h : Ind all e f) {st : St} (k : IStep P all f (aft e st)) : IStep P all f st := fun st' g => by
  obtain ⟨s1, s2, s3⟩ := aft_same h st
  exact k st' ⟨fun d hd => (g.1 d hd).trans (s1 d hd).symm, fun c hc => (g.2.1 c hc).trans (s2 c hc).symm, fun hm => (g.2.2 hm).trans (s3 hm).symm⟩
theorem IStep.forth {e f : Ent} (h : Ind all e f) {st : St} (k : IStep P all f st) : IStep P all f (aft e st) := fun st' g => by
  obtain ⟨s1, s2, s3⟩ := aft_same h st
  exact k st' ⟨fun d hd => (g.1 d hd).trans (s1 d hd), fun c hc => (g.2.1 c hc).trans (s2 c hc), fun hm => (g.2.2 hm).trans (s3 hm)⟩
theorem aft_comm {e f : Ent} (h : Ind all e f) (st : St) : Eqv (aft f (aft e st)) (aft e (aft f st)) := by
  refine ⟨fun x => ?_, fun c => ?_, ?_, rfl⟩
  · rw [aft_get, aft_get, aft_get, aft_get]
    cases hf : f.y.o.dst with
    | none => rfl
    | some d =>
      cases he : e.y.o.dst with
      | none => rfl
      | some d' =>
        have hne : d ≠ d' := fun e' => h.dst d' he (by rw [hf, e'])
        simp only
        cases h1 : Nat.beq d x
        · rfl
        · cases h2 : Nat.beq d' x
          · rfl
          · exact absurd ((Nat.eq_of_beq_eq_true h1).trans (Nat.eq_of_beq_eq_true h2).symm) hne
  · rw [aft_chunk, aft_chunk, aft_chunk, aft_chunk]
    cases hf : look f.u.2 c with
    | none => rfl
    | some y =>
      cases he : look e.u.2 c with
      | none => rfl
      | some z => exact absurd (h.w c (by rw [he]; simp)) (by rw [hf]; simp)
  · rw [aft_nx, aft_nx, aft_nx, aft_nx]
    cases he : e.y.m
    · rfl
    · rw [h.m he]; rfl

def AAny (P : Program) (all : Array Oper) (its : List Ent) (stF : St) : Nat → Array Bool → St → Prop
  | 0, listed, st => Region.ready .any all listed = [] ∧ Eqv st stF
  | fuel + 1, listed, st => (Region.ready .any all listed = [] → Eqv st stF) ∧
    ∀ i ∈ Region.ready .any all listed, ∃ e, its[i]? = some e ∧ all[i]? = some e.y.o ∧ IStep P all e st ∧ AAny P all its stF fuel (listed.setIfInBounds i true) (aft e st)

theorem AAny.eqv : ∀ {fuel : Nat} {listed : Array Bool} {s t : St}, Eqv s t → AAny P all its stF fuel listed s → AAny P all its stF fuel listed t
  | 0, _, _, _, h, k => ⟨k.1, h.symm.trans k.2⟩
  | _ + 1, _, _, _, h, k => ⟨fun h0 => h.symm.trans (k.1 h0), fun i hi => by
    obtain ⟨e, h1, h2, h3, h4⟩ := k.2 i hi
    exact ⟨e, h1, h2, h3.eqv h, h4.eqv (aft_eqv h)⟩⟩

def Closed (all : Array Oper) (listed : Array Bool) : Prop := ∀ m o, all[m]? = some o → listed.getD m false = true → ∀ e ∈ o.after, Region.binds .any e = true → listed.getD e.on false = true
theorem Closed.set {listed : Array Bool} {j : Nat} (h : Closed all listed) (hj : j ∈ Region.ready .any all listed) : Closed all (listed.setIfInBounds j true) := by
  intro m o ho hm e he hb
  obtain ⟨_, oj, hoj, hall⟩ := mem_ready.1 hj
  by_cases hjm : j = m
  · subst hjm
    rw [ho] at hoj; injection hoj with hoj; subst hoj
    exact getD_set_true (hall e he hb)
  · rw [getD_set_ne false hjm] at hm
    exact getD_set_true (h m o ho hm e he hb)
theorem not_both {listed : Array Bool} {i : Nat} (h0 : listed.getD i true = false) (h1 : listed.getD i false = true) : False := by
  rcases Nat.lt_or_ge i listed.size with h' | h'
  · simp [h'] at h0 h1; rw [h0] at h1; cases h1
  · simp [Array.getElem?_eq_none h'] at h1

theorem any_first {dep : Nat → Nat → Prop} (hdep : ∀ listed i j, Closed all listed → j ∈ Region.ready .any all listed → dep j i → listed.getD i false = true) {i : Nat} {e : Ent} (hi : its[i]? = some e) (ho : all[i]? = some e.y.o) :
    ∀ (fuel : Nat) (listed : Array Bool) (st : St), Closed all listed → (∀ j f, its[j]? = some f → j ≠ i → listed.getD j true = false → dep j i ∨ Ind all e f) → i ∈ Region.ready .any all listed → IStep P all e st →
      AAny P all its stF fuel (listed.setIfInBounds i true) (aft e st) → AAny P all its stF (fuel + 1) listed st := by
  intro fuel
  induction fuel with
  | zero =>
    intro listed st hc hfree hr hs H
    refine ⟨fun h => (by rw [h] at hr; cases hr), fun j hj => ?_⟩
    by_cases hji : j = i
    · subst hji; exact ⟨e, hi, ho, hs, H⟩
    · have := ready_mono hj hji
      rw [H.1] at this
      cases this
  | succ fuel ih =>
    intro listed st hc hfree hr hs H
    refine ⟨fun h => (by rw [h] at hr; cases hr), fun j hj => ?_⟩
    by_cases hji : j = i
    · subst hji; exact ⟨e, hi, ho, hs, H⟩
    · obtain ⟨f, h1, h2, h3, h4⟩ := H.2 j (ready_mono hj hji)
      obtain ⟨hjun, _⟩ := mem_ready.1 hj
      have hind : Ind all e f := by
        rcases hfree j f h1 hji hjun with hd | hd
        · exact (not_both (mem_ready.1 hr).1 (hdep listed i j hc hj hd)).elim
        · exact hd
      refine ⟨f, h1, h2, h3.back hind, ih (listed.setIfInBounds j true) (aft f st) (hc.set hj) (fun k g hk hki hun => ?_) (ready_mono hr (Ne.symm hji)) (hs.forth hind.symm) ?_⟩
      · refine hfree k g hk hki ?_
        by_cases hjk : j = k
        · subst hjk; exact hjun
        · rw [getD_set_ne true hjk] at hun; exact hun
      · rw [Array.setIfInBounds_comm _ _ hji]
        exact h4.eqv (aft_comm hind st)

theorem wpAny_of_AAny {X : Cx} {T : Nat} {Q : Exit → Act → World → Prop} (hd : ∀ o ∈ all, ∀ d, o.dst = some d → d < T) (hQ : ∀ a w pl fp, Inv X T stF a w pl fp → Q .normal a w) :
    ∀ {fuel : Nat} {listed : Array Bool} {st : St} {a : Act} {w : World} {pl : PlM} {fp : FpM}, AAny P all its stF fuel listed st → Inv X T st a w pl fp → wpAny P .any all Q fuel listed a w
  | 0, _, _, a, w, pl, fp, h, hi => ⟨h.1, hQ a w pl fp (hi.eqv h.2)⟩
  | fuel + 1, listed, st, a, w, pl, fp, h, hi => by
    refine ⟨fun h0 => hQ a w pl fp (hi.eqv (h.1 h0)), fun i hr => ?_⟩
    obtain ⟨e, h1, h2, h3, h4⟩ := h.2 i hr
    have := h3 st ⟨fun _ _ => rfl, fun _ _ => rfl, fun _ => rfl⟩ X T a w pl fp hi (hd e.y.o (Array.mem_of_getElem? h2)) (wpAny P .any all Q fuel (listed.setIfInBounds i true)) Q
      fun a' w' pl' fp' h' => wpAny_of_AAny hd hQ h4 h'
    unfold wpOp
    rw [h2]
    simp only
    split
    · rename_i hw; rw [if_pos hw] at this; exact .inl this
    · rename_i hw; rw [if_neg hw] at this; exact this

/-! ### which come before -/
theorem ancOf_bit {tab : List Nat} {i : Nat} : ∀ {es : List Edge}, (ancs.ancOf tab es).testBit i = true → ∃ e ∈ es, Region.binds .any e = true ∧ (e.on = i ∨ (tab.getD e.on 0).testBit i = true)
  | [], h => by simp [ancs.ancOf] at h
  | e :: es, h => by
    simp only [ancs.ancOf, Nat.testBit_or, Bool.or_eq_true] at h
    rcases h with h | h
    · obtain ⟨e', h1, h2⟩ := ancOf_bit h
      exact ⟨e', List.mem_cons_of_mem _ h1, h2⟩
    · cases hb : Region.binds .any e
      · rw [hb] at h; simp at h
      · rw [hb] at h
        simp only [cond_true, Nat.testBit_or, Bool.or_eq_true] at h
        refine ⟨e, List.mem_cons_self .., hb, h.imp (fun h => ?_) id⟩
        rw [Nat.one_shiftLeft, Nat.testBit_two_pow] at h
        exact of_decide_eq_true h

theorem ancs_spec : ∀ (r : List Oper) (tab : List Nat), ∃ ext, ancs tab r = tab ++ ext ∧ ext.length = r.length ∧ ∀ q o, r[q]? = some o → (ancs tab r)[tab.length + q]? = some (ancs.ancOf ((ancs tab r).take (tab.length + q)) o.after.toList)
  | [], tab => ⟨[], by simp [ancs], rfl, fun q o h => by simp at h⟩
  | o :: r, tab => by
    obtain ⟨ext, h1, h2, h3⟩ := ancs_spec r (tab ++ [ancs.ancOf tab o.after.toList])
    refine ⟨ancs.ancOf tab o.after.toList :: ext, by simp only [ancs]; rw [h1, List.append_assoc]; rfl, by simp [h2], fun q o' hq => ?_⟩
    simp only [ancs]
    cases q with
    | zero =>
      simp only [List.getElem?_cons_zero, Option.some.injEq] at hq; subst hq
      rw [h1, Nat.add_zero, List.append_assoc, List.getElem?_append_right (Nat.le_refl _), List.take_left]
      simp
    | succ q =>
      have := h3 q o' (by simpa using hq)
      simp only [List.length_append, List.length_singleton] at this
      rw [show tab.length + (q + 1) = tab.length + 1 + q by omega]
      exact this

theorem dep_ok {listed : Array Bool} (hc : Closed all listed) : ∀ (n j i : Nat), j < n → (∀ o, all[j]? = some o → ∀ e ∈ o.after, Region.binds .any e = true → listed.getD e.on false = true) → ((ancs [] all.toList).getD j 0).testBit i = true → listed.getD i false = true
  | 0, _, _, h, _, _ => absurd h (Nat.not_lt_zero _)
  | n + 1, j, i, hj, hp, hb => by
    obtain ⟨ext, h1, h2, h3⟩ := ancs_spec all.toList []
    cases hq : all.toList[j]? with
    | none =>
      have hlen : (ancs [] all.toList).length ≤ j := by rw [h1]; simp only [List.nil_append]; rw [h2]; exact List.getElem?_eq_none_iff.1 hq
      rw [List.getD_eq_getElem?_getD, List.getElem?_eq_none hlen] at hb
      simp at hb
    | some o =>
      have := h3 j o hq
      simp only [List.length_nil, Nat.zero_add] at this
      rw [List.getD_eq_getElem?_getD, this] at hb
      simp only [Option.getD_some] at hb
      obtain ⟨e, he, hbi, h4⟩ := ancOf_bit hb
      have hoj : all[j]? = some o := by simpa using hq
      have hl := hp o hoj e (by simpa using he) hbi
      rcases h4 with h4 | h4
      · rw [← h4]; exact hl
      · have hlt : e.on < j := by
          rcases Nat.lt_or_ge e.on j with h | h
          · exact h
          · rw [List.getD_eq_getElem?_getD, List.getElem?_eq_none (by simp; omega)] at h4
            simp at h4
        have h5 : ((ancs [] all.toList).getD e.on 0).testBit i = true := by
          rw [List.getD_eq_getElem?_getD, List.getElem?_take, if_pos hlt] at h4
          rw [List.getD_eq_getElem?_getD]; exact h4
        exact dep_ok hc n e.on i (by omega) (fun o' ho' e' he' hb' => hc e.on o' ho' hl e' he' hb') h5
end

end Go.Proofs.YthpklbpdchckkaaEv

namespace Go.Proofs.YthpklbpdchckkaaEv
open Go.RowKit (Below)
set_option linter.unusedVariables false
set_option linter.unusedSectionVars false
set_option linter.unusedSimpArgs false

section
variable {P : Program} {R : Type} {Γ : Nat → Option (Con R)} {all : Array Oper} {its : List Ent} {stF : St}

def Chn (P : Program) (all : Array Oper) : St → List Oper → List Ent → St → Prop
  | st, [], [], stF => st = stF
  | st, o :: l, e :: es, stF => e.y.o = o ∧ IStep P all e st ∧ ∃ st1, Eqv st1 (aft e st) ∧ Chn P all st1 l es stF
  | _, _, _, _ => False

theorem okItm_spec {an : Nat} {y : Itm} : ∀ {r : List Itm} {s : Nat}, okItm all an y s r = true → ∀ p x, r[p]? = some x → an.testBit (s + p) = true ∨ indep all x y = true
  | [], _, _, p, x, hx => by simp at hx
  | z :: r, s, h, p, x, hx => by
    simp only [okItm, Bool.and_eq_true, Bool.or_eq_true] at h
    cases p with
    | zero => simp at hx; subst hx; exact h.1
    | succ p =>
      have := okItm_spec h.2 p x (by simpa using hx)
      rwa [show s + 1 + p = s + (p + 1) by omega] at this

theorem evAny_chain (hΓ : ∀ g c, Γ g = some c → Snd P g c) {tab : List Nat} {k : St → Option R} {r : R} : ∀ {l : List Oper} {i : Nat} {done : List Itm} {st : St}, evAny P Γ all tab i l done st k = some r →
    ∃ es stF, k stF = some r ∧ es.length = l.length ∧ Chn P all st l es stF ∧ (∀ e ∈ es, e.y.w = e.u.2.map (·.1)) ∧
      ∀ q e o, es[q]? = some e → l[q]? = some o → okItm all (tab.getD (i + q) 0) e.y 0 (done ++ (es.take q).map (·.y)) = true ∧ ∀ ed ∈ o.after, Region.binds .any ed = true → ed.on < i + q
  | [], i, done, st, h => ⟨[], st, h, rfl, rfl, by simp, fun q e o hq => by simp at hq⟩
  | o :: l, i, done, st, h => by
    obtain ⟨b, u, n, h1, h2, h3, h4⟩ := evG_ok hΓ h
    have hy : (mkEnt P st o b n u).y = cond b ⟨o, touches st o, u.2.map (·.1), memB P o.op⟩ ⟨o, [], [], false⟩ := rfl
    rw [← hy] at h1
    simp only at h1
    cases hb : (okItm all (tab.getD i 0) (mkEnt P st o b n u).y 0 done && o.after.toList.all fun e => !Region.binds .any e || Nat.blt e.on i)
    · rw [hb] at h1; cases h1
    rw [hb] at h1
    simp only [cond_true] at h1
    simp only [Bool.and_eq_true] at hb
    obtain ⟨es, stF, k1, k2, k3, k4, k5⟩ := evAny_chain hΓ h1
    refine ⟨mkEnt P st o b n u :: es, stF, k1, by simp [k2], ⟨by cases b <;> rfl, h2, _, h3, k3⟩, fun e he => ?_, fun q e o' hq ho => ?_⟩
    · rcases List.mem_cons.1 he with rfl | he
      · cases b
        · show ([] : List Nat) = u.2.map (·.1)
          rw [h4 rfl]; rfl
        · rfl
      · exact k4 e he
    · cases q with
      | zero =>
        simp only [List.getElem?_cons_zero, Option.some.injEq] at hq ho
        subst hq; subst ho
        refine ⟨by simpa using hb.1, fun ed hed hbi => ?_⟩
        have := List.all_eq_true.1 hb.2 ed (by simpa using hed)
        rw [hbi] at this
        simp only [Bool.not_true, Bool.false_or] at this
        exact Nat.le_of_ble_eq_true this
      | succ q =>
        have := k5 q e o' (by simpa using hq) (by simpa using ho)
        rw [show i + 1 + q = i + (q + 1) by omega] at this
        refine ⟨?_, this.2⟩
        simpa [List.append_assoc] using this.1

theorem lex_ok (hok : ∀ q e, its[q]? = some e → ∀ p f, p < q → its[p]? = some f → ((ancs [] all.toList).getD q 0).testBit p = true ∨ Ind all f e) (hpre : ∀ q o, all[q]? = some o → ∀ ed ∈ o.after, Region.binds .any ed = true → ed.on < q)
    (hlen : its.length = all.size) : ∀ {l : List Oper} {es : List Ent} {st : St} {i : Nat} {listed : Array Bool}, its.drop i = es → all.toList.drop i = l → es.length = l.length → Chn P all st l es stF → listed.size = all.size → (∀ j, j < all.size → listed[j]? = some (decide (j < i))) →
      AAny P all its stF l.length listed st
  | [], [], st, i, listed, h1, h2, h3, h4, h5, h6 => by
    refine ⟨List.eq_nil_iff_forall_not_mem.2 fun j hj => ?_, by rw [show st = stF from h4]; exact Eqv.refl _⟩
    obtain ⟨hun, o, ho, _⟩ := mem_ready.1 hj
    have hlt : j < all.size := (Array.getElem?_eq_some_iff.1 ho).1
    have hi : all.size ≤ i := by
      have := congrArg List.length h2
      simp at this; omega
    rw [Array.getD_eq_getD_getElem?, h6 j hlt] at hun
    simp at hun; omega
  | [], _ :: _, st, i, listed, h1, h2, h3, h4, h5, h6 => by cases h3
  | _ :: _, [], st, i, listed, h1, h2, h3, h4, h5, h6 => by cases h3
  | o :: l, e :: es, st, i, listed, h1, h2, h3, h4, h5, h6 => by
    obtain ⟨ho, hs, st1, he, hch⟩ := h4
    have hei : its[i]? = some e := by
      have := congrArg (fun x => x[0]?) h1
      simpa using this
    have hoi : all[i]? = some o := by
      have := congrArg (fun x => x[0]?) h2
      simpa using this
    have hlt : i < all.size := (Array.getElem?_eq_some_iff.1 hoi).1
    have hl : ∀ j b, j < all.size → listed.getD j b = decide (j < i) := fun j b hj => by rw [Array.getD_eq_getD_getElem?, h6 j hj]; rfl
    have hlist : ∀ j, listed.getD j false = true → j < i := fun j hj => by
      rcases Nat.lt_or_ge j all.size with h | h
      · rw [hl j false h] at hj; exact of_decide_eq_true hj
      · rw [Array.getD_eq_getD_getElem?, Array.getElem?_eq_none (by omega)] at hj; cases hj
    have hc : Closed all listed := fun m o' ho' hm ed hed hb => by
      have := hpre m o' ho' ed hed hb
      have := hlist m hm
      rw [hl ed.on false (by omega)]; simp; omega
    refine any_first (dep := fun j i => ((ancs [] all.toList).getD j 0).testBit i = true) (fun listed i j hc hj hd => ?_) hei (by rw [hoi, ho]) l.length listed st hc (fun j f hf hji hun => ?_) (mem_ready.2 ⟨by rw [hl i true hlt]; simp, o, hoi, fun ed hed hb => ?_⟩) hs ?_
    · obtain ⟨_, oj, hoj, hall⟩ := mem_ready.1 hj
      exact dep_ok hc (j + 1) j i (Nat.lt_succ_self _) (fun o' ho' => by rw [hoj] at ho'; injection ho' with ho'; subst ho'; exact hall) hd
    · have hj : j < all.size := by rw [← hlen]; exact (List.getElem?_eq_some_iff.1 hf).1
      rw [hl j true hj] at hun
      have : i < j := by have := of_decide_eq_false hun; omega
      exact hok j f hf i e this hei
    · have := hpre i o hoi ed hed hb
      rw [hl ed.on false (by omega)]; simpa using this
    · refine AAny.eqv he (lex_ok hok hpre hlen (i := i + 1) ?_ ?_ (by simpa using h3) hch (by simp [h5]) fun j hj => ?_)
      · have := congrArg (List.drop 1) h1; simpa [List.drop_drop] using this
      · have := congrArg (List.drop 1) h2; simpa [List.drop_drop] using this
      · by_cases hji : i = j
        · subst hji
          rw [Array.getElem?_setIfInBounds]; simp [h5, hj]
        · rw [Array.getElem?_setIfInBounds_ne hji, h6 j hj]
          congr 1
          have : (j < i) ↔ (j < i + 1) := by omega
          simp [this]

theorem evAny_fin {es : List Ent} {st : St} (k2 : es.length = all.toList.length) (k3 : Chn P all st all.toList es stF) (k4 : ∀ e ∈ es, e.y.w = e.u.2.map (·.1))
    (k5 : ∀ q e o, es[q]? = some e → all.toList[q]? = some o → okItm all ((ancs [] all.toList).getD (0 + q) 0) e.y 0 ([] ++ (es.take q).map (·.y)) = true ∧ ∀ ed ∈ o.after, Region.binds .any ed = true → ed.on < 0 + q)
    {X : Cx} {T : Nat} {Q : Exit → Act → World → Prop} (hQ : ∀ a' w' pl' fp', Inv X T stF a' w' pl' fp' → Q .normal a' w')
    (hd : ∀ o ∈ all, ∀ d, o.dst = some d → d < T) {a : Act} {w : World} {pl : PlM} {fp : FpM} (hi : Inv X T st a w pl fp) :
    wpAny P .any all Q all.size (Array.replicate all.size false) a w := by
  have hlen : es.length = all.size := by simpa using k2
  have hget : ∀ q e, es[q]? = some e → ∃ o, all.toList[q]? = some o := fun q e he => by
    have := (List.getElem?_eq_some_iff.1 he).1
    exact ⟨_, List.getElem?_eq_getElem (by simpa [hlen] using this)⟩
  have := lex_ok (P := P) (its := es) (stF := stF) (fun q e he p f hpq hf => ?_) (fun q o ho ed hed hb => ?_) hlen (l := all.toList) (es := es) (st := st) (i := 0) (listed := Array.replicate all.size false) rfl rfl k2 k3 (by simp) fun j hj => ?_
  · refine wpAny_of_AAny (its := es) (stF := stF) hd (fun a' w' pl' fp' h' => hQ a' w' pl' fp' h') ?_ hi
    simpa using this
  · obtain ⟨o, ho⟩ := hget q e he
    have h5 := (k5 q e o he ho).1
    simp only [Nat.zero_add, List.nil_append] at h5
    have hx : ((es.take q).map (·.y))[p]? = some f.y := by
      rw [List.getElem?_map, List.getElem?_take, if_pos hpq, hf]; rfl
    rcases okItm_spec h5 p f.y hx with h | h
    · rw [Nat.zero_add] at h; exact .inl h
    · exact .inr (indep_ok (k4 f (List.mem_of_getElem? hf)) (k4 e (List.mem_of_getElem? he)) h)
  · have hlt : q < es.length := by rw [hlen]; exact (Array.getElem?_eq_some_iff.1 ho).1
    have := (k5 q es[q] o (List.getElem?_eq_getElem hlt) (by simpa using ho)).2 ed hed hb
    simpa using this
  · simp [hj]
end

end Go.Proofs.YthpklbpdchckkaaEv

namespace Go.Proofs.YthpklbpdchckkaaEv
open Go.RowKit (Below)
set_option linter.unusedVariables false
set_option linter.unusedSectionVars false
set_option linter.unusedSimpArgs false

section
variable {X : Cx} {T : Nat} {st : St} {a : Act} {w : World} {pl : PlM} {fp : FpM}

theorem posOf_go {c : Nat} : ∀ {o : List Nat} {i d : Nat}, posOf.go c i o = some d → ∃ j, d = i + j ∧ o[j]? = some c
  | [], _, _, h => by cases h
  | x :: r, i, d, h => by
    simp only [posOf.go] at h
    cases hb : Nat.beq x c
    · rw [hb] at h
      obtain ⟨j, h1, h2⟩ := posOf_go (o := r) h
      exact ⟨j + 1, by omega, by simpa using h2⟩
    · rw [hb] at h
      injection h with h
      exact ⟨0, h.symm, by rw [Nat.eq_of_beq_eq_true hb]; rfl⟩
theorem posOf_ok {o : List Nat} {c d : Nat} (h : posOf o c = some d) : o[d]? = some c := by
  obtain ⟨j, h1, h2⟩ := posOf_go h
  rw [h1, Nat.zero_add]; exact h2

def plO (o : List Nat) (pl : PlM) : PlM := fun i => match o[i]? with | some c => pl c | none => none
def fpO (o : List Nat) (fp : FpM) : FpM := fun i => match o[i]? with | some c => fp c | none => []
theorem plO_at {o : List Nat} {c d : Nat} (h : o[d]? = some c) : plO o pl d = pl c := by simp only [plO, h]
theorem fpO_at {o : List Nat} {c d : Nat} (h : o[d]? = some c) : fpO o fp d = fp c := by simp only [fpO, h]

theorem renL_ok {o : List Nat} : ∀ {cs ds : List Nat} {us : List Value}, renC.renL o cs = some ds → All2 (fun c u => ∃ p, pl c = some p ∧ u = Value.pointer (some ⟨p.g, 0, none⟩)) cs us → All2 (fun c u => ∃ p, plO o pl c = some p ∧ u = Value.pointer (some ⟨p.g, 0, none⟩)) ds us
  | [], ds, _, h, .nil => by simp only [renC.renL, Option.some.injEq] at h; subst h; exact .nil
  | c :: r, ds, _, h, .cons hx ht => by
    simp only [renC.renL] at h
    split at h
    case h_2 => cases h
    rename_i d ds' h1 h2
    injection h with h; subst h
    obtain ⟨p, hp, e⟩ := hx
    exact .cons ⟨p, by rw [plO_at (posOf_ok h1)]; exact hp, e⟩ (renL_ok h2 ht)

theorem renC_ok {o : List Nat} {x : Cell} {v : Value} (h : CR X pl x v) : CR X (plO o pl) (renC o x) v := by
  cases x <;> simp only [renC] <;> try exact h
  case ptr c j =>
    obtain ⟨p, hp, e⟩ := h
    split
    · rename_i d hd; exact ⟨p, by rw [plO_at (posOf_ok hd)]; exact hp, e⟩
    · trivial
  case ep c i j =>
    obtain ⟨p, hp, e⟩ := h
    split
    · rename_i d hd; exact ⟨p, by rw [plO_at (posOf_ok hd)]; exact hp, e⟩
    · trivial
  case sl c i j =>
    obtain ⟨p, hp, e⟩ := h
    split
    · rename_i d hd; exact ⟨p, by rw [plO_at (posOf_ok hd)]; exact hp, e⟩
    · trivial
  case slw c =>
    obtain ⟨p, hp, e⟩ := h
    split
    · rename_i d hd; exact ⟨p, by rw [plO_at (posOf_ok hd)]; exact hp, e⟩
    · trivial
  case fn f cs =>
    obtain ⟨us, e, hu⟩ := h
    split
    · rename_i ds hd; exact ⟨us, e, renL_ok hd hu⟩
    · trivial
theorem renCs_ok {o : List Nat} {xs : List Cell} {vs : List Value} (h : All2 (CR X pl) xs vs) : All2 (CR X (plO o pl)) (xs.map (renC o)) vs := by
  induction h with
  | nil => exact .nil
  | cons hx ht ih => exact .cons (renC_ok hx) ih
theorem renV_ok {o : List Nat} {x : Val} {v : Value} (h : VR X pl x v) : VR X (plO o pl) (renV o x) v := by
  cases x with
  | c x => exact renC_ok h
  | agg xs => obtain ⟨us, e, hu⟩ := h; exact ⟨us, e, renCs_ok hu⟩
  | bx ty xs => exact h.elim
  | tup vs => trivial

theorem renVs_ok {o : List Nat} {xs : List Val} {vs : List Value} (h : All2 (VR X pl) xs vs) : All2 (VR X (plO o pl)) (xs.map (renV o)) vs := by
  induction h with
  | nil => exact .nil
  | cons hx ht ih => exact .cons (renV_ok hx) ih

theorem keepT_ok : ∀ {l : List Nat} {t : Nat} {o : List Nat} {v : Val}, look ((keepT st l).map fun x => (x.1, renV o x.2)) t = some v → v = renV o (st.get t)
  | [], _, _, _, h => by simp [keepT, look] at h
  | x :: r, t, o, v, h => by
    simp only [keepT] at h
    cases hd : isDead (st.get x)
    · rw [hd] at h
      simp only [cond_false, List.map_cons, look] at h
      cases hb : Nat.beq x t
      · rw [hb] at h; exact keepT_ok (l := r) h
      · rw [hb] at h
        injection h with h
        rw [← h, Nat.eq_of_beq_eq_true hb]
    · rw [hd] at h; exact keepT_ok (l := r) h

theorem canonHp_ok {o : List Nat} : ∀ {l : List Nat} {i d : Nat} {k : Option Chunk}, look (canonHp st o i l) d = some k → ∃ j c, d = i + j ∧ l[j]? = some c ∧ k = renK o (st.chunk c)
  | [], _, _, _, h => by simp [canonHp, look] at h
  | c :: r, i, d, k, h => by
    simp only [canonHp, look] at h
    cases hb : Nat.beq i d
    · rw [hb] at h
      obtain ⟨j, c', h1, h2, h3⟩ := canonHp_ok (l := r) h
      exact ⟨j + 1, c', by omega, by simpa using h2, h3⟩
    · rw [hb] at h
      injection h with h
      exact ⟨0, c, (Nat.eq_of_beq_eq_true hb).symm, rfl, h.symm⟩

theorem reach_nodup : ∀ (f : Nat) (l acc : List Nat), acc.Nodup → (reach st f l acc).Nodup
  | 0, _, acc, h => h
  | f + 1, [], acc, h => h
  | f + 1, c :: r, acc, h => by
    simp only [reach]
    cases hb : acc.any (Nat.beq c)
    · simp only [cond_false]
      split
      · refine reach_nodup f _ _ (List.nodup_append.2 ⟨h, by simp, fun x hx y hy e => ?_⟩)
        have hy : y = c := by simpa using hy
        subst e; subst hy
        have := List.any_eq_false.1 hb x hx
        exact this (Nat.beq_refl x)
      · exact reach_nodup f _ _ h
    · exact reach_nodup f _ _ h

theorem canon0_ok (h : Inv X T st a w pl fp) (m : Nat) : ∃ pl' fp', Inv X T (canon0 m st) a w pl' fp' := by
  obtain ⟨ks, hks⟩ : ∃ ks, ks = keepT st (bits 400 0 m) := ⟨_, rfl⟩
  obtain ⟨o, ho⟩ : ∃ o, o = reach st 400 ((ks.flatMap fun x => refV x.2) ++ st.pin.flatMap refV) [] := ⟨_, rfl⟩
  have hn : o.Nodup := by rw [ho]; exact reach_nodup _ _ _ List.nodup_nil
  have hst : canon0 m st = ⟨ks.map fun x => (x.1, renV o x.2), canonHp st o 0 o, o.length, st.pin.map (renV o)⟩ := by unfold canon0; rw [ho, hks]
  rw [hst]
  have hch : ∀ d k, St.chunk ⟨ks.map fun x => (x.1, renV o x.2), canonHp st o 0 o, o.length, st.pin.map (renV o)⟩ d = some k → ∃ c k0, o[d]? = some c ∧ st.chunk c = some k0 ∧ renK o (some k0) = some k := by
    intro d k hk
    simp only [St.chunk] at hk
    split at hk
    case h_2 => cases hk
    rename_i x hx
    injection hk with hk; subst hk
    obtain ⟨j, c, h1, h2, h3⟩ := canonHp_ok hx
    rw [Nat.zero_add] at h1
    cases hc : st.chunk c with
    | none => rw [hc] at h3; cases h3
    | some k0 => rw [hc] at h3; exact ⟨c, k0, by rw [h1]; exact h2, hc, h3.symm⟩
  have hown : ∀ b d, OwnB ⟨ks.map fun x => (x.1, renV o x.2), canonHp st o 0 o, o.length, st.pin.map (renV o)⟩ (fpO o fp) b d → ∃ c, o[d]? = some c ∧ OwnB st fp b c := by
    rintro b d ⟨⟨k, hk⟩, hb⟩
    obtain ⟨c, k0, h1, h2, _⟩ := hch d k hk
    rw [fpO_at h1] at hb
    exact ⟨c, h1, ⟨k0, h2⟩, hb⟩
  refine ⟨plO o pl, fpO o fp, h.fr, h.df, h.sz, fun t => ?_, fun d k hk => ?_, fun b d hb => ?_, fun d k hk => ?_, fun b d e hd he => ?_, fun d hd => ?_, renVs_ok h.pn⟩
  · simp only [St.get]
    split
    · rename_i v hv
      rw [hks] at hv
      rw [keepT_ok hv]
      exact renV_ok (h.tm t)
    · trivial
  · obtain ⟨c, k0, h1, h2, h3⟩ := hch d k hk
    have := h.ch c k0 h2
    cases k0 with
    | box ty xs =>
      injection h3 with h3; subst h3
      obtain ⟨p, us, e, ef, hr, ht, hc⟩ := this
      exact ⟨p, us, by rw [plO_at h1]; exact e, by rw [fpO_at h1]; exact ef, hr, ht, renCs_ok hc⟩
    | rows t e xs =>
      injection h3 with h3; subst h3
      obtain ⟨p, us, f, e1, e2, e3, hh, hw⟩ := this
      exact ⟨p, us, f, by rw [plO_at h1]; exact e1, e2, e3, by rw [fpO_at h1]; exact hh, hw⟩
    | hol t e xs i j n =>
      simp only [renK] at h3
      split at h3
      case h_2 => cases h3
      rename_i d' hd'
      injection h3 with h3; subst h3
      obtain ⟨p, q, v, f, a1, u1, b1, fa, fm, fb, e1, e2, e3, e4, e5, e6, ht, hr, hl, e7, k1, k2, k3, hq, hv⟩ := this
      exact ⟨p, q, v, f, a1, u1, b1, fa, fm, fb, by rw [plO_at h1]; exact e1, e2, e3, e4, by rw [fpO_at h1]; exact e5, e6, ht, hr, hl, e7, k1, k2, k3, by rw [plO_at (posOf_ok hd')]; exact hq, hv⟩
  · obtain ⟨c, _, ho'⟩ := hown b d hb
    exact h.lt b c ho'
  · obtain ⟨c, k0, h1, h2, _⟩ := hch d k hk
    rw [fpO_at h1]; exact h.nd c k0 h2
  · obtain ⟨c, h1, h2⟩ := hown b d hd
    obtain ⟨c', h3, h4⟩ := hown b e he
    have := h.dj b c c' h2 h4
    subst this
    exact (List.getElem?_inj (List.getElem?_eq_some_iff.1 h1).1 hn).1 (h1.trans h3.symm)
  · simp only [plO]
    rw [List.getElem?_eq_none hd]

/-! ### a slice is put back -/
theorem close1_ok (h : Inv X T st a w pl fp) (c : Nat) : ∃ fp', Inv X T (close1 st c) a w pl fp' := by
  unfold close1
  split
  case h_2 => exact ⟨fp, h⟩
  rename_i t e xs i j n hc
  split
  case h_2 => exact ⟨fp, h⟩
  rename_i u e1 ys e2 u' hn hlt
  split
  case h_2 => exact ⟨fp, h⟩
  rename_i zs hz
  cases hcn : Nat.beq c n
  case true => exact ⟨fp, h⟩
  rw [cond_false]
  have hcn : c ≠ n := fun hh => by subst hh; rw [Nat.beq_refl] at hcn; cases hcn
  have hu := castL_ty hz
  subst hu
  have := castL_self hz; subst this
  obtain ⟨p, q, v, f, a1, u1, b1, fa, fm, fb, d1, d2, d3, d4, hfp, htop, hth, hra, hrl, d7, k1, k2, k3, hq, hv⟩ := h.ch c _ hc
  obtain ⟨q', r1, r2, r3⟩ := rows_pl h hn
  rw [hq] at r1; injection r1 with r1; subst r1
  obtain ⟨f0, m1, m2, m3⟩ := chunk_own h hn hq hv
  rw [r2] at m1
  simp only [List.drop_zero, List.take_length] at m1
  obtain ⟨g1, g2, e9, hz'⟩ := OwH.put hlt k2 (show OwS w e2 u.n (OwC w u) zs v f0 from m1)
  have hrows := OwR.join (xs := xs) i d4 k1 hz' k3
  have hown : ∀ b' ∈ fp c, OwnB st fp b' c := fun b' hb' => ⟨⟨_, hc⟩, hb'⟩
  have hownn : ∀ b' ∈ f0, OwnB st fp b' n := fun b' hb' => ⟨⟨_, hn⟩, m2 b' hb'⟩
  have hndp := h.nd c _ hc
  have hdis : ∀ b' ∈ f0, b' ∉ fp c := fun b' hb' hb2 => hcn (h.dj b' c n (hown b' hb2) (hownn b' hb'))
  have hfe : fp c = p.g :: (fa ++ (g1 ++ g2) ++ fb) := by rw [hfp, d7, e9]
  have hin : ∀ b' ∈ p.g :: (fa ++ (g1 ++ f0 ++ g2) ++ fb), b' ∈ fp c ∨ b' ∈ f0 := fun b' hb' => by
    rw [hfe]
    simp only [List.mem_cons, List.mem_append] at hb' ⊢
    rcases hb' with hb' | (hb' | (hb' | hb') | hb') | hb' <;> simp [hb']
  have hnf : (p.g :: (fa ++ (g1 ++ f0 ++ g2) ++ fb)).Nodup := by
    rw [List.nodup_iff_count]
    intro b'
    have c1 := List.nodup_iff_count.1 hndp b'
    have c2 := List.nodup_iff_count.1 m3 b'
    rw [hfe] at c1
    simp only [List.count_cons, List.count_append] at c1 ⊢
    by_cases hb' : b' ∈ f0
    · have hz0 : List.count b' (fp c) = 0 := List.count_eq_zero.2 (hdis b' hb')
      rw [hfe] at hz0
      simp only [List.count_cons, List.count_append] at hz0
      omega
    · have hz0 : List.count b' f0 = 0 := List.count_eq_zero.2 hb'
      omega
  have hst := h.step (G := fun _ => False) (pl' := pl) (fp' := setFp fp c (p.g :: (fa ++ (g1 ++ f0 ++ g2) ++ fb))) none st.nx (.tup [], [(c, some (.rows t e (xs.set i (leafSet t (xs.getD i t.z) j u zs)))), (n, none)]) undef (fun _ hh => by cases hh) (Nat.le_refl _) (fun _ _ hh => hh) h.nx
    (fun _ hl => setFp_look hl) (Fr.refl _ _) (fun _ _ hg => hg.elim) ⟨#[], rfl, .nil⟩ ?_ ?_
  · exact ⟨_, hst⟩
  · intro c' k hk
    rcases look_one hk with ⟨rfl, e5⟩ | hk
    · injection e5 with e5; subst e5
      refine ⟨⟨p, _, _, d1, by simp only [List.length_set]; exact d2, d3, .inr ⟨setFp_new .., by simp only [List.length_set]; exact htop, hth, hra, hrl⟩, hrows⟩, ?_⟩
      rw [setFp_new]
      refine ⟨hnf, fun b' hb' => ?_⟩
      rcases hin b' hb' with hb' | hb'
      · exact ⟨(h.lt _ _ (hown b' hb')).1, .inr ⟨c', hown b' hb', by rw [look_self]; simp⟩⟩
      · exact ⟨(h.lt _ _ (hownn b' hb')).1, .inr ⟨n, hownn b' hb', look_hd (by rw [look_self]; simp)⟩⟩
    · rcases look_one hk with ⟨_, e5⟩ | hk
      · cases e5
      · cases hk
  · intro b' c1 c2 k l h1 h2 _ _
    rcases look_one h1 with ⟨rfl, _⟩ | h1
    · rcases look_one h2 with ⟨rfl, _⟩ | h2
      · rfl
      · rcases look_one h2 with ⟨_, e5⟩ | h2
        · cases e5
        · cases h2
    · rcases look_one h1 with ⟨_, e5⟩ | h1
      · cases e5
      · cases h1
theorem closes_ok : ∀ (l : List Nat) {st : St} {fp : FpM}, Inv X T st a w pl fp → ∃ fp', Inv X T (l.foldl close1 st) a w pl fp'
  | [], _, _, h => ⟨_, h⟩
  | c :: r, _, _, h => by
    obtain ⟨fp1, h1⟩ := close1_ok h c
    exact closes_ok r h1
theorem canon_ok (h : Inv X T st a w pl fp) (m : Nat) : ∃ pl' fp', Inv X T (canon m st) a w pl' fp' := by
  obtain ⟨pl1, fp1, h1⟩ := canon0_ok h m
  unfold canon
  simp only
  split
  · exact ⟨_, _, h1⟩
  · obtain ⟨fp2, h2⟩ := closes_ok _ h1
    exact canon0_ok h2 m

/-! ### a nil slice as a row without elements, a part of a row as a row -/
theorem All2.set1 {r s : Cell → Value → Prop} (hrs : ∀ x v, r x v → s x v) {y : Cell} : ∀ {xs : List Cell} {us : List Value} {j : Nat}, All2 r xs us → (∀ v, us[j]? = some v → s y v) → j < xs.length → All2 s (setAt j [y] xs) us
  | _, _, j, .nil, _, hj => by simp at hj
  | x :: xs, u :: us, 0, .cons hx ht, hy, _ => by
    simp only [setAt, List.take_zero, List.nil_append, List.length_singleton, List.drop_succ_cons, List.drop_zero, Nat.zero_add, List.singleton_append]
    exact .cons (hy u rfl) (ht.imp hrs)
  | x :: xs, u :: us, j + 1, .cons hx ht, hy, hj => by
    have := All2.set1 hrs (y := y) (j := j) ht (fun v hv => hy v (by simpa using hv)) (by simpa using hj)
    simp only [setAt, List.take_succ_cons, List.cons_append, List.length_singleton] at this ⊢
    rw [show j + 1 + 1 = (j + 1) + 1 from rfl, List.drop_succ_cons]
    exact .cons (hrs _ _ hx) this
theorem reown_at {wd : Wd} {xs : List Cell} {j : Nat} {y : Cell} {u : List (Nat × Option Chunk)} (h : reown st wd (cellAt xs j) = some (y, u)) : xs[j]? = some (cellAt xs j) := by
  unfold cellAt at h ⊢
  cases hx : xs[j]? with
  | none => rw [hx] at h; cases h
  | some x => rfl

theorem reown_ok (h : Inv X T st a w pl fp) {wd : Wd} {x y : Cell} {u : List (Nat × Option Chunk)} (hr : reown st wd x = some (y, u)) {v : Value} (hx : CR X pl x v) :
    ∃ pl' fp', Inv X T ⟨st.tm, u ++ st.hp, st.nx + 1, st.pin⟩ a w pl' fp' ∧ CR X pl' y v ∧ (∀ c p, pl c = some p → pl' c = some p) := by
  have key : ∀ {t : Ty} {e : TypeId} {xs : List t.D} {f : List Nat} {r : List (Nat × Option Chunk)}, OwS w e t.n (OwC w t) xs v f → f.Nodup → (∀ c k, look r c ≠ some (some k)) → (∀ b ∈ f, ∃ c, OwnB st fp b c ∧ look r c ≠ none) →
      ∃ pl' fp', Inv X T ⟨st.tm, ((st.nx, some (.rows t e xs)) :: r) ++ st.hp, st.nx + 1, st.pin⟩ a w pl' fp' ∧ CR X pl' (.slw st.nx) v ∧ (∀ c p, pl c = some p → pl' c = some p) := by
    intro t e xs f r ho hn hr1 hr2
    obtain ⟨pl', fp', k1, k2⟩ := OwS_slv (X := X) (fp := fp) ho h.nx hn
    have hm := k1.mono h.nx
    have hl : ∀ c k, look ((st.nx, some (Chunk.rows t e xs)) :: r) c = some (some k) → look [(st.nx, some (Chunk.rows t e xs))] c = some (some k) := fun c k hc => by
      simp only [look] at hc ⊢
      cases hb : Nat.beq st.nx c
      · rw [hb] at hc; exact absurd hc (hr1 c k)
      · rw [hb] at hc; exact hc
    refine ⟨pl', fp', ?_, k2, hm⟩
    have := h.step (fp' := fp') (G := fun _ => False) none (st.nx + 1) (.c .dead, (st.nx, some (.rows t e xs)) :: r) undef (fun _ h => by cases h) (Nat.le_succ _) hm k1.hi (fun c hc => ?_) (Fr.refl _ _) (fun _ _ hg => hg.elim) trivial (fun c k hk => ?_) (fun b c d k l hc hd hb hb' => k1.dj b c d k l (hl c k hc) (hl d l hd) hb hb')
    · exact this
    · refine k1.fp c ?_
      simp only [look] at hc ⊢
      cases hb : Nat.beq st.nx c
      · rfl
      · rw [hb] at hc; cases hc
    · obtain ⟨m1, m2, m3⟩ := k1.ch c k (hl c k hk)
      refine ⟨m1, m2, fun b hb => ?_⟩
      obtain ⟨c', ho', hne⟩ := hr2 b (m3 b hb)
      refine ⟨(h.lt b c' ho').1, .inr ⟨c', ho', ?_⟩⟩
      simp only [look]
      cases Nat.beq st.nx c'
      · exact hne
      · simp
  cases x <;> simp only [reown] at hr <;> try (cases hr; done)
  case nil =>
    injection hr with hr; injection hr with e1 e2; subst e1; subst e2
    exact key (f := []) (r := []) (.inl ⟨hx, rfl, rfl⟩) List.nodup_nil (fun _ _ h => by cases h) (fun _ h => by simp at h)
  case sl c off len =>
    split at hr
    case h_2 => cases hr
    rename_i t e xs hc
    injection hr with hr; injection hr with e1 e2; subst e1; subst e2
    obtain ⟨p, hp, hv⟩ := hx
    obtain ⟨f, k1, k2, k3⟩ := chunk_own h hc hp hv
    refine key k1 k3 (fun d k hd => ?_) (fun b hb => ⟨c, ⟨⟨_, hc⟩, k2 b hb⟩, by simp [look]⟩)
    simp only [look] at hd
    cases hb : Nat.beq c d <;> rw [hb] at hd <;> simp at hd

theorem widen1_ok (h : Inv X T st a w pl fp) (wd : Wd) : ∃ pl' fp', Inv X T (widen1 st wd) a w pl' fp' := by
  have htm : ∀ {n : Nat} {x : Val} {u : List (Nat × Option Chunk)} {pl' : PlM} {fp' : FpM}, Inv X T ⟨st.tm, u ++ st.hp, st.nx + 1, st.pin⟩ a w pl' fp' → VR X pl' x (a.tmps.getD n undef) →
      Inv X T ⟨(n, x) :: st.tm, u ++ st.hp, st.nx + 1, st.pin⟩ a w pl' fp' := fun {n x u pl' fp'} h1 hx => by
    refine ⟨h1.fr, h1.df, h1.sz, fun t' => ?_, h1.ch, h1.lt, h1.nd, h1.dj, h1.nx, h1.pn⟩
    have := h1.tm t'
    simp only [St.get, look] at this ⊢
    cases hb : Nat.beq n t'
    · exact this
    · rw [← Nat.eq_of_beq_eq_true hb]; exact hx
  unfold widen1
  split
  · rename_i n hn
    split
    case h_2 => exact ⟨pl, fp, h⟩
    rename_i x hx
    split
    case h_2 => exact ⟨pl, fp, h⟩
    rename_i y u hr
    have := h.tm n
    rw [hx] at this
    obtain ⟨pl', fp', h1, h2, h3⟩ := reown_ok h hr (show CR X pl x _ from this)
    exact ⟨pl', fp', htm h1 h2⟩
  · rename_i n j hn
    split
    case h_2 => exact ⟨pl, fp, h⟩
    rename_i xs hx
    split
    case h_2 => exact ⟨pl, fp, h⟩
    rename_i y u hr
    have := h.tm n
    rw [hx] at this
    obtain ⟨us, ev, hall⟩ := this
    have hj := reown_at hr
    obtain ⟨v, hv, hcr⟩ := hall.get hj
    obtain ⟨pl', fp', h1, h2, h3⟩ := reown_ok h hr hcr
    refine ⟨pl', fp', htm h1 ⟨us, ev, hall.set1 (fun _ _ => CR.mono h3) (fun v' hv' => ?_) (List.getElem?_eq_some_iff.1 hj).1⟩⟩
    rw [hv] at hv'; injection hv' with hv'; subst hv'
    exact h2
  · rename_i c j hn
    split
    case h_2 => exact ⟨pl, fp, h⟩
    rename_i ty xs hc
    split
    case h_2 => exact ⟨pl, fp, h⟩
    rename_i y u hr
    have hj := reown_at hr
    obtain ⟨p, us, hp, hf, hra, ht, hall⟩ := h.ch c _ hc
    obtain ⟨v, hv, hcr⟩ := hall.get hj
    obtain ⟨pl', fp', h1, h2, h3⟩ := reown_ok h hr hcr
    have hnew : St.chunk ⟨st.tm, u ++ st.hp, st.nx + 1, st.pin⟩ c = some (.box ty xs) := by
      have hl : look u c = none := by
        have hcn : Nat.beq st.nx c = false := Bool.eq_false_iff.mpr fun hh => by
          have := Nat.eq_of_beq_eq_true hh
          rw [← this, h.nx _ (Nat.le_refl _)] at hp; cases hp
        cases hcl : cellAt xs j <;> rw [hcl] at hr <;> simp only [reown] at hr <;> try (cases hr; done)
        · injection hr with hr; injection hr with e1 e2; subst e2
          simp only [look, hcn]; rfl
        · rename_i d off len
          split at hr
          case h_2 => cases hr
          rename_i t e zs hd
          injection hr with hr; injection hr with e1 e2; subst e2
          have hne : Nat.beq d c = false := Bool.eq_false_iff.mpr fun hh => by
            have := Nat.eq_of_beq_eq_true hh
            rw [this, hc] at hd; cases hd
          simp only [look, hcn, hne]; rfl
      simp only [St.chunk, look_append, hl]
      exact hc
    refine ⟨pl', fp', ?_⟩
    have hch : ∀ d k, St.chunk ⟨st.tm, (c, some (.box ty (setAt j [y] xs))) :: (u ++ st.hp), st.nx + 1, st.pin⟩ d = some k →
        (d = c ∧ k = .box ty (setAt j [y] xs)) ∨ St.chunk ⟨st.tm, u ++ st.hp, st.nx + 1, st.pin⟩ d = some k := fun d k hk => by
      simp only [St.chunk, look] at hk
      cases hb : Nat.beq c d
      · rw [hb] at hk; exact .inr hk
      · rw [hb] at hk; injection hk with hk; exact .inl ⟨(Nat.eq_of_beq_eq_true hb).symm, hk.symm⟩
    have hown : ∀ b d, OwnB ⟨st.tm, (c, some (.box ty (setAt j [y] xs))) :: (u ++ st.hp), st.nx + 1, st.pin⟩ fp' b d → OwnB ⟨st.tm, u ++ st.hp, st.nx + 1, st.pin⟩ fp' b d := fun b d ⟨⟨k, hk⟩, hb⟩ => by
      rcases hch d k hk with ⟨rfl, _⟩ | hk'
      · exact ⟨⟨_, hnew⟩, hb⟩
      · exact ⟨⟨_, hk'⟩, hb⟩
    refine ⟨h1.fr, h1.df, h1.sz, h1.tm, fun d k hk => ?_, fun b d ho => h1.lt b d (hown b d ho), fun d k hk => ?_, fun b d d' hd hd' => h1.dj b d d' (hown b d hd) (hown b d' hd'), h1.nx, h1.pn⟩
    · rcases hch d k hk with ⟨rfl, rfl⟩ | hk'
      · obtain ⟨p', us', hp', hf', hra', ht', hall'⟩ := h1.ch d _ hnew
        have hpp : p' = p := by
          have := h3 d p hp
          rw [hp'] at this; injection this
        subst hpp
        have hus : us' = us := by
          refine rangeAt_same hra' hra ?_
          rw [← hall'.len, ← hall.len]
        subst hus
        refine ⟨p', us', hp', hf', hra', ht', hall'.set1 (fun _ _ h => h) (fun v' hv' => ?_) (List.getElem?_eq_some_iff.1 hj).1⟩
        rw [hv] at hv'; injection hv' with hv'; subst hv'
        exact h2
      · exact h1.ch d k hk'
    · rcases hch d k hk with ⟨rfl, _⟩ | hk'
      · exact h1.nd d _ hnew
      · exact h1.nd d k hk'
where
  rangeAt_same {w : World} {b o : Nat} : ∀ {us vs : List Value}, w.rangeAt b o us → w.rangeAt b o vs → us.length = vs.length → us = vs := by
    intro us vs h1 h2 hl
    refine List.ext_getElem? fun j => ?_
    cases hu : us[j]? with
    | none =>
      have : us.length ≤ j := List.getElem?_eq_none_iff.1 hu
      exact (List.getElem?_eq_none (by omega)).symm
    | some x =>
      have hj := (List.getElem?_eq_some_iff.1 hu).1
      have hv : vs[j]? = some (vs[j]'(by omega)) := List.getElem?_eq_getElem (by omega)
      have e1 := h1 j x hu
      have e2 := h2 j _ hv
      rw [e1] at e2
      injection e2 with e2
      rw [hv, e2]

theorem widens_ok : ∀ (ws : List Wd) {st : St} {pl : PlM} {fp : FpM}, Inv X T st a w pl fp → ∃ pl' fp', Inv X T (ws.foldl widen1 st) a w pl' fp'
  | [], _, pl, fp, h => ⟨pl, fp, h⟩
  | x :: ws, _, pl, fp, h => by
    obtain ⟨pl1, fp1, h1⟩ := widen1_ok h x
    exact widens_ok ws h1
theorem head_ok (h : Inv X T st a w pl fp) (m : Nat) (ws : List Wd) : ∃ pl' fp', Inv X T (head m ws st) a w pl' fp' := by
  cases ws with
  | nil => exact canon_ok h m
  | cons x ws =>
    obtain ⟨pl1, fp1, h1⟩ := canon_ok h m
    obtain ⟨pl2, fp2, h2⟩ := widens_ok (x :: ws) h1
    exact canon_ok h2 m
end

end Go.Proofs.YthpklbpdchckkaaEv

namespace Go.Proofs.YthpklbpdchckkaaEv
open Go.RowKit (Below)
set_option linter.unusedVariables false
set_option linter.unusedSectionVars false
set_option linter.unusedSimpArgs false

def Ex.out : Ex → Exit
  | .normal => .normal
  | .ret => .ret
  | .exit id => .exit id

/-- every operation writes within the frame -/
def dstOk (T : Nat) : Code → Bool
  | .region _ ops _ => ops.toList.all fun o => match o.dst with | some d => Nat.blt d T | none => true
  | .seq a b => dstOk T a && dstOk T b
  | .cond _ a b => dstOk T a && dstOk T b
  | .block _ b => dstOk T b
  | .loop b => dstOk T b
  | .scope b => dstOk T b
  | _ => true

section
variable {P : Program} {R : Type} {Γ : Nat → Option (Con R)} {all : Array Oper}

def Post (X : Cx) (T : Nat) (e : Ex) (st : St) : Exit → Act → World → Prop := fun e' a w => e' = e.out ∧ ∃ pl fp, Inv X T st a w pl fp
def Runs (P : Program) (c : Code) (st : St) (e : Ex) (stF : St) : Prop :=
  ∀ X T a w pl fp, dstOk T c = true → Inv X T st a w pl fp → c.wp P (Post X T e stF) a w

theorem ops_dst {T : Nat} {l : List Oper} (h : (l.all fun o => match o.dst with | some d => Nat.blt d T | none => true) = true) : ∀ o ∈ l, ∀ d, o.dst = some d → d < T := by
  intro o ho d hd
  have := List.all_eq_true.1 h o ho
  rw [hd] at this
  exact Nat.le_of_ble_eq_true this

theorem evOps_ex (hΓ : ∀ g c, Γ g = some c → Snd P g c) {k : St → Option R} {r : R} : ∀ {l : List Oper} {st : St}, evOps P Γ all l st k = some r →
    ∃ stF, k stF = some r ∧ ∀ X T a w pl fp Q, (∀ o ∈ l, ∀ d, o.dst = some d → d < T) → (∀ a' w' pl' fp', Inv X T stF a' w' pl' fp' → Q Exit.normal a' w') → Inv X T st a w pl fp → wpList P all Q l a w
  | [], st, hr => ⟨st, hr, fun X T a w pl fp Q _ hQ hi => hQ a w pl fp hi⟩
  | o :: l, st, hr => by
    rw [evOps] at hr
    split at hr
    · rename_i u hu
      obtain ⟨stF, k1, k2⟩ := evOps_ex hΓ hr
      refine ⟨stF, k1, fun X T a w pl fp Q hd hQ hi => ?_⟩
      obtain ⟨hg, hm⟩ := hole_ok hi (hd o (List.mem_cons_self ..)) hu
      have hwp := hm.wp Q
      unfold wpList
      rw [if_pos (by unfold Region.wanted; rw [hg])]
      exact .inl (Oper.wp_mono (fun a' w' ⟨pl', fp', h'⟩ => k2 X T a' w' pl' fp' Q (fun o' ho' => hd o' (List.mem_cons_of_mem _ ho')) hQ h') hwp)
    rename_i hnone
    obtain ⟨b, u, n, h1, h2, h3, _⟩ := evG_ok hΓ hr
    obtain ⟨stF, k1, k2⟩ := evOps_ex hΓ h1
    refine ⟨stF, k1, fun X T a w pl fp Q hd hQ hi => ?_⟩
    have hy : (mkEnt P st o b n u).y.o = o := by cases b <;> rfl
    have := h2 st ⟨fun _ _ => rfl, fun _ _ => rfl, fun _ => rfl⟩ X T a w pl fp hi (by rw [hy]; exact hd o (List.mem_cons_self ..)) (wpList P all Q l) Q
      fun a' w' pl' fp' h' => k2 X T a' w' pl' fp' Q (fun o' ho' => hd o' (List.mem_cons_of_mem _ ho')) hQ (h'.eqv h3.symm)
    rw [hy] at this
    unfold wpList
    split
    · rename_i hw; rw [if_pos hw] at this; exact .inl this
    · rename_i hw; rw [if_neg hw] at this; exact this

theorem evAny_ex (hΓ : ∀ g c, Γ g = some c → Snd P g c) {k : St → Option R} {r : R} {st : St} (hr : evAny P Γ all (ancs [] all.toList) 0 all.toList [] st k = some r) :
    ∃ stF, k stF = some r ∧ ∀ X T a w pl fp Q, (∀ o ∈ all, ∀ d, o.dst = some d → d < T) → (∀ a' w' pl' fp', Inv X T stF a' w' pl' fp' → Q Exit.normal a' w') → Inv X T st a w pl fp →
      wpAny P .any all Q all.size (Array.replicate all.size false) a w := by
  obtain ⟨es, stF, k1, k2, k3, k4, k5⟩ := evAny_chain hΓ hr
  refine ⟨stF, k1, fun X T a w pl fp Q hd hQ hi => ?_⟩
  exact evAny_fin k2 k3 k4 k5 hQ hd hi

theorem drew_inv {X : Cx} {T : Nat} {st : St} {a : Act} {w : World} {pl : PlM} {fp : FpM} (h : Inv X T st a w pl fp) : Inv X T st a w.drew pl fp :=
  ⟨h.fr.trans (Fr.drew X.F0 w) fun _ _ h => h, h.df, h.sz, h.tm, fun c k hk => (h.ch c k hk).mono (fun _ _ h => h) (Fr.drew (fun _ => False) w) rfl fun b hb => ⟨(h.lt b c ⟨⟨k, hk⟩, hb⟩).1, id⟩, h.lt, h.nd, h.dj, h.nx, h.pn⟩

theorem loop_ok {b : Code} {p m : Nat} {ex : List (Nat × Nat)} {N ret : Nat} {Λ : List (Nat × LCon R)} {L : LCon R} (hL : LSpec P Γ N Λ ret b p m ex L)
    (ih : ∀ {st : St} {k : Ex → St → Option R} {r : R}, evC P Γ N Λ ret b (2 * p) m ex st k = some r → ∃ e stF, k e stF = some r ∧ Runs P b st e stF) {k : Ex → St → Option R} {r : R} :
    ∀ (n : Nat) {st : St}, L.run n st k = some r →
      ∃ e stF, k e stF = some r ∧ ∀ X T a w pl fp, dstOk T b = true → Inv X T st a w pl fp → Code.rounds P b (Post X T e stF) n a w := by
  intro n
  induction n with
  | zero =>
    intro st h
    obtain ⟨n', hn, _⟩ := hL _ _ _ _ h
    cases hn
  | succ n ihn =>
  intro st h
  obtain ⟨n', hn, h⟩ := hL _ _ _ _ h
  injection hn with hn
  subst hn
  obtain ⟨e1, st1, h1, h2⟩ := ih h
  cases e1 with
  | normal =>
    obtain ⟨e, stF, h3, h4⟩ := ihn h1
    refine ⟨e, stF, h3, fun X T a w pl fp hd hi => ?_⟩
    show b.wp P (Exit.then (Code.rounds P b (Post X T e stF) n) (Post X T e stF)) a w
    refine Code.wp_mono (fun e' a' w' ⟨he, pl', fp', hi'⟩ => ?_) (h2 X T a w pl fp hd hi)
    subst he
    obtain ⟨pl2, fp2, hi2⟩ := head_ok hi' m L.wid
    exact h4 X T a' w' pl2 fp2 hd hi2
  | ret =>
    refine ⟨.ret, _, h1, fun X T a w pl fp hd hi => ?_⟩
    refine Code.wp_mono (fun e' a' w' ⟨he, pl', fp', hi'⟩ => ?_) (h2 X T a w pl fp hd hi)
    subst he
    obtain ⟨pl2, fp2, hi2⟩ := canon_ok hi' ret
    exact ⟨rfl, pl2, fp2, hi2⟩
  | exit id =>
    refine ⟨.exit id, _, h1, fun X T a w pl fp hd hi => ?_⟩
    refine Code.wp_mono (fun e' a' w' ⟨he, pl', fp', hi'⟩ => ?_) (h2 X T a w pl fp hd hi)
    subst he
    obtain ⟨pl2, fp2, hi2⟩ := canon_ok hi' (exM ex id)
    exact ⟨rfl, pl2, fp2, hi2⟩

theorem cond_eqv {c : Operand} {st : St} {q : Bool} (hq : st.ev c = .c (.bo q)) : Eqv st (match (generalizing := false) c with | .tmp t => st.put (some t) (.c (.bo q)) | _ => st) := by
  cases c with
  | tmp t => exact put_eqv hq
  | _ => exact Eqv.refl _

theorem evC_ok (hΓ : ∀ g c, Γ g = some c → Snd P g c) (hm : P.follows .mixedOrders = true) {N ret : Nat} {Λ : List (Nat × LCon R)} : ∀ (c : Code) {p out : Nat} {ex : List (Nat × Nat)} {st : St} {k : Ex → St → Option R} {r : R},
    LOk P Γ N Λ ret c p out ex → evC P Γ N Λ ret c p out ex st k = some r → ∃ e stF, k e stF = some r ∧ Runs P c st e stF
  | .skip, _, _, _, st, k, r, _, h => ⟨.normal, st, h, fun X T a w pl fp _ hi => wp_skip ⟨rfl, pl, fp, hi⟩⟩
  | .label _, _, _, _, st, k, r, _, h => ⟨.normal, st, h, fun X T a w pl fp _ hi => wp_label ⟨rfl, pl, fp, hi⟩⟩
  | .ret, _, _, _, st, k, r, _, h => ⟨.ret, st, h, fun X T a w pl fp _ hi => wp_ret ⟨rfl, pl, fp, hi⟩⟩
  | .exit id, _, _, _, st, k, r, _, h => ⟨.exit id, st, h, fun X T a w pl fp _ hi => wp_exit ⟨rfl, pl, fp, hi⟩⟩
  | .region id ops draw, _, _, _, st, k, r, _, h => by
    cases draw
    · simp only [evC, cond_false] at h
      obtain ⟨stF, h1, h2⟩ := evOps_ex hΓ h
      exact ⟨.normal, stF, h1, fun X T a w pl fp hd hi => wp_region_list (h2 X T a w pl fp _ (ops_dst hd) (fun a' w' pl' fp' h' => ⟨rfl, pl', fp', h'⟩) hi)⟩
    · simp only [evC, cond_true] at h
      obtain ⟨stF, h1, h2⟩ := evAny_ex hΓ h
      exact ⟨.normal, stF, h1, fun X T a w pl fp hd hi => wp_region_any hm (h2 X T a w.drew pl fp _ (fun o ho => ops_dst hd o (Array.mem_def.1 ho)) (fun a' w' pl' fp' h' => ⟨rfl, pl', fp', h'⟩) (drew_inv hi))⟩
  | .seq x y, p, out, ex, st, k, r, hL, h => by
    simp only [evC] at h
    obtain ⟨e1, st1, h1, h2⟩ := evC_ok hΓ hm x hL.1 h
    cases e1 with
    | normal =>
      simp only at h1
      obtain ⟨e, stF, h3, h4⟩ := evC_ok hΓ hm y hL.2 h1
      refine ⟨e, stF, h3, fun X T a w pl fp hd hi => ?_⟩
      simp only [dstOk, Bool.and_eq_true] at hd
      refine wp_seq (Code.wp_mono (fun e' a' w' ⟨he, pl', fp', hi'⟩ => ?_) (h2 X T a w pl fp hd.1 hi))
      subst he
      cases hp : (plain x && !hasHol st1)
      · rw [hp] at h4
        obtain ⟨pl2, fp2, hi2⟩ := canon_ok hi' (liveC ret y out ex)
        exact h4 X T a' w' pl2 fp2 hd.2 hi2
      · rw [hp] at h4
        exact h4 X T a' w' pl' fp' hd.2 hi'
    | ret =>
      refine ⟨.ret, st1, h1, fun X T a w pl fp hd hi => ?_⟩
      simp only [dstOk, Bool.and_eq_true] at hd
      refine wp_seq (Code.wp_mono (fun e' a' w' ⟨he, pl', fp', hi'⟩ => ?_) (h2 X T a w pl fp hd.1 hi))
      subst he
      exact ⟨rfl, pl', fp', hi'⟩
    | exit id =>
      refine ⟨.exit id, st1, h1, fun X T a w pl fp hd hi => ?_⟩
      simp only [dstOk, Bool.and_eq_true] at hd
      refine wp_seq (Code.wp_mono (fun e' a' w' ⟨he, pl', fp', hi'⟩ => ?_) (h2 X T a w pl fp hd.1 hi))
      subst he
      exact ⟨rfl, pl', fp', hi'⟩
  | .cond c x y, p, out, ex, st, k, r, hL, h => by
    simp only [evC] at h
    split at h
    case h_2 => cases h
    rename_i q hq
    cases q
    · simp only [cond_false] at h
      obtain ⟨e, stF, h1, h2⟩ := evC_ok hΓ hm y hL.2 h
      refine ⟨e, stF, h1, fun X T a w pl fp hd hi => ?_⟩
      simp only [dstOk, Bool.and_eq_true] at hd
      have := ev_ok hi c
      rw [hq] at this
      exact wp_cond_false this (h2 X T a w pl fp hd.2 (hi.eqv (cond_eqv hq)))
    · simp only [cond_true] at h
      obtain ⟨e, stF, h1, h2⟩ := evC_ok hΓ hm x hL.1 h
      refine ⟨e, stF, h1, fun X T a w pl fp hd hi => ?_⟩
      simp only [dstOk, Bool.and_eq_true] at hd
      have := ev_ok hi c
      rw [hq] at this
      exact wp_cond_true this (h2 X T a w pl fp hd.1 (hi.eqv (cond_eqv hq)))
  | .block id b, p, out, ex, st, k, r, hL, h => by
    simp only [evC] at h
    obtain ⟨e1, st1, h1, h2⟩ := evC_ok hΓ hm b hL h
    cases e1 with
    | normal =>
      exact ⟨.normal, st1, h1, fun X T a w pl fp hd hi => wp_block (Code.wp_mono (fun e' a' w' ⟨he, pl', fp', hi'⟩ => by subst he; exact ⟨rfl, pl', fp', hi'⟩) (h2 X T a w pl fp hd hi))⟩
    | ret =>
      exact ⟨.ret, st1, h1, fun X T a w pl fp hd hi => wp_block (Code.wp_mono (fun e' a' w' ⟨he, pl', fp', hi'⟩ => by subst he; exact ⟨rfl, pl', fp', hi'⟩) (h2 X T a w pl fp hd hi))⟩
    | exit j =>
      simp only at h1
      cases hb : Nat.beq id j
      · rw [hb] at h1
        have hne : j ≠ id := fun e => by subst e; rw [Nat.beq_refl] at hb; cases hb
        exact ⟨.exit j, st1, h1, fun X T a w pl fp hd hi => wp_block (Code.wp_mono (fun e' a' w' ⟨he, pl', fp', hi'⟩ => by
          subst he
          show if j = id then _ else _
          rw [if_neg hne]; exact ⟨rfl, pl', fp', hi'⟩) (h2 X T a w pl fp hd hi))⟩
      · rw [hb] at h1
        have he := Nat.eq_of_beq_eq_true hb
        subst he
        exact ⟨.normal, st1, h1, fun X T a w pl fp hd hi => wp_block (Code.wp_mono (fun e' a' w' ⟨he, pl', fp', hi'⟩ => by
          subst he
          show if id = id then _ else _
          rw [if_pos rfl]; exact ⟨rfl, pl', fp', hi'⟩) (h2 X T a w pl fp hd hi))⟩
  | .loop b, p, out, ex, st, k, r, hL, h => by
    simp only [evC] at h
    split at h
    case h_2 => cases h
    rename_i L hl
    cases hp : L.peel with
    | false =>
      rw [hp, cond_false] at h
      obtain ⟨e, stF, h1, h2⟩ := loop_ok (hL.2 L hl) (fun {st k r} h => evC_ok hΓ hm b hL.1 h) N h
      refine ⟨e, stF, h1, fun X T a w pl fp hd hi => ?_⟩
      obtain ⟨pl', fp', hi'⟩ := head_ok hi (liveC ret b (liveC ret b (liveC ret b 0 ex) ex) ex) L.wid
      exact wp_loop_rounds N (h2 X T a w pl' fp' hd hi')
    | true =>
      rw [hp, cond_true] at h
      obtain ⟨e1, st1, h1, h2⟩ := evC_ok hΓ hm b hL.1 h
      cases e1 with
      | normal =>
        obtain ⟨e, stF, h3, h4⟩ := loop_ok (hL.2 L hl) (fun {st k r} h => evC_ok hΓ hm b hL.1 h) N h1
        refine ⟨e, stF, h3, fun X T a w pl fp hd hi => ?_⟩
        obtain ⟨pl', fp', hi'⟩ := canon_ok hi (liveC ret b (liveC ret b (liveC ret b 0 ex) ex) ex)
        refine wp_loop_rounds (N + 1) ?_
        show b.wp P (Exit.then (Code.rounds P b (Post X T e stF) N) (Post X T e stF)) a w
        refine Code.wp_mono (fun e' a' w' ⟨he, pl', fp', hi'⟩ => ?_) (h2 X T a w pl' fp' hd hi')
        subst he
        obtain ⟨pl2, fp2, hi2⟩ := head_ok hi' (liveC ret b (liveC ret b (liveC ret b 0 ex) ex) ex) L.wid
        exact h4 X T a' w' pl2 fp2 hd hi2
      | ret =>
        refine ⟨.ret, _, h1, fun X T a w pl fp hd hi => ?_⟩
        obtain ⟨pl', fp', hi'⟩ := canon_ok hi (liveC ret b (liveC ret b (liveC ret b 0 ex) ex) ex)
        refine wp_loop_rounds (N + 1) ?_
        refine Code.wp_mono (fun e' a' w' ⟨he, pl', fp', hi'⟩ => ?_) (h2 X T a w pl' fp' hd hi')
        subst he
        obtain ⟨pl2, fp2, hi2⟩ := canon_ok hi' ret
        exact ⟨rfl, pl2, fp2, hi2⟩
      | exit id =>
        refine ⟨.exit id, _, h1, fun X T a w pl fp hd hi => ?_⟩
        obtain ⟨pl', fp', hi'⟩ := canon_ok hi (liveC ret b (liveC ret b (liveC ret b 0 ex) ex) ex)
        refine wp_loop_rounds (N + 1) ?_
        refine Code.wp_mono (fun e' a' w' ⟨he, pl', fp', hi'⟩ => ?_) (h2 X T a w pl' fp' hd hi')
        subst he
        obtain ⟨pl2, fp2, hi2⟩ := canon_ok hi' (exM ex id)
        exact ⟨rfl, pl2, fp2, hi2⟩
  | .scope b, p, out, ex, st, k, r, hL, h => by
    simp only [evC] at h
    obtain ⟨e, stF, h1, h2⟩ := evC_ok hΓ hm b hL h
    refine ⟨e, stF, h1, fun X T a w pl fp hd hi => wp_scope_straight (Code.wp_mono (fun e' a' w' ⟨he, pl', fp', hi'⟩ => ?_) (h2 X T a w pl fp hd hi))⟩
    subst he
    cases e <;> exact ⟨rfl, pl', fp', hi'⟩
  | .rangeFunc _ _ _ _, _, _, _, st, k, r, _, h => by simp only [evC] at h; cases h
  | .goto _, _, _, _, st, k, r, _, h => by simp only [evC] at h; cases h
end

end Go.Proofs.YthpklbpdchckkaaEv

namespace Go.Proofs.YthpklbpdchckkaaEv
open Go.RowKit (Below)
set_option linter.unusedVariables false
set_option linter.unusedSectionVars false
set_option linter.unusedSimpArgs false

section
variable {X : Cx} {T : Nat} {st : St} {a : Act} {w w' : World} {pl : PlM} {fp : FpM} {P : Program} {R : Type}

/-! ### a context at other ghosts -/
def Cx.at (X : Cx) (q : List Value) : Cx := { X with pv := q }
theorem CR_at {q : List Value} {x : Cell} {v : Value} : CR (X.at q) pl x v = CR X pl x v := by cases x <;> rfl
theorem OC_at {q : List Value} {x : Cell} {v : Value} {f : List Nat} : OC (X.at q) w x v f = OC X w x v f := by cases x <;> rfl
theorem OCs_at {q : List Value} {xs : List Cell} {vs : List Value} {f : List Nat} (h : OCs X w xs vs f) : OCs (X.at q) w xs vs f := by
  induction h with
  | nil => exact .nil
  | cons hx ht ih => exact .cons (by rw [OC_at]; exact hx) ih
theorem OCs_at' {q : List Value} {xs : List Cell} {vs : List Value} {f : List Nat} (h : OCs (X.at q) w xs vs f) : OCs X w xs vs f := by
  induction h with
  | nil => exact .nil
  | cons hx ht ih => exact .cons (by rw [OC_at] at hx; exact hx) ih
theorem ArgR_at {q : List Value} {x : Val} {v : Value} {f : List Nat} (h : ArgR X w x v f) : ArgR (X.at q) w x v f := by
  cases x with
  | c x => exact (by rw [OC_at]; exact h : OC (X.at q) w x v f)
  | agg xs => obtain ⟨us, e, h⟩ := h; exact ⟨us, e, OCs_at h⟩
  | bx ty xs => obtain ⟨g, us, f', e, h1, h2, h3, h4, h5⟩ := h; exact ⟨g, us, f', e, h1, h2, h3, OCs_at h4, h5⟩
  | tup vs => exact h
theorem ArgR_at' {q : List Value} {x : Val} {v : Value} {f : List Nat} (h : ArgR (X.at q) w x v f) : ArgR X w x v f := by
  cases x with
  | c x => exact (by have h : OC (X.at q) w x v f := h; rw [OC_at] at h; exact h : OC X w x v f)
  | agg xs => obtain ⟨us, e, h⟩ := h; exact ⟨us, e, OCs_at' h⟩
  | bx ty xs => obtain ⟨g, us, f', e, h1, h2, h3, h4, h5⟩ := h; exact ⟨g, us, f', e, h1, h2, h3, OCs_at' h4, h5⟩
  | tup vs => exact h
theorem ArgsR_at {q : List Value} {xs : List Val} {vs : List Value} {f : List Nat} (h : ArgsR X w xs vs f) : ArgsR (X.at q) w xs vs f := by
  induction h with
  | nil => exact .nil
  | cons hx ht ih => exact .cons (ArgR_at hx) ih
theorem ArgsR_at' {q : List Value} {xs : List Val} {vs : List Value} {f : List Nat} (h : ArgsR (X.at q) w xs vs f) : ArgsR X w xs vs f := by
  induction h with
  | nil => exact .nil
  | cons hx ht ih => exact .cons (ArgR_at' hx) ih

/-! ### entry -/
theorem numT_ok : ∀ {vs : List Val} {i t : Nat} {v : Val}, look (numT i vs) t = some v → ∃ j, t = i + j ∧ vs[j]? = some v
  | [], _, _, _, h => by simp [numT, look] at h
  | x :: r, i, t, v, h => by
    simp only [numT, look] at h
    cases hb : Nat.beq i t
    · rw [hb] at h
      obtain ⟨j, h1, h2⟩ := numT_ok (vs := r) h
      exact ⟨j + 1, by omega, by simpa using h2⟩
    · rw [hb] at h
      injection h with h
      exact ⟨0, (Nat.eq_of_beq_eq_true hb).symm, by simp [h]⟩

theorem vr_of_vr1 {x : Val} {v : Value} (h : VR1 X pl x v) : VR X pl x v := by
  cases x with
  | c x => exact h
  | agg xs => exact h
  | bx ty xs => exact h.elim
  | tup vs => exact h.elim

theorem pin_ok : ∀ {args vals : List Val} {av : List Value}, All2 (VR1 X pl) vals av → args.length = vals.length → All2 (VR X pl) (backArgs args vals) (backVals args av)
  | [], [], _, .nil, _ => .nil
  | [], _ :: _, _, _, h => by cases h
  | _ :: _, [], _, _, h => by cases h
  | x :: args, v :: vals, _, .cons hx ht, hl => by
    simp only [backArgs, backVals]
    cases isBack x
    · exact pin_ok ht (by simpa using hl)
    · exact .cons (vr_of_vr1 hx) (pin_ok ht (by simpa using hl))

theorem insts_len : ∀ {xs : List Val} {nm : Nat}, xs.length = (insts nm xs).1.length
  | [], _ => rfl
  | x :: xs, nm => by simp only [insts, List.length_cons]; rw [insts_len (xs := xs)]

theorem enter_ok {args : List Val} {av : List Value} {fs : List Nat} {n : Nat} (h : ArgsR X X.w0 args av fs) (hn : fs.Nodup) (hf : ∀ b ∈ fs, b < X.w0.heap.size ∧ X.F0 b) :
    ∃ pl fp, Inv (X.at (backVals args av)) (av.toArray ++ Array.replicate (n - av.toArray.size) undef).size ⟨numT 0 (insts 0 args).1, (insts 0 args).2.1, (insts 0 args).2.2, backArgs args (insts 0 args).1⟩
      ⟨av.toArray ++ Array.replicate (n - av.toArray.size) undef, []⟩ X.w0 pl fp := by
  obtain ⟨pl, fp, q, hv⟩ := insts_ok (X := X.at (backVals args av)) (pl := fun _ => none) (fp := fun _ => []) (nm := 0) (fun _ _ => rfl) (ArgsR_at h) hn
  have hch : ∀ c k, St.chunk ⟨numT 0 (insts 0 args).1, (insts 0 args).2.1, (insts 0 args).2.2, backArgs args (insts 0 args).1⟩ c = some k → look (insts 0 args).2.1 c = some (some k) := by
    intro c k hk
    simp only [St.chunk] at hk
    split at hk
    case h_2 => cases hk
    rename_i x hx
    rw [hx]; exact congrArg some hk
  refine ⟨pl, fp, Fr.refl _ _, rfl, rfl, fun t => ?_, fun c k hk => (q.ch c k (hch c k hk)).1, fun b c ⟨⟨k, hk⟩, hb⟩ => ?_, fun c k hk => (q.ch c k (hch c k hk)).2.1, fun b c d ⟨⟨k, hk⟩, hb⟩ ⟨⟨l, hl⟩, hb'⟩ => q.dj b c d k l (hch c k hk) (hch d l hl) hb hb', q.hi, pin_ok hv insts_len⟩
  · simp only [St.get]
    split
    · rename_i v hlv
      obtain ⟨j, e, hj⟩ := numT_ok hlv
      rw [Nat.zero_add] at e; subst e
      obtain ⟨y, hy, hxy⟩ := hv.get hj
      have hlt := (List.getElem?_eq_some_iff.1 hy).1
      have : (av.toArray ++ Array.replicate (n - av.toArray.size) undef).getD t undef = y := by
        rw [Array.getD_eq_getD_getElem?, Array.getElem?_append_left (by simpa using hlt)]
        simp [hy]
      rw [this]
      exact vr_of_vr1 hxy
    · trivial
  · have := (q.ch c k (hch c k hk)).2.2 b hb
    exact ⟨(hf b this).1, fun _ => (hf b this).2⟩

/-! ### leaving -/
theorem outC_ok (h : Inv X T st a w pl fp) {x y : Cell} {ids : List Nat} {v : Value} (ho : outC st.chunk x = some (y, ids)) (hv : CR X pl x v) : ∃ f, OC X w y v f ∧ (∀ b ∈ f, ∃ c ∈ ids, OwnB st fp b c) ∧ f.Nodup := by
  have own : ownC st.chunk x = some (y, ids) → ∃ f, OC X w y v f ∧ (∀ b ∈ f, ∃ c ∈ ids, OwnB st fp b c) ∧ f.Nodup := fun ho => ownC_ok h ho hv
  cases x
  case ro z t e xs =>
    simp only [outC, Option.some.injEq, Prod.mk.injEq] at ho
    obtain ⟨rfl, rfl⟩ := ho
    exact ⟨[], ⟨rfl, hv⟩, by simp, List.nodup_nil⟩
  case rp z t y' j =>
    simp only [outC, Option.some.injEq, Prod.mk.injEq] at ho
    obtain ⟨rfl, rfl⟩ := ho
    exact ⟨[], ⟨rfl, hv⟩, by simp, List.nodup_nil⟩
  all_goals exact own ho
theorem outCs_ok (h : Inv X T st a w pl fp) : ∀ {xs ys : List Cell} {ids : List Nat} {vs : List Value}, outCs st.chunk xs = some (ys, ids) → All2 (CR X pl) xs vs →
    ∃ f, OCs X w ys vs f ∧ (∀ b ∈ f, ∃ c ∈ ids, OwnB st fp b c) ∧ (ids.Nodup → f.Nodup)
  | [], ys, ids, _, ho, .nil => by
    simp only [outCs, Option.some.injEq, Prod.mk.injEq] at ho
    obtain ⟨rfl, rfl⟩ := ho
    exact ⟨[], .nil, by simp, fun _ => List.nodup_nil⟩
  | x :: xs, ys, ids, _, ho, .cons hx ht => by
    simp only [outCs] at ho
    split at ho
    case h_2 => cases ho
    rename_i y a1 ys' a2 h1 h2
    injection ho with ho; injection ho with e1 e2; subst e1; subst e2
    obtain ⟨f, k1, k2, k3⟩ := outC_ok h h1 hx
    obtain ⟨g, k4, k5, k6⟩ := outCs_ok h h2 ht
    exact ⟨f ++ g, .cons k1 k4, own_join k2 k5, nodup_own h k2 k5 (fun _ => k3) k6⟩
theorem outV_ok (h : Inv X T st a w pl fp) {x y : Val} {ids : List Nat} {v : Value} (ho : outV st.chunk x = some (y, ids)) (hv : VR X pl x v) : ∃ f, ArgR X w y v f ∧ (∀ b ∈ f, ∃ c ∈ ids, OwnB st fp b c) ∧ (ids.Nodup → f.Nodup) := by
  cases x with
  | c x =>
    simp only [outV] at ho
    split at ho
    · rename_i c j
      split at ho
      · split at ho
        case h_2 => cases ho
        rename_i ty cs hc
        split at ho
        case h_2 => cases ho
        rename_i ys js hw
        injection ho with ho; injection ho with e1 e2; subst e1; subst e2
        obtain ⟨p, hp, ev⟩ := hv
        obtain ⟨us, e1, e2, e3, e4⟩ := box_kr h hc hp
        obtain ⟨f, k1, k2, k3⟩ := outCs_ok h hw e4
        have hown : OwnB st fp p.g c := ⟨⟨_, hc⟩, by rw [e1]; exact List.mem_singleton.2 rfl⟩
        have h1 : ∀ b ∈ [p.g], ∃ d ∈ [c], OwnB st fp b d := fun b hb => by rw [List.mem_singleton.1 hb]; exact ⟨c, List.mem_singleton.2 rfl, hown⟩
        exact ⟨p.g :: f, ⟨p.g, us, f, ev, (h.lt _ _ hown).1, e2, e3, k1, rfl⟩, own_join h1 k2, nodup_own (ids := [c]) (f := [p.g]) h h1 k2 (fun _ => by simp) k3⟩
      · cases ho
    · split at ho
      case h_2 => cases ho
      rename_i y' ids' hy
      injection ho with ho; injection ho with e1 e2; subst e1; subst e2
      obtain ⟨f, k1, k2, k3⟩ := outC_ok h hy hv
      exact ⟨f, k1, k2, fun _ => k3⟩
  | agg xs =>
    simp only [outV] at ho
    split at ho
    case h_2 => cases ho
    rename_i ys js hw
    injection ho with ho; injection ho with e1 e2; subst e1; subst e2
    obtain ⟨us, e, hall⟩ := hv
    obtain ⟨f, k1, k2, k3⟩ := outCs_ok h hw hall
    exact ⟨f, ⟨us, e, k1⟩, k2, k3⟩
  | bx ty xs => cases ho
  | tup vs => cases ho
theorem outVs_ok (h : Inv X T st a w pl fp) : ∀ {xs ys : List Val} {ids : List Nat} {vs : List Value}, outVs st.chunk xs = some (ys, ids) → All2 (VR X pl) xs vs →
    ∃ f, ArgsR X w ys vs f ∧ (∀ b ∈ f, ∃ c ∈ ids, OwnB st fp b c) ∧ (ids.Nodup → f.Nodup)
  | [], ys, ids, _, ho, .nil => by
    simp only [outVs, Option.some.injEq, Prod.mk.injEq] at ho
    obtain ⟨rfl, rfl⟩ := ho
    exact ⟨[], .nil, by simp, fun _ => List.nodup_nil⟩
  | x :: xs, ys, ids, _, ho, .cons hx ht => by
    simp only [outVs] at ho
    split at ho
    case h_2 => cases ho
    rename_i y a1 ys' a2 h1 h2
    injection ho with ho; injection ho with e1 e2; subst e1; subst e2
    obtain ⟨f, k1, k2, k3⟩ := outV_ok h h1 hx
    obtain ⟨g, k4, k5, k6⟩ := outVs_ok h h2 ht
    exact ⟨f ++ g, .cons k1 k4, own_join k2 k5, nodup_own h k2 k5 k3 k6⟩

theorem packV_eq (vs : Array Value) : (if h : vs.size = 1 then vs[0] else .tuple vs) = packV vs.toList := by
  cases vs with
  | mk l =>
    cases l with
    | nil => rfl
    | cons x r =>
      cases r with
      | nil => rfl
      | cons y r => rfl

def rvS (a : Act) : ResultVar → Sem Value
  | .tmp t => pure (a.tmps.getD t undef)
  | .cell c t => do loadVar t (← asAddr (a.tmps.getD c undef))
theorem resOf_ok (h : Inv X T st a w pl fp) : ∀ {l : List ResultVar} {rs : List Val}, resOf P st l = some rs →
    ∃ vs : List Value, (l.mapM (rvS a)).run P w = .ok vs w ∧ All2 (VR X pl) rs vs
  | [], rs, hr => by
    simp only [resOf, Option.some.injEq] at hr; subst hr
    exact ⟨[], by simp, .nil⟩
  | .tmp t :: r, rs, hr => by
    simp only [resOf] at hr
    split at hr
    case h_2 => cases hr
    rename_i vs hvs
    injection hr with hr; subst hr
    obtain ⟨us, h1, h2⟩ := resOf_ok h hvs
    exact ⟨_ :: us, by simp [List.mapM_cons, h1, rvS], .cons (h.tm t) h2⟩
  | .cell c t :: r, rs, hr => by
    simp only [resOf] at hr
    split at hr
    case h_2 => cases hr
    rename_i i c' j vs hi hc hvs
    split at hr
    case h_2 => cases hr
    rename_i ty cs hch
    split at hr
    case h_2 => cases hr
    rename_i v hv
    injection hr with hr; subst hr
    obtain ⟨us, h1, h2⟩ := resOf_ok h hvs
    have hx := h.tm c
    rw [hc] at hx
    obtain ⟨p, hp, ev⟩ := hx
    obtain ⟨ws, _, hra, _, hall⟩ := box_kr h hch hp
    obtain ⟨y, hy, hvy⟩ := load_ok (P := P) hi hra hall hv
    rw [Nat.zero_add] at hy
    have hy' : (loadVar t ⟨p.g, j, none⟩).run P w = .ok y w := by simpa [Instr.loadAt, Instr.sureAddr] using hy
    exact ⟨y :: us, by simp [List.mapM_cons, h1, rvS, ev, asAddr, hy'], .cons hvy h2⟩

theorem dstOk_mono {m n : Nat} (h : m ≤ n) : ∀ c : Code, dstOk m c = true → dstOk n c = true
  | .region _ ops _, k => by
    simp only [dstOk, List.all_eq_true] at k ⊢
    intro o ho
    have := k o ho
    cases hd : o.dst with
    | none => rfl
    | some d =>
      rw [hd] at this
      have : d + 1 ≤ m := Nat.le_of_ble_eq_true this
      exact Nat.ble_eq_true_of_le (Nat.le_trans this h)
  | .seq x y, k => by
    simp only [dstOk, Bool.and_eq_true] at k ⊢
    exact ⟨dstOk_mono h x k.1, dstOk_mono h y k.2⟩
  | .cond _ x y, k => by
    simp only [dstOk, Bool.and_eq_true] at k ⊢
    exact ⟨dstOk_mono h x k.1, dstOk_mono h y k.2⟩
  | .block _ b, k => dstOk_mono h b k
  | .loop b, k => dstOk_mono h b k
  | .scope b, k => dstOk_mono h b k
  | .skip, k | .label _, k | .goto _, k | .exit _, k | .ret, k | .rangeFunc .., k | .refuse _, k => rfl

/-! ### nil slices among what is handed back -/
theorem isNil_eq {x : Cell} (h : isNil x = true) : x = .nil := by cases x <;> first | rfl | cases h
theorem nz_one {x : Cell} {v : Value} {f : List Nat} {t : Ty} {e : TypeId} (hi : isNil x = true) (h : OC X w x v f) : OC X w (.own t e []) v f := by
  have e' := isNil_eq hi
  subst e'
  exact .inl ⟨h.2, rfl, h.1⟩
theorem nzCs_ok : ∀ {t : Ty} {xs : List Cell} {us : List Value} {f : List Nat}, OCs X w xs us f → OCs X w (nzCs t xs) us f
  | .int _, _, _, _, h | .bool, _, _, _, h | .str, _, _, _, h | .unit, _, _, _, h => h
  | .pr a b, xs, us, f, h => by
    obtain ⟨f1, f2, e, h1, h2⟩ := h.split a.n
    have := (nzCs_ok (t := a) h1).append (nzCs_ok (t := b) h2)
    rw [List.take_append_drop, ← e] at this
    exact this
  | .sl e t, xs, us, f, h => by
    unfold nzCs
    split
    · rename_i x
      cases hi : isNil x
      · exact h
      · cases h with
        | cons hx ht => cases ht; exact .cons (nz_one hi hx) .nil
    · exact h
theorem nzV_ok {t : TypeId} {x : Val} {v : Value} {f : List Nat} (h : ArgR X w x v f) : ArgR X w (nzV P t x) v f := by
  cases x with
  | c x =>
    simp only [nzV]
    cases tyOf P 12 t with
    | none => exact h
    | some y =>
      simp only
      split
      · rename_i z hz
        have h' : OCs X w [x] [v] (f ++ []) := .cons h .nil
        have := nzCs_ok (t := y) h'
        rw [hz] at this
        generalize hg : f ++ [] = g at this
        cases this with
        | @cons _ _ f1 _ _ f2 hx ht =>
          cases ht
          simp only [List.append_nil] at hg
          subst hg
          exact hx
      · exact h
  | agg xs =>
    obtain ⟨us, e, h⟩ := h
    simp only [nzV]
    cases tyOf P 12 t with
    | none => exact ⟨us, e, h⟩
    | some y => exact ⟨us, e, nzCs_ok h⟩
  | bx ty xs => exact h
  | tup vs => exact h
theorem nzVs_ok : ∀ {ts : List TypeId} {xs : List Val} {vs : List Value} {f : List Nat}, ArgsR X w xs vs f → ArgsR X w (nzVs P ts xs) vs f
  | _, _, _, _, .nil => by unfold nzVs; split <;> first | exact .nil | contradiction
  | [], _, _, _, h@(.cons _ _) => h
  | t :: ts, _, _, _, .cons hx ht => .cons (nzV_ok hx) (nzVs_ok ht)
theorem nzO_ok {xs : List Val} {vs : List Value} {f : List Nat} (h : ArgsR X w xs vs f) : ArgsR X w (xs.map (nzO P)) vs f := by
  induction h with
  | nil => exact .nil
  | @cons x v f xs vs g hx ht ih =>
    refine .cons ?_ ih
    cases x with
    | bx ty cs =>
      obtain ⟨g', us, f', h1, h2, h3, h4, h5, h6⟩ := hx
      simp only [nzO]
      cases tyOf P 12 ty with
      | none => exact ⟨g', us, f', h1, h2, h3, h4, h5, h6⟩
      | some y => exact ⟨g', us, f', h1, h2, h3, h4, nzCs_ok h5, h6⟩
    | _ => exact hx

/-- THE FUNCTION's CONTRACT -/
theorem evF_ok {Γ : Nat → Option (Con R)} (hΓ : ∀ g c, Γ g = some c → Snd P g c) (hm : P.follows .mixedOrders = true) {f : FuncId} {fn : Func} {c : Code} (hf : P.funcs[f]? = some fn) (hb : fn.body = some c) (hd : dstOk fn.ntmps c = true)
    {N : Nat} {Λ : List (Nat × LCon R)} (hL : LOk P Γ N Λ (retMask fn) c 1 (retMask fn) []) {args : List Val} {k : List Val → List Val → Option R} {r : R} (hr : evF P Γ N Λ fn args k = some r) : ∃ res outs, k res outs = some r ∧ CallOk P f args res outs := by
  unfold evF at hr
  rw [hb] at hr
  simp only at hr
  obtain ⟨e, stF, h1, h2⟩ := evC_ok hΓ hm c hL hr
  have h1' : (match resOf P stF fn.results.toList with | none => none | some rs => (match outVs stF.chunk rs, outVs stF.chunk stF.pin with | some (r', x), some (o, y) => cond (nodupB (x ++ y)) (k (nzVs P fn.resultTypes.toList r') (o.map (nzO P))) none | _, _ => none)) = some r ∧ (e = .normal ∨ e = .ret) := by
    cases e with
    | normal => exact ⟨h1, .inl rfl⟩
    | ret => exact ⟨h1, .inr rfl⟩
    | exit id => cases h1
  obtain ⟨h1', he⟩ := h1'
  split at h1'
  case h_1 => cases h1'
  rename_i rs hrs
  split at h1'
  case h_2 => cases h1'
  rename_i res x outs y hx hy
  cases hn : nodupB (x ++ y)
  · rw [hn] at h1'; cases h1'
  rw [hn] at h1'
  have hn := nodupB_spec hn
  refine ⟨_, _, h1', fun X av fs ha hfn hfs => ?_⟩
  obtain ⟨pl, fp, hi⟩ := enter_ok (n := fn.ntmps) ha hfn hfs
  refine calls_of_wp hf hb (Code.wp_mono (fun e' a' w' ⟨ee, pl', fp', hi'⟩ => ?_) (h2 _ _ _ _ pl fp (dstOk_mono (by simp; omega) c hd) hi))
  obtain ⟨vs, g1, g2⟩ := resOf_ok (P := P) hi' hrs
  obtain ⟨ga, k1, k2, k3⟩ := outVs_ok hi' hx g2
  obtain ⟨gb, k4, k5, k6⟩ := outVs_ok hi' hy hi'.pn
  have hres : (results fn a'.tmps).run P w' = .ok (packV vs) w' := by
    have e0 : results fn a'.tmps = (do let vs ← fn.results.mapM (rvS a'); pure (if h : vs.size = 1 then vs[0] else .tuple vs)) := by
      unfold results
      congr 2
    rw [e0]
    have : (fn.results.mapM (rvS a')).run P w' = .ok vs.toArray w' := by
      rw [Array.mapM_eq_mapM_toList]
      simp [g1]
    rw [Sem.run_bind, this]
    simp only [Result.andThen_ok, Sem.run_pure]
    rw [packV_eq]
  have hfin : ∃ rvs ga gb, Ending.returned (packV vs) = .returned (packV rvs) ∧ Fr X.F0 X.w0 w' ∧ ArgsR X w' (nzVs P fn.resultTypes.toList res) rvs ga ∧ ArgsR X w' (outs.map (nzO P)) (backVals args av) gb ∧ (ga ++ gb).Nodup ∧ ∀ b ∈ ga ++ gb, b < w'.heap.size ∧ (b < X.w0.heap.size → X.F0 b) := by
    refine ⟨vs, ga, gb, rfl, hi'.fr, nzVs_ok (ArgsR_at' k1), nzO_ok (ArgsR_at' k4), nodup_own hi' k2 k5 k3 k6 hn, fun b hb => ?_⟩
    obtain ⟨c, _, ho⟩ := own_join k2 k5 b hb
    exact hi'.lt b c ho
  rcases he with rfl | rfl <;> subst ee <;> exact ⟨hi'.df, _, hres, hfin⟩
end

end Go.Proofs.YthpklbpdchckkaaEv

namespace Go.Proofs.YthpklbpdchckkaaEv
open Go.RowKit (Below)
set_option linter.unusedVariables false
set_option linter.unusedSectionVars false
set_option linter.unusedSimpArgs false

/-- how values of a type are laid: struct fields one behind the other, no empty elements -/
def layGo (P : Program) (f : TypeId → Bool) (off : Nat) : List Field → Nat → Bool
  | [], n => Nat.beq off n
  | x :: r, n => Nat.beq x.offset off && (f x.type && layGo P f (off + P.cellsOf x.type) r n)
def layB (P : Program) : Nat → TypeId → Bool
  | 0, _ => false
  | d + 1, t =>
    match P.underlying t with
    | some (.int _) => true
    | some .bool => true
    | some .string => true
    | some (.slice e) => !Nat.beq (P.cellsOf e) 0 && layB P d e
    | some (.struct fs) => layGo P (layB P d) 0 fs.toList (P.cellsOf t)
    | _ => false

def Wf (P : Program) : (y : Ty) → y.D → Prop
  | .int k, n => (Lit.int k n).wf = true
  | .bool, _ => True
  | .str, s => s.size ≤ reachBytes
  | .unit, _ => True
  | .pr a b, x => Wf P a x.1 ∧ Wf P b x.2
  | .sl e t, xs => xs.length * P.bytesOf e ≤ reachBytes ∧ ∀ x ∈ xs, Wf P t x

theorem mapM_spec {α β : Type} {f : α → Option β} : ∀ {l : List α} {ys : List β}, l.mapM f = some ys → ys.length = l.length ∧ ∀ (i : Nat) (x : α), l[i]? = some x → ∃ y, ys[i]? = some y ∧ f x = some y
  | [], ys, h => by
    simp at h; subst h
    exact ⟨rfl, fun i x h => by simp at h⟩
  | a :: l, ys, h => by
    simp only [List.mapM_cons] at h
    cases hf : f a with
    | none => rw [hf] at h; cases h
    | some b =>
      rw [hf] at h
      cases hl : l.mapM f with
      | none => rw [hl] at h; cases h
      | some bs =>
        rw [hl] at h
        have h : some (b :: bs) = some ys := h
        injection h with h; subst h
        obtain ⟨h1, h2⟩ := mapM_spec hl
        refine ⟨by simp [h1], fun i x hx => ?_⟩
        cases i with
        | zero => simp at hx; subst hx; exact ⟨b, rfl, hf⟩
        | succ i =>
          obtain ⟨y, hy, hfy⟩ := h2 i x (by simpa using hx)
          exact ⟨y, by simpa using hy, hfy⟩

theorem build_list {α : Type} {p : Nat → α → Prop} : ∀ n, (∀ i, i < n → ∃ x, p i x) → ∃ xs : List α, xs.length = n ∧ ∀ i x, xs[i]? = some x → p i x
  | 0, _ => ⟨[], rfl, fun i x h => by simp at h⟩
  | n + 1, h => by
    obtain ⟨xs, h1, h2⟩ := build_list n fun i hi => h i (Nat.lt_succ_of_lt hi)
    obtain ⟨x, hx⟩ := h n (Nat.lt_succ_self n)
    refine ⟨xs ++ [x], by simp [h1], fun i y hy => ?_⟩
    rcases Nat.lt_or_ge i xs.length with hi | hi
    · rw [List.getElem?_append_left hi] at hy; exact h2 i y hy
    · rw [List.getElem?_append_right hi] at hy
      have : i - xs.length = 0 := by
        rcases Nat.eq_zero_or_pos (i - xs.length) with h | h
        · exact h
        · rw [List.getElem?_eq_none (by simp only [List.length_singleton]; omega)] at hy; cases hy
      rw [this] at hy
      simp at hy; subst hy
      rw [show i = n by omega]; exact hx

section
variable {H : Type} {enc : TypeId × Value → H} {P : Program} {w : World} {base : Nat} {spare : Nat → Bool} {held : Bool}

theorem weightsAll_mem {e : TypeId} {n : Nat} : ∀ {ds : List (DataW H)} {d : DataW H}, d ∈ ds → n ∈ d.weights P e → n ∈ DataW.weightsAll P e ds
  | x :: r, d, hd, hn => by
    simp only [DataW.weightsAll, List.mem_append]
    rcases List.mem_cons.1 hd with rfl | hd
    · exact .inl hn
    · exact .inr (weightsAll_mem hd hn)

theorem cells_spec {a : Addr} {n : Nat} {vs : List Value} (h : w.cells? base a n = some vs) : vs.length = n ∧ ∀ j v, vs[j]? = some v → w.cell? (a.add j) = some v := by
  unfold World.cells? at h
  split at h
  case isFalse => cases h
  obtain ⟨h1, h2⟩ := mapM_spec h
  rw [List.length_range] at h1
  refine ⟨h1, fun j v hv => ?_⟩
  have hj : j < n := by have := (List.getElem?_eq_some_iff.1 hv).1; omega
  obtain ⟨y, hy, hc⟩ := h2 j j (by rw [List.getElem?_range hj])
  rw [hv] at hy; injection hy with hy; subst hy
  exact hc

theorem add_block (a : Addr) (n : Nat) (h : a.spot = none) : a.add n = ⟨a.block, a.off + n, none⟩ := by
  obtain ⟨b, o, s⟩ := a
  simp only at h; subst h
  exact addr_add b o n

def Typed (P : Program) (w : World) (y : Ty) (cs : List Value) : Prop := ∃ x : y.D, RdC w (fun b => b < w.heap.size) y x cs ∧ Wf P y x

theorem trod_go {fuel d : Nat} (ih : ∀ {t : TypeId} {y : Ty} {cs : List Value} {D : DataW H} {ps : List MemPlace}, tyOf P d t = some y → layB P d t = true → DataW.trod enc P w base spare held fuel t cs = some (D, ps) → (∀ n ∈ D.weights P t, n ≤ reachBytes) → Typed P w y cs) {cs : List Value} {N : Nat} (hN : cs.length = N) :
    ∀ {fs : List Field} {off : Nat} {y : Ty} {xs : List (DataW H × List MemPlace)}, tyGo (tyOf P d) fs = some y → layGo P (layB P d) off fs N = true → fs.mapM (fun f => DataW.trod enc P w base spare held fuel f.type ((cs.drop f.offset).take (P.cellsOf f.type))) = some xs →
      (∀ n ∈ DataW.weightsEach P (fs.map (·.type)) (xs.map (·.1)), n ≤ reachBytes) → Typed P w y (cs.drop off)
  | [], off, y, xs, hy, hl, hm, hw => by
    simp only [tyGo, Option.some.injEq] at hy; subst hy
    have := Nat.eq_of_beq_eq_true (by simpa only [layGo] using hl)
    exact ⟨(), List.drop_eq_nil_of_le (by omega), trivial⟩
  | f :: r, off, y, xs, hy, hl, hm, hw => by
    simp only [layGo, Bool.and_eq_true] at hl
    obtain ⟨l1, l2, l3⟩ := hl
    have l1 := Nat.eq_of_beq_eq_true l1
    simp only [List.mapM_cons] at hm
    cases hf : DataW.trod enc P w base spare held fuel f.type ((cs.drop f.offset).take (P.cellsOf f.type)) with
    | none => rw [hf] at hm; cases hm
    | some x0 =>
      rw [hf] at hm
      cases hr : r.mapM (fun f => DataW.trod enc P w base spare held fuel f.type ((cs.drop f.offset).take (P.cellsOf f.type))) with
      | none => rw [hr] at hm; cases hm
      | some xr =>
        rw [hr] at hm
        have hm : some (x0 :: xr) = some xs := hm
        injection hm with hm; subst hm
        simp only [List.map_cons, DataW.weightsEach, List.mem_append] at hw
        rw [l1] at hf
        cases r with
        | nil =>
          simp only [tyGo] at hy
          have h1 := ih hy l2 hf fun n hn => hw n (.inl hn)
          have := Nat.eq_of_beq_eq_true (by simpa only [layGo] using l3)
          rw [List.take_of_length_le (by rw [List.length_drop]; omega)] at h1
          exact h1
        | cons g r' =>
          simp only [tyGo] at hy
          split at hy
          case h_2 => cases hy
          rename_i a b ha hb
          injection hy with hy; subst hy
          obtain ⟨x, h1, h2⟩ := ih ha l2 hf fun n hn => hw n (.inl hn)
          obtain ⟨z, h3, h4⟩ := trod_go (fs := g :: r') ih hN (by simp only [tyGo]; exact hb) l3 hr fun n hn => hw n (.inr hn)
          refine ⟨(x, z), ⟨_, _, ?_, h1, h3⟩, h2, h4⟩
          rw [← List.drop_drop, List.take_append_drop]

theorem trod_typed : ∀ (fuel d : Nat) {t : TypeId} {y : Ty} {cs : List Value} {D : DataW H} {ps : List MemPlace}, tyOf P d t = some y → layB P d t = true → DataW.trod enc P w base spare held fuel t cs = some (D, ps) → (∀ n ∈ D.weights P t, n ≤ reachBytes) → Typed P w y cs
  | 0, _, _, _, _, _, _, _, _, h, _ => by simp [DataW.trod] at h
  | _ + 1, 0, t, y, cs, D, ps, hy, hl, h, hw => by simp [tyOf] at hy
  | fuel + 1, d + 1, t, y, cs, D, ps, hy, hl, h, hw => by
    simp only [tyOf] at hy
    simp only [layB] at hl
    split at hy <;> rename_i hu <;> first | (cases hy; done) | skip
    all_goals simp only [hu] at hl
    · -- int
      rename_i k
      injection hy with hy; subst hy
      match cs, h with
      | [], h => simp [DataW.trod, hu] at h
      | _ :: _ :: _, h => simp [DataW.trod, hu] at h
      | [v], h =>
        cases v <;> simp [DataW.trod, hu] at h
        obtain ⟨⟨rfl, h1⟩, _⟩ := h
        exact ⟨_, rfl, h1⟩
    · -- bool
      injection hy with hy; subst hy
      match cs, h with
      | [], h => simp [DataW.trod, hu] at h
      | _ :: _ :: _, h => simp [DataW.trod, hu] at h
      | [v], h =>
        cases v <;> simp [DataW.trod, hu] at h
        exact ⟨_, rfl, trivial⟩
    · -- string
      injection hy with hy; subst hy
      match cs, h with
      | [], h => simp [DataW.trod, hu] at h
      | _ :: _ :: _, h => simp [DataW.trod, hu] at h
      | [v], h =>
        cases v <;> simp [DataW.trod, hu] at h
        rename_i s
        obtain ⟨h1, rfl, _⟩ := h
        refine ⟨s, rfl, hw _ ?_⟩
        simp [DataW.weights]
    · -- slice
      rename_i e
      cases hy' : tyOf P d e with
      | none => rw [hy'] at hy; cases hy
      | some y' =>
        rw [hy'] at hy
        have hy : some (Ty.sl e y') = some y := hy
        injection hy with hy; subst hy
        simp only [Bool.and_eq_true, Bool.not_eq_true'] at hl
        obtain ⟨l1, l2⟩ := hl
        have l1 : 0 < P.cellsOf e := Nat.pos_of_ne_zero fun e0 => by rw [e0] at l1; cases l1
        match cs, h with
        | [], h => simp [DataW.trod, hu] at h
        | _ :: _ :: _, h => simp [DataW.trod, hu] at h
        | [v], h =>
          cases v with
          | slice A len cap =>
            cases A with
            | none =>
              cases len <;> cases cap <;> simp [DataW.trod, hu] at h
              exact ⟨[], ⟨_, rfl, .inl ⟨rfl, rfl⟩⟩, by simp, by simp⟩
            | some a =>
              simp only [DataW.trod, hu] at h
              split at h
              case isFalse => cases h
              rename_i hc
              cases hm : (List.range len).mapM (fun i => (w.cells? base (a.add (i * P.cellsOf e)) (P.cellsOf e)).bind (DataW.trod enc P w base spare held fuel e)) with
              | none => rw [hm] at h; cases h
              | some elems =>
                rw [hm] at h
                simp only [Option.bind_some, Option.map_eq_some_iff] at h
                obtain ⟨rest, _, h⟩ := h
                injection h with h1 h2
                subst h1
                obtain ⟨m1, m2⟩ := mapM_spec hm
                rw [List.length_range] at m1
                simp only [DataW.weights, hu, List.mem_cons, List.mem_append] at hw
                have hw1 := hw _ (.inl rfl)
                simp only [List.length_map] at hw1
                have hsa0 : 0 < len → a.spot = none := fun h0 => by
                  obtain ⟨z, hz, hf⟩ := m2 0 0 (by rw [List.getElem?_range h0])
                  cases hcs : w.cells? base (a.add (0 * P.cellsOf e)) (P.cellsOf e) with
                  | none => rw [hcs] at hf; cases hf
                  | some vs =>
                    obtain ⟨c1, c2⟩ := cells_spec hcs
                    have h1 := World.cell?_spot (c2 0 _ (List.getElem?_eq_getElem (by omega)))
                    simpa [Addr.add] using h1
                obtain ⟨xs, x1, x2⟩ := build_list (p := fun i x => ∃ us, RdC w (fun b => b < w.heap.size) y' x us ∧ Wf P y' x ∧ a.spot = none ∧ a.block < w.heap.size ∧ w.rangeAt a.block (a.off + i * y'.n) us) len fun i hi => by
                  obtain ⟨z, hz, hf⟩ := m2 i i (by rw [List.getElem?_range hi])
                  cases hcs : w.cells? base (a.add (i * P.cellsOf e)) (P.cellsOf e) with
                  | none => rw [hcs] at hf; cases hf
                  | some vs =>
                    rw [hcs] at hf
                    simp only [Option.bind_some] at hf
                    obtain ⟨c1, c2⟩ := cells_spec hcs
                    obtain ⟨x, r1, r2⟩ := trod_typed fuel d hy' l2 (show _ = some (z.1, z.2) from hf) fun n hn => hw n (.inr (.inl (weightsAll_mem (List.mem_map.2 ⟨z, List.mem_of_getElem? hz, rfl⟩) hn)))
                    have hn := r1.len
                    have hv0 : ∃ v, vs[0]? = some v := ⟨_, List.getElem?_eq_getElem (by omega)⟩
                    obtain ⟨v0, hv0⟩ := hv0
                    have hsa := hsa0 (by omega)
                    have hadd : ∀ j, (a.add (i * P.cellsOf e)).add j = ⟨a.block, a.off + i * y'.n + j, none⟩ := fun j => by
                      rw [add_block a _ hsa, addr_add, ← c1, hn]
                    refine ⟨x, vs, r1, r2, hsa, ?_, fun j v hv => by rw [← hadd j]; exact c2 j v hv⟩
                    have := c2 0 v0 hv0
                    rw [hadd 0] at this
                    unfold World.cell? at this
                    rcases Nat.lt_or_ge a.block w.heap.size with h | h
                    · exact h
                    · simp only [Array.getElem?_eq_none h] at this; cases this
                refine ⟨xs, ⟨_, rfl, .inr ⟨a, cap, by rw [x1], by rw [x1]; exact hc.2.1, fun hne => ?_, fun i x hx => ?_⟩⟩, ?_, fun x hx => ?_⟩
                · have h0 : 0 < xs.length := List.length_pos_iff.2 hne
                  obtain ⟨us, _, _, h3, h4, _⟩ := x2 0 _ (List.getElem?_eq_getElem h0)
                  exact ⟨h3, h4⟩
                · obtain ⟨us, h1, _, _, _, h5⟩ := x2 i x hx
                  exact ⟨us, h1, h5⟩
                · rw [x1, ← m1]
                  exact Nat.le_trans (Nat.mul_le_mul_right _ (Nat.le_add_right _ _)) hw1
                · obtain ⟨i, hi, rfl⟩ := List.mem_iff_getElem.1 hx
                  obtain ⟨us, _, h2, _⟩ := x2 i _ (List.getElem?_eq_getElem hi)
                  exact h2
          | _ => simp [DataW.trod, hu] at h
    · -- struct
      rename_i fs
      simp only [DataW.trod, hu] at h
      split at h
      case isFalse => cases h
      rename_i hc
      cases hm : fs.toList.mapM (fun f => DataW.trod enc P w base spare held fuel f.type ((cs.drop f.offset).take (P.cellsOf f.type))) with
      | none => rw [hm] at h; cases h
      | some xs =>
        rw [hm] at h
        simp only [Option.map_some, Option.some.injEq, Prod.mk.injEq] at h
        obtain ⟨h1, _⟩ := h
        subst h1
        simp only [DataW.weights, hu] at hw
        have := trod_go (fun {t y cs D ps} a b c e => trod_typed fuel d a b c e) hc hy hl hm hw
        simpa using this
end

end Go.Proofs.YthpklbpdchckkaaEv

namespace Go.Proofs.YthpklbpdchckkaaEv
open Go.RowKit (Below)
set_option linter.unusedVariables false
set_option linter.unusedSectionVars false
set_option linter.unusedSimpArgs false

section
variable {P : Program} {W : World} {R : Type}

def rowX (W : World) : Cx := ⟨W, fun _ => False, fun _ b => b < W.heap.size, fun _ b hb => ⟨hb, id⟩, []⟩

theorem cellsR_OCs {X : Cx} {w : World} {z : Nat} : ∀ {t : Ty} {x : t.D} {us : List Value}, RdC X.w0 (X.Z z) t x us → OCs X w (cellsR z t x) us []
  | .int _, _, _, h | .bool, _, _, h | .str, _, _, h => by rw [show _ = _ from h]; exact .cons (f := []) (g := []) ⟨rfl, rfl⟩ .nil
  | .unit, _, us, h => by have h : us = [] := h; subst h; exact .nil
  | .pr p q, _, _, ⟨u1, u2, rfl, h1, h2⟩ => (cellsR_OCs h1).append (cellsR_OCs h2)
  | .sl _ _, _, _, ⟨v, rfl, h⟩ => .cons (f := []) (g := []) ⟨rfl, h⟩ .nil

theorem arg_agg {y : Ty} {x : y.D} {cs : Array Value} (h : RdC W (fun b => b < W.heap.size) y x cs.toList) : ArgR (rowX W) W (.agg (cellsR 0 y x)) (.agg cs) [] :=
  ⟨cs, rfl, cellsR_OCs (X := rowX W) (z := 0) h⟩
theorem arg_int {k : IntKind} {x : Int} {v : Value} (h : RdC W (fun b => b < W.heap.size) (.int k) x [v]) : ArgR (rowX W) W (.c (.nu k x)) v [] := by
  have h : [v] = [_] := h
  injection h with h; subst h; exact ⟨rfl, rfl⟩
theorem arg_bool {x : Bool} {v : Value} (h : RdC W (fun b => b < W.heap.size) .bool x [v]) : ArgR (rowX W) W (.c (.bo x)) v [] := by
  have h : [v] = [_] := h
  injection h with h; subst h; exact ⟨rfl, rfl⟩
theorem arg_str {x : ByteArray} {v : Value} (h : RdC W (fun b => b < W.heap.size) .str x [v]) : ArgR (rowX W) W (.c (.sr x)) v [] := by
  have h : [v] = [_] := h
  injection h with h; subst h; exact ⟨rfl, rfl⟩
theorem arg_sl {e : TypeId} {y : Ty} {xs : List y.D} {v : Value} (h : RdC W (fun b => b < W.heap.size) (.sl e y) xs [v]) : ArgR (rowX W) W (.c (.ro 0 y e xs)) v [] := by
  obtain ⟨v', e', h'⟩ := h
  injection e' with e'; subst e'
  exact ⟨rfl, h'⟩

theorem law_ok {Γ : Nat → Option (Con (List Val × List Val))} (hΓ : ∀ g c, Γ g = some c → Snd P g c) (hm : P.follows .mixedOrders = true) {f : FuncId} {fn : Func} {c : Code} (hf : P.funcs[f]? = some fn) (hb : fn.body = some c) (hd : dstOk fn.ntmps c = true)
    {N : Nat} {Λ : List (Nat × LCon (List Val × List Val))} (hL : LOk P Γ N Λ (retMask fn) c 1 (retMask fn) []) {vs : List Val} {av : List Value} (ha : ArgsR (rowX W) W vs av []) (hr : evF P Γ N Λ fn vs (fun r o => some (r, o)) = some ([.c (.bo true)], [])) :
    Calls P f av.toArray W fun e w' => e = .returned (.bool true) ∧ Below W.heap.size W w' := by
  obtain ⟨res, outs, h1, h2⟩ := evF_ok hΓ hm hf hb hd hL hr
  injection h1 with h1; injection h1 with e1 e2; subst e1; subst e2
  refine (h2 (rowX W) av [] ha List.nodup_nil (by simp)).mono fun e w' ⟨rvs, ga, gb, he, hF, hres, _⟩ => ?_
  cases hres with
  | cons hx ht =>
    cases ht
    obtain ⟨_, hx⟩ := hx
    subst he
    rw [show _ = Value.bool true from hx]
    exact ⟨rfl, hF.below⟩
end

end Go.Proofs.YthpklbpdchckkaaEv

namespace Go.Proofs.YthpklbpdchckkaaEv
open Go.RowKit (Below)
set_option linter.unusedVariables false
set_option linter.unusedSectionVars false
set_option linter.unusedSimpArgs false

/-! ### words -/
abbrev w64 : Int → Int := IntKind.i64.wrap
abbrev wu64 : Int → Int := IntKind.u64.wrap
abbrev wu8 : Int → Int := IntKind.u8.wrap
abbrev w32 : Int → Int := IntKind.i32.wrap
abbrev wu32 : Int → Int := IntKind.u32.wrap
abbrev wu16 : Int → Int := IntKind.u16.wrap
abbrev w16 : Int → Int := IntKind.i16.wrap
abbrev w8 : Int → Int := IntKind.i8.wrap
def imin (x y : Int) : Int := if y < x then y else x
def imax (x y : Int) : Int := if x < y then y else x
abbrev gam {R : Type} (l : List (Nat × Con R)) : Nat → Option (Con R) := look l
def bs (l : List UInt8) : ByteArray := ⟨l.toArray⟩

/-! ### types with modes -/
inductive MTy where
  | int (k : IntKind) | bool | str | unit | pr (a b : MTy) | ro (e : TypeId) (t : Ty) | ow (e : TypeId) (t : Ty) | ob (e : TypeId) (t : Ty) | mv (e : TypeId) (t : Ty)
@[reducible] def MTy.ty : MTy → Ty
  | .int k => .int k
  | .bool => .bool
  | .str => .str
  | .unit => .unit
  | .pr a b => .pr a.ty b.ty
  | .ro e t => .sl e t
  | .ow e t => .sl e t
  | .ob e t => .sl e t
  | .mv e t => .sl e t
@[reducible] def MTy.Zs : MTy → Type
  | .pr a b => a.Zs × b.Zs
  | .ro _ _ => Nat
  | _ => Unit
def cellsM : (m : MTy) → m.ty.D → m.Zs → List Cell
  | .int k, x, _ => [.nu k x]
  | .bool, x, _ => [.bo x]
  | .str, x, _ => [.sr x]
  | .unit, _, _ => []
  | .pr a b, x, z => cellsM a x.1 z.1 ++ cellsM b x.2 z.2
  | .ro e t, xs, z => [.ro z t e xs]
  | .ow e t, xs, _ => [.own t e xs]
  | .ob e t, xs, _ => [.own t e xs]
  | .mv e t, xs, _ => [.mov t e xs]
def decM : (m : MTy) → List Cell → Option (m.ty.D × m.Zs)
  | .int k, cs => match one cs with | .nu q n => cond (kbeq k q) (some (n, ())) none | _ => none
  | .bool, cs => match one cs with | .bo x => some (x, ()) | _ => none
  | .str, cs => match one cs with | .sr x => some (x, ()) | _ => none
  | .unit, cs => match cs with | [] => some ((), ()) | _ => none
  | .pr a b, cs => match decM a (cs.take a.ty.n), decM b (cs.drop a.ty.n) with | some x, some y => some ((x.1, y.1), (x.2, y.2)) | _, _ => none
  | .ro e t, cs => match one cs with | .ro z u _ xs => (match castL u t xs with | some ys => some (ys, z) | none => none) | .nil => some ([], 0) | _ => none
  | .ow e t, cs => match one cs with | .own u _ xs => (match castL u t xs with | some ys => some (ys, ()) | none => none) | _ => none
  | .ob e t, cs => match one cs with | .own u _ xs => (match castL u t xs with | some ys => some (ys, ()) | none => none) | .nil => some ([], ()) | _ => none
  | .mv e t, cs => match one cs with | .mov u _ xs => (match castL u t xs with | some ys => some (ys, ()) | none => none) | .nil => some ([], ()) | _ => none
/-- no row of the mode 'ob' -/
def MTy.strict : MTy → Bool
  | .pr a b => a.strict && b.strict
  | .ob _ _ => false
  | _ => true

/-! ### arguments -/
inductive AM where
  | v (m : MTy) | a (m : MTy) | p (ty : TypeId) (m : MTy) | f (g : FuncId)
@[reducible] def AM.m : AM → MTy
  | .v m => m
  | .a m => m
  | .p _ m => m
  | .f _ => .unit
def encA : (a : AM) → a.m.ty.D → a.m.Zs → Val
  | .v m, x, z => .c (one (cellsM m x z))
  | .a m, x, z => .agg (cellsM m x z)
  | .p ty m, x, z => .bx ty (cellsM m x z)
  | .f g, _, _ => .c (.fn g [])
def decA : (a : AM) → Val → Option (a.m.ty.D × a.m.Zs)
  | .v m, v => match v with | .c x => cond m.strict (decM m [x]) none | _ => none
  | .a m, v => match v with | .agg cs => cond m.strict (decM m cs) none | _ => none
  | .p ty m, v => match v with | .bx t cs => cond (Nat.beq ty t) (decM m cs) none | _ => none
  | .f g, v => match v with | .c (.fn h cs) => cond (Nat.beq g h && cs.isEmpty) (some ((), ())) none | _ => none
@[reducible] def AMs.D : List AM → Type
  | [] => Unit
  | a :: l => a.m.ty.D × AMs.D l
@[reducible] def AMs.Zs : List AM → Type
  | [] => Unit
  | a :: l => a.m.Zs × AMs.Zs l
def encAs : (l : List AM) → AMs.D l → AMs.Zs l → List Val
  | [], _, _ => []
  | a :: l, d, z => encA a d.1 z.1 :: encAs l d.2 z.2
def decAs : (l : List AM) → List Val → Option (AMs.D l × AMs.Zs l)
  | [], vs => match vs with | [] => some ((), ()) | _ => none
  | a :: l, vs => match vs with
    | v :: vs => (match decA a v, decAs l vs with | some x, some y => some ((x.1, y.1), (x.2, y.2)) | _, _ => none)
    | [] => none

section
variable {X : Cx} {w : World} {P : Program} {R : Type}

theorem one_some {cs : List Cell} {x : Cell} (h : one cs = x) (hd : isDeadC x = false) : cs = [x] := by
  unfold one at h
  split at h
  · rw [h]
  · subst h; cases hd
theorem castL_eq {t u : Ty} {xs : List t.D} {ys : List u.D} (h : castL t u xs = some ys) : t = u ∧ HEq xs ys := castL_spec h

theorem decM_ok : ∀ {m : MTy} {cs : List Cell} {x : m.ty.D} {z : m.Zs} {us : List Value} {f : List Nat}, decM m cs = some (x, z) → OCs X w cs us f →
    OCs X w (cellsM m x z) us f ∧ (m.strict = true → (cellsM m x z).any isOwn = cs.any isOwn)
  | .int k, cs, x, z, us, f, h, hc => by
    simp only [decM] at h
    split at h
    case h_2 => cases h
    rename_i q n ho
    cases hk : kbeq k q
    · rw [hk] at h; cases h
    rw [hk] at h
    injection h with h; injection h with e1 e2; subst e1
    have := kbeq_eq hk; subst this
    rw [one_some ho rfl] at hc ⊢
    exact ⟨hc, fun _ => rfl⟩
  | .bool, cs, x, z, us, f, h, hc => by
    simp only [decM] at h
    split at h
    case h_2 => cases h
    rename_i y ho
    injection h with h; injection h with e1 e2; subst e1
    rw [one_some ho rfl] at hc ⊢
    exact ⟨hc, fun _ => rfl⟩
  | .str, cs, x, z, us, f, h, hc => by
    simp only [decM] at h
    split at h
    case h_2 => cases h
    rename_i y ho
    injection h with h; injection h with e1 e2; subst e1
    rw [one_some ho rfl] at hc ⊢
    exact ⟨hc, fun _ => rfl⟩
  | .unit, cs, x, z, us, f, h, hc => by
    simp only [decM] at h
    split at h
    case h_2 => cases h
    exact ⟨hc, fun _ => rfl⟩
  | .pr a b, cs, x, z, us, f, h, hc => by
    simp only [decM] at h
    split at h
    case h_2 => cases h
    rename_i x1 y1 h1 h2
    injection h with h; injection h with e1 e2; subst e1; subst e2
    obtain ⟨f1, f2, e, g1, g2⟩ := hc.split a.ty.n
    obtain ⟨k1, s1⟩ := decM_ok (m := a) h1 g1
    obtain ⟨k2, s2⟩ := decM_ok (m := b) h2 g2
    refine ⟨?_, fun hs => ?_⟩
    · have := k1.append k2
      rw [List.take_append_drop, ← e] at this
      exact this
    · simp only [MTy.strict, Bool.and_eq_true] at hs
      simp only [cellsM, List.any_append, s1 hs.1, s2 hs.2]
      rw [← List.any_append, List.take_append_drop]
  | .ro e t, cs, x, z, us, f, h, hc => by
    simp only [decM] at h
    split at h
    · rename_i z' u e' xs ho
      split at h
      case h_2 => cases h
      rename_i ys hy
      injection h with h; injection h with e1 e2; subst e1; subst e2
      obtain ⟨rfl, hh⟩ := castL_eq hy
      have hh := eq_of_heq hh; subst hh
      rw [one_some ho rfl] at hc ⊢
      cases hc with
      | cons hx ht => exact ⟨.cons hx ht, fun _ => rfl⟩
    · rename_i ho
      injection h with h; injection h with e1 e2; subst e1; subst e2
      rw [one_some ho rfl] at hc ⊢
      cases hc with
      | cons hx ht => exact ⟨.cons ⟨hx.1, .inl ⟨hx.2, rfl⟩⟩ ht, fun _ => rfl⟩
    · cases h
  | .ow e t, cs, x, z, us, f, h, hc => by
    simp only [decM] at h
    split at h
    · rename_i u e' xs ho
      split at h
      case h_2 => cases h
      rename_i ys hy
      injection h with h; injection h with e1 e2; subst e1
      obtain ⟨rfl, hh⟩ := castL_eq hy
      have hh := eq_of_heq hh; subst hh
      rw [one_some ho rfl] at hc ⊢
      cases hc with
      | cons hx ht => exact ⟨.cons hx ht, fun _ => rfl⟩
    · cases h
  | .ob e t, cs, x, z, us, f, h, hc => by
    simp only [decM] at h
    split at h
    · rename_i u e' xs ho
      split at h
      case h_2 => cases h
      rename_i ys hy
      injection h with h; injection h with e1 e2; subst e1
      obtain ⟨rfl, hh⟩ := castL_eq hy
      have hh := eq_of_heq hh; subst hh
      rw [one_some ho rfl] at hc ⊢
      cases hc with
      | cons hx ht => exact ⟨.cons hx ht, fun _ => rfl⟩
    · rename_i ho
      injection h with h; injection h with e1 e2; subst e1
      rw [one_some ho rfl] at hc
      cases hc with
      | cons hx ht => exact ⟨.cons (.inl ⟨hx.2, rfl, hx.1⟩) ht, fun h => by cases h⟩
    · cases h
  | .mv e t, cs, x, z, us, f, h, hc => by
    simp only [decM] at h
    split at h
    · rename_i u e' xs ho
      split at h
      case h_2 => cases h
      rename_i ys hy
      injection h with h; injection h with e1 e2; subst e1
      obtain ⟨rfl, hh⟩ := castL_eq hy
      have hh := eq_of_heq hh; subst hh
      rw [one_some ho rfl] at hc ⊢
      cases hc with
      | cons hx ht => exact ⟨.cons hx ht, fun _ => rfl⟩
    · rename_i ho
      injection h with h; injection h with e1 e2; subst e1
      rw [one_some ho rfl] at hc ⊢
      cases hc with
      | cons hx ht => exact ⟨.cons (.inl ⟨hx.2, rfl, hx.1⟩) ht, fun _ => rfl⟩
    · cases h

theorem decA_ok {a : AM} {v : Val} {x : a.m.ty.D} {z : a.m.Zs} {u : Value} {f : List Nat} (h : decA a v = some (x, z)) (hc : ArgR X w v u f) : ArgR X w (encA a x z) u f ∧ isBack (encA a x z) = isBack v := by
  cases a with
  | v m =>
    simp only [decA] at h
    split at h
    case h_2 => cases h
    rename_i c
    cases hs : m.strict
    · rw [hs] at h; cases h
    rw [hs] at h
    have hc' : OCs X w [c] [u] (f ++ []) := .cons hc .nil
    rw [List.append_nil] at hc'
    obtain ⟨k1, k2⟩ := decM_ok h hc'
    have k2 := k2 hs
    have hl := k1.len
    simp only [encA]
    obtain ⟨y, hy⟩ : ∃ y, cellsM m x z = [y] := List.length_eq_one_iff.1 hl
    rw [hy] at k1 k2 ⊢
    refine ⟨?_, by simpa [isBack, one] using k2⟩
    generalize hg : f = g at k1
    cases k1 with
    | @cons _ _ f1 _ _ f2 hx ht => cases ht; rw [List.append_nil]; exact hx
  | a m =>
    simp only [decA] at h
    split at h
    case h_2 => cases h
    rename_i c
    cases hs : m.strict
    · rw [hs] at h; cases h
    rw [hs] at h
    obtain ⟨us, e, hc⟩ := hc
    obtain ⟨k1, k2⟩ := decM_ok h hc
    exact ⟨⟨us, e, k1⟩, k2 hs⟩
  | p ty m =>
    simp only [decA] at h
    split at h
    case h_2 => cases h
    rename_i t c
    cases hs : Nat.beq ty t
    · rw [hs] at h; cases h
    rw [hs] at h
    obtain ⟨g, us, f', h1, h2, h3, h4, h5, h6⟩ := hc
    exact ⟨⟨g, us, f', h1, h2, h3, h4, (decM_ok h h5).1, h6⟩, rfl⟩
  | f g =>
    simp only [decA] at h
    split at h
    case h_2 => cases h
    rename_i k cs
    cases hs : (Nat.beq g k && cs.isEmpty)
    · rw [hs] at h; cases h
    simp only [Bool.and_eq_true] at hs
    have e1 := Nat.eq_of_beq_eq_true hs.1
    have e2 : cs = [] := List.isEmpty_iff.1 hs.2
    subst e1; subst e2
    exact ⟨hc, rfl⟩
theorem decAs_ok : ∀ {l : List AM} {vs : List Val} {d : AMs.D l} {z : AMs.Zs l} {us : List Value} {f : List Nat}, decAs l vs = some (d, z) → ArgsR X w vs us f →
    ArgsR X w (encAs l d z) us f ∧ backVals (encAs l d z) us = backVals vs us
  | [], vs, d, z, us, f, h, hc => by
    simp only [decAs] at h
    split at h
    case h_2 => cases h
    exact ⟨hc, rfl⟩
  | a :: l, vs, d, z, us, f, h, hc => by
    simp only [decAs] at h
    split at h
    case h_2 => cases h
    rename_i v vs
    split at h
    case h_2 => cases h
    rename_i x y h1 h2
    injection h with h; injection h with e1 e2; subst e1; subst e2
    cases hc with
    | cons hx ht =>
      obtain ⟨k1, k2⟩ := decA_ok (show decA a v = some (x.1, x.2) from h1) hx
      obtain ⟨k3, k4⟩ := decAs_ok (show decAs l vs = some (y.1, y.2) from h2) ht
      refine ⟨.cons k1 k3, ?_⟩
      simp only [encAs, backVals, k2, k4]

/-! ### levels: each row that is read by a number of its own -/
def canM : (m : MTy) → Nat → m.Zs × Nat
  | .pr a b, i => ((( canM a i).1, (canM b (canM a i).2).1), (canM b (canM a i).2).2)
  | .ro _ _, i => (i, i + 1)
  | .int _, i => ((), i)
  | .bool, i => ((), i)
  | .str, i => ((), i)
  | .unit, i => ((), i)
  | .ow _ _, i => ((), i)
  | .ob _ _, i => ((), i)
  | .mv _ _, i => ((), i)
def zlM : (m : MTy) → m.Zs → List Nat
  | .pr a b, z => zlM a z.1 ++ zlM b z.2
  | .ro _ _, z => [z]
  | _, _ => []
def canAs : (l : List AM) → Nat → AMs.Zs l
  | [], _ => ()
  | a :: l, i => ((canM a.m i).1, canAs l (canM a.m i).2)
def zlAs : (l : List AM) → AMs.Zs l → List Nat
  | [], _ => []
  | a :: l, z => zlM a.m z.1 ++ zlAs l z.2
def nthD : List Nat → Nat → Nat
  | [], _ => 0
  | x :: r, n => match n with | 0 => x | n + 1 => nthD r n
def lvC (zs : List Nat) : Cell → Cell
  | .ro z t e xs => .ro (nthD zs z) t e xs
  | .rp z t x j => .rp (nthD zs z) t x j
  | .rn z t e xs => .rn (nthD zs z) t e xs
  | x => x
def lvV (zs : List Nat) : Val → Val
  | .c x => .c (lvC zs x)
  | .agg xs => .agg (xs.map (lvC zs))
  | .bx t xs => .bx t (xs.map (lvC zs))
  | .tup vs => .tup vs
def Cx.re (X : Cx) (zs : List Nat) : Cx := { X with Z := fun i b => ∃ z, zs[i]? = some z ∧ X.Z z b, hZ := fun i b ⟨z, _, h⟩ => X.hZ z b h }
theorem nthD_eq : ∀ {zs : List Nat} {i z : Nat}, zs[i]? = some z → nthD zs i = z
  | [], _, _, h => by simp at h
  | x :: r, 0, z, h => by simp at h; exact h
  | x :: r, i + 1, z, h => nthD_eq (zs := r) (by simpa using h)
theorem lvC_ok {zs : List Nat} {x : Cell} {v : Value} {f : List Nat} (h : OC (X.re zs) w x v f) : OC X w (lvC zs x) v f := by
  cases x with
  | ro z t e xs => exact ⟨h.1, RdS.mono (fun b ⟨y, hy, hb⟩ => (by rw [nthD_eq hy]; exact hb)) (fun _ _ _ _ h => h) (show RdS _ _ _ _ _ _ from h.2)⟩
  | rn z t e xs =>
    obtain ⟨e0, a, cap, ev, h⟩ := h
    exact ⟨e0, a, cap, ev, RdS.mono (fun b ⟨y, hy, hb⟩ => (by rw [nthD_eq hy]; exact hb)) (fun _ _ _ _ h => h) (show RdS _ _ _ _ _ _ from h)⟩
  | rp z t x j =>
    obtain ⟨e0, g, o, us, e, ⟨y, hy, hz⟩, hr, hrd⟩ := h
    exact ⟨e0, g, o, us, e, by rw [nthD_eq hy]; exact hz, hr, RdC.mono (fun b ⟨y, hy, hb⟩ => (by rw [nthD_eq hy]; exact hb)) (fun _ _ _ _ h => h) hrd⟩
  | _ => exact h
theorem lvCs_ok {zs : List Nat} {xs : List Cell} {vs : List Value} {f : List Nat} (h : OCs (X.re zs) w xs vs f) : OCs X w (xs.map (lvC zs)) vs f := by
  induction h with
  | nil => exact .nil
  | cons hx ht ih => exact .cons (lvC_ok hx) ih
theorem lvV_ok {zs : List Nat} {x : Val} {v : Value} {f : List Nat} (h : ArgR (X.re zs) w x v f) : ArgR X w (lvV zs x) v f := by
  cases x with
  | c x => exact lvC_ok h
  | agg xs => obtain ⟨us, e, h⟩ := h; exact ⟨us, e, lvCs_ok h⟩
  | bx ty xs => obtain ⟨g, us, f', h1, h2, h3, h4, h5, h6⟩ := h; exact ⟨g, us, f', h1, h2, h3, h4, lvCs_ok h5, h6⟩
  | tup vs => exact h
theorem lvVs_ok {zs : List Nat} {xs : List Val} {vs : List Value} {f : List Nat} (h : ArgsR (X.re zs) w xs vs f) : ArgsR X w (xs.map (lvV zs)) vs f := by
  induction h with
  | nil => exact .nil
  | cons hx ht ih => exact .cons (lvV_ok hx) ih
theorem cellsM_own : ∀ {m : MTy} {x : m.ty.D} {z z' : m.Zs}, (cellsM m x z).any isOwn = (cellsM m x z').any isOwn
  | .pr a b, x, z, z' => by simp only [cellsM, List.any_append, cellsM_own (m := a) (z := z.1) (z' := z'.1), cellsM_own (m := b) (z := z.2) (z' := z'.2)]
  | .int _, _, _, _ | .bool, _, _, _ | .str, _, _, _ | .unit, _, _, _ | .ro _ _, _, _, _ | .ow _ _, _, _, _ | .ob _ _, _, _, _ | .mv _ _, _, _, _ => rfl
theorem can_cells {zs : List Nat} : ∀ {m : MTy} {x : m.ty.D} {z : m.Zs} {i : Nat} {us : List Value} {f : List Nat}, (∀ j y, (zlM m z)[j]? = some y → zs[i + j]? = some y) → OCs X w (cellsM m x z) us f →
    OCs (X.re zs) w (cellsM m x (canM m i).1) us f ∧ (canM m i).2 = i + (zlM m z).length
  | .pr a b, x, z, i, us, f, hz, h => by
    have hl : (cellsM a x.1 z.1).length = (cellsM a x.1 z.1).length := rfl
    simp only [cellsM] at h
    obtain ⟨f1, f2, e, h1, h2⟩ := h.split (cellsM a x.1 z.1).length
    rw [List.take_left'  rfl] at h1
    rw [List.drop_left' rfl] at h2
    obtain ⟨k1, l1⟩ := can_cells (m := a) (i := i) (zs := zs) (fun j y hy => hz j y (by simp only [zlM]; rw [List.getElem?_append_left (List.getElem?_eq_some_iff.1 hy).1]; exact hy)) h1
    obtain ⟨k2, l2⟩ := can_cells (m := b) (i := (canM a i).2) (zs := zs) (fun j y hy => by
      rw [l1, Nat.add_assoc]
      refine hz _ y ?_
      simp only [zlM]
      rw [List.getElem?_append_right (by omega)]
      simpa using hy) h2
    refine ⟨?_, ?_⟩
    · have := k1.append k2
      rw [List.take_append_drop, ← e] at this
      exact this
    · simp only [canM, zlM, List.length_append]; rw [l2, l1]; omega
  | .ro e t, xs, z, i, us, f, hz, h => by
    refine ⟨?_, rfl⟩
    cases h with
    | cons hx ht =>
      cases ht
      refine .cons ⟨hx.1, ?_⟩ .nil
      exact RdS.mono (fun b hb => ⟨z, hz 0 z rfl, hb⟩) (fun _ _ _ _ h => h) (show RdS _ _ _ _ _ _ from hx.2)
  | .int _, x, z, i, us, f, hz, h | .bool, x, z, i, us, f, hz, h | .str, x, z, i, us, f, hz, h => by
    refine ⟨?_, rfl⟩
    cases h with
    | cons hx ht => cases ht; exact .cons hx .nil
  | .unit, x, z, i, us, f, hz, h => by
    refine ⟨?_, rfl⟩
    cases h; exact .nil
  | .ow _ _, x, z, i, us, f, hz, h | .ob _ _, x, z, i, us, f, hz, h | .mv _ _, x, z, i, us, f, hz, h => by
    refine ⟨?_, rfl⟩
    cases h with
    | cons hx ht => cases ht; exact .cons hx .nil
theorem can_A {zs : List Nat} {a : AM} {x : a.m.ty.D} {z : a.m.Zs} {i : Nat} {u : Value} {f : List Nat} (hz : ∀ j y, (zlM a.m z)[j]? = some y → zs[i + j]? = some y) (h : ArgR X w (encA a x z) u f) :
    ArgR (X.re zs) w (encA a x (canM a.m i).1) u f ∧ isBack (encA a x (canM a.m i).1) = isBack (encA a x z) := by
  cases a with
  | v m =>
    simp only [encA] at h ⊢
    by_cases hl : (cellsM m x z).length = 1
    · obtain ⟨y, hy⟩ := List.length_eq_one_iff.1 hl
      have hc' : OCs X w (cellsM m x z) [u] (f ++ []) := by rw [hy] at h ⊢; exact .cons h .nil
      obtain ⟨k1, _⟩ := can_cells (i := i) hz hc'
      have hl' := k1.len
      obtain ⟨y', hy'⟩ := List.length_eq_one_iff.1 hl'
      have ho := cellsM_own (m := m) (x := x) (z := z) (z' := (canM m i).1)
      rw [hy] at ho ⊢
      rw [hy'] at ho k1 ⊢
      refine ⟨?_, by simpa [isBack, one] using ho.symm⟩
      generalize hg : f ++ [] = g at k1
      cases k1 with
      | @cons _ _ f1 _ _ f2 hx ht =>
        cases ht
        simp only [List.append_nil] at hg
        subst hg; exact hx
    · have e1 : one (cellsM m x z) = .dead := by
        unfold one; split
        · rename_i hh; rw [hh] at hl; exact absurd rfl hl
        · rfl
      have hlen : (cellsM m x (canM m i).1).length = (cellsM m x z).length := cellsM_len
      have e2 : one (cellsM m x (canM m i).1) = .dead := by
        unfold one; split
        · rename_i hh; rw [← hlen, hh] at hl; exact absurd rfl hl
        · rfl
      rw [e1] at h ⊢
      rw [e2]
      exact ⟨h, rfl⟩
  | a m =>
    obtain ⟨us, e, h⟩ := h
    exact ⟨⟨us, e, (can_cells hz h).1⟩, cellsM_own⟩
  | p ty m =>
    obtain ⟨g, us, f', h1, h2, h3, h4, h5, h6⟩ := h
    exact ⟨⟨g, us, f', h1, h2, h3, h4, (can_cells hz h5).1, h6⟩, rfl⟩
  | f g => exact ⟨h, rfl⟩
where
  cellsM_len : ∀ {m : MTy} {x : m.ty.D} {z z' : m.Zs}, (cellsM m x z).length = (cellsM m x z').length
  | .pr a b, x, z, z' => by simp only [cellsM, List.length_append, cellsM_len (m := a) (z := z.1) (z' := z'.1), cellsM_len (m := b) (z := z.2) (z' := z'.2)]
  | .int _, _, _, _ | .bool, _, _, _ | .str, _, _, _ | .unit, _, _, _ | .ro _ _, _, _, _ | .ow _ _, _, _, _ | .ob _ _, _, _, _ | .mv _ _, _, _, _ => rfl
theorem canM_len : ∀ {m : MTy} {z : m.Zs} {i : Nat}, (canM m i).2 = i + (zlM m z).length
  | .pr a b, z, i => by simp only [canM, zlM, List.length_append]; rw [canM_len (m := b) (z := z.2), canM_len (m := a) (z := z.1)]; omega
  | .int _, _, _ | .bool, _, _ | .str, _, _ | .unit, _, _ | .ro _ _, _, _ | .ow _ _, _, _ | .ob _ _, _, _ | .mv _ _, _, _ => rfl
theorem can_As {zs : List Nat} : ∀ {l : List AM} {d : AMs.D l} {z : AMs.Zs l} {i : Nat} {us : List Value} {f : List Nat}, (∀ j y, (zlAs l z)[j]? = some y → zs[i + j]? = some y) → ArgsR X w (encAs l d z) us f →
    ArgsR (X.re zs) w (encAs l d (canAs l i)) us f ∧ backVals (encAs l d (canAs l i)) us = backVals (encAs l d z) us
  | [], d, z, i, us, f, hz, h => by cases h; exact ⟨.nil, rfl⟩
  | a :: l, d, z, i, us, f, hz, h => by
    cases h with
    | cons hx ht =>
      obtain ⟨k1, k2⟩ := can_A (i := i) (zs := zs) (fun j y hy => hz j y (by simp only [zlAs]; rw [List.getElem?_append_left (List.getElem?_eq_some_iff.1 hy).1]; exact hy)) hx
      obtain ⟨k3, k4⟩ := can_As (i := (canM a.m i).2) (zs := zs) (fun j y hy => by
        rw [canM_len (z := z.1), Nat.add_assoc]
        refine hz _ y ?_
        simp only [zlAs]
        rw [List.getElem?_append_right (by omega)]
        simpa using hy) ht
      refine ⟨.cons k1 k3, ?_⟩
      simp only [encAs, canAs, backVals, k2, k4]

/-- a contract, told by typed values -/
def conOf {R : Type} (ms : List Md) (l : List AM) (t : AMs.D l → (List Val → List Val → Option R) → Option R) : Con R :=
  ⟨ms, fun vs k => match decAs l vs with | some x => t x.1 (fun res outs => k (res.map (lvV (zlAs l x.2))) (outs.map (lvV (zlAs l x.2)))) | none => none⟩
theorem snd_of {f : FuncId} {ms : List Md} {l : List AM} {t : AMs.D l → (List Val → List Val → Option R) → Option R} (he : Enters P f)
    (h : ∀ d k r, t d k = some r → ∃ res outs, k res outs = some r ∧ CallOk P f (encAs l d (canAs l 0)) res outs) : Snd P f (conOf ms l t) := by
  refine ⟨he, fun vs k r hr => ?_⟩
  simp only [conOf] at hr
  split at hr
  case h_2 => cases hr
  rename_i x hx
  obtain ⟨res, outs, h1, h2⟩ := h _ _ _ hr
  refine ⟨_, _, h1, fun X av fs ha hn hf => ?_⟩
  obtain ⟨k1, k2⟩ := decAs_ok (show decAs l vs = some (x.1, x.2) from hx) ha
  obtain ⟨k3, k4⟩ := can_As (i := 0) (zs := zlAs l x.2) (fun j y hy => by rw [Nat.zero_add]; exact hy) k1
  have := h2 (X.re (zlAs l x.2)) av fs k3 hn hf
  rw [k4, k2] at this
  exact this.mono fun e w' ⟨rvs, ga, gb, g1, g2, g3, g4, g5, g6⟩ => ⟨rvs, ga, gb, g1, g2, lvVs_ok g3, lvVs_ok g4, g5, g6⟩
theorem enters_of {f : FuncId} {fn : Func} (hf : P.funcs[f]? = some fn) (hb : fn.body.isNone = false) (hn : (fn.name == "runtime.NumGoroutine") = false) : Enters P f := by
  intro args w
  unfold callFunc
  rw [Sem.run_bind]
  have hn' : fn.name ≠ "runtime.NumGoroutine" := fun e => by rw [e] at hn; simp at hn
  have hb' : fn.body ≠ none := fun e => by rw [e] at hb; cases hb
  simp [hf, hn', hb']
theorem snd_nil {Γ : List (Nat × Con R)} (h : ∀ p ∈ Γ, Snd P p.1 p.2) : ∀ g c, look Γ g = some c → Snd P g c := by
  intro g c hl
  induction Γ with
  | nil => cases hl
  | cons x r ih =>
    obtain ⟨m, v⟩ := x
    simp only [look] at hl
    cases hb : Nat.beq m g
    · rw [hb] at hl; exact ih (fun p hp => h p (List.mem_cons_of_mem _ hp)) hl
    · rw [hb] at hl; injection hl with hl; subst hl
      rw [← Nat.eq_of_beq_eq_true hb]; exact h (m, v) (List.mem_cons_self ..)

/-! ### states at a loop's head -/
inductive SC where
  | nu (k : IntKind) | bo | sr | nil | ptr (c j : Nat) | slw (c : Nat) | sl (c : Nat) | ep (c j : Nat) | ro (z : Nat) (e : TypeId) (t : Ty) | rp (z : Nat) (t : Ty) (j : Nat) | fn (f : FuncId) (cs : List Nat) | ifc | dead
@[reducible] def SC.D : SC → Type
  | .nu _ => Int
  | .bo => Bool
  | .sr => ByteArray
  | .sl _ => Nat × Nat
  | .ep _ _ => Nat
  | .ro _ _ t => List t.D
  | .rp _ t _ => t.D
  | _ => Unit
def encC : (s : SC) → s.D → Cell
  | .nu k, x => .nu k x
  | .bo, x => .bo x
  | .sr, x => .sr x
  | .nil, _ => .nil
  | .ptr c j, _ => .ptr c j
  | .slw c, _ => .slw c
  | .sl c, x => .sl c x.1 x.2
  | .ep c j, i => .ep c i j
  | .ro z e t, x => .ro z t e x
  | .rp z t j, x => .rp z t x j
  | .fn f cs, _ => .fn f cs
  | .ifc, _ => .ifc
  | .dead, _ => .dead
def castT (t u : Ty) (x : t.D) : Option u.D := if h : t.beq u = true then some (Ty.beq_eq h ▸ x) else none
def decC : (s : SC) → Cell → Option s.D
  | .nu k, x => match x with | .nu q n => cond (kbeq k q) (some n) none | _ => none
  | .bo, x => match x with | .bo b => some b | _ => none
  | .sr, x => match x with | .sr b => some b | _ => none
  | .nil, x => match x with | .nil => some () | _ => none
  | .ptr c j, x => match x with | .ptr d i => cond (Nat.beq c d && Nat.beq j i) (some ()) none | _ => none
  | .slw c, x => match x with | .slw d => cond (Nat.beq c d) (some ()) none | _ => none
  | .sl c, x => match x with | .sl d o l => cond (Nat.beq c d) (some (o, l)) none | _ => none
  | .ep c j, x => match x with | .ep d i l => cond (Nat.beq c d && Nat.beq j l) (some i) none | _ => none
  | .ro z e t, x => match x with | .ro y u f xs => cond (Nat.beq e f && Nat.beq z y) (castL u t xs) none | _ => none
  | .rp z t j, x => match x with | .rp y u x i => cond (Nat.beq j i && Nat.beq z y) (castT u t x) none | _ => none
  | .fn f cs, x => match x with | .fn g ds => cond (Nat.beq f g && eqNats cs ds) (some ()) none | _ => none
  | .ifc, x => match x with | .ifc => some () | _ => none
  | .dead, x => match x with | .dead => some () | _ => none
theorem decC_ok {s : SC} {x : Cell} {d : s.D} (h : decC s x = some d) : x = encC s d := by
  cases s with
  | nu k =>
    simp only [decC] at h; split at h
    case h_2 => cases h
    rename_i q n
    cases hk : kbeq k q
    · rw [hk] at h; cases h
    · rw [hk] at h; injection h with h; subst h; rw [kbeq_eq hk]; rfl
  | bo => simp only [decC] at h; split at h <;> first | (injection h with h; subst h; rfl) | cases h
  | sr => simp only [decC] at h; split at h <;> first | (injection h with h; subst h; rfl) | cases h
  | nil => simp only [decC] at h; split at h <;> first | rfl | cases h
  | ptr c j =>
    simp only [decC] at h; split at h
    case h_2 => cases h
    rename_i d i
    cases hk : (Nat.beq c d && Nat.beq j i)
    · rw [hk] at h; cases h
    · simp only [Bool.and_eq_true] at hk; rw [Nat.eq_of_beq_eq_true hk.1, Nat.eq_of_beq_eq_true hk.2]; rfl
  | slw c =>
    simp only [decC] at h; split at h
    case h_2 => cases h
    rename_i d
    cases hk : Nat.beq c d
    · rw [hk] at h; cases h
    · rw [Nat.eq_of_beq_eq_true hk]; rfl
  | sl c =>
    simp only [decC] at h; split at h
    case h_2 => cases h
    rename_i d o l
    cases hk : Nat.beq c d
    · rw [hk] at h; cases h
    · rw [hk] at h; injection h with h; subst h; rw [Nat.eq_of_beq_eq_true hk]; rfl
  | ep c j =>
    simp only [decC] at h; split at h
    case h_2 => cases h
    rename_i d i l
    cases hk : (Nat.beq c d && Nat.beq j l)
    · rw [hk] at h; cases h
    · rw [hk] at h; injection h with h; subst h
      simp only [Bool.and_eq_true] at hk; rw [Nat.eq_of_beq_eq_true hk.1, Nat.eq_of_beq_eq_true hk.2]; rfl
  | ro z e t =>
    simp only [decC] at h; split at h
    case h_2 => cases h
    rename_i y u f xs
    cases hk : (Nat.beq e f && Nat.beq z y)
    · rw [hk] at h; cases h
    · rw [hk] at h
      simp only [cond_true] at h
      simp only [Bool.and_eq_true] at hk
      obtain ⟨rfl, hh⟩ := castL_eq h
      have hh := eq_of_heq hh; subst hh
      rw [Nat.eq_of_beq_eq_true hk.1, Nat.eq_of_beq_eq_true hk.2]; rfl
  | rp z t j =>
    simp only [decC] at h; split at h
    case h_2 => cases h
    rename_i y u x i
    cases hk : (Nat.beq j i && Nat.beq z y)
    · rw [hk] at h; cases h
    · rw [hk] at h
      simp only [cond_true] at h
      simp only [Bool.and_eq_true] at hk
      unfold castT at h
      split at h
      case isFalse => cases h
      rename_i hb
      have e := Ty.beq_eq hb
      subst e
      injection h with h
      subst h
      rw [Nat.eq_of_beq_eq_true hk.1, Nat.eq_of_beq_eq_true hk.2]; rfl
  | fn f cs =>
    simp only [decC] at h; split at h
    case h_2 => cases h
    rename_i g ds
    cases hk : (Nat.beq f g && eqNats cs ds)
    · rw [hk] at h; cases h
    · simp only [Bool.and_eq_true] at hk; rw [Nat.eq_of_beq_eq_true hk.1, eqNats_spec hk.2]; rfl
  | ifc => simp only [decC] at h; split at h <;> first | rfl | cases h
  | dead => simp only [decC] at h; split at h <;> first | rfl | cases h
@[reducible] def SCs.D : List SC → Type
  | [] => Unit
  | s :: l => s.D × SCs.D l
def encCs : (l : List SC) → SCs.D l → List Cell
  | [], _ => []
  | s :: l, d => encC s d.1 :: encCs l d.2
def decCs : (l : List SC) → List Cell → Option (SCs.D l)
  | [], xs => match xs with | [] => some () | _ => none
  | s :: l, xs => match xs with
    | x :: xs => (match decC s x, decCs l xs with | some a, some b => some (a, b) | _, _ => none)
    | [] => none
theorem decCs_ok : ∀ {l : List SC} {xs : List Cell} {d : SCs.D l}, decCs l xs = some d → xs = encCs l d
  | [], xs, d, h => by
    simp only [decCs] at h
    split at h
    case h_2 => cases h
    rfl
  | s :: l, xs, d, h => by
    simp only [decCs] at h
    split at h
    case h_2 => cases h
    split at h
    case h_2 => cases h
    rename_i a b h1 h2
    injection h with h; subst h
    rw [decC_ok h1, decCs_ok h2]; rfl
inductive SV where
  | c (s : SC) | agg (l : List SC)
@[reducible] def SV.D : SV → Type
  | .c s => s.D
  | .agg l => SCs.D l
def encV : (s : SV) → s.D → Val
  | .c s, d => .c (encC s d)
  | .agg l, d => .agg (encCs l d)
def decV : (s : SV) → Val → Option s.D
  | .c s, v => match v with | .c x => decC s x | _ => none
  | .agg l, v => match v with | .agg xs => decCs l xs | _ => none
theorem decV_ok {s : SV} {x : Val} {d : s.D} (h : decV s x = some d) : x = encV s d := by
  cases s <;> simp only [decV] at h <;> split at h <;> try (cases h; done)
  · rw [decC_ok h]; rfl
  · rw [decCs_ok h]; rfl
inductive SK where
  | box (ty : TypeId) (l : List SC) | rows (t : Ty) (e : TypeId)
@[reducible] def SK.D : SK → Type
  | .box _ l => SCs.D l
  | .rows t _ => List t.D
def encK : (s : SK) → s.D → Chunk
  | .box ty l, d => .box ty (encCs l d)
  | .rows t e, d => .rows t e d
def decK : (s : SK) → Option Chunk → Option s.D
  | .box ty l, k => match k with | some (.box u xs) => cond (Nat.beq ty u) (decCs l xs) none | _ => none
  | .rows t e, k => match k with | some (.rows u f xs) => cond (Nat.beq e f) (castL u t xs) none | _ => none
theorem decK_ok {s : SK} {k : Option Chunk} {d : s.D} (h : decK s k = some d) : k = some (encK s d) := by
  cases s with
  | box ty l =>
    simp only [decK] at h; split at h
    case h_2 => cases h
    rename_i u xs
    cases hk : Nat.beq ty u
    · rw [hk] at h; cases h
    · rw [hk] at h; rw [decCs_ok h, Nat.eq_of_beq_eq_true hk]; rfl
  | rows t e =>
    simp only [decK] at h; split at h
    case h_2 => cases h
    rename_i u f xs
    cases hk : Nat.beq e f
    · rw [hk] at h; cases h
    · rw [hk] at h
      obtain ⟨rfl, hh⟩ := castL_eq h
      have hh := eq_of_heq hh; subst hh
      rw [Nat.eq_of_beq_eq_true hk]; rfl
@[reducible] def STm.D : List (Nat × SV) → Type
  | [] => Unit
  | s :: l => s.2.D × STm.D l
def encTm : (l : List (Nat × SV)) → STm.D l → List (Nat × Val)
  | [], _ => []
  | s :: l, d => (s.1, encV s.2 d.1) :: encTm l d.2
def decTm : (l : List (Nat × SV)) → List (Nat × Val) → Option (STm.D l)
  | [], xs => match xs with | [] => some () | _ => none
  | s :: l, xs => match xs with
    | x :: xs => cond (Nat.beq s.1 x.1) (match decV s.2 x.2, decTm l xs with | some a, some b => some (a, b) | _, _ => none) none
    | [] => none
theorem decTm_ok : ∀ {l : List (Nat × SV)} {xs : List (Nat × Val)} {d : STm.D l}, decTm l xs = some d → xs = encTm l d
  | [], xs, d, h => by
    simp only [decTm] at h
    split at h
    case h_2 => cases h
    rfl
  | s :: l, xs, d, h => by
    simp only [decTm] at h
    split at h
    case h_2 => cases h
    rename_i x xs
    cases hk : Nat.beq s.1 x.1
    · rw [hk] at h; cases h
    rw [hk] at h
    simp only [cond_true] at h
    split at h
    case h_2 => cases h
    rename_i a b h1 h2
    injection h with h; subst h
    obtain ⟨m, v⟩ := x
    rw [decTm_ok h2]
    simp only [encTm]
    rw [← decV_ok h1, Nat.eq_of_beq_eq_true hk]
@[reducible] def SHp.D : List (Nat × SK) → Type
  | [] => Unit
  | s :: l => s.2.D × SHp.D l
def encHp : (l : List (Nat × SK)) → SHp.D l → List (Nat × Option Chunk)
  | [], _ => []
  | s :: l, d => (s.1, some (encK s.2 d.1)) :: encHp l d.2
def decHp : (l : List (Nat × SK)) → List (Nat × Option Chunk) → Option (SHp.D l)
  | [], xs => match xs with | [] => some () | _ => none
  | s :: l, xs => match xs with
    | x :: xs => cond (Nat.beq s.1 x.1) (match decK s.2 x.2, decHp l xs with | some a, some b => some (a, b) | _, _ => none) none
    | [] => none
theorem decHp_ok : ∀ {l : List (Nat × SK)} {xs : List (Nat × Option Chunk)} {d : SHp.D l}, decHp l xs = some d → xs = encHp l d
  | [], xs, d, h => by
    simp only [decHp] at h
    split at h
    case h_2 => cases h
    rfl
  | s :: l, xs, d, h => by
    simp only [decHp] at h
    split at h
    case h_2 => cases h
    rename_i x xs
    cases hk : Nat.beq s.1 x.1
    · rw [hk] at h; cases h
    rw [hk] at h
    simp only [cond_true] at h
    split at h
    case h_2 => cases h
    rename_i a b h1 h2
    injection h with h; subst h
    obtain ⟨m, v⟩ := x
    rw [decHp_ok h2]
    simp only [encHp]
    rw [← decK_ok h1, Nat.eq_of_beq_eq_true hk]
@[reducible] def SVs.D : List SV → Type
  | [] => Unit
  | s :: l => s.D × SVs.D l
def encVs : (l : List SV) → SVs.D l → List Val
  | [], _ => []
  | s :: l, d => encV s d.1 :: encVs l d.2
def decVs : (l : List SV) → List Val → Option (SVs.D l)
  | [], xs => match xs with | [] => some () | _ => none
  | s :: l, xs => match xs with
    | x :: xs => (match decV s x, decVs l xs with | some a, some b => some (a, b) | _, _ => none)
    | [] => none
theorem decVs_ok : ∀ {l : List SV} {xs : List Val} {d : SVs.D l}, decVs l xs = some d → xs = encVs l d
  | [], xs, d, h => by
    simp only [decVs] at h
    split at h
    case h_2 => cases h
    rfl
  | s :: l, xs, d, h => by
    simp only [decVs] at h
    split at h
    case h_2 => cases h
    split at h
    case h_2 => cases h
    rename_i a b h1 h2
    injection h with h; subst h
    rw [decVs_ok h2]
    simp only [encVs]
    rw [← decV_ok h1]
structure Sh where
  tm : List (Nat × SV)
  hp : List (Nat × SK)
  nx : Nat
  pin : List SV
@[reducible] def Sh.D (s : Sh) : Type := STm.D s.tm × SHp.D s.hp × SVs.D s.pin
def encS (s : Sh) (d : s.D) : St := ⟨encTm s.tm d.1, encHp s.hp d.2.1, s.nx, encVs s.pin d.2.2⟩
def decS (s : Sh) (st : St) : Option s.D :=
  cond (Nat.beq s.nx st.nx) (match decTm s.tm st.tm, decHp s.hp st.hp, decVs s.pin st.pin with | some a, some b, some c => some (a, b, c) | _, _, _ => none) none
theorem decS_ok {s : Sh} {st : St} {d : s.D} (h : decS s st = some d) : st = encS s d := by
  obtain ⟨tm, hp, nx, pin⟩ := st
  unfold decS at h
  cases hk : Nat.beq s.nx nx
  · rw [hk] at h; cases h
  rw [hk] at h
  simp only [cond_true] at h
  split at h
  case h_2 => cases h
  rename_i a b c h1 h2 h3
  injection h with h; subst h
  unfold encS
  simp only
  rw [← decTm_ok h1, ← decHp_ok h2, ← decVs_ok h3, Nat.eq_of_beq_eq_true hk]

/-- a loop's stand-in, told by typed values -/
def lconOf (wid : List Wd) (peel : Bool) (s : Sh) (lw : Nat → s.D → (Ex → St → Option R) → Option R) : LCon R :=
  ⟨wid, peel, fun n st K => match decS s st with | some d => lw n d K | none => none⟩
theorem lspec_of {Γ : Nat → Option (Con R)} {N : Nat} {Λ : List (Nat × LCon R)} {ret : Nat} {b : Code} {p m : Nat} {ex : List (Nat × Nat)} {wid : List Wd} {peel : Bool} {s : Sh} {lw : Nat → s.D → (Ex → St → Option R) → Option R}
    (h0 : ∀ d K, lw 0 d K = none)
    (h1 : ∀ n d K, evC P Γ N Λ ret b (2 * p) m ex (encS s d) (fun | .normal, st' => (lconOf wid peel s lw).run n (head m wid st') K | .ret, st' => K .ret (canon ret st') | .exit j, st' => K (.exit j) (canon (exM ex j) st')) = lw (n + 1) d K) :
    LSpec P Γ N Λ ret b p m ex (lconOf wid peel s lw) := by
  intro n st K r hr
  have hr' := hr
  simp only [lconOf] at hr'
  split at hr'
  case h_2 => cases hr'
  rename_i d hd
  cases n with
  | zero => rw [h0] at hr'; cases hr'
  | succ n =>
    refine ⟨n, rfl, ?_⟩
    rw [decS_ok hd]
    exact (h1 n d K).trans hr'
theorem lnone {Λ : List (Nat × LCon R)} {p : Nat} {Q : LCon R → Prop} (h : look Λ p = none) : ∀ L, look Λ p = some L → Q L := fun L hl => by rw [h] at hl; cases hl

/-! ### the loops of a code -/
def subC : Code → List Bool → Code
  | .seq a b, l => match l with | [] => .seq a b | q :: l => cond q (subC b l) (subC a l)
  | .cond c a b, l => match l with | [] => .cond c a b | q :: l => cond q (subC b l) (subC a l)
  | .block id b, l => match l with | [] => .block id b | _ :: l => subC b l
  | .loop b, l => match l with | [] => .loop b | _ :: l => subC b l
  | .scope b, l => match l with | [] => .scope b | _ :: l => subC b l
  | c, _ => c
structure LQ where
  p : Nat
  b : Code
  m : Nat
  ex : List (Nat × Nat)
def loopsOf (ret : Nat) : Code → Nat → Nat → List (Nat × Nat) → List LQ
  | .seq a b, p, out, ex => loopsOf ret a (2 * p) (liveC ret b out ex) ex ++ loopsOf ret b (2 * p + 1) out ex
  | .cond _ x y, p, out, ex => loopsOf ret x (2 * p) out ex ++ loopsOf ret y (2 * p + 1) out ex
  | .block id b, p, out, ex => loopsOf ret b (2 * p) out ((id, out) :: ex)
  | .loop b, p, _, ex => loopsOf ret b (2 * p) (liveC ret b (liveC ret b (liveC ret b 0 ex) ex) ex) ex ++ [⟨p, b, liveC ret b (liveC ret b (liveC ret b 0 ex) ex) ex, ex⟩]
  | .scope b, p, out, ex => loopsOf ret b (2 * p) out ex
  | _, _, _, _ => []
def AllQ (Q : LQ → Prop) : List LQ → Prop
  | [] => True
  | x :: l => Q x ∧ AllQ Q l
theorem AllQ.app {Q : LQ → Prop} : ∀ {l m : List LQ}, AllQ Q (l ++ m) → AllQ Q l ∧ AllQ Q m
  | [], _, h => ⟨trivial, h⟩
  | _ :: _, _, h => ⟨⟨h.1, (AllQ.app h.2).1⟩, (AllQ.app h.2).2⟩
theorem lok_of {Γ : Nat → Option (Con R)} {N : Nat} {Λ : List (Nat × LCon R)} {ret : Nat} : ∀ {c : Code} {p out : Nat} {ex : List (Nat × Nat)},
    AllQ (fun q => ∀ L, look Λ q.p = some L → LSpec P Γ N Λ ret q.b q.p q.m q.ex L) (loopsOf ret c p out ex) → LOk P Γ N Λ ret c p out ex
  | .seq a b, _, _, _, h => ⟨lok_of (AllQ.app h).1, lok_of (AllQ.app h).2⟩
  | .cond _ a b, _, _, _, h => ⟨lok_of (AllQ.app h).1, lok_of (AllQ.app h).2⟩
  | .block _ b, _, _, _, h => lok_of (c := b) h
  | .loop b, _, _, _, h => ⟨lok_of (c := b) (AllQ.app h).1, (AllQ.app h).2.1⟩
  | .scope b, _, _, _, h => lok_of (c := b) h
  | .region _ _ _, _, _, _, _ | .skip, _, _, _, _ | .ret, _, _, _, _ | .exit _, _, _, _, _ | .label _, _, _, _, _ | .goto _, _, _, _, _ | .rangeFunc .., _, _, _, _ | .refuse _, _, _, _, _ => trivial
theorem lsome {Λ : List (Nat × LCon R)} {p : Nat} {L0 : LCon R} {Q : LCon R → Prop} (h : look Λ p = some L0) (hq : Q L0) : ∀ L, look Λ p = some L → Q L := fun L hl => by
  rw [h] at hl; injection hl with hl; subst hl; exact hq

/-- a function's contract out of its equation -/
theorem snd_eq {Γ : List (Nat × Con R)} (hΓ : ∀ p ∈ Γ, Snd P p.1 p.2) (hm : P.follows .mixedOrders = true) {f : FuncId} {fn : Func} {c : Code} (hf : P.funcs[f]? = some fn) (hb : fn.body = some c) (hn : (fn.name == "runtime.NumGoroutine") = false)
    (hd : dstOk fn.ntmps c = true) {N : Nat} {Λ : List (Nat × LCon R)} {qs : List LQ} (hq : loopsOf (retMask fn) c 1 (retMask fn) [] = qs)
    (hL : AllQ (fun q => ∀ L, look Λ q.p = some L → LSpec P (look Γ) N Λ (retMask fn) q.b q.p q.m q.ex L) qs)
    {ms : List Md} {l : List AM} {t : AMs.D l → (List Val → List Val → Option R) → Option R} (he : ∀ d k, evF P (look Γ) N Λ fn (encAs l d (canAs l 0)) k = t d k) : Snd P f (conOf ms l t) := by
  refine snd_of (enters_of hf (by rw [hb]; rfl) hn) fun d k r hr => ?_
  rw [← he] at hr
  exact evF_ok (snd_nil hΓ) hm hf hb hd (lok_of (by rw [hq]; exact hL)) hr
def AllG (P : Program) : List (Nat × Con R) → Prop
  | [] => True
  | p :: l => Snd P p.1 p.2 ∧ AllG P l
theorem allG : ∀ {Γ : List (Nat × Con R)}, AllG P Γ → ∀ p ∈ Γ, Snd P p.1 p.2
  | [], _, p, hp => by cases hp
  | x :: l, h, p, hp => by
    rcases List.mem_cons.1 hp with rfl | hp
    · exact h.1
    · exact allG h.2 p hp

/-! ### functions that ask whether a slice is nil -/
theorem snd_split {Γ : List (Nat × Con R)} (hΓ : ∀ p ∈ Γ, Snd P p.1 p.2) (hm : P.follows .mixedOrders = true) {f : FuncId} {fn : Func} {c : Code} (hf : P.funcs[f]? = some fn) (hb : fn.body = some c) (hn : (fn.name == "runtime.NumGoroutine") = false)
    (hd : dstOk fn.ntmps c = true) {N : Nat} {Λ : List (Nat × LCon R)} {qs : List LQ} (hq : loopsOf (retMask fn) c 1 (retMask fn) [] = qs)
    (hL : AllQ (fun q => ∀ L, look Λ q.p = some L → LSpec P (look Γ) N Λ (retMask fn) q.b q.p q.m q.ex L) qs)
    {e : TypeId} {t : Ty} {good : List t.D → Bool} {res : List t.D → List Val}
    (h0 : ∀ k : List Val → List Val → Option R, evF P (look Γ) N Λ fn [.c .nil] k = cond (good []) (k (res []) []) none)
    (h1 : ∀ xs (k : List Val → List Val → Option R), evF P (look Γ) N Λ fn [.c (.rn 0 t e xs)] k = cond (good xs) (k (res xs) []) none) :
    Snd P f (conOf (R := R) [.rd] [.v (.ro e t)] (fun d k => cond (good d.1) (k (res d.1) []) none)) := by
  classical
  have hL := lok_of (by rw [hq]; exact hL)
  refine snd_of (enters_of hf (by rw [hb]; rfl) hn) fun d k r hr => ?_
  obtain ⟨xs, d0⟩ := d
  have hr : cond (good xs) (k (res xs) []) none = some r := hr
  cases hg : good xs with
  | false => rw [hg] at hr; cases hr
  | true =>
    rw [hg] at hr
    refine ⟨res xs, [], hr, fun X av fs ha hfn hfs => ?_⟩
    have base : ∀ (vs : List Val), (∀ k : List Val → List Val → Option R, evF P (look Γ) N Λ fn vs k = k (res xs) []) → CallOk P f vs (res xs) [] := fun vs hv => by
      obtain ⟨ro, oo, e1, e2⟩ := evF_ok (snd_nil hΓ) hm hf hb hd hL (k := fun a b => cond (decide (a = res xs ∧ b = [])) (some r) none) (r := r) (args := vs) (by
        rw [hv]; simp)
      have : ro = res xs ∧ oo = [] := by
        by_cases hh : ro = res xs ∧ oo = []
        · exact hh
        · simp [hh] at e1
      rw [this.1, this.2] at e2
      exact e2
    generalize hvs : encAs [.v (.ro e t)] (xs, d0) (canAs [.v (.ro e t)] 0) = vs at ha
    have hvs : vs = [.c (.ro 0 t e xs)] := hvs.symm
    subst hvs
    generalize hfs0 : fs = fs0 at ha
    cases ha with
    | @cons _ v f1 _ _ f2 hx ht =>
      cases ht
      have hx' : f1 = [] ∧ RdS X.w0 (X.Z 0) t.n (RdC X.w0 (X.Z 0) t) xs v := hx
      obtain ⟨rfl, hx'⟩ := hx'
      subst hfs0
      rcases hx' with ⟨hv, rfl⟩ | ⟨a, cap, hv, hrest⟩
      · exact base [.c .nil] (fun k => by rw [h0, hg]; rfl) X [v] _ (.cons (f := []) (g := []) ⟨rfl, hv⟩ .nil) hfn hfs
      · exact base [.c (.rn 0 t e xs)] (fun k => by rw [h1, hg]; rfl) X [v] _ (.cons (f := []) (g := []) ⟨rfl, a, cap, hv, .inr ⟨a, cap, hv, hrest⟩⟩ .nil) hfn hfs

/-! ### a law's row -/
def MTy.rdOnly : MTy → Bool
  | .pr a b => a.rdOnly && b.rdOnly
  | .ow _ _ => false
  | .ob _ _ => false
  | .mv _ _ => false
  | _ => true
theorem rd_cells {W : World} {w : World} : ∀ {m : MTy} {x : m.ty.D} {z : m.Zs} {us : List Value}, m.rdOnly = true → RdC W (fun b => b < W.heap.size) m.ty x us → OCs (rowX W) w (cellsM m x z) us []
  | .int _, _, _, _, _, h | .bool, _, _, _, _, h | .str, _, _, _, _, h => by rw [show _ = _ from h]; exact .cons (f := []) (g := []) ⟨rfl, rfl⟩ .nil
  | .unit, _, _, us, _, h => by have h : us = [] := h; subst h; exact .nil
  | .pr p q, _, _, _, hr, ⟨u1, u2, e, h1, h2⟩ => by
    simp only [MTy.rdOnly, Bool.and_eq_true] at hr
    subst e
    exact (rd_cells hr.1 h1).append (rd_cells hr.2 h2)
  | .ro _ _, _, _, _, _, ⟨v, e, h⟩ => by subst e; exact .cons (f := []) (g := []) ⟨rfl, h⟩ .nil
  | .ow _ _, _, _, _, h, _ | .ob _ _, _, _, _, h, _ | .mv _ _, _, _, _, h, _ => by cases h
theorem arg_a {W : World} {m : MTy} {x : m.ty.D} {z : m.Zs} {cs : Array Value} (hr : m.rdOnly = true) (h : RdC W (fun b => b < W.heap.size) m.ty x cs.toList) : ArgR (rowX W) W (encA (.a m) x z) (.agg cs) [] :=
  ⟨cs, rfl, rd_cells hr h⟩
theorem arg_v {W : World} {m : MTy} {x : m.ty.D} {z : m.Zs} {v : Value} (hr : m.rdOnly = true) (h : RdC W (fun b => b < W.heap.size) m.ty x [v]) : ArgR (rowX W) W (encA (.v m) x z) v [] := by
  have := rd_cells (w := W) (z := z) hr h
  have hl := this.len
  obtain ⟨y, hy⟩ := List.length_eq_one_iff.1 hl
  show OC (rowX W) W (one (cellsM m x z)) v []
  rw [hy] at this ⊢
  generalize hg : ([] : List Nat) = g at this
  cases this with
  | @cons _ _ f1 _ _ f2 hx ht =>
    cases ht
    rw [List.append_nil] at hg
    subst hg; exact hx
theorem law_eq {W : World} {Γ : List (Nat × Con (List Val × List Val))} (hΓ : ∀ p ∈ Γ, Snd P p.1 p.2) (hm : P.follows .mixedOrders = true) {f : FuncId} {fn : Func} {c : Code} (hf : P.funcs[f]? = some fn) (hb : fn.body = some c) (hd : dstOk fn.ntmps c = true)
    {N : Nat} {Λ : List (Nat × LCon (List Val × List Val))} {qs : List LQ} (hq : loopsOf (retMask fn) c 1 (retMask fn) [] = qs)
    (hL : AllQ (fun q => ∀ L, look Λ q.p = some L → LSpec P (look Γ) N Λ (retMask fn) q.b q.p q.m q.ex L) qs)
    {l : List AM} {d : AMs.D l} {av : List Value} (ha : ArgsR (rowX W) W (encAs l d (canAs l 0)) av [])
    (hr : evF P (look Γ) N Λ fn (encAs l d (canAs l 0)) (fun r o => some (r, o)) = some ([.c (.bo true)], [])) :
    Calls P f av.toArray W fun e w' => e = .returned (.bool true) ∧ Below W.heap.size W w' :=
  law_ok (snd_nil hΓ) hm hf hb hd (lok_of (by rw [hq]; exact hL)) ha hr
end

end Go.Proofs.YthpklbpdchckkaaEv
