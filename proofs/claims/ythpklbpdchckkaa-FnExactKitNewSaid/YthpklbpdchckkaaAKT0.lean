/- Typed twins of the program's functions, and that they answer as the functions do. It states nothing by itself. -/
import Derived.Test.YthpklbpdchckkaaAKT
namespace Go.Proofs.YthpklbpdchckkaaT
open Go.Proofs Go.Proofs.YthpklbpdchckkaaEv
set_option maxRecDepth 100000
set_option linter.unusedVariables false
/-- spec.KitNew -/
noncomputable def spec_KitNew {R : Type} (N : Nat) (k : DPlan → Option R) : Option R :=
  k ([(1, [])], 0, 1, 100)
abbrev a7 : List AM := []
noncomputable def u7 {R : Type} (N : Nat) (d : AMs.D a7) (k : List Val → List Val → Option R) : Option R := spec_KitNew N (fun r0 => k [.agg [.own YShape 77 r0.1, .nu .i64 r0.2.1, .nu .i64 r0.2.2.1, .nu .i64 r0.2.2.2]] [])
noncomputable def c7 {R : Type} (N : Nat) : Con R := conOf [] a7 (u7 N)
noncomputable def g7 {R : Type} (N : Nat) : List (Nat × Con R) := []
noncomputable def L7 {R : Type} (N : Nat) : List (Nat × LCon R) := []
theorem e7 {R : Type} (N : Nat) (d : AMs.D a7) (k : List Val → List Val → Option R) : evF Try.prog (gam (g7 N)) N (L7 N) Try.f7 (encAs a7 d (canAs a7 0)) k = u7 N d k := by kernel_rfl
theorem s7 {R : Type} (N : Nat) : Snd Try.prog 7 (c7 N : Con R) :=
  snd_eq (Γ := g7 N) (allG trivial) mixed Try.func7 (c := (Try.f7.body.get rfl)) rfl (by kernel_rfl) (by kernel_rfl) (Λ := L7 N) (qs := []) (by kernel_rfl) trivial (e7 N)
/-- impl.KitNew -/
noncomputable def impl_KitNew {R : Type} (N : Nat) (k : DPlan → Option R) : Option R :=
  k ([(1, [])], 0, 1, 100)
abbrev a8 : List AM := []
noncomputable def u8 {R : Type} (N : Nat) (d : AMs.D a8) (k : List Val → List Val → Option R) : Option R := impl_KitNew N (fun r0 => k [.agg [.own YShape 77 r0.1, .nu .i64 r0.2.1, .nu .i64 r0.2.2.1, .nu .i64 r0.2.2.2]] [])
noncomputable def c8 {R : Type} (N : Nat) : Con R := conOf [] a8 (u8 N)
noncomputable def g8 {R : Type} (N : Nat) : List (Nat × Con R) := []
noncomputable def L8 {R : Type} (N : Nat) : List (Nat × LCon R) := []
theorem e8 {R : Type} (N : Nat) (d : AMs.D a8) (k : List Val → List Val → Option R) : evF Try.prog (gam (g8 N)) N (L8 N) Try.f8 (encAs a8 d (canAs a8 0)) k = u8 N d k := by kernel_rfl
theorem s8 {R : Type} (N : Nat) : Snd Try.prog 8 (c8 N : Con R) :=
  snd_eq (Γ := g8 N) (allG trivial) mixed Try.func8 (c := (Try.f8.body.get rfl)) rfl (by kernel_rfl) (by kernel_rfl) (Λ := L8 N) (qs := []) (by kernel_rfl) trivial (e8 N)
/-- laws.eqField -/
noncomputable def laws_eqField {R : Type} (N : Nat) (a : DField) (b : DField) (k : Bool → Option R) : Option R :=
  cond (!(decide (a.1 = b.1)))
    (k false)
    (cond (!(decide (a.2.1 = b.2.1)))
      (k false)
      (cond (!(a.2.2.1 == b.2.2.1))
        (k false)
        (cond (!(a.2.2.2.1 == b.2.2.2.1))
          (k false)
          (cond (!(decide (a.2.2.2.2 = b.2.2.2.2)))
            (k false)
            (k true)))))
abbrev a111 : List AM := [.a (.pr (.int .i64) (.pr (.int .i64) (.pr .bool (.pr .bool (.int .i64))))), .a (.pr (.int .i64) (.pr (.int .i64) (.pr .bool (.pr .bool (.int .i64)))))]
noncomputable def u111 {R : Type} (N : Nat) (d : AMs.D a111) (k : List Val → List Val → Option R) : Option R := laws_eqField N d.1 d.2.1 (fun r0 => k [.c (.bo r0)] [])
noncomputable def c111 {R : Type} (N : Nat) : Con R := conOf [.rd, .rd] a111 (u111 N)
noncomputable def g111 {R : Type} (N : Nat) : List (Nat × Con R) := []
noncomputable def L111 {R : Type} (N : Nat) : List (Nat × LCon R) := []
theorem e111 {R : Type} (N : Nat) (d : AMs.D a111) (k : List Val → List Val → Option R) : evF Try.prog (gam (g111 N)) N (L111 N) Try.f111 (encAs a111 d (canAs a111 0)) k = u111 N d k := by kernel_rfl
theorem s111 {R : Type} (N : Nat) : Snd Try.prog 111 (c111 N : Con R) :=
  snd_eq (Γ := g111 N) (allG trivial) mixed Try.func111 (c := (Try.f111.body.get rfl)) rfl (by kernel_rfl) (by kernel_rfl) (Λ := L111 N) (qs := []) (by kernel_rfl) trivial (e111 N)
/-- laws.eqFieldS, the loop 58 -/
noncomputable def laws_eqFieldS_l0 {R : Type} (N : Nat) : Nat → List DField → List DField → Int → (Bool → Option R) → Option R → Option R
  | 0, _, _, _, _, _ => none
  | n + 1, a1, b1, i, x0_, x1_ =>
    cond (decide (i < (a1.length : Int)))
      (cond (idxE a1.length i)
        (cond (idxE b1.length i)
          (laws_eqField N (a1.getD i.toNat YField.z) (b1.getD i.toNat YField.z) fun r =>
            cond (!r)
              (x0_ false)
              (laws_eqFieldS_l0 N n a1 b1 (w64 (i + 1)) x0_ x1_))
          none)
        none)
      x1_
/-- laws.eqFieldS -/
noncomputable def laws_eqFieldS {R : Type} (N : Nat) (a : List DField) (b : List DField) (k : Bool → Option R) : Option R :=
  cond (!(decide ((a.length : Int) = (b.length : Int))))
    (k false)
    (laws_eqFieldS_l0 N N a b 0
      (fun v =>
        k v)
      (k true))
abbrev a109 : List AM := [.v (.ro 128 YField), .v (.ro 128 YField)]
noncomputable def u109 {R : Type} (N : Nat) (d : AMs.D a109) (k : List Val → List Val → Option R) : Option R := laws_eqFieldS N d.1 d.2.1 (fun r0 => k [.c (.bo r0)] [])
noncomputable def c109 {R : Type} (N : Nat) : Con R := conOf [.rd, .rd] a109 (u109 N)
noncomputable def g109 {R : Type} (N : Nat) : List (Nat × Con R) := [(111, c111 N)]
abbrev h109_58 : Sh := ⟨[(0, .c (.ro 0 128 YField)), (1, .c (.ro 1 128 YField)), (5, .c (.nu .i64))], [], 0, []⟩
noncomputable def l109_58 {R : Type} (N : Nat) : LCon R := lconOf [] false h109_58 fun n d K => laws_eqFieldS_l0 N n d.1.1 d.1.2.1 d.1.2.2.1 (fun y0 => K .ret ⟨[(4, .c (.bo y0))], [], 0, []⟩) (K (.exit 0) ⟨[], [], 0, []⟩)
noncomputable def L109 {R : Type} (N : Nat) : List (Nat × LCon R) := [(58, l109_58 N)]
theorem q109_58 {R : Type} (N : Nat) : LSpec Try.prog (gam (g109 N)) N (L109 N) 16 (subC (Try.f109.body.get rfl) [true, true, false, true, false, false]) 58 35 [(0, 0)] (l109_58 N : LCon R) :=
  lspec_of (fun d K => rfl) (fun n d K => by kernel_rfl)
theorem e109 {R : Type} (N : Nat) (d : AMs.D a109) (k : List Val → List Val → Option R) : evF Try.prog (gam (g109 N)) N (L109 N) Try.f109 (encAs a109 d (canAs a109 0)) k = u109 N d k := by kernel_rfl
theorem s109 {R : Type} (N : Nat) : Snd Try.prog 109 (c109 N : Con R) :=
  snd_eq (Γ := g109 N) (allG ⟨s111 N, trivial⟩) mixed Try.func109 (c := (Try.f109.body.get rfl)) rfl (by kernel_rfl) (by kernel_rfl) (Λ := L109 N) (qs := [⟨58, subC (Try.f109.body.get rfl) [true, true, false, true, false, false], 35, [(0, 0)]⟩]) (by kernel_rfl) ⟨lsome rfl (q109_58 N), trivial⟩ (e109 N)
/-- laws.eqShape -/
noncomputable def laws_eqShape {R : Type} (N : Nat) (a : DShape) (b : DShape) (k : Bool → Option R) : Option R :=
  cond (!(decide (a.1 = b.1)))
    (k false)
    (laws_eqFieldS N a.2 b.2 fun r =>
      cond (!r)
        (k false)
        (k true))
abbrev a98 : List AM := [.a (.pr (.int .i64) (.ro 128 YField)), .a (.pr (.int .i64) (.ro 128 YField))]
noncomputable def u98 {R : Type} (N : Nat) (d : AMs.D a98) (k : List Val → List Val → Option R) : Option R := laws_eqShape N d.1 d.2.1 (fun r0 => k [.c (.bo r0)] [])
noncomputable def c98 {R : Type} (N : Nat) : Con R := conOf [.rd, .rd] a98 (u98 N)
noncomputable def g98 {R : Type} (N : Nat) : List (Nat × Con R) := [(109, c109 N)]
noncomputable def L98 {R : Type} (N : Nat) : List (Nat × LCon R) := []
theorem e98 {R : Type} (N : Nat) (d : AMs.D a98) (k : List Val → List Val → Option R) : evF Try.prog (gam (g98 N)) N (L98 N) Try.f98 (encAs a98 d (canAs a98 0)) k = u98 N d k := by kernel_rfl
theorem s98 {R : Type} (N : Nat) : Snd Try.prog 98 (c98 N : Con R) :=
  snd_eq (Γ := g98 N) (allG ⟨s109 N, trivial⟩) mixed Try.func98 (c := (Try.f98.body.get rfl)) rfl (by kernel_rfl) (by kernel_rfl) (Λ := L98 N) (qs := []) (by kernel_rfl) trivial (e98 N)
/-- laws.eqShapeS, the loop 58 -/
noncomputable def laws_eqShapeS_l0 {R : Type} (N : Nat) : Nat → List DShape → List DShape → Int → (Bool → Option R) → Option R → Option R
  | 0, _, _, _, _, _ => none
  | n + 1, a1, b1, i, x0_, x1_ =>
    cond (decide (i < (a1.length : Int)))
      (cond (idxE a1.length i)
        (cond (idxE b1.length i)
          (laws_eqShape N (a1.getD i.toNat YShape.z) (b1.getD i.toNat YShape.z) fun r =>
            cond (!r)
              (x0_ false)
              (laws_eqShapeS_l0 N n a1 b1 (w64 (i + 1)) x0_ x1_))
          none)
        none)
      x1_
/-- laws.eqShapeS -/
noncomputable def laws_eqShapeS {R : Type} (N : Nat) (a : List DShape) (b : List DShape) (k : Bool → Option R) : Option R :=
  cond (!(decide ((a.length : Int) = (b.length : Int))))
    (k false)
    (laws_eqShapeS_l0 N N a b 0
      (fun v =>
        k v)
      (k true))
abbrev a85 : List AM := [.v (.ro 77 YShape), .v (.ro 77 YShape)]
noncomputable def u85 {R : Type} (N : Nat) (d : AMs.D a85) (k : List Val → List Val → Option R) : Option R := laws_eqShapeS N d.1 d.2.1 (fun r0 => k [.c (.bo r0)] [])
noncomputable def c85 {R : Type} (N : Nat) : Con R := conOf [.rd, .rd] a85 (u85 N)
noncomputable def g85 {R : Type} (N : Nat) : List (Nat × Con R) := [(98, c98 N)]
abbrev h85_58 : Sh := ⟨[(0, .c (.ro 0 77 YShape)), (1, .c (.ro 1 77 YShape)), (5, .c (.nu .i64))], [], 0, []⟩
noncomputable def l85_58 {R : Type} (N : Nat) : LCon R := lconOf [] false h85_58 fun n d K => laws_eqShapeS_l0 N n d.1.1 d.1.2.1 d.1.2.2.1 (fun y0 => K .ret ⟨[(4, .c (.bo y0))], [], 0, []⟩) (K (.exit 0) ⟨[], [], 0, []⟩)
noncomputable def L85 {R : Type} (N : Nat) : List (Nat × LCon R) := [(58, l85_58 N)]
theorem q85_58 {R : Type} (N : Nat) : LSpec Try.prog (gam (g85 N)) N (L85 N) 16 (subC (Try.f85.body.get rfl) [true, true, false, true, false, false]) 58 35 [(0, 0)] (l85_58 N : LCon R) :=
  lspec_of (fun d K => rfl) (fun n d K => by kernel_rfl)
theorem e85 {R : Type} (N : Nat) (d : AMs.D a85) (k : List Val → List Val → Option R) : evF Try.prog (gam (g85 N)) N (L85 N) Try.f85 (encAs a85 d (canAs a85 0)) k = u85 N d k := by kernel_rfl
theorem s85 {R : Type} (N : Nat) : Snd Try.prog 85 (c85 N : Con R) :=
  snd_eq (Γ := g85 N) (allG ⟨s98 N, trivial⟩) mixed Try.func85 (c := (Try.f85.body.get rfl)) rfl (by kernel_rfl) (by kernel_rfl) (Λ := L85 N) (qs := [⟨58, subC (Try.f85.body.get rfl) [true, true, false, true, false, false], 35, [(0, 0)]⟩]) (by kernel_rfl) ⟨lsome rfl (q85_58 N), trivial⟩ (e85 N)
/-- laws.eqSchema -/
noncomputable def laws_eqSchema {R : Type} (N : Nat) (a : List DShape) (b : List DShape) (k : Bool → Option R) : Option R :=
  laws_eqShapeS N a b fun r =>
    cond (!r)
      (k false)
      (k true)
abbrev a64 : List AM := [.a (.ro 77 YShape), .a (.ro 77 YShape)]
noncomputable def u64 {R : Type} (N : Nat) (d : AMs.D a64) (k : List Val → List Val → Option R) : Option R := laws_eqSchema N d.1 d.2.1 (fun r0 => k [.c (.bo r0)] [])
noncomputable def c64 {R : Type} (N : Nat) : Con R := conOf [.rd, .rd] a64 (u64 N)
noncomputable def g64 {R : Type} (N : Nat) : List (Nat × Con R) := [(85, c85 N)]
noncomputable def L64 {R : Type} (N : Nat) : List (Nat × LCon R) := []
theorem e64 {R : Type} (N : Nat) (d : AMs.D a64) (k : List Val → List Val → Option R) : evF Try.prog (gam (g64 N)) N (L64 N) Try.f64 (encAs a64 d (canAs a64 0)) k = u64 N d k := by kernel_rfl
theorem s64 {R : Type} (N : Nat) : Snd Try.prog 64 (c64 N : Con R) :=
  snd_eq (Γ := g64 N) (allG ⟨s85 N, trivial⟩) mixed Try.func64 (c := (Try.f64.body.get rfl)) rfl (by kernel_rfl) (by kernel_rfl) (Λ := L64 N) (qs := []) (by kernel_rfl) trivial (e64 N)
/-- laws.eqPlan -/
noncomputable def laws_eqPlan {R : Type} (N : Nat) (a : DPlan) (b : DPlan) (k : Bool → Option R) : Option R :=
  laws_eqSchema N a.1 b.1 fun r =>
    cond (!r)
      (k false)
      (cond (!(decide (a.2.1 = b.2.1)))
        (k false)
        (cond (!(decide (a.2.2.1 = b.2.2.1)))
          (k false)
          (cond (!(decide (a.2.2.2 = b.2.2.2)))
            (k false)
            (k true))))
abbrev a31 : List AM := [.a (.pr (.ro 77 YShape) (.pr (.int .i64) (.pr (.int .i64) (.int .i64)))), .a (.pr (.ro 77 YShape) (.pr (.int .i64) (.pr (.int .i64) (.int .i64))))]
noncomputable def u31 {R : Type} (N : Nat) (d : AMs.D a31) (k : List Val → List Val → Option R) : Option R := laws_eqPlan N d.1 d.2.1 (fun r0 => k [.c (.bo r0)] [])
noncomputable def c31 {R : Type} (N : Nat) : Con R := conOf [.rd, .rd] a31 (u31 N)
noncomputable def g31 {R : Type} (N : Nat) : List (Nat × Con R) := [(64, c64 N)]
noncomputable def L31 {R : Type} (N : Nat) : List (Nat × LCon R) := []
theorem e31 {R : Type} (N : Nat) (d : AMs.D a31) (k : List Val → List Val → Option R) : evF Try.prog (gam (g31 N)) N (L31 N) Try.f31 (encAs a31 d (canAs a31 0)) k = u31 N d k := by kernel_rfl
theorem s31 {R : Type} (N : Nat) : Snd Try.prog 31 (c31 N : Con R) :=
  snd_eq (Γ := g31 N) (allG ⟨s64 N, trivial⟩) mixed Try.func31 (c := (Try.f31.body.get rfl)) rfl (by kernel_rfl) (by kernel_rfl) (Λ := L31 N) (qs := []) (by kernel_rfl) trivial (e31 N)
/-- laws.eqKit -/
noncomputable def laws_eqKit {R : Type} (N : Nat) (a : DPlan) (b : DPlan) (k : Bool → Option R) : Option R :=
  laws_eqPlan N a b fun r =>
    cond (!r)
      (k false)
      (k true)
abbrev a9 : List AM := [.a (.pr (.ro 77 YShape) (.pr (.int .i64) (.pr (.int .i64) (.int .i64)))), .a (.pr (.ro 77 YShape) (.pr (.int .i64) (.pr (.int .i64) (.int .i64))))]
noncomputable def u9 {R : Type} (N : Nat) (d : AMs.D a9) (k : List Val → List Val → Option R) : Option R := laws_eqKit N d.1 d.2.1 (fun r0 => k [.c (.bo r0)] [])
noncomputable def c9 {R : Type} (N : Nat) : Con R := conOf [.rd, .rd] a9 (u9 N)
noncomputable def g9 {R : Type} (N : Nat) : List (Nat × Con R) := [(31, c31 N)]
noncomputable def L9 {R : Type} (N : Nat) : List (Nat × LCon R) := []
theorem e9 {R : Type} (N : Nat) (d : AMs.D a9) (k : List Val → List Val → Option R) : evF Try.prog (gam (g9 N)) N (L9 N) Try.f9 (encAs a9 d (canAs a9 0)) k = u9 N d k := by kernel_rfl
theorem s9 {R : Type} (N : Nat) : Snd Try.prog 9 (c9 N : Con R) :=
  snd_eq (Γ := g9 N) (allG ⟨s31 N, trivial⟩) mixed Try.func9 (c := (Try.f9.body.get rfl)) rfl (by kernel_rfl) (by kernel_rfl) (Λ := L9 N) (qs := []) (by kernel_rfl) trivial (e9 N)
/-- laws.markFieldS, the loop 26 -/
noncomputable def laws_markFieldS_l0 {R : Type} (N : Nat) : Nat → Int → Int → List DField → (Int → List DField → Option R) → Option R
  | 0, _, _, _, _ => none
  | n + 1, k_1, i, xs, x0_ =>
    cond (decide (i < (xs.length : Int)))
      (cond (idxE xs.length i)
        (cond (idxE ((xs.set i.toNat (k_1, (xs.getD i.toNat YField.z).2)).length) i)
          (let xs1 : List DField := (xs.set i.toNat (k_1, (xs.getD i.toNat YField.z).2)).set i.toNat (((xs.set i.toNat (k_1, (xs.getD i.toNat YField.z).2)).getD i.toNat YField.z).1, w64 (k_1 + 1), (((xs.set i.toNat (k_1, (xs.getD i.toNat YField.z).2)).getD i.toNat YField.z).2).2)
          cond (idxE xs1.length i)
            (let xs2 : List DField := xs1.set i.toNat ((xs1.getD i.toNat YField.z).1, ((xs1.getD i.toNat YField.z).2).1, decide (((w64 ((w64 (k_1 + 1)) + 1)).tmod 3) = 0), (((xs1.getD i.toNat YField.z).2).2).2)
            cond (idxE xs2.length i)
              (let xs3 : List DField := xs2.set i.toNat ((xs2.getD i.toNat YField.z).1, ((xs2.getD i.toNat YField.z).2).1, (((xs2.getD i.toNat YField.z).2).2).1, decide (((w64 ((w64 ((w64 (k_1 + 1)) + 1)) + 1)).tmod 3) = 0), ((((xs2.getD i.toNat YField.z).2).2).2).2)
              cond (idxE xs3.length i)
                (let xs4 : List DField := xs3.set i.toNat ((xs3.getD i.toNat YField.z).1, ((xs3.getD i.toNat YField.z).2).1, (((xs3.getD i.toNat YField.z).2).2).1, ((((xs3.getD i.toNat YField.z).2).2).2).1, w64 ((w64 ((w64 ((w64 (k_1 + 1)) + 1)) + 1)) + 1))
                laws_markFieldS_l0 N n (w64 ((w64 ((w64 ((w64 ((w64 (k_1 + 1)) + 1)) + 1)) + 1)) + 1)) (w64 (i + 1)) xs4 x0_)
                none)
              none)
            none)
          none)
        none)
      (x0_ k_1 xs)
/-- laws.markFieldS -/
noncomputable def laws_markFieldS {R : Type} (N : Nat) (a : List DField) (k_ : Int) (k : Int → List DField → Option R) : Option R :=
  laws_markFieldS_l0 N N k_ 0 a
    (fun k_2 xs5 =>
      k k_2 xs5)
abbrev a99 : List AM := [.v (.ow 128 YField), .v (.int .i64)]
noncomputable def u99 {R : Type} (N : Nat) (d : AMs.D a99) (k : List Val → List Val → Option R) : Option R := laws_markFieldS N d.1 d.2.1 (fun r0 o0 => k [.c (.nu .i64 r0)] [.c (.own YField 128 o0)])
noncomputable def c99 {R : Type} (N : Nat) : Con R := conOf [.bk, .rd] a99 (u99 N)
noncomputable def g99 {R : Type} (N : Nat) : List (Nat × Con R) := []
abbrev h99_26 : Sh := ⟨[(0, .c (.slw 0)), (1, .c (.nu .i64)), (5, .c (.nu .i64))], [(0, .rows YField 128)], 1, [.c (.slw 0)]⟩
noncomputable def l99_26 {R : Type} (N : Nat) : LCon R := lconOf [] false h99_26 fun n d K => laws_markFieldS_l0 N n d.1.2.1 d.1.2.2.1 d.2.1.1 (fun y0 y1 => K (.exit 0) ⟨[(1, .c (.nu .i64 y0))], [(0, some (.rows YField 128 y1))], 1, [.c (.slw 0)]⟩)
noncomputable def L99 {R : Type} (N : Nat) : List (Nat × LCon R) := [(26, l99_26 N)]
theorem q99_26 {R : Type} (N : Nat) : LSpec Try.prog (gam (g99 N)) N (L99 N) 16 (subC (Try.f99.body.get rfl) [true, false, true, false, false]) 26 35 [(0, 2)] (l99_26 N : LCon R) :=
  lspec_of (fun d K => rfl) (fun n d K => by kernel_rfl)
theorem e99 {R : Type} (N : Nat) (d : AMs.D a99) (k : List Val → List Val → Option R) : evF Try.prog (gam (g99 N)) N (L99 N) Try.f99 (encAs a99 d (canAs a99 0)) k = u99 N d k := by kernel_rfl
theorem s99 {R : Type} (N : Nat) : Snd Try.prog 99 (c99 N : Con R) :=
  snd_eq (Γ := g99 N) (allG trivial) mixed Try.func99 (c := (Try.f99.body.get rfl)) rfl (by kernel_rfl) (by kernel_rfl) (Λ := L99 N) (qs := [⟨26, subC (Try.f99.body.get rfl) [true, false, true, false, false], 35, [(0, 2)]⟩]) (by kernel_rfl) ⟨lsome rfl (q99_26 N), trivial⟩ (e99 N)
/-- laws.markShapeS, the loop 26 -/
noncomputable def laws_markShapeS_l0 {R : Type} (N : Nat) : Nat → Int → Int → List DShape → (Int → List DShape → Option R) → Option R
  | 0, _, _, _, _ => none
  | n + 1, k_1, i, xs, x0_ =>
    cond (decide (i < (xs.length : Int)))
      (cond (idxE xs.length i)
        (cond (idxE ((xs.set i.toNat (k_1, (xs.getD i.toNat YShape.z).2)).length) i)
          (laws_markFieldS N (((xs.set i.toNat (k_1, (xs.getD i.toNat YShape.z).2)).getD i.toNat YShape.z).2) (w64 (k_1 + 1)) fun r o =>
            laws_markShapeS_l0 N n r (w64 (i + 1)) ((xs.set i.toNat (k_1, (xs.getD i.toNat YShape.z).2)).set i.toNat (((xs.set i.toNat (k_1, (xs.getD i.toNat YShape.z).2)).getD i.toNat YShape.z).1, o)) x0_)
          none)
        none)
      (x0_ k_1 xs)
/-- laws.markShapeS -/
noncomputable def laws_markShapeS {R : Type} (N : Nat) (a : List DShape) (k_ : Int) (k : Int → List DShape → Option R) : Option R :=
  laws_markShapeS_l0 N N k_ 0 a
    (fun k_2 xs1 =>
      k k_2 xs1)
abbrev a86 : List AM := [.v (.ow 77 YShape), .v (.int .i64)]
noncomputable def u86 {R : Type} (N : Nat) (d : AMs.D a86) (k : List Val → List Val → Option R) : Option R := laws_markShapeS N d.1 d.2.1 (fun r0 o0 => k [.c (.nu .i64 r0)] [.c (.own YShape 77 o0)])
noncomputable def c86 {R : Type} (N : Nat) : Con R := conOf [.bk, .rd] a86 (u86 N)
noncomputable def g86 {R : Type} (N : Nat) : List (Nat × Con R) := [(99, c99 N)]
abbrev h86_26 : Sh := ⟨[(0, .c (.slw 0)), (1, .c (.nu .i64)), (5, .c (.nu .i64))], [(0, .rows YShape 77)], 1, [.c (.slw 0)]⟩
noncomputable def l86_26 {R : Type} (N : Nat) : LCon R := lconOf [] false h86_26 fun n d K => laws_markShapeS_l0 N n d.1.2.1 d.1.2.2.1 d.2.1.1 (fun y0 y1 => K (.exit 0) ⟨[(1, .c (.nu .i64 y0))], [(0, some (.rows YShape 77 y1))], 1, [.c (.slw 0)]⟩)
noncomputable def L86 {R : Type} (N : Nat) : List (Nat × LCon R) := [(26, l86_26 N)]
theorem q86_26 {R : Type} (N : Nat) : LSpec Try.prog (gam (g86 N)) N (L86 N) 16 (subC (Try.f86.body.get rfl) [true, false, true, false, false]) 26 35 [(0, 2)] (l86_26 N : LCon R) :=
  lspec_of (fun d K => rfl) (fun n d K => by kernel_rfl)
theorem e86 {R : Type} (N : Nat) (d : AMs.D a86) (k : List Val → List Val → Option R) : evF Try.prog (gam (g86 N)) N (L86 N) Try.f86 (encAs a86 d (canAs a86 0)) k = u86 N d k := by kernel_rfl
theorem s86 {R : Type} (N : Nat) : Snd Try.prog 86 (c86 N : Con R) :=
  snd_eq (Γ := g86 N) (allG ⟨s99 N, trivial⟩) mixed Try.func86 (c := (Try.f86.body.get rfl)) rfl (by kernel_rfl) (by kernel_rfl) (Λ := L86 N) (qs := [⟨26, subC (Try.f86.body.get rfl) [true, false, true, false, false], 35, [(0, 2)]⟩]) (by kernel_rfl) ⟨lsome rfl (q86_26 N), trivial⟩ (e86 N)
/-- laws.markSchema -/
noncomputable def laws_markSchema {R : Type} (N : Nat) (a : List DShape) (k_ : Int) (k : Int → List DShape → Option R) : Option R :=
  laws_markShapeS N a k_ fun r o =>
    k r o
abbrev a65 : List AM := [.a (.ow 77 YShape), .v (.int .i64)]
noncomputable def u65 {R : Type} (N : Nat) (d : AMs.D a65) (k : List Val → List Val → Option R) : Option R := laws_markSchema N d.1 d.2.1 (fun r0 o0 => k [.c (.nu .i64 r0)] [.agg [.own YShape 77 o0]])
noncomputable def c65 {R : Type} (N : Nat) : Con R := conOf [.bk, .rd] a65 (u65 N)
noncomputable def g65 {R : Type} (N : Nat) : List (Nat × Con R) := [(86, c86 N)]
noncomputable def L65 {R : Type} (N : Nat) : List (Nat × LCon R) := []
theorem e65 {R : Type} (N : Nat) (d : AMs.D a65) (k : List Val → List Val → Option R) : evF Try.prog (gam (g65 N)) N (L65 N) Try.f65 (encAs a65 d (canAs a65 0)) k = u65 N d k := by kernel_rfl
theorem s65 {R : Type} (N : Nat) : Snd Try.prog 65 (c65 N : Con R) :=
  snd_eq (Γ := g65 N) (allG ⟨s86 N, trivial⟩) mixed Try.func65 (c := (Try.f65.body.get rfl)) rfl (by kernel_rfl) (by kernel_rfl) (Λ := L65 N) (qs := []) (by kernel_rfl) trivial (e65 N)
/-- laws.markPlan -/
noncomputable def laws_markPlan {R : Type} (N : Nat) (a : DPlan) (k_ : Int) (k : Int → DPlan → Option R) : Option R :=
  laws_markSchema N a.1 k_ fun r o =>
    k r (o, a.2)
abbrev a33 : List AM := [.a (.pr (.ow 77 YShape) (.pr (.int .i64) (.pr (.int .i64) (.int .i64)))), .v (.int .i64)]
noncomputable def u33 {R : Type} (N : Nat) (d : AMs.D a33) (k : List Val → List Val → Option R) : Option R := laws_markPlan N d.1 d.2.1 (fun r0 o0 => k [.c (.nu .i64 r0)] [.agg [.own YShape 77 o0.1, .nu .i64 o0.2.1, .nu .i64 o0.2.2.1, .nu .i64 o0.2.2.2]])
noncomputable def c33 {R : Type} (N : Nat) : Con R := conOf [.bk, .rd] a33 (u33 N)
noncomputable def g33 {R : Type} (N : Nat) : List (Nat × Con R) := [(65, c65 N)]
noncomputable def L33 {R : Type} (N : Nat) : List (Nat × LCon R) := []
theorem e33 {R : Type} (N : Nat) (d : AMs.D a33) (k : List Val → List Val → Option R) : evF Try.prog (gam (g33 N)) N (L33 N) Try.f33 (encAs a33 d (canAs a33 0)) k = u33 N d k := by kernel_rfl
theorem s33 {R : Type} (N : Nat) : Snd Try.prog 33 (c33 N : Con R) :=
  snd_eq (Γ := g33 N) (allG ⟨s65 N, trivial⟩) mixed Try.func33 (c := (Try.f33.body.get rfl)) rfl (by kernel_rfl) (by kernel_rfl) (Λ := L33 N) (qs := []) (by kernel_rfl) trivial (e33 N)
/-- laws.markKit -/
noncomputable def laws_markKit {R : Type} (N : Nat) (a : DPlan) (k_ : Int) (k : Int → DPlan → Option R) : Option R :=
  laws_markPlan N a k_ fun r o =>
    k r (o.1, a.2)
abbrev a10 : List AM := [.a (.pr (.ow 77 YShape) (.pr (.int .i64) (.pr (.int .i64) (.int .i64)))), .v (.int .i64)]
noncomputable def u10 {R : Type} (N : Nat) (d : AMs.D a10) (k : List Val → List Val → Option R) : Option R := laws_markKit N d.1 d.2.1 (fun r0 o0 => k [.c (.nu .i64 r0)] [.agg [.own YShape 77 o0.1, .nu .i64 o0.2.1, .nu .i64 o0.2.2.1, .nu .i64 o0.2.2.2]])
noncomputable def c10 {R : Type} (N : Nat) : Con R := conOf [.bk, .rd] a10 (u10 N)
noncomputable def g10 {R : Type} (N : Nat) : List (Nat × Con R) := [(33, c33 N)]
noncomputable def L10 {R : Type} (N : Nat) : List (Nat × LCon R) := []
theorem e10 {R : Type} (N : Nat) (d : AMs.D a10) (k : List Val → List Val → Option R) : evF Try.prog (gam (g10 N)) N (L10 N) Try.f10 (encAs a10 d (canAs a10 0)) k = u10 N d k := by kernel_rfl
theorem s10 {R : Type} (N : Nat) : Snd Try.prog 10 (c10 N : Con R) :=
  snd_eq (Γ := g10 N) (allG ⟨s33 N, trivial⟩) mixed Try.func10 (c := (Try.f10.body.get rfl)) rfl (by kernel_rfl) (by kernel_rfl) (Λ := L10 N) (qs := []) (by kernel_rfl) trivial (e10 N)
/-- laws.heldFieldS, the loop 26 -/
noncomputable def laws_heldFieldS_l0 {R : Type} (N : Nat) : Nat → List DField → Int → Int → (Int → Option R) → (Int → Option R) → Option R
  | 0, _, _, _, _, _ => none
  | n + 1, a1, k_1, i, x0_, x1_ =>
    cond (decide (i < (a1.length : Int)))
      (cond (idxE a1.length i)
        (cond (!(decide (((a1.getD i.toNat YField.z).1) = k_1)))
          (x0_ (-1))
          (cond (idxE a1.length i)
            (cond (!(decide ((((a1.getD i.toNat YField.z).2).1) = (w64 (k_1 + 1)))))
              (x0_ (-1))
              (cond (idxE a1.length i)
                (cond (!(((((a1.getD i.toNat YField.z).2).2).1) == (decide (((w64 ((w64 (k_1 + 1)) + 1)).tmod 3) = 0))))
                  (x0_ (-1))
                  (cond (idxE a1.length i)
                    (cond (!((((((a1.getD i.toNat YField.z).2).2).2).1) == (decide (((w64 ((w64 ((w64 (k_1 + 1)) + 1)) + 1)).tmod 3) = 0))))
                      (x0_ (-1))
                      (cond (idxE a1.length i)
                        (cond (!(decide ((((((a1.getD i.toNat YField.z).2).2).2).2) = (w64 ((w64 ((w64 ((w64 (k_1 + 1)) + 1)) + 1)) + 1)))))
                          (x0_ (-1))
                          (laws_heldFieldS_l0 N n a1 (w64 ((w64 ((w64 ((w64 ((w64 (k_1 + 1)) + 1)) + 1)) + 1)) + 1)) (w64 (i + 1)) x0_ x1_))
                        none))
                    none))
                none))
            none))
        none)
      (x1_ k_1)
/-- laws.heldFieldS -/
noncomputable def laws_heldFieldS {R : Type} (N : Nat) (a : List DField) (k_ : Int) (k : Int → Option R) : Option R :=
  laws_heldFieldS_l0 N N a k_ 0
    (fun v =>
      k v)
    (fun k_2 =>
      k k_2)
abbrev a100 : List AM := [.v (.ro 128 YField), .v (.int .i64)]
noncomputable def u100 {R : Type} (N : Nat) (d : AMs.D a100) (k : List Val → List Val → Option R) : Option R := laws_heldFieldS N d.1 d.2.1 (fun r0 => k [.c (.nu .i64 r0)] [])
noncomputable def c100 {R : Type} (N : Nat) : Con R := conOf [.rd, .rd] a100 (u100 N)
noncomputable def g100 {R : Type} (N : Nat) : List (Nat × Con R) := []
abbrev h100_26 : Sh := ⟨[(0, .c (.ro 0 128 YField)), (1, .c (.nu .i64)), (5, .c (.nu .i64))], [], 0, []⟩
noncomputable def l100_26 {R : Type} (N : Nat) : LCon R := lconOf [] false h100_26 fun n d K => laws_heldFieldS_l0 N n d.1.1 d.1.2.1 d.1.2.2.1 (fun y0 => K .ret ⟨[(4, .c (.nu .i64 y0))], [], 0, []⟩) (fun y0 => K (.exit 0) ⟨[(1, .c (.nu .i64 y0))], [], 0, []⟩)
noncomputable def L100 {R : Type} (N : Nat) : List (Nat × LCon R) := [(26, l100_26 N)]
theorem q100_26 {R : Type} (N : Nat) : LSpec Try.prog (gam (g100 N)) N (L100 N) 16 (subC (Try.f100.body.get rfl) [true, false, true, false, false]) 26 35 [(0, 2)] (l100_26 N : LCon R) :=
  lspec_of (fun d K => rfl) (fun n d K => by kernel_rfl)
theorem e100 {R : Type} (N : Nat) (d : AMs.D a100) (k : List Val → List Val → Option R) : evF Try.prog (gam (g100 N)) N (L100 N) Try.f100 (encAs a100 d (canAs a100 0)) k = u100 N d k := by kernel_rfl
theorem s100 {R : Type} (N : Nat) : Snd Try.prog 100 (c100 N : Con R) :=
  snd_eq (Γ := g100 N) (allG trivial) mixed Try.func100 (c := (Try.f100.body.get rfl)) rfl (by kernel_rfl) (by kernel_rfl) (Λ := L100 N) (qs := [⟨26, subC (Try.f100.body.get rfl) [true, false, true, false, false], 35, [(0, 2)]⟩]) (by kernel_rfl) ⟨lsome rfl (q100_26 N), trivial⟩ (e100 N)
/-- laws.heldShapeS, the loop 26 -/
noncomputable def laws_heldShapeS_l0 {R : Type} (N : Nat) : Nat → List DShape → Int → Int → (Int → Option R) → (Int → Option R) → Option R
  | 0, _, _, _, _, _ => none
  | n + 1, a1, k_1, i, x0_, x1_ =>
    cond (decide (i < (a1.length : Int)))
      (cond (idxE a1.length i)
        (cond (!(decide (((a1.getD i.toNat YShape.z).1) = k_1)))
          (x0_ (-1))
          (cond (idxE a1.length i)
            (laws_heldFieldS N ((a1.getD i.toNat YShape.z).2) (w64 (k_1 + 1)) fun r =>
              cond (decide (r < 0))
                (x0_ (-1))
                (laws_heldShapeS_l0 N n a1 r (w64 (i + 1)) x0_ x1_))
            none))
        none)
      (x1_ k_1)
/-- laws.heldShapeS -/
noncomputable def laws_heldShapeS {R : Type} (N : Nat) (a : List DShape) (k_ : Int) (k : Int → Option R) : Option R :=
  laws_heldShapeS_l0 N N a k_ 0
    (fun v =>
      k v)
    (fun k_2 =>
      k k_2)
abbrev a88 : List AM := [.v (.ro 77 YShape), .v (.int .i64)]
noncomputable def u88 {R : Type} (N : Nat) (d : AMs.D a88) (k : List Val → List Val → Option R) : Option R := laws_heldShapeS N d.1 d.2.1 (fun r0 => k [.c (.nu .i64 r0)] [])
noncomputable def c88 {R : Type} (N : Nat) : Con R := conOf [.rd, .rd] a88 (u88 N)
noncomputable def g88 {R : Type} (N : Nat) : List (Nat × Con R) := [(100, c100 N)]
abbrev h88_26 : Sh := ⟨[(0, .c (.ro 0 77 YShape)), (1, .c (.nu .i64)), (5, .c (.nu .i64))], [], 0, []⟩
noncomputable def l88_26 {R : Type} (N : Nat) : LCon R := lconOf [] false h88_26 fun n d K => laws_heldShapeS_l0 N n d.1.1 d.1.2.1 d.1.2.2.1 (fun y0 => K .ret ⟨[(4, .c (.nu .i64 y0))], [], 0, []⟩) (fun y0 => K (.exit 0) ⟨[(1, .c (.nu .i64 y0))], [], 0, []⟩)
noncomputable def L88 {R : Type} (N : Nat) : List (Nat × LCon R) := [(26, l88_26 N)]
theorem q88_26 {R : Type} (N : Nat) : LSpec Try.prog (gam (g88 N)) N (L88 N) 16 (subC (Try.f88.body.get rfl) [true, false, true, false, false]) 26 35 [(0, 2)] (l88_26 N : LCon R) :=
  lspec_of (fun d K => rfl) (fun n d K => by kernel_rfl)
theorem e88 {R : Type} (N : Nat) (d : AMs.D a88) (k : List Val → List Val → Option R) : evF Try.prog (gam (g88 N)) N (L88 N) Try.f88 (encAs a88 d (canAs a88 0)) k = u88 N d k := by kernel_rfl
theorem s88 {R : Type} (N : Nat) : Snd Try.prog 88 (c88 N : Con R) :=
  snd_eq (Γ := g88 N) (allG ⟨s100 N, trivial⟩) mixed Try.func88 (c := (Try.f88.body.get rfl)) rfl (by kernel_rfl) (by kernel_rfl) (Λ := L88 N) (qs := [⟨26, subC (Try.f88.body.get rfl) [true, false, true, false, false], 35, [(0, 2)]⟩]) (by kernel_rfl) ⟨lsome rfl (q88_26 N), trivial⟩ (e88 N)
/-- laws.heldSchema -/
noncomputable def laws_heldSchema {R : Type} (N : Nat) (a : List DShape) (k_ : Int) (k : Int → Option R) : Option R :=
  laws_heldShapeS N a k_ fun r =>
    cond (decide (r < 0))
      (k (-1))
      (k r)
abbrev a70 : List AM := [.a (.ro 77 YShape), .v (.int .i64)]
noncomputable def u70 {R : Type} (N : Nat) (d : AMs.D a70) (k : List Val → List Val → Option R) : Option R := laws_heldSchema N d.1 d.2.1 (fun r0 => k [.c (.nu .i64 r0)] [])
noncomputable def c70 {R : Type} (N : Nat) : Con R := conOf [.rd, .rd] a70 (u70 N)
noncomputable def g70 {R : Type} (N : Nat) : List (Nat × Con R) := [(88, c88 N)]
noncomputable def L70 {R : Type} (N : Nat) : List (Nat × LCon R) := []
theorem e70 {R : Type} (N : Nat) (d : AMs.D a70) (k : List Val → List Val → Option R) : evF Try.prog (gam (g70 N)) N (L70 N) Try.f70 (encAs a70 d (canAs a70 0)) k = u70 N d k := by kernel_rfl
theorem s70 {R : Type} (N : Nat) : Snd Try.prog 70 (c70 N : Con R) :=
  snd_eq (Γ := g70 N) (allG ⟨s88 N, trivial⟩) mixed Try.func70 (c := (Try.f70.body.get rfl)) rfl (by kernel_rfl) (by kernel_rfl) (Λ := L70 N) (qs := []) (by kernel_rfl) trivial (e70 N)
/-- laws.heldPlan -/
noncomputable def laws_heldPlan {R : Type} (N : Nat) (a : DPlan) (k_ : Int) (k : Int → Option R) : Option R :=
  laws_heldSchema N a.1 k_ fun r =>
    cond (decide (r < 0))
      (k (-1))
      (k r)
abbrev a37 : List AM := [.a (.pr (.ro 77 YShape) (.pr (.int .i64) (.pr (.int .i64) (.int .i64)))), .v (.int .i64)]
noncomputable def u37 {R : Type} (N : Nat) (d : AMs.D a37) (k : List Val → List Val → Option R) : Option R := laws_heldPlan N d.1 d.2.1 (fun r0 => k [.c (.nu .i64 r0)] [])
noncomputable def c37 {R : Type} (N : Nat) : Con R := conOf [.rd, .rd] a37 (u37 N)
noncomputable def g37 {R : Type} (N : Nat) : List (Nat × Con R) := [(70, c70 N)]
noncomputable def L37 {R : Type} (N : Nat) : List (Nat × LCon R) := []
theorem e37 {R : Type} (N : Nat) (d : AMs.D a37) (k : List Val → List Val → Option R) : evF Try.prog (gam (g37 N)) N (L37 N) Try.f37 (encAs a37 d (canAs a37 0)) k = u37 N d k := by kernel_rfl
theorem s37 {R : Type} (N : Nat) : Snd Try.prog 37 (c37 N : Con R) :=
  snd_eq (Γ := g37 N) (allG ⟨s70 N, trivial⟩) mixed Try.func37 (c := (Try.f37.body.get rfl)) rfl (by kernel_rfl) (by kernel_rfl) (Λ := L37 N) (qs := []) (by kernel_rfl) trivial (e37 N)
/-- laws.heldKit -/
noncomputable def laws_heldKit {R : Type} (N : Nat) (a : DPlan) (k_ : Int) (k : Int → Option R) : Option R :=
  laws_heldPlan N a k_ fun r =>
    cond (decide (r < 0))
      (k (-1))
      (k r)
abbrev a11 : List AM := [.a (.pr (.ro 77 YShape) (.pr (.int .i64) (.pr (.int .i64) (.int .i64)))), .v (.int .i64)]
noncomputable def u11 {R : Type} (N : Nat) (d : AMs.D a11) (k : List Val → List Val → Option R) : Option R := laws_heldKit N d.1 d.2.1 (fun r0 => k [.c (.nu .i64 r0)] [])
noncomputable def c11 {R : Type} (N : Nat) : Con R := conOf [.rd, .rd] a11 (u11 N)
noncomputable def g11 {R : Type} (N : Nat) : List (Nat × Con R) := [(37, c37 N)]
noncomputable def L11 {R : Type} (N : Nat) : List (Nat × LCon R) := []
theorem e11 {R : Type} (N : Nat) (d : AMs.D a11) (k : List Val → List Val → Option R) : evF Try.prog (gam (g11 N)) N (L11 N) Try.f11 (encAs a11 d (canAs a11 0)) k = u11 N d k := by kernel_rfl
theorem s11 {R : Type} (N : Nat) : Snd Try.prog 11 (c11 N : Con R) :=
  snd_eq (Γ := g11 N) (allG ⟨s37 N, trivial⟩) mixed Try.func11 (c := (Try.f11.body.get rfl)) rfl (by kernel_rfl) (by kernel_rfl) (Λ := L11 N) (qs := []) (by kernel_rfl) trivial (e11 N)
/-- laws.FnExactKitNew -/
noncomputable def laws_FnExactKitNew {R : Type} (N : Nat) (k : Bool → Option R) : Option R :=
  spec_KitNew N fun r =>
    impl_KitNew N fun r1 =>
      laws_eqKit N r1 r fun r2 =>
        cond (!r2)
          (k false)
          (laws_markKit N r1 1 fun r3 o =>
            laws_heldKit N (o.1, r1.2) 1 fun r4 =>
              cond (decide (r4 < 0))
                (k false)
                (cond (!(decide (r4 = r3)))
                  (k false)
                  (impl_KitNew N fun r5 =>
                    laws_eqKit N r5 r fun r6 =>
                      cond (!r6)
                        (k false)
                        (laws_heldKit N (o.1, r1.2) 1 fun r7 =>
                          cond (decide (r7 < 0))
                            (k false)
                            (cond (!(decide (r7 = r3)))
                              (k false)
                              (k true))))))
abbrev a3 : List AM := []
noncomputable def u3 {R : Type} (N : Nat) (d : AMs.D a3) (k : List Val → List Val → Option R) : Option R := laws_FnExactKitNew N (fun r0 => k [.c (.bo r0)] [])
noncomputable def c3 {R : Type} (N : Nat) : Con R := conOf [] a3 (u3 N)
noncomputable def g3 {R : Type} (N : Nat) : List (Nat × Con R) := [(7, c7 N), (8, c8 N), (9, c9 N), (10, c10 N), (11, c11 N)]
noncomputable def L3 {R : Type} (N : Nat) : List (Nat × LCon R) := []
theorem e3 {R : Type} (N : Nat) (d : AMs.D a3) (k : List Val → List Val → Option R) : evF Try.prog (gam (g3 N)) N (L3 N) Try.f3 (encAs a3 d (canAs a3 0)) k = u3 N d k := by kernel_rfl
theorem s3 {R : Type} (N : Nat) : Snd Try.prog 3 (c3 N : Con R) :=
  snd_eq (Γ := g3 N) (allG ⟨s7 N, s8 N, s9 N, s10 N, s11 N, trivial⟩) mixed Try.func3 (c := (Try.f3.body.get rfl)) rfl (by kernel_rfl) (by kernel_rfl) (Λ := L3 N) (qs := []) (by kernel_rfl) trivial (e3 N)
/-- laws.szFieldS -/
noncomputable def laws_szFieldS {R : Type} (N : Nat) (a : List DField) (left : Int) (k : Int → Option R) : Option R :=
  cond (decide ((w64 (left - (a.length : Int))) < 0))
    (k (-1))
    (k (w64 (left - (a.length : Int))))
abbrev a107 : List AM := [.v (.ro 143 YField), .v (.int .i64)]
noncomputable def u107 {R : Type} (N : Nat) (d : AMs.D a107) (k : List Val → List Val → Option R) : Option R := laws_szFieldS N d.1 d.2.1 (fun r0 => k [.c (.nu .i64 r0)] [])
noncomputable def c107 {R : Type} (N : Nat) : Con R := conOf [.rd, .rd] a107 (u107 N)
noncomputable def g107 {R : Type} (N : Nat) : List (Nat × Con R) := []
noncomputable def L107 {R : Type} (N : Nat) : List (Nat × LCon R) := []
theorem e107 {R : Type} (N : Nat) (d : AMs.D a107) (k : List Val → List Val → Option R) : evF Try.prog (gam (g107 N)) N (L107 N) Try.f107 (encAs a107 d (canAs a107 0)) k = u107 N d k := by kernel_rfl
theorem s107 {R : Type} (N : Nat) : Snd Try.prog 107 (c107 N : Con R) :=
  snd_eq (Γ := g107 N) (allG trivial) mixed Try.func107 (c := (Try.f107.body.get rfl)) rfl (by kernel_rfl) (by kernel_rfl) (Λ := L107 N) (qs := []) (by kernel_rfl) trivial (e107 N)
/-- laws.szShape -/
noncomputable def laws_szShape {R : Type} (N : Nat) (a : DlShape) (left : Int) (k : Int → Option R) : Option R :=
  laws_szFieldS N a.2 left fun r =>
    cond (decide (r < 0))
      (k (-1))
      (k r)
abbrev a95 : List AM := [.a (.pr (.int .i64) (.ro 143 YField)), .v (.int .i64)]
noncomputable def u95 {R : Type} (N : Nat) (d : AMs.D a95) (k : List Val → List Val → Option R) : Option R := laws_szShape N d.1 d.2.1 (fun r0 => k [.c (.nu .i64 r0)] [])
noncomputable def c95 {R : Type} (N : Nat) : Con R := conOf [.rd, .rd] a95 (u95 N)
noncomputable def g95 {R : Type} (N : Nat) : List (Nat × Con R) := [(107, c107 N)]
noncomputable def L95 {R : Type} (N : Nat) : List (Nat × LCon R) := []
theorem e95 {R : Type} (N : Nat) (d : AMs.D a95) (k : List Val → List Val → Option R) : evF Try.prog (gam (g95 N)) N (L95 N) Try.f95 (encAs a95 d (canAs a95 0)) k = u95 N d k := by kernel_rfl
theorem s95 {R : Type} (N : Nat) : Snd Try.prog 95 (c95 N : Con R) :=
  snd_eq (Γ := g95 N) (allG ⟨s107 N, trivial⟩) mixed Try.func95 (c := (Try.f95.body.get rfl)) rfl (by kernel_rfl) (by kernel_rfl) (Λ := L95 N) (qs := []) (by kernel_rfl) trivial (e95 N)
/-- laws.szShapeS, the loop 122 -/
noncomputable def laws_szShapeS_l0 {R : Type} (N : Nat) : Nat → List DlShape → Int → Int → (Int → Option R) → (Int → Option R) → Option R
  | 0, _, _, _, _, _ => none
  | n + 1, a1, left1, i, x0_, x1_ =>
    cond (decide (i < (a1.length : Int)))
      (cond (idxE a1.length i)
        (laws_szShape N (a1.getD i.toNat YlShape.z) left1 fun r =>
          cond (decide (r < 0))
            (x0_ (-1))
            (laws_szShapeS_l0 N n a1 r (w64 (i + 1)) x0_ x1_))
        none)
      (x1_ left1)
/-- laws.szShapeS -/
noncomputable def laws_szShapeS {R : Type} (N : Nat) (a : List DlShape) (left : Int) (k : Int → Option R) : Option R :=
  cond (decide ((w64 (left - (a.length : Int))) < 0))
    (k (-1))
    (laws_szShapeS_l0 N N a (w64 (left - (a.length : Int))) 0
      (fun v =>
        k v)
      (fun left2 =>
        k left2))
abbrev a82 : List AM := [.v (.ro 133 YlShape), .v (.int .i64)]
noncomputable def u82 {R : Type} (N : Nat) (d : AMs.D a82) (k : List Val → List Val → Option R) : Option R := laws_szShapeS N d.1 d.2.1 (fun r0 => k [.c (.nu .i64 r0)] [])
noncomputable def c82 {R : Type} (N : Nat) : Con R := conOf [.rd, .rd] a82 (u82 N)
noncomputable def g82 {R : Type} (N : Nat) : List (Nat × Con R) := [(95, c95 N)]
abbrev h82_122 : Sh := ⟨[(0, .c (.ro 0 133 YlShape)), (1, .c (.nu .i64)), (5, .c (.nu .i64))], [], 0, []⟩
noncomputable def l82_122 {R : Type} (N : Nat) : LCon R := lconOf [] false h82_122 fun n d K => laws_szShapeS_l0 N n d.1.1 d.1.2.1 d.1.2.2.1 (fun y0 => K .ret ⟨[(4, .c (.nu .i64 y0))], [], 0, []⟩) (fun y0 => K (.exit 0) ⟨[(1, .c (.nu .i64 y0))], [], 0, []⟩)
noncomputable def L82 {R : Type} (N : Nat) : List (Nat × LCon R) := [(122, l82_122 N)]
theorem q82_122 {R : Type} (N : Nat) : LSpec Try.prog (gam (g82 N)) N (L82 N) 16 (subC (Try.f82.body.get rfl) [true, true, true, false, true, false, false]) 122 35 [(0, 2)] (l82_122 N : LCon R) :=
  lspec_of (fun d K => rfl) (fun n d K => by kernel_rfl)
theorem e82 {R : Type} (N : Nat) (d : AMs.D a82) (k : List Val → List Val → Option R) : evF Try.prog (gam (g82 N)) N (L82 N) Try.f82 (encAs a82 d (canAs a82 0)) k = u82 N d k := by kernel_rfl
theorem s82 {R : Type} (N : Nat) : Snd Try.prog 82 (c82 N : Con R) :=
  snd_eq (Γ := g82 N) (allG ⟨s95 N, trivial⟩) mixed Try.func82 (c := (Try.f82.body.get rfl)) rfl (by kernel_rfl) (by kernel_rfl) (Λ := L82 N) (qs := [⟨122, subC (Try.f82.body.get rfl) [true, true, true, false, true, false, false], 35, [(0, 2)]⟩]) (by kernel_rfl) ⟨lsome rfl (q82_122 N), trivial⟩ (e82 N)
/-- laws.szSchema -/
noncomputable def laws_szSchema {R : Type} (N : Nat) (a : List DlShape) (left : Int) (k : Int → Option R) : Option R :=
  laws_szShapeS N a left fun r =>
    cond (decide (r < 0))
      (k (-1))
      (k r)
abbrev a59 : List AM := [.a (.ro 133 YlShape), .v (.int .i64)]
noncomputable def u59 {R : Type} (N : Nat) (d : AMs.D a59) (k : List Val → List Val → Option R) : Option R := laws_szSchema N d.1 d.2.1 (fun r0 => k [.c (.nu .i64 r0)] [])
noncomputable def c59 {R : Type} (N : Nat) : Con R := conOf [.rd, .rd] a59 (u59 N)
noncomputable def g59 {R : Type} (N : Nat) : List (Nat × Con R) := [(82, c82 N)]
noncomputable def L59 {R : Type} (N : Nat) : List (Nat × LCon R) := []
theorem e59 {R : Type} (N : Nat) (d : AMs.D a59) (k : List Val → List Val → Option R) : evF Try.prog (gam (g59 N)) N (L59 N) Try.f59 (encAs a59 d (canAs a59 0)) k = u59 N d k := by kernel_rfl
theorem s59 {R : Type} (N : Nat) : Snd Try.prog 59 (c59 N : Con R) :=
  snd_eq (Γ := g59 N) (allG ⟨s82 N, trivial⟩) mixed Try.func59 (c := (Try.f59.body.get rfl)) rfl (by kernel_rfl) (by kernel_rfl) (Λ := L59 N) (qs := []) (by kernel_rfl) trivial (e59 N)
/-- laws.szPlan -/
noncomputable def laws_szPlan {R : Type} (N : Nat) (a : DlPlan) (left : Int) (k : Int → Option R) : Option R :=
  laws_szSchema N a.1 left fun r =>
    cond (decide (r < 0))
      (k (-1))
      (k r)
abbrev a26 : List AM := [.a (.pr (.ro 133 YlShape) (.pr (.int .i64) (.pr (.int .i64) (.int .i64)))), .v (.int .i64)]
noncomputable def u26 {R : Type} (N : Nat) (d : AMs.D a26) (k : List Val → List Val → Option R) : Option R := laws_szPlan N d.1 d.2.1 (fun r0 => k [.c (.nu .i64 r0)] [])
noncomputable def c26 {R : Type} (N : Nat) : Con R := conOf [.rd, .rd] a26 (u26 N)
noncomputable def g26 {R : Type} (N : Nat) : List (Nat × Con R) := [(59, c59 N)]
noncomputable def L26 {R : Type} (N : Nat) : List (Nat × LCon R) := []
theorem e26 {R : Type} (N : Nat) (d : AMs.D a26) (k : List Val → List Val → Option R) : evF Try.prog (gam (g26 N)) N (L26 N) Try.f26 (encAs a26 d (canAs a26 0)) k = u26 N d k := by kernel_rfl
theorem s26 {R : Type} (N : Nat) : Snd Try.prog 26 (c26 N : Con R) :=
  snd_eq (Γ := g26 N) (allG ⟨s59 N, trivial⟩) mixed Try.func26 (c := (Try.f26.body.get rfl)) rfl (by kernel_rfl) (by kernel_rfl) (Λ := L26 N) (qs := []) (by kernel_rfl) trivial (e26 N)
/-- laws.toField -/
noncomputable def laws_toField {R : Type} (N : Nat) (a : DField) (k : DField → Option R) : Option R :=
  k a
abbrev a110 : List AM := [.a (.pr (.int .i64) (.pr (.int .i64) (.pr .bool (.pr .bool (.int .i64)))))]
noncomputable def u110 {R : Type} (N : Nat) (d : AMs.D a110) (k : List Val → List Val → Option R) : Option R := laws_toField N d.1 (fun r0 => k [.agg [.nu .i64 r0.1, .nu .i64 r0.2.1, .bo r0.2.2.1, .bo r0.2.2.2.1, .nu .i64 r0.2.2.2.2]] [])
noncomputable def c110 {R : Type} (N : Nat) : Con R := conOf [.rd] a110 (u110 N)
noncomputable def g110 {R : Type} (N : Nat) : List (Nat × Con R) := []
noncomputable def L110 {R : Type} (N : Nat) : List (Nat × LCon R) := []
theorem e110 {R : Type} (N : Nat) (d : AMs.D a110) (k : List Val → List Val → Option R) : evF Try.prog (gam (g110 N)) N (L110 N) Try.f110 (encAs a110 d (canAs a110 0)) k = u110 N d k := by kernel_rfl
theorem s110 {R : Type} (N : Nat) : Snd Try.prog 110 (c110 N : Con R) :=
  snd_eq (Γ := g110 N) (allG trivial) mixed Try.func110 (c := (Try.f110.body.get rfl)) rfl (by kernel_rfl) (by kernel_rfl) (Λ := L110 N) (qs := []) (by kernel_rfl) trivial (e110 N)
/-- laws.toFieldS, the loop 58 -/
noncomputable def laws_toFieldS_l0 {R : Type} (N : Nat) : Nat → List DField → Int → List DField → (List DField → Option R) → Option R
  | 0, _, _, _, _ => none
  | n + 1, a1, i, xs, x0_ =>
    cond (decide (i < (a1.length : Int)))
      (cond (idxE a1.length i)
        (laws_toField N (a1.getD i.toNat YField.z) fun r =>
          cond (idxE xs.length i)
            (laws_toFieldS_l0 N n a1 (w64 (i + 1)) (xs.set i.toNat r) x0_)
            none)
        none)
      (x0_ xs)
/-- laws.toFieldS -/
noncomputable def laws_toFieldS {R : Type} (N : Nat) (a : List DField) (k : List DField → Option R) : Option R :=
  cond (decide (0 ≤ (a.length : Int) ∧ (a.length : Int) ≤ (a.length : Int) ∧ (a.length : Int) ≤ 4611686018427387904 ∧ (32 : Int) * (a.length : Int) ≤ 140737488355328))
    (laws_toFieldS_l0 N N a 0 (List.replicate ((a.length : Int).toNat) (0, 0, false, false, 0))
      (fun xs1 =>
        k xs1))
    none
abbrev a108 : List AM := [.v (.ro 143 YField)]
noncomputable def u108 {R : Type} (N : Nat) (d : AMs.D a108) (k : List Val → List Val → Option R) : Option R := laws_toFieldS N d.1 (fun r0 => k [.c (.own YField 128 r0)] [])
noncomputable def c108 {R : Type} (N : Nat) : Con R := conOf [.rd] a108 (u108 N)
noncomputable def g108 {R : Type} (N : Nat) : List (Nat × Con R) := [(110, c110 N)]
abbrev h108_58 : Sh := ⟨[(0, .c (.ro 0 143 YField)), (3, .c (.slw 0)), (4, .c (.nu .i64))], [(0, .rows YField 128)], 1, []⟩
noncomputable def l108_58 {R : Type} (N : Nat) : LCon R := lconOf [] false h108_58 fun n d K => laws_toFieldS_l0 N n d.1.1 d.1.2.2.1 d.2.1.1 (fun y0 => K (.exit 0) ⟨[(3, .c (.slw 0))], [(0, some (.rows YField 128 y0))], 1, []⟩)
noncomputable def L108 {R : Type} (N : Nat) : List (Nat × LCon R) := [(58, l108_58 N)]
theorem q108_58 {R : Type} (N : Nat) : LSpec Try.prog (gam (g108 N)) N (L108 N) 4 (subC (Try.f108.body.get rfl) [true, true, false, true, false, false]) 58 25 [(0, 8)] (l108_58 N : LCon R) :=
  lspec_of (fun d K => rfl) (fun n d K => by kernel_rfl)
theorem e108 {R : Type} (N : Nat) (d : AMs.D a108) (k : List Val → List Val → Option R) : evF Try.prog (gam (g108 N)) N (L108 N) Try.f108 (encAs a108 d (canAs a108 0)) k = u108 N d k := by kernel_rfl
theorem s108 {R : Type} (N : Nat) : Snd Try.prog 108 (c108 N : Con R) :=
  snd_eq (Γ := g108 N) (allG ⟨s110 N, trivial⟩) mixed Try.func108 (c := (Try.f108.body.get rfl)) rfl (by kernel_rfl) (by kernel_rfl) (Λ := L108 N) (qs := [⟨58, subC (Try.f108.body.get rfl) [true, true, false, true, false, false], 25, [(0, 8)]⟩]) (by kernel_rfl) ⟨lsome rfl (q108_58 N), trivial⟩ (e108 N)
/-- laws.toShape -/
noncomputable def laws_toShape {R : Type} (N : Nat) (a : DlShape) (k : DShape → Option R) : Option R :=
  laws_toFieldS N a.2 fun r =>
    k (a.1, r)
abbrev a96 : List AM := [.a (.pr (.int .i64) (.ro 143 YField))]
noncomputable def u96 {R : Type} (N : Nat) (d : AMs.D a96) (k : List Val → List Val → Option R) : Option R := laws_toShape N d.1 (fun r0 => k [.agg [.nu .i64 r0.1, .own YField 128 r0.2]] [])
noncomputable def c96 {R : Type} (N : Nat) : Con R := conOf [.rd] a96 (u96 N)
noncomputable def g96 {R : Type} (N : Nat) : List (Nat × Con R) := [(108, c108 N)]
noncomputable def L96 {R : Type} (N : Nat) : List (Nat × LCon R) := []
theorem e96 {R : Type} (N : Nat) (d : AMs.D a96) (k : List Val → List Val → Option R) : evF Try.prog (gam (g96 N)) N (L96 N) Try.f96 (encAs a96 d (canAs a96 0)) k = u96 N d k := by kernel_rfl
theorem s96 {R : Type} (N : Nat) : Snd Try.prog 96 (c96 N : Con R) :=
  snd_eq (Γ := g96 N) (allG ⟨s108 N, trivial⟩) mixed Try.func96 (c := (Try.f96.body.get rfl)) rfl (by kernel_rfl) (by kernel_rfl) (Λ := L96 N) (qs := []) (by kernel_rfl) trivial (e96 N)
/-- laws.toShapeS, the loop 58 -/
noncomputable def laws_toShapeS_l0 {R : Type} (N : Nat) : Nat → List DlShape → Int → List DShape → (List DShape → Option R) → Option R
  | 0, _, _, _, _ => none
  | n + 1, a1, i, xs, x0_ =>
    cond (decide (i < (a1.length : Int)))
      (cond (idxE a1.length i)
        (laws_toShape N (a1.getD i.toNat YlShape.z) fun r =>
          cond (idxE xs.length i)
            (laws_toShapeS_l0 N n a1 (w64 (i + 1)) (xs.set i.toNat r) x0_)
            none)
        none)
      (x0_ xs)
/-- laws.toShapeS -/
noncomputable def laws_toShapeS {R : Type} (N : Nat) (a : List DlShape) (k : List DShape → Option R) : Option R :=
  cond (decide (0 ≤ (a.length : Int) ∧ (a.length : Int) ≤ (a.length : Int) ∧ (a.length : Int) ≤ 4611686018427387904 ∧ (32 : Int) * (a.length : Int) ≤ 140737488355328))
    (laws_toShapeS_l0 N N a 0 (List.replicate ((a.length : Int).toNat) (0, []))
      (fun xs1 =>
        k xs1))
    none
abbrev a83 : List AM := [.v (.ro 133 YlShape)]
noncomputable def u83 {R : Type} (N : Nat) (d : AMs.D a83) (k : List Val → List Val → Option R) : Option R := laws_toShapeS N d.1 (fun r0 => k [.c (.own YShape 77 r0)] [])
noncomputable def c83 {R : Type} (N : Nat) : Con R := conOf [.rd] a83 (u83 N)
noncomputable def g83 {R : Type} (N : Nat) : List (Nat × Con R) := [(96, c96 N)]
abbrev h83_58 : Sh := ⟨[(0, .c (.ro 0 133 YlShape)), (3, .c (.slw 0)), (4, .c (.nu .i64))], [(0, .rows YShape 77)], 1, []⟩
noncomputable def l83_58 {R : Type} (N : Nat) : LCon R := lconOf [] false h83_58 fun n d K => laws_toShapeS_l0 N n d.1.1 d.1.2.2.1 d.2.1.1 (fun y0 => K (.exit 0) ⟨[(3, .c (.slw 0))], [(0, some (.rows YShape 77 y0))], 1, []⟩)
noncomputable def L83 {R : Type} (N : Nat) : List (Nat × LCon R) := [(58, l83_58 N)]
theorem q83_58 {R : Type} (N : Nat) : LSpec Try.prog (gam (g83 N)) N (L83 N) 4 (subC (Try.f83.body.get rfl) [true, true, false, true, false, false]) 58 25 [(0, 8)] (l83_58 N : LCon R) :=
  lspec_of (fun d K => rfl) (fun n d K => by kernel_rfl)
theorem e83 {R : Type} (N : Nat) (d : AMs.D a83) (k : List Val → List Val → Option R) : evF Try.prog (gam (g83 N)) N (L83 N) Try.f83 (encAs a83 d (canAs a83 0)) k = u83 N d k := by kernel_rfl
theorem s83 {R : Type} (N : Nat) : Snd Try.prog 83 (c83 N : Con R) :=
  snd_eq (Γ := g83 N) (allG ⟨s96 N, trivial⟩) mixed Try.func83 (c := (Try.f83.body.get rfl)) rfl (by kernel_rfl) (by kernel_rfl) (Λ := L83 N) (qs := [⟨58, subC (Try.f83.body.get rfl) [true, true, false, true, false, false], 25, [(0, 8)]⟩]) (by kernel_rfl) ⟨lsome rfl (q83_58 N), trivial⟩ (e83 N)
/-- laws.toSchema -/
noncomputable def laws_toSchema {R : Type} (N : Nat) (a : List DlShape) (k : List DShape → Option R) : Option R :=
  laws_toShapeS N a fun r =>
    k r
abbrev a61 : List AM := [.a (.ro 133 YlShape)]
noncomputable def u61 {R : Type} (N : Nat) (d : AMs.D a61) (k : List Val → List Val → Option R) : Option R := laws_toSchema N d.1 (fun r0 => k [.agg [.own YShape 77 r0]] [])
noncomputable def c61 {R : Type} (N : Nat) : Con R := conOf [.rd] a61 (u61 N)
noncomputable def g61 {R : Type} (N : Nat) : List (Nat × Con R) := [(83, c83 N)]
noncomputable def L61 {R : Type} (N : Nat) : List (Nat × LCon R) := []
theorem e61 {R : Type} (N : Nat) (d : AMs.D a61) (k : List Val → List Val → Option R) : evF Try.prog (gam (g61 N)) N (L61 N) Try.f61 (encAs a61 d (canAs a61 0)) k = u61 N d k := by kernel_rfl
theorem s61 {R : Type} (N : Nat) : Snd Try.prog 61 (c61 N : Con R) :=
  snd_eq (Γ := g61 N) (allG ⟨s83 N, trivial⟩) mixed Try.func61 (c := (Try.f61.body.get rfl)) rfl (by kernel_rfl) (by kernel_rfl) (Λ := L61 N) (qs := []) (by kernel_rfl) trivial (e61 N)
/-- laws.toPlan -/
noncomputable def laws_toPlan {R : Type} (N : Nat) (a : DlPlan) (k : DPlan → Option R) : Option R :=
  laws_toSchema N a.1 fun r =>
    k (r, a.2)
abbrev a28 : List AM := [.a (.pr (.ro 133 YlShape) (.pr (.int .i64) (.pr (.int .i64) (.int .i64))))]
noncomputable def u28 {R : Type} (N : Nat) (d : AMs.D a28) (k : List Val → List Val → Option R) : Option R := laws_toPlan N d.1 (fun r0 => k [.agg [.own YShape 77 r0.1, .nu .i64 r0.2.1, .nu .i64 r0.2.2.1, .nu .i64 r0.2.2.2]] [])
noncomputable def c28 {R : Type} (N : Nat) : Con R := conOf [.rd] a28 (u28 N)
noncomputable def g28 {R : Type} (N : Nat) : List (Nat × Con R) := [(61, c61 N)]
noncomputable def L28 {R : Type} (N : Nat) : List (Nat × LCon R) := []
theorem e28 {R : Type} (N : Nat) (d : AMs.D a28) (k : List Val → List Val → Option R) : evF Try.prog (gam (g28 N)) N (L28 N) Try.f28 (encAs a28 d (canAs a28 0)) k = u28 N d k := by kernel_rfl
theorem s28 {R : Type} (N : Nat) : Snd Try.prog 28 (c28 N : Con R) :=
  snd_eq (Γ := g28 N) (allG ⟨s61 N, trivial⟩) mixed Try.func28 (c := (Try.f28.body.get rfl)) rfl (by kernel_rfl) (by kernel_rfl) (Λ := L28 N) (qs := []) (by kernel_rfl) trivial (e28 N)
/-- laws.toIntS, the loop 58 -/
noncomputable def laws_toIntS_l0 {R : Type} (N : Nat) : Nat → List Int → Int → List Int → (List Int → Option R) → Option R
  | 0, _, _, _, _ => none
  | n + 1, a1, i, xs, x0_ =>
    cond (decide (i < (a1.length : Int)))
      (cond (idxE a1.length i)
        (cond (idxE xs.length i)
          (laws_toIntS_l0 N n a1 (w64 (i + 1)) (xs.set i.toNat (a1.getD i.toNat 0)) x0_)
          none)
        none)
      (x0_ xs)
/-- laws.toIntS -/
noncomputable def laws_toIntS {R : Type} (N : Nat) (a : List Int) (k : List Int → Option R) : Option R :=
  cond (decide (0 ≤ (a.length : Int) ∧ (a.length : Int) ≤ (a.length : Int) ∧ (a.length : Int) ≤ 4611686018427387904 ∧ (8 : Int) * (a.length : Int) ≤ 140737488355328))
    (laws_toIntS_l0 N N a 0 (List.replicate ((a.length : Int).toNat) 0)
      (fun xs1 =>
        k xs1))
    none
abbrev a29 : List AM := [.v (.ro 3 (.int .i64))]
noncomputable def u29 {R : Type} (N : Nat) (d : AMs.D a29) (k : List Val → List Val → Option R) : Option R := laws_toIntS N d.1 (fun r0 => k [.c (.own (.int .i64) 3 r0)] [])
noncomputable def c29 {R : Type} (N : Nat) : Con R := conOf [.rd] a29 (u29 N)
noncomputable def g29 {R : Type} (N : Nat) : List (Nat × Con R) := []
abbrev h29_58 : Sh := ⟨[(0, .c (.ro 0 3 (.int .i64))), (3, .c (.slw 0)), (4, .c (.nu .i64))], [(0, .rows (.int .i64) 3)], 1, []⟩
noncomputable def l29_58 {R : Type} (N : Nat) : LCon R := lconOf [] false h29_58 fun n d K => laws_toIntS_l0 N n d.1.1 d.1.2.2.1 d.2.1.1 (fun y0 => K (.exit 0) ⟨[(3, .c (.slw 0))], [(0, some (.rows (.int .i64) 3 y0))], 1, []⟩)
noncomputable def L29 {R : Type} (N : Nat) : List (Nat × LCon R) := [(58, l29_58 N)]
theorem q29_58 {R : Type} (N : Nat) : LSpec Try.prog (gam (g29 N)) N (L29 N) 4 (subC (Try.f29.body.get rfl) [true, true, false, true, false, false]) 58 25 [(0, 8)] (l29_58 N : LCon R) :=
  lspec_of (fun d K => rfl) (fun n d K => by kernel_rfl)
theorem e29 {R : Type} (N : Nat) (d : AMs.D a29) (k : List Val → List Val → Option R) : evF Try.prog (gam (g29 N)) N (L29 N) Try.f29 (encAs a29 d (canAs a29 0)) k = u29 N d k := by kernel_rfl
theorem s29 {R : Type} (N : Nat) : Snd Try.prog 29 (c29 N : Con R) :=
  snd_eq (Γ := g29 N) (allG trivial) mixed Try.func29 (c := (Try.f29.body.get rfl)) rfl (by kernel_rfl) (by kernel_rfl) (Λ := L29 N) (qs := [⟨58, subC (Try.f29.body.get rfl) [true, true, false, true, false, false], 25, [(0, 8)]⟩]) (by kernel_rfl) ⟨lsome rfl (q29_58 N), trivial⟩ (e29 N)
/-- spec.l1In -/
noncomputable def spec_l1In {R : Type} (N : Nat) (x : Int) (lo : Int) (hi : Int) (k : Bool → Option R) : Option R :=
  cond (decide (lo ≤ x))
    (k (decide (x ≤ hi)))
    (k false)
abbrev a50 : List AM := [.v (.int .i64), .v (.int .i64), .v (.int .i64)]
noncomputable def u50 {R : Type} (N : Nat) (d : AMs.D a50) (k : List Val → List Val → Option R) : Option R := spec_l1In N d.1 d.2.1 d.2.2.1 (fun r0 => k [.c (.bo r0)] [])
noncomputable def c50 {R : Type} (N : Nat) : Con R := conOf [.rd, .rd, .rd] a50 (u50 N)
noncomputable def g50 {R : Type} (N : Nat) : List (Nat × Con R) := []
noncomputable def L50 {R : Type} (N : Nat) : List (Nat × LCon R) := []
theorem e50 {R : Type} (N : Nat) (d : AMs.D a50) (k : List Val → List Val → Option R) : evF Try.prog (gam (g50 N)) N (L50 N) Try.f50 (encAs a50 d (canAs a50 0)) k = u50 N d k := by kernel_rfl
theorem s50 {R : Type} (N : Nat) : Snd Try.prog 50 (c50 N : Con R) :=
  snd_eq (Γ := g50 N) (allG trivial) mixed Try.func50 (c := (Try.f50.body.get rfl)) rfl (by kernel_rfl) (by kernel_rfl) (Λ := L50 N) (qs := []) (by kernel_rfl) trivial (e50 N)
/-- spec.NumberOk -/
noncomputable def spec_NumberOk {R : Type} (N : Nat) (n_ : Int) (k : Bool → Option R) : Option R :=
  spec_l1In N n_ 1 536870911 fun r =>
    cond r
      (spec_l1In N n_ 19000 19999 fun r1 =>
        k (!r1))
      (k false)
abbrev a101 : List AM := [.v (.int .i64)]
noncomputable def u101 {R : Type} (N : Nat) (d : AMs.D a101) (k : List Val → List Val → Option R) : Option R := spec_NumberOk N d.1 (fun r0 => k [.c (.bo r0)] [])
noncomputable def c101 {R : Type} (N : Nat) : Con R := conOf [.rd] a101 (u101 N)
noncomputable def g101 {R : Type} (N : Nat) : List (Nat × Con R) := [(50, c50 N)]
noncomputable def L101 {R : Type} (N : Nat) : List (Nat × LCon R) := []
theorem e101 {R : Type} (N : Nat) (d : AMs.D a101) (k : List Val → List Val → Option R) : evF Try.prog (gam (g101 N)) N (L101 N) Try.f101 (encAs a101 d (canAs a101 0)) k = u101 N d k := by kernel_rfl
theorem s101 {R : Type} (N : Nat) : Snd Try.prog 101 (c101 N : Con R) :=
  snd_eq (Γ := g101 N) (allG ⟨s50 N, trivial⟩) mixed Try.func101 (c := (Try.f101.body.get rfl)) rfl (by kernel_rfl) (by kernel_rfl) (Λ := L101 N) (qs := []) (by kernel_rfl) trivial (e101 N)
/-- spec.l6Kind -/
noncomputable def spec_l6Kind {R : Type} (N : Nat) (k_ : Int) (k : Bool → Option R) : Option R :=
  spec_l1In N k_ 1 8 fun r =>
    k r
abbrev a102 : List AM := [.v (.int .i64)]
noncomputable def u102 {R : Type} (N : Nat) (d : AMs.D a102) (k : List Val → List Val → Option R) : Option R := spec_l6Kind N d.1 (fun r0 => k [.c (.bo r0)] [])
noncomputable def c102 {R : Type} (N : Nat) : Con R := conOf [.rd] a102 (u102 N)
noncomputable def g102 {R : Type} (N : Nat) : List (Nat × Con R) := [(50, c50 N)]
noncomputable def L102 {R : Type} (N : Nat) : List (Nat × LCon R) := []
theorem e102 {R : Type} (N : Nat) (d : AMs.D a102) (k : List Val → List Val → Option R) : evF Try.prog (gam (g102 N)) N (L102 N) Try.f102 (encAs a102 d (canAs a102 0)) k = u102 N d k := by kernel_rfl
theorem s102 {R : Type} (N : Nat) : Snd Try.prog 102 (c102 N : Con R) :=
  snd_eq (Γ := g102 N) (allG ⟨s50 N, trivial⟩) mixed Try.func102 (c := (Try.f102.body.get rfl)) rfl (by kernel_rfl) (by kernel_rfl) (Λ := L102 N) (qs := []) (by kernel_rfl) trivial (e102 N)
/-- spec.Numeric -/
noncomputable def spec_Numeric {R : Type} (N : Nat) (k_ : Int) (k : Bool → Option R) : Option R :=
  spec_l1In N k_ 1 5 fun r =>
    k r
abbrev a103 : List AM := [.v (.int .i64)]
noncomputable def u103 {R : Type} (N : Nat) (d : AMs.D a103) (k : List Val → List Val → Option R) : Option R := spec_Numeric N d.1 (fun r0 => k [.c (.bo r0)] [])
noncomputable def c103 {R : Type} (N : Nat) : Con R := conOf [.rd] a103 (u103 N)
noncomputable def g103 {R : Type} (N : Nat) : List (Nat × Con R) := [(50, c50 N)]
noncomputable def L103 {R : Type} (N : Nat) : List (Nat × LCon R) := []
theorem e103 {R : Type} (N : Nat) (d : AMs.D a103) (k : List Val → List Val → Option R) : evF Try.prog (gam (g103 N)) N (L103 N) Try.f103 (encAs a103 d (canAs a103 0)) k = u103 N d k := by kernel_rfl
theorem s103 {R : Type} (N : Nat) : Snd Try.prog 103 (c103 N : Con R) :=
  snd_eq (Γ := g103 N) (allG ⟨s50 N, trivial⟩) mixed Try.func103 (c := (Try.f103.body.get rfl)) rfl (by kernel_rfl) (by kernel_rfl) (Λ := L103 N) (qs := []) (by kernel_rfl) trivial (e103 N)
/-- spec.l8FieldOk -/
noncomputable def spec_l8FieldOk {R : Type} (N : Nat) (s : List DShape) (f : DField) (k : Bool → Option R) : Option R :=
  spec_NumberOk N f.1 fun r =>
    cond (!r)
      (k false)
      (spec_l6Kind N f.2.1 fun r1 =>
        cond (!r1)
          (k false)
          (cond f.2.2.2.1
            (cond (!f.2.2.1)
              (k false)
              (spec_Numeric N f.2.1 fun r2 =>
                cond (!r2)
                  (k false)
                  (cond (decide (f.2.1 = 8))
                    (spec_l1In N f.2.2.2.2 0 (w64 ((s.length : Int) - 1)) fun r3 =>
                      k r3)
                    (k (decide (f.2.2.2.2 = (-1)))))))
            (cond (decide (f.2.1 = 8))
              (spec_l1In N f.2.2.2.2 0 (w64 ((s.length : Int) - 1)) fun r4 =>
                k r4)
              (k (decide (f.2.2.2.2 = (-1)))))))
abbrev a93 : List AM := [.a (.ro 77 YShape), .a (.pr (.int .i64) (.pr (.int .i64) (.pr .bool (.pr .bool (.int .i64)))))]
noncomputable def u93 {R : Type} (N : Nat) (d : AMs.D a93) (k : List Val → List Val → Option R) : Option R := spec_l8FieldOk N d.1 d.2.1 (fun r0 => k [.c (.bo r0)] [])
noncomputable def c93 {R : Type} (N : Nat) : Con R := conOf [.rd, .rd] a93 (u93 N)
noncomputable def g93 {R : Type} (N : Nat) : List (Nat × Con R) := [(101, c101 N), (102, c102 N), (103, c103 N), (50, c50 N)]
noncomputable def L93 {R : Type} (N : Nat) : List (Nat × LCon R) := []
theorem e93 {R : Type} (N : Nat) (d : AMs.D a93) (k : List Val → List Val → Option R) : evF Try.prog (gam (g93 N)) N (L93 N) Try.f93 (encAs a93 d (canAs a93 0)) k = u93 N d k := by kernel_rfl
theorem s93 {R : Type} (N : Nat) : Snd Try.prog 93 (c93 N : Con R) :=
  snd_eq (Γ := g93 N) (allG ⟨s101 N, s102 N, s103 N, s50 N, trivial⟩) mixed Try.func93 (c := (Try.f93.body.get rfl)) rfl (by kernel_rfl) (by kernel_rfl) (Λ := L93 N) (qs := []) (by kernel_rfl) trivial (e93 N)
/-- spec.SchemaOk, the loop 14926 -/
noncomputable def spec_SchemaOk_l0 {R : Type} (N : Nat) : Nat → Int → Int → List DShape → Int → List DField → (Bool → Option R) → (Int → List DShape → Option R) → Option R
  | 0, _, _, _, _, _, _, _ => none
  | n + 1, i1, k_, b1, b2, b3, x0_, x1_ =>
    cond (decide (k_ < (b3.length : Int)))
      (cond (idxE b3.length k_)
        (spec_l8FieldOk N b1 (b3.getD k_.toNat YField.z) fun r1 =>
          cond (!r1)
            (x0_ false)
            (cond (decide (0 < k_))
              (cond (idxE b3.length (w64 (k_ - 1)))
                (cond (idxE b3.length k_)
                  (cond (decide (((b3.getD k_.toNat YField.z).1) ≤ ((b3.getD ((w64 (k_ - 1)).toNat) YField.z).1)))
                    (x0_ false)
                    (spec_SchemaOk_l0 N n i1 (w64 (k_ + 1)) b1 b2 b3 x0_ x1_))
                  none)
                none)
              (spec_SchemaOk_l0 N n i1 (w64 (k_ + 1)) b1 b2 b3 x0_ x1_)))
        none)
      (x1_ i1 b1)
/-- spec.SchemaOk, the loop 58 -/
noncomputable def spec_SchemaOk_l1 {R : Type} (N : Nat) : Nat → Int → List DShape → (Bool → Option R) → Option R → Option R
  | 0, _, _, _, _ => none
  | n + 1, i, b, x0_, x1_ =>
    cond (decide (i < (b.length : Int)))
      (cond (idxE b.length i)
        (spec_l1In N ((b.getD i.toNat YShape.z).1) 1 99 fun r =>
          cond (!r)
            (x0_ false)
            (cond (decide (0 < i))
              (cond (idxE b.length (w64 (i - 1)))
                (cond (decide (((b.getD i.toNat YShape.z).1) ≤ ((b.getD ((w64 (i - 1)).toNat) YShape.z).1)))
                  (x0_ false)
                  (cond (decide (8 < (((b.getD i.toNat YShape.z).2).length : Int)))
                    (x0_ false)
                    (spec_SchemaOk_l0 N N i 0 b ((b.getD i.toNat YShape.z).1) ((b.getD i.toNat YShape.z).2)
                      (fun v =>
                        x0_ v)
                      (fun i2 b4 =>
                        spec_SchemaOk_l1 N n (w64 (i2 + 1)) b4 x0_ x1_))))
                none)
              (cond (decide (8 < (((b.getD i.toNat YShape.z).2).length : Int)))
                (x0_ false)
                (spec_SchemaOk_l0 N N i 0 b ((b.getD i.toNat YShape.z).1) ((b.getD i.toNat YShape.z).2)
                  (fun v1 =>
                    x0_ v1)
                  (fun i3 b5 =>
                    spec_SchemaOk_l1 N n (w64 (i3 + 1)) b5 x0_ x1_)))))
        none)
      x1_
/-- spec.SchemaOk -/
noncomputable def spec_SchemaOk {R : Type} (N : Nat) (s : List DShape) (k : Bool → Option R) : Option R :=
  cond (decide (6 < (s.length : Int)))
    (k false)
    (spec_SchemaOk_l1 N N 0 s
      (fun v2 =>
        k v2)
      (k true))
abbrev a78 : List AM := [.a (.ro 77 YShape)]
noncomputable def u78 {R : Type} (N : Nat) (d : AMs.D a78) (k : List Val → List Val → Option R) : Option R := spec_SchemaOk N d.1 (fun r0 => k [.c (.bo r0)] [])
noncomputable def c78 {R : Type} (N : Nat) : Con R := conOf [.rd] a78 (u78 N)
noncomputable def g78 {R : Type} (N : Nat) : List (Nat × Con R) := [(50, c50 N), (93, c93 N)]
abbrev h78_14926 : Sh := ⟨[(1, .c (.ptr 0 0)), (3, .c (.nu .i64)), (4, .c (.ptr 1 0)), (5, .c (.nu .i64))], [(0, .box 24 [.ro 0 77 YShape]), (1, .box 77 [.nu .i64, .ro 0 128 YField])], 2, []⟩
noncomputable def l78_14926 {R : Type} (N : Nat) : LCon R := lconOf [] false h78_14926 fun n d K => spec_SchemaOk_l0 N n d.1.2.1 d.1.2.2.2.1 d.2.1.1.1 d.2.1.2.1.1 d.2.1.2.1.2.1 (fun y0 => K .ret ⟨[(2, .c (.bo y0))], [], 0, []⟩) (fun y0 y1 => K (.exit 2) ⟨[(1, .c (.ptr 0 0)), (3, .c (.nu .i64 y0))], [(0, some (.box 24 [.ro 0 YShape 77 y1]))], 1, []⟩)
abbrev h78_58 : Sh := ⟨[(1, .c (.ptr 0 0)), (3, .c (.nu .i64))], [(0, .box 24 [.ro 0 77 YShape])], 1, []⟩
noncomputable def l78_58 {R : Type} (N : Nat) : LCon R := lconOf [] false h78_58 fun n d K => spec_SchemaOk_l1 N n d.1.2.1 d.2.1.1.1 (fun y0 => K .ret ⟨[(2, .c (.bo y0))], [], 0, []⟩) (K (.exit 0) ⟨[], [], 0, []⟩)
noncomputable def L78 {R : Type} (N : Nat) : List (Nat × LCon R) := [(14926, l78_14926 N), (58, l78_58 N)]
theorem q78_14926 {R : Type} (N : Nat) : LSpec Try.prog (gam (g78 N)) N (L78 N) 4 (subC (Try.f78.body.get rfl) [true, true, false, true, false, false, true, false, false, true, true, true, false, false]) 14926 58 [(2, 10), (1, 10), (0, 0)] (l78_14926 N : LCon R) :=
  lspec_of (fun d K => rfl) (fun n d K => by kernel_rfl)
theorem q78_58 {R : Type} (N : Nat) : LSpec Try.prog (gam (g78 N)) N (L78 N) 4 (subC (Try.f78.body.get rfl) [true, true, false, true, false, false]) 58 10 [(0, 0)] (l78_58 N : LCon R) :=
  lspec_of (fun d K => rfl) (fun n d K => by kernel_rfl)
theorem e78 {R : Type} (N : Nat) (d : AMs.D a78) (k : List Val → List Val → Option R) : evF Try.prog (gam (g78 N)) N (L78 N) Try.f78 (encAs a78 d (canAs a78 0)) k = u78 N d k := by kernel_rfl
theorem s78 {R : Type} (N : Nat) : Snd Try.prog 78 (c78 N : Con R) :=
  snd_eq (Γ := g78 N) (allG ⟨s50 N, s93 N, trivial⟩) mixed Try.func78 (c := (Try.f78.body.get rfl)) rfl (by kernel_rfl) (by kernel_rfl) (Λ := L78 N) (qs := [⟨14926, subC (Try.f78.body.get rfl) [true, true, false, true, false, false, true, false, false, true, true, true, false, false], 58, [(2, 10), (1, 10), (0, 0)]⟩, ⟨58, subC (Try.f78.body.get rfl) [true, true, false, true, false, false], 10, [(0, 0)]⟩]) (by kernel_rfl) ⟨lsome rfl (q78_14926 N), lsome rfl (q78_58 N), trivial⟩ (e78 N)
/-- spec.PlanOk -/
noncomputable def spec_PlanOk {R : Type} (N : Nat) (p : DPlan) (k : Bool → Option R) : Option R :=
  spec_SchemaOk N p.1 fun r =>
    cond r
      (spec_l1In N p.2.1 0 (w64 ((p.1.length : Int) - 1)) fun r1 =>
        cond r1
          (spec_l1In N p.2.2.1 1 8 fun r2 =>
            cond r2
              (spec_l1In N p.2.2.2 0 2000 fun r3 =>
                k r3)
              (k false))
          (k false))
      (k false)
abbrev a47 : List AM := [.a (.pr (.ro 77 YShape) (.pr (.int .i64) (.pr (.int .i64) (.int .i64))))]
noncomputable def u47 {R : Type} (N : Nat) (d : AMs.D a47) (k : List Val → List Val → Option R) : Option R := spec_PlanOk N d.1 (fun r0 => k [.c (.bo r0)] [])
noncomputable def c47 {R : Type} (N : Nat) : Con R := conOf [.rd] a47 (u47 N)
noncomputable def g47 {R : Type} (N : Nat) : List (Nat × Con R) := [(78, c78 N), (50, c50 N)]
noncomputable def L47 {R : Type} (N : Nat) : List (Nat × LCon R) := []
theorem e47 {R : Type} (N : Nat) (d : AMs.D a47) (k : List Val → List Val → Option R) : evF Try.prog (gam (g47 N)) N (L47 N) Try.f47 (encAs a47 d (canAs a47 0)) k = u47 N d k := by kernel_rfl
theorem s47 {R : Type} (N : Nat) : Snd Try.prog 47 (c47 N : Con R) :=
  snd_eq (Γ := g47 N) (allG ⟨s78 N, s50 N, trivial⟩) mixed Try.func47 (c := (Try.f47.body.get rfl)) rfl (by kernel_rfl) (by kernel_rfl) (Λ := L47 N) (qs := []) (by kernel_rfl) trivial (e47 N)
/-- spec.SinkOk -/
noncomputable def spec_SinkOk {R : Type} (N : Nat) (k_ : DSink) (k : Bool → Option R) : Option R :=
  cond (decide ((k_.1.size : Int) ≤ 4000))
    (cond (decide ((k_.2.1.length : Int) ≤ 200))
      (spec_l1In N k_.2.2.1 0 (k_.2.1.length : Int) fun r =>
        cond r
          (spec_l1In N k_.2.2.2 0 1000000 fun r1 =>
            k r1)
          (k false))
      (k false))
    (k false)
abbrev a48 : List AM := [.a (.pr .str (.pr (.ro 3 (.int .i64)) (.pr (.int .i64) (.int .i64))))]
noncomputable def u48 {R : Type} (N : Nat) (d : AMs.D a48) (k : List Val → List Val → Option R) : Option R := spec_SinkOk N d.1 (fun r0 => k [.c (.bo r0)] [])
noncomputable def c48 {R : Type} (N : Nat) : Con R := conOf [.rd] a48 (u48 N)
noncomputable def g48 {R : Type} (N : Nat) : List (Nat × Con R) := [(50, c50 N)]
noncomputable def L48 {R : Type} (N : Nat) : List (Nat × LCon R) := []
theorem e48 {R : Type} (N : Nat) (d : AMs.D a48) (k : List Val → List Val → Option R) : evF Try.prog (gam (g48 N)) N (L48 N) Try.f48 (encAs a48 d (canAs a48 0)) k = u48 N d k := by kernel_rfl
theorem s48 {R : Type} (N : Nat) : Snd Try.prog 48 (c48 N : Con R) :=
  snd_eq (Γ := g48 N) (allG ⟨s50 N, trivial⟩) mixed Try.func48 (c := (Try.f48.body.get rfl)) rfl (by kernel_rfl) (by kernel_rfl) (Λ := L48 N) (qs := []) (by kernel_rfl) trivial (e48 N)
/-- spec.l8Copy, the loop 58 -/
noncomputable def spec_l8Copy_l0 {R : Type} (N : Nat) : Nat → Int → List DShape → List DShape → (List DShape → Option R) → Option R
  | 0, _, _, _, _ => none
  | n + 1, i1, b1, xs, x0_ =>
    cond (decide (i1 < (b1.length : Int)))
      (cond (idxE b1.length i1)
        (cond (idxE b1.length i1)
          (cond (decide ((0 + ((b1.getD i1.toNat YShape.z).2).length) * 32 ≤ 140737488355328))
            (cond (decide ((xs.length + 1) * 32 ≤ 140737488355328))
              (spec_l8Copy_l0 N n (w64 (i1 + 1)) b1 (xs ++ [b1.getD i1.toNat YShape.z]) x0_)
              none)
            none)
          none)
        none)
      (x0_ xs)
/-- spec.l8Copy -/
noncomputable def spec_l8Copy {R : Type} (N : Nat) (s : List DShape) (k : List DShape → Option R) : Option R :=
  spec_l8Copy_l0 N N 0 s []
    (fun xs1 =>
      k xs1)
abbrev a60 : List AM := [.a (.ro 77 YShape)]
noncomputable def u60 {R : Type} (N : Nat) (d : AMs.D a60) (k : List Val → List Val → Option R) : Option R := spec_l8Copy N d.1 (fun r0 => k [.agg [.own YShape 77 r0]] [])
noncomputable def c60 {R : Type} (N : Nat) : Con R := conOf [.rd] a60 (u60 N)
noncomputable def g60 {R : Type} (N : Nat) : List (Nat × Con R) := []
abbrev h60_58 : Sh := ⟨[(1, .c (.ptr 0 0)), (2, .c (.ptr 1 0)), (3, .c (.ptr 2 0)), (4, .c (.nu .i64))], [(0, .box 24 [.ro 0 77 YShape]), (1, .box 24 [.nil]), (2, .box 24 [.slw 3]), (3, .rows YShape 77)], 4, []⟩
noncomputable def l60_58 {R : Type} (N : Nat) : LCon R := lconOf [⟨.b 2 0, YShape, 77⟩] false h60_58 fun n d K => spec_l8Copy_l0 N n d.1.2.2.2.1 d.2.1.1.1 d.2.1.2.2.2.1 (fun y0 => K (.exit 0) ⟨[(2, .c (.ptr 0 0)), (3, .c (.ptr 1 0))], [(0, some (.box 24 [.nil])), (1, some (.box 24 [.slw 2])), (2, some (.rows YShape 77 y0))], 3, []⟩)
noncomputable def L60 {R : Type} (N : Nat) : List (Nat × LCon R) := [(58, l60_58 N)]
theorem q60_58 {R : Type} (N : Nat) : LSpec Try.prog (gam (g60 N)) N (L60 N) 4 (subC (Try.f60.body.get rfl) [true, true, false, true, false, false]) 58 30 [(0, 12)] (l60_58 N : LCon R) :=
  lspec_of (fun d K => rfl) (fun n d K => by kernel_rfl)
theorem e60 {R : Type} (N : Nat) (d : AMs.D a60) (k : List Val → List Val → Option R) : evF Try.prog (gam (g60 N)) N (L60 N) Try.f60 (encAs a60 d (canAs a60 0)) k = u60 N d k := by kernel_rfl
theorem s60 {R : Type} (N : Nat) : Snd Try.prog 60 (c60 N : Con R) :=
  snd_eq (Γ := g60 N) (allG trivial) mixed Try.func60 (c := (Try.f60.body.get rfl)) rfl (by kernel_rfl) (by kernel_rfl) (Λ := L60 N) (qs := [⟨58, subC (Try.f60.body.get rfl) [true, true, false, true, false, false], 30, [(0, 12)]⟩]) (by kernel_rfl) ⟨lsome rfl (q60_58 N), trivial⟩ (e60 N)
/-- spec.EncNew -/
noncomputable def spec_EncNew {R : Type} (N : Nat) (p : DPlan) (script : List Int) (k : DEncoder → Bool → Option R) : Option R :=
  cond (decide ((0 + script.length) * 8 ≤ 140737488355328))
    (spec_PlanOk N p fun r =>
      cond (!r)
        (k (([], 0, 0, 0), (ByteArray.empty, [], 0, 0), [], 0, 0, 0) false)
        (spec_SinkOk N (ByteArray.empty, script, 0, 0) fun r1 =>
          cond (!r1)
            (k (([], 0, 0, 0), (ByteArray.empty, [], 0, 0), [], 0, 0, 0) false)
            (spec_l8Copy N p.1 fun r2 =>
              k ((r2, p.2), (ByteArray.empty, script, 0, 0), [], 0, 0, 0) true)))
    none
abbrev a27 : List AM := [.a (.pr (.ro 77 YShape) (.pr (.int .i64) (.pr (.int .i64) (.int .i64)))), .v (.ro 3 (.int .i64))]
noncomputable def u27 {R : Type} (N : Nat) (d : AMs.D a27) (k : List Val → List Val → Option R) : Option R := spec_EncNew N d.1 d.2.1 (fun r0 r1 => k [.agg [.own YShape 77 r0.1.1, .nu .i64 r0.1.2.1, .nu .i64 r0.1.2.2.1, .nu .i64 r0.1.2.2.2, .sr r0.2.1.1, .own (.int .i64) 3 r0.2.1.2.1, .nu .i64 r0.2.1.2.2.1, .nu .i64 r0.2.1.2.2.2, .own YEvent 117 r0.2.2.1, .nu .i64 r0.2.2.2.1, .nu .i64 r0.2.2.2.2.1, .nu .i64 r0.2.2.2.2.2], .c (.bo r1)] [])
noncomputable def c27 {R : Type} (N : Nat) : Con R := conOf [.rd, .rd] a27 (u27 N)
noncomputable def g27 {R : Type} (N : Nat) : List (Nat × Con R) := [(47, c47 N), (48, c48 N), (60, c60 N)]
noncomputable def L27 {R : Type} (N : Nat) : List (Nat × LCon R) := []
theorem e27 {R : Type} (N : Nat) (d : AMs.D a27) (k : List Val → List Val → Option R) : evF Try.prog (gam (g27 N)) N (L27 N) Try.f27 (encAs a27 d (canAs a27 0)) k = u27 N d k := by kernel_rfl
theorem s27 {R : Type} (N : Nat) : Snd Try.prog 27 (c27 N : Con R) :=
  snd_eq (Γ := g27 N) (allG ⟨s47 N, s48 N, s60 N, trivial⟩) mixed Try.func27 (c := (Try.f27.body.get rfl)) rfl (by kernel_rfl) (by kernel_rfl) (Λ := L27 N) (qs := []) (by kernel_rfl) trivial (e27 N)
/-- slices.Clone[[]int,int] -/
noncomputable def slices_Clone_int_int {R : Type} (N : Nat) (s : List Int) (k : List Int → Option R) : Option R :=
  cond (decide ((0 + s.length) * 8 ≤ 140737488355328))
    (k s)
    none
abbrev a62 : List AM := [.v (.ro 3 (.int .i64))]
noncomputable def c62 {R : Type} (N : Nat) : Con R := conOf [.rd] a62 fun d k => cond ((fun s => decide ((0 + s.length) * 8 ≤ 140737488355328)) d.1) (k ((fun r0 => [.c (.own (.int .i64) 3 r0)]) d.1) []) none
noncomputable def g62 {R : Type} (N : Nat) : List (Nat × Con R) := []
noncomputable def L62 {R : Type} (N : Nat) : List (Nat × LCon R) := []
theorem s62 {R : Type} (N : Nat) : Snd Try.prog 62 (c62 N : Con R) :=
  snd_split (N := N) (e := 3) (t := (.int .i64)) (good := fun s => decide ((0 + s.length) * 8 ≤ 140737488355328)) (res := fun r0 => [.c (.own (.int .i64) 3 r0)]) (Γ := g62 N) (allG trivial) mixed Try.func62 (c := (Try.f62.body.get rfl)) rfl (by kernel_rfl) (by kernel_rfl) (Λ := L62 N) (qs := []) (by kernel_rfl) trivial (fun k => by kernel_rfl) (fun xs k => by kernel_rfl)
/-- impl.within -/
noncomputable def impl_within {R : Type} (N : Nat) (n_ : Int) (low : Int) (high : Int) (k : Bool → Option R) : Option R :=
  cond (decide (low ≤ n_))
    (k (decide (n_ ≤ high)))
    (k false)
abbrev a56 : List AM := [.v (.int .i64), .v (.int .i64), .v (.int .i64)]
noncomputable def u56 {R : Type} (N : Nat) (d : AMs.D a56) (k : List Val → List Val → Option R) : Option R := impl_within N d.1 d.2.1 d.2.2.1 (fun r0 => k [.c (.bo r0)] [])
noncomputable def c56 {R : Type} (N : Nat) : Con R := conOf [.rd, .rd, .rd] a56 (u56 N)
noncomputable def g56 {R : Type} (N : Nat) : List (Nat × Con R) := []
noncomputable def L56 {R : Type} (N : Nat) : List (Nat × LCon R) := []
theorem e56 {R : Type} (N : Nat) (d : AMs.D a56) (k : List Val → List Val → Option R) : evF Try.prog (gam (g56 N)) N (L56 N) Try.f56 (encAs a56 d (canAs a56 0)) k = u56 N d k := by kernel_rfl
theorem s56 {R : Type} (N : Nat) : Snd Try.prog 56 (c56 N : Con R) :=
  snd_eq (Γ := g56 N) (allG trivial) mixed Try.func56 (c := (Try.f56.body.get rfl)) rfl (by kernel_rfl) (by kernel_rfl) (Λ := L56 N) (qs := []) (by kernel_rfl) trivial (e56 N)
/-- impl.NumberOk -/
noncomputable def impl_NumberOk {R : Type} (N : Nat) (n_ : Int) (k : Bool → Option R) : Option R :=
  impl_within N n_ 1 536870911 fun r =>
    cond r
      (impl_within N n_ 19000 19999 fun r1 =>
        k (!r1))
      (k false)
abbrev a104 : List AM := [.v (.int .i64)]
noncomputable def u104 {R : Type} (N : Nat) (d : AMs.D a104) (k : List Val → List Val → Option R) : Option R := impl_NumberOk N d.1 (fun r0 => k [.c (.bo r0)] [])
noncomputable def c104 {R : Type} (N : Nat) : Con R := conOf [.rd] a104 (u104 N)
noncomputable def g104 {R : Type} (N : Nat) : List (Nat × Con R) := [(56, c56 N)]
noncomputable def L104 {R : Type} (N : Nat) : List (Nat × LCon R) := []
theorem e104 {R : Type} (N : Nat) (d : AMs.D a104) (k : List Val → List Val → Option R) : evF Try.prog (gam (g104 N)) N (L104 N) Try.f104 (encAs a104 d (canAs a104 0)) k = u104 N d k := by kernel_rfl
theorem s104 {R : Type} (N : Nat) : Snd Try.prog 104 (c104 N : Con R) :=
  snd_eq (Γ := g104 N) (allG ⟨s56 N, trivial⟩) mixed Try.func104 (c := (Try.f104.body.get rfl)) rfl (by kernel_rfl) (by kernel_rfl) (Λ := L104 N) (qs := []) (by kernel_rfl) trivial (e104 N)
/-- impl.isKind -/
noncomputable def impl_isKind {R : Type} (N : Nat) (k_ : Int) (k : Bool → Option R) : Option R :=
  impl_within N k_ 1 8 fun r =>
    k r
abbrev a105 : List AM := [.v (.int .i64)]
noncomputable def u105 {R : Type} (N : Nat) (d : AMs.D a105) (k : List Val → List Val → Option R) : Option R := impl_isKind N d.1 (fun r0 => k [.c (.bo r0)] [])
noncomputable def c105 {R : Type} (N : Nat) : Con R := conOf [.rd] a105 (u105 N)
noncomputable def g105 {R : Type} (N : Nat) : List (Nat × Con R) := [(56, c56 N)]
noncomputable def L105 {R : Type} (N : Nat) : List (Nat × LCon R) := []
theorem e105 {R : Type} (N : Nat) (d : AMs.D a105) (k : List Val → List Val → Option R) : evF Try.prog (gam (g105 N)) N (L105 N) Try.f105 (encAs a105 d (canAs a105 0)) k = u105 N d k := by kernel_rfl
theorem s105 {R : Type} (N : Nat) : Snd Try.prog 105 (c105 N : Con R) :=
  snd_eq (Γ := g105 N) (allG ⟨s56 N, trivial⟩) mixed Try.func105 (c := (Try.f105.body.get rfl)) rfl (by kernel_rfl) (by kernel_rfl) (Λ := L105 N) (qs := []) (by kernel_rfl) trivial (e105 N)
/-- impl.Numeric -/
noncomputable def impl_Numeric {R : Type} (N : Nat) (k_ : Int) (k : Bool → Option R) : Option R :=
  impl_within N k_ 1 5 fun r =>
    k r
abbrev a106 : List AM := [.v (.int .i64)]
noncomputable def u106 {R : Type} (N : Nat) (d : AMs.D a106) (k : List Val → List Val → Option R) : Option R := impl_Numeric N d.1 (fun r0 => k [.c (.bo r0)] [])
noncomputable def c106 {R : Type} (N : Nat) : Con R := conOf [.rd] a106 (u106 N)
noncomputable def g106 {R : Type} (N : Nat) : List (Nat × Con R) := [(56, c56 N)]
noncomputable def L106 {R : Type} (N : Nat) : List (Nat × LCon R) := []
theorem e106 {R : Type} (N : Nat) (d : AMs.D a106) (k : List Val → List Val → Option R) : evF Try.prog (gam (g106 N)) N (L106 N) Try.f106 (encAs a106 d (canAs a106 0)) k = u106 N d k := by kernel_rfl
theorem s106 {R : Type} (N : Nat) : Snd Try.prog 106 (c106 N : Con R) :=
  snd_eq (Γ := g106 N) (allG ⟨s56 N, trivial⟩) mixed Try.func106 (c := (Try.f106.body.get rfl)) rfl (by kernel_rfl) (by kernel_rfl) (Λ := L106 N) (qs := []) (by kernel_rfl) trivial (e106 N)
/-- impl.fieldOk -/
noncomputable def impl_fieldOk {R : Type} (N : Nat) (f : DField) (before : Int) (shapes : Int) (k : Bool → Option R) : Option R :=
  impl_NumberOk N f.1 fun r =>
    cond (!r)
      (k false)
      (cond (decide (f.1 ≤ before))
        (k false)
        (impl_isKind N f.2.1 fun r1 =>
          cond (!r1)
            (k false)
            (cond f.2.2.2.1
              (cond (!f.2.2.1)
                (k false)
                (impl_Numeric N f.2.1 fun r2 =>
                  cond (!r2)
                    (k false)
                    (cond (decide (f.2.1 = 8))
                      (impl_within N f.2.2.2.2 0 (w64 (shapes - 1)) fun r3 =>
                        k r3)
                      (k (decide (f.2.2.2.2 = (-1)))))))
              (cond (decide (f.2.1 = 8))
                (impl_within N f.2.2.2.2 0 (w64 (shapes - 1)) fun r4 =>
                  k r4)
                (k (decide (f.2.2.2.2 = (-1))))))))
abbrev a94 : List AM := [.a (.pr (.int .i64) (.pr (.int .i64) (.pr .bool (.pr .bool (.int .i64))))), .v (.int .i64), .v (.int .i64)]
noncomputable def u94 {R : Type} (N : Nat) (d : AMs.D a94) (k : List Val → List Val → Option R) : Option R := impl_fieldOk N d.1 d.2.1 d.2.2.1 (fun r0 => k [.c (.bo r0)] [])
noncomputable def c94 {R : Type} (N : Nat) : Con R := conOf [.rd, .rd, .rd] a94 (u94 N)
noncomputable def g94 {R : Type} (N : Nat) : List (Nat × Con R) := [(104, c104 N), (105, c105 N), (106, c106 N), (56, c56 N)]
noncomputable def L94 {R : Type} (N : Nat) : List (Nat × LCon R) := []
theorem e94 {R : Type} (N : Nat) (d : AMs.D a94) (k : List Val → List Val → Option R) : evF Try.prog (gam (g94 N)) N (L94 N) Try.f94 (encAs a94 d (canAs a94 0)) k = u94 N d k := by kernel_rfl
theorem s94 {R : Type} (N : Nat) : Snd Try.prog 94 (c94 N : Con R) :=
  snd_eq (Γ := g94 N) (allG ⟨s104 N, s105 N, s106 N, s56 N, trivial⟩) mixed Try.func94 (c := (Try.f94.body.get rfl)) rfl (by kernel_rfl) (by kernel_rfl) (Λ := L94 N) (qs := []) (by kernel_rfl) trivial (e94 N)
/-- impl.SchemaOk, the loop 250682 -/
noncomputable def impl_SchemaOk_l0 {R : Type} (N : Nat) : Nat → Int → List DShape → Int → Int → List DField → Int → Int → List DShape → Int → List DField → (Bool → Option R) → (List DShape → Int → Int → List DShape → Int → List DField → Option R) → Option R
  | 0, _, _, _, _, _, _, _, _, _, _, _, _ => none
  | n + 1, number, v3, v4, v5, v6, v7, v8, b1, b2, b3, x0_, x1_ =>
    cond (decide (v8 < v7))
      (cond (idxE v6.length v8)
        (impl_fieldOk N (v6.getD v8.toNat YField.z) number (b1.length : Int) fun r =>
          cond (!r)
            (x0_ false)
            (impl_SchemaOk_l0 N n ((v6.getD v8.toNat YField.z).1) v3 v4 v5 v6 v7 (w64 (v8 + 1)) b1 b2 b3 x0_ x1_))
        none)
      (x1_ v3 v4 v5 b1 b2 b3)
/-- impl.SchemaOk, the loop 122 -/
noncomputable def impl_SchemaOk_l1 {R : Type} (N : Nat) : Nat → Int → List DShape → Int → Int → List DShape → (Bool → Option R) → Option R → Option R
  | 0, _, _, _, _, _, _, _ => none
  | n + 1, id, v, v1, v2, b, x0_, x1_ =>
    cond (decide (v2 < v1))
      (cond (idxE v.length v2)
        (cond (decide (((v.getD v2.toNat YShape.z).1) ≤ id))
          (x0_ false)
          (cond (decide (99 < ((v.getD v2.toNat YShape.z).1)))
            (x0_ false)
            (cond (decide (8 < (((v.getD v2.toNat YShape.z).2).length : Int)))
              (x0_ false)
              (impl_SchemaOk_l0 N N 0 v v1 v2 ((v.getD v2.toNat YShape.z).2) (((v.getD v2.toNat YShape.z).2).length : Int) 0 b ((v.getD v2.toNat YShape.z).1) ((v.getD v2.toNat YShape.z).2)
                (fun v9 =>
                  x0_ v9)
                (fun v10 v11 v12 b4 b5 b6 =>
                  impl_SchemaOk_l1 N n b5 v10 v11 (w64 (v12 + 1)) b4 x0_ x1_)))))
        none)
      x1_
/-- impl.SchemaOk -/
noncomputable def impl_SchemaOk {R : Type} (N : Nat) (s : List DShape) (k : Bool → Option R) : Option R :=
  cond (decide (6 < (s.length : Int)))
    (k false)
    (impl_SchemaOk_l1 N N 0 s (s.length : Int) 0 s
      (fun v13 =>
        k v13)
      (k true))
abbrev a80 : List AM := [.a (.ro 77 YShape)]
noncomputable def u80 {R : Type} (N : Nat) (d : AMs.D a80) (k : List Val → List Val → Option R) : Option R := impl_SchemaOk N d.1 (fun r0 => k [.c (.bo r0)] [])
noncomputable def c80 {R : Type} (N : Nat) : Con R := conOf [.rd] a80 (u80 N)
noncomputable def g80 {R : Type} (N : Nat) : List (Nat × Con R) := [(94, c94 N)]
abbrev h80_250682 : Sh := ⟨[(1, .c (.ptr 0 0)), (5, .c (.ptr 1 0)), (6, .c (.nu .i64)), (14, .c (.ro 0 77 YShape)), (15, .c (.nu .i64)), (16, .c (.nu .i64)), (36, .c (.ro 0 128 YField)), (37, .c (.nu .i64)), (38, .c (.nu .i64))], [(0, .box 24 [.ro 0 77 YShape]), (1, .box 77 [.nu .i64, .ro 0 128 YField])], 2, []⟩
noncomputable def l80_250682 {R : Type} (N : Nat) : LCon R := lconOf [] false h80_250682 fun n d K => impl_SchemaOk_l0 N n d.1.2.2.1 d.1.2.2.2.1 d.1.2.2.2.2.1 d.1.2.2.2.2.2.1 d.1.2.2.2.2.2.2.1 d.1.2.2.2.2.2.2.2.1 d.1.2.2.2.2.2.2.2.2.1 d.2.1.1.1 d.2.1.2.1.1 d.2.1.2.1.2.1 (fun y0 => K .ret ⟨[(2, .c (.bo y0))], [], 0, []⟩) (fun y0 y1 y2 y3 y4 y5 => K (.exit 2) ⟨[(1, .c (.ptr 0 0)), (5, .c (.ptr 1 0)), (14, .c (.ro 0 YShape 77 y0)), (15, .c (.nu .i64 y1)), (16, .c (.nu .i64 y2))], [(0, some (.box 24 [.ro 0 YShape 77 y3])), (1, some (.box 77 [.nu .i64 y4, .ro 0 YField 128 y5]))], 2, []⟩)
abbrev h80_122 : Sh := ⟨[(1, .c (.ptr 0 0)), (3, .c (.nu .i64)), (14, .c (.ro 0 77 YShape)), (15, .c (.nu .i64)), (16, .c (.nu .i64))], [(0, .box 24 [.ro 0 77 YShape])], 1, []⟩
noncomputable def l80_122 {R : Type} (N : Nat) : LCon R := lconOf [] false h80_122 fun n d K => impl_SchemaOk_l1 N n d.1.2.1 d.1.2.2.1 d.1.2.2.2.1 d.1.2.2.2.2.1 d.2.1.1.1 (fun y0 => K .ret ⟨[(2, .c (.bo y0))], [], 0, []⟩) (K (.exit 0) ⟨[], [], 0, []⟩)
noncomputable def L80 {R : Type} (N : Nat) : List (Nat × LCon R) := [(250682, l80_250682 N), (122, l80_122 N)]
theorem q80_250682 {R : Type} (N : Nat) : LSpec Try.prog (gam (g80 N)) N (L80 N) 4 (subC (Try.f80.body.get rfl) [true, true, true, false, true, false, false, true, true, false, false, true, true, true, false, true, false, false]) 250682 481036451938 [(2, 114722), (1, 114698), (0, 0)] (l80_250682 N : LCon R) :=
  lspec_of (fun d K => rfl) (fun n d K => by kernel_rfl)
theorem q80_122 {R : Type} (N : Nat) : LSpec Try.prog (gam (g80 N)) N (L80 N) 4 (subC (Try.f80.body.get rfl) [true, true, true, false, true, false, false]) 122 114698 [(0, 0)] (l80_122 N : LCon R) :=
  lspec_of (fun d K => rfl) (fun n d K => by kernel_rfl)
theorem e80 {R : Type} (N : Nat) (d : AMs.D a80) (k : List Val → List Val → Option R) : evF Try.prog (gam (g80 N)) N (L80 N) Try.f80 (encAs a80 d (canAs a80 0)) k = u80 N d k := by kernel_rfl
theorem s80 {R : Type} (N : Nat) : Snd Try.prog 80 (c80 N : Con R) :=
  snd_eq (Γ := g80 N) (allG ⟨s94 N, trivial⟩) mixed Try.func80 (c := (Try.f80.body.get rfl)) rfl (by kernel_rfl) (by kernel_rfl) (Λ := L80 N) (qs := [⟨250682, subC (Try.f80.body.get rfl) [true, true, true, false, true, false, false, true, true, false, false, true, true, true, false, true, false, false], 481036451938, [(2, 114722), (1, 114698), (0, 0)]⟩, ⟨122, subC (Try.f80.body.get rfl) [true, true, true, false, true, false, false], 114698, [(0, 0)]⟩]) (by kernel_rfl) ⟨lsome rfl (q80_250682 N), lsome rfl (q80_122 N), trivial⟩ (e80 N)
/-- impl.PlanOk -/
noncomputable def impl_PlanOk {R : Type} (N : Nat) (p : DPlan) (k : Bool → Option R) : Option R :=
  impl_SchemaOk N p.1 fun r =>
    cond r
      (impl_within N p.2.1 0 (w64 ((p.1.length : Int) - 1)) fun r1 =>
        cond r1
          (impl_within N p.2.2.1 1 8 fun r2 =>
            cond r2
              (impl_within N p.2.2.2 0 2000 fun r3 =>
                k r3)
              (k false))
          (k false))
      (k false)
abbrev a53 : List AM := [.a (.pr (.ro 77 YShape) (.pr (.int .i64) (.pr (.int .i64) (.int .i64))))]
noncomputable def u53 {R : Type} (N : Nat) (d : AMs.D a53) (k : List Val → List Val → Option R) : Option R := impl_PlanOk N d.1 (fun r0 => k [.c (.bo r0)] [])
noncomputable def c53 {R : Type} (N : Nat) : Con R := conOf [.rd] a53 (u53 N)
noncomputable def g53 {R : Type} (N : Nat) : List (Nat × Con R) := [(80, c80 N), (56, c56 N)]
noncomputable def L53 {R : Type} (N : Nat) : List (Nat × LCon R) := []
theorem e53 {R : Type} (N : Nat) (d : AMs.D a53) (k : List Val → List Val → Option R) : evF Try.prog (gam (g53 N)) N (L53 N) Try.f53 (encAs a53 d (canAs a53 0)) k = u53 N d k := by kernel_rfl
theorem s53 {R : Type} (N : Nat) : Snd Try.prog 53 (c53 N : Con R) :=
  snd_eq (Γ := g53 N) (allG ⟨s80 N, s56 N, trivial⟩) mixed Try.func53 (c := (Try.f53.body.get rfl)) rfl (by kernel_rfl) (by kernel_rfl) (Λ := L53 N) (qs := []) (by kernel_rfl) trivial (e53 N)
/-- impl.SinkOk -/
noncomputable def impl_SinkOk {R : Type} (N : Nat) (k_ : DSink) (k : Bool → Option R) : Option R :=
  cond (decide ((k_.1.size : Int) ≤ 4000))
    (cond (decide ((k_.2.1.length : Int) ≤ 200))
      (impl_within N k_.2.2.1 0 (k_.2.1.length : Int) fun r =>
        cond r
          (impl_within N k_.2.2.2 0 1000000 fun r1 =>
            k r1)
          (k false))
      (k false))
    (k false)
abbrev a54 : List AM := [.a (.pr .str (.pr (.ro 3 (.int .i64)) (.pr (.int .i64) (.int .i64))))]
noncomputable def u54 {R : Type} (N : Nat) (d : AMs.D a54) (k : List Val → List Val → Option R) : Option R := impl_SinkOk N d.1 (fun r0 => k [.c (.bo r0)] [])
noncomputable def c54 {R : Type} (N : Nat) : Con R := conOf [.rd] a54 (u54 N)
noncomputable def g54 {R : Type} (N : Nat) : List (Nat × Con R) := [(56, c56 N)]
noncomputable def L54 {R : Type} (N : Nat) : List (Nat × LCon R) := []
theorem e54 {R : Type} (N : Nat) (d : AMs.D a54) (k : List Val → List Val → Option R) : evF Try.prog (gam (g54 N)) N (L54 N) Try.f54 (encAs a54 d (canAs a54 0)) k = u54 N d k := by kernel_rfl
theorem s54 {R : Type} (N : Nat) : Snd Try.prog 54 (c54 N : Con R) :=
  snd_eq (Γ := g54 N) (allG ⟨s56 N, trivial⟩) mixed Try.func54 (c := (Try.f54.body.get rfl)) rfl (by kernel_rfl) (by kernel_rfl) (Λ := L54 N) (qs := []) (by kernel_rfl) trivial (e54 N)
/-- slices.Clone[[]impl.Field,impl.Field] -/
noncomputable def slices_Clone_impl_Field_impl_Field {R : Type} (N : Nat) (s : List DField) (k : List DField → Option R) : Option R :=
  cond (decide ((0 + s.length) * 32 ≤ 140737488355328))
    (k s)
    none
abbrev a97 : List AM := [.v (.ro 128 YField)]
noncomputable def c97 {R : Type} (N : Nat) : Con R := conOf [.rd] a97 fun d k => cond ((fun s => decide ((0 + s.length) * 32 ≤ 140737488355328)) d.1) (k ((fun r0 => [.c (.own YField 128 r0)]) d.1) []) none
noncomputable def g97 {R : Type} (N : Nat) : List (Nat × Con R) := []
noncomputable def L97 {R : Type} (N : Nat) : List (Nat × LCon R) := []
theorem s97 {R : Type} (N : Nat) : Snd Try.prog 97 (c97 N : Con R) :=
  snd_split (N := N) (e := 128) (t := YField) (good := fun s => decide ((0 + s.length) * 32 ≤ 140737488355328)) (res := fun r0 => [.c (.own YField 128 r0)]) (Γ := g97 N) (allG trivial) mixed Try.func97 (c := (Try.f97.body.get rfl)) rfl (by kernel_rfl) (by kernel_rfl) (Λ := L97 N) (qs := []) (by kernel_rfl) trivial (fun k => by kernel_rfl) (fun xs k => by kernel_rfl)
/-- impl.copySchema, the loop 58 -/
noncomputable def impl_copySchema_l0 {R : Type} (N : Nat) : Nat → List DShape → Int → Int → List DShape → (List DShape → Option R) → Option R
  | 0, _, _, _, _, _ => none
  | n + 1, v3, v4, v5, xs, x0_ =>
    cond (decide (v5 < v4))
      (cond (idxE v3.length v5)
        (slices_Clone_impl_Field_impl_Field N ((v3.getD v5.toNat YShape.z).2) fun r1 =>
          cond (decide ((xs.length + 1) * 32 ≤ 140737488355328))
            (impl_copySchema_l0 N n v3 v4 (w64 (v5 + 1)) (xs ++ [((v3.getD v5.toNat YShape.z).1, r1)]) x0_)
            none)
        none)
      (x0_ xs)
/-- impl.copySchema -/
noncomputable def impl_copySchema {R : Type} (N : Nat) (s : List DShape) (k : List DShape → Option R) : Option R :=
  impl_copySchema_l0 N N s (s.length : Int) 0 []
    (fun xs1 =>
      k xs1)
abbrev a84 : List AM := [.a (.ro 77 YShape)]
noncomputable def u84 {R : Type} (N : Nat) (d : AMs.D a84) (k : List Val → List Val → Option R) : Option R := impl_copySchema N d.1 (fun r0 => k [.agg [.own YShape 77 r0]] [])
noncomputable def c84 {R : Type} (N : Nat) : Con R := conOf [.rd] a84 (u84 N)
noncomputable def g84 {R : Type} (N : Nat) : List (Nat × Con R) := [(97, c97 N)]
abbrev h84_58 : Sh := ⟨[(2, .c (.ptr 0 0)), (3, .c (.ptr 1 0)), (8, .c (.ro 0 77 YShape)), (9, .c (.nu .i64)), (10, .c (.nu .i64))], [(0, .box 24 [.nil]), (1, .box 24 [.slw 2]), (2, .rows YShape 77)], 3, []⟩
noncomputable def l84_58 {R : Type} (N : Nat) : LCon R := lconOf [⟨.b 1 0, YShape, 77⟩] false h84_58 fun n d K => impl_copySchema_l0 N n d.1.2.2.1 d.1.2.2.2.1 d.1.2.2.2.2.1 d.2.1.2.2.1 (fun y0 => K (.exit 0) ⟨[(2, .c (.ptr 0 0)), (3, .c (.ptr 1 0))], [(0, some (.box 24 [.nil])), (1, some (.box 24 [.slw 2])), (2, some (.rows YShape 77 y0))], 3, []⟩)
noncomputable def L84 {R : Type} (N : Nat) : List (Nat × LCon R) := [(58, l84_58 N)]
theorem q84_58 {R : Type} (N : Nat) : LSpec Try.prog (gam (g84 N)) N (L84 N) 4 (subC (Try.f84.body.get rfl) [true, true, false, true, false, false]) 58 1804 [(0, 12)] (l84_58 N : LCon R) :=
  lspec_of (fun d K => rfl) (fun n d K => by kernel_rfl)
theorem e84 {R : Type} (N : Nat) (d : AMs.D a84) (k : List Val → List Val → Option R) : evF Try.prog (gam (g84 N)) N (L84 N) Try.f84 (encAs a84 d (canAs a84 0)) k = u84 N d k := by kernel_rfl
theorem s84 {R : Type} (N : Nat) : Snd Try.prog 84 (c84 N : Con R) :=
  snd_eq (Γ := g84 N) (allG ⟨s97 N, trivial⟩) mixed Try.func84 (c := (Try.f84.body.get rfl)) rfl (by kernel_rfl) (by kernel_rfl) (Λ := L84 N) (qs := [⟨58, subC (Try.f84.body.get rfl) [true, true, false, true, false, false], 1804, [(0, 12)]⟩]) (by kernel_rfl) ⟨lsome rfl (q84_58 N), trivial⟩ (e84 N)
/-- impl.copyPlan -/
noncomputable def impl_copyPlan {R : Type} (N : Nat) (p : DPlan) (k : DPlan → Option R) : Option R :=
  impl_copySchema N p.1 fun r =>
    k (r, p.2)
abbrev a63 : List AM := [.a (.pr (.ro 77 YShape) (.pr (.int .i64) (.pr (.int .i64) (.int .i64))))]
noncomputable def u63 {R : Type} (N : Nat) (d : AMs.D a63) (k : List Val → List Val → Option R) : Option R := impl_copyPlan N d.1 (fun r0 => k [.agg [.own YShape 77 r0.1, .nu .i64 r0.2.1, .nu .i64 r0.2.2.1, .nu .i64 r0.2.2.2]] [])
noncomputable def c63 {R : Type} (N : Nat) : Con R := conOf [.rd] a63 (u63 N)
noncomputable def g63 {R : Type} (N : Nat) : List (Nat × Con R) := [(84, c84 N)]
noncomputable def L63 {R : Type} (N : Nat) : List (Nat × LCon R) := []
theorem e63 {R : Type} (N : Nat) (d : AMs.D a63) (k : List Val → List Val → Option R) : evF Try.prog (gam (g63 N)) N (L63 N) Try.f63 (encAs a63 d (canAs a63 0)) k = u63 N d k := by kernel_rfl
theorem s63 {R : Type} (N : Nat) : Snd Try.prog 63 (c63 N : Con R) :=
  snd_eq (Γ := g63 N) (allG ⟨s84 N, trivial⟩) mixed Try.func63 (c := (Try.f63.body.get rfl)) rfl (by kernel_rfl) (by kernel_rfl) (Λ := L63 N) (qs := []) (by kernel_rfl) trivial (e63 N)
/-- impl.EncNew -/
noncomputable def impl_EncNew {R : Type} (N : Nat) (p : DPlan) (script : List Int) (k : DEncoder → Bool → Option R) : Option R :=
  slices_Clone_int_int N script fun r =>
    impl_PlanOk N p fun r1 =>
      cond (!r1)
        (k (([], 0, 0, 0), (ByteArray.empty, [], 0, 0), [], 0, 0, 0) false)
        (impl_SinkOk N (ByteArray.empty, r, 0, 0) fun r2 =>
          cond (!r2)
            (k (([], 0, 0, 0), (ByteArray.empty, [], 0, 0), [], 0, 0, 0) false)
            (impl_copyPlan N p fun r3 =>
              k (r3, (ByteArray.empty, r, 0, 0), [], 0, 0, 0) true))
abbrev a30 : List AM := [.a (.pr (.ro 77 YShape) (.pr (.int .i64) (.pr (.int .i64) (.int .i64)))), .v (.ro 3 (.int .i64))]
noncomputable def u30 {R : Type} (N : Nat) (d : AMs.D a30) (k : List Val → List Val → Option R) : Option R := impl_EncNew N d.1 d.2.1 (fun r0 r1 => k [.agg [.own YShape 77 r0.1.1, .nu .i64 r0.1.2.1, .nu .i64 r0.1.2.2.1, .nu .i64 r0.1.2.2.2, .sr r0.2.1.1, .own (.int .i64) 3 r0.2.1.2.1, .nu .i64 r0.2.1.2.2.1, .nu .i64 r0.2.1.2.2.2, .own YEvent 117 r0.2.2.1, .nu .i64 r0.2.2.2.1, .nu .i64 r0.2.2.2.2.1, .nu .i64 r0.2.2.2.2.2], .c (.bo r1)] [])
noncomputable def c30 {R : Type} (N : Nat) : Con R := conOf [.rd, .rd] a30 (u30 N)
noncomputable def g30 {R : Type} (N : Nat) : List (Nat × Con R) := [(62, c62 N), (53, c53 N), (54, c54 N), (63, c63 N)]
noncomputable def L30 {R : Type} (N : Nat) : List (Nat × LCon R) := []
theorem e30 {R : Type} (N : Nat) (d : AMs.D a30) (k : List Val → List Val → Option R) : evF Try.prog (gam (g30 N)) N (L30 N) Try.f30 (encAs a30 d (canAs a30 0)) k = u30 N d k := by kernel_rfl
theorem s30 {R : Type} (N : Nat) : Snd Try.prog 30 (c30 N : Con R) :=
  snd_eq (Γ := g30 N) (allG ⟨s62 N, s53 N, s54 N, s63 N, trivial⟩) mixed Try.func30 (c := (Try.f30.body.get rfl)) rfl (by kernel_rfl) (by kernel_rfl) (Λ := L30 N) (qs := []) (by kernel_rfl) trivial (e30 N)
/-- laws.eqIntS, the loop 58 -/
noncomputable def laws_eqIntS_l0 {R : Type} (N : Nat) : Nat → List Int → List Int → Int → (Bool → Option R) → Option R → Option R
  | 0, _, _, _, _, _ => none
  | n + 1, a1, b1, i, x0_, x1_ =>
    cond (decide (i < (a1.length : Int)))
      (cond (idxE a1.length i)
        (cond (idxE b1.length i)
          (cond (!(decide ((a1.getD i.toNat 0) = (b1.getD i.toNat 0))))
            (x0_ false)
            (laws_eqIntS_l0 N n a1 b1 (w64 (i + 1)) x0_ x1_))
          none)
        none)
      x1_
/-- laws.eqIntS -/
noncomputable def laws_eqIntS {R : Type} (N : Nat) (a : List Int) (b : List Int) (k : Bool → Option R) : Option R :=
  cond (!(decide ((a.length : Int) = (b.length : Int))))
    (k false)
    (laws_eqIntS_l0 N N a b 0
      (fun v =>
        k v)
      (k true))
abbrev a32 : List AM := [.v (.ro 3 (.int .i64)), .v (.ro 3 (.int .i64))]
noncomputable def u32 {R : Type} (N : Nat) (d : AMs.D a32) (k : List Val → List Val → Option R) : Option R := laws_eqIntS N d.1 d.2.1 (fun r0 => k [.c (.bo r0)] [])
noncomputable def c32 {R : Type} (N : Nat) : Con R := conOf [.rd, .rd] a32 (u32 N)
noncomputable def g32 {R : Type} (N : Nat) : List (Nat × Con R) := []
abbrev h32_58 : Sh := ⟨[(0, .c (.ro 0 3 (.int .i64))), (1, .c (.ro 1 3 (.int .i64))), (5, .c (.nu .i64))], [], 0, []⟩
noncomputable def l32_58 {R : Type} (N : Nat) : LCon R := lconOf [] false h32_58 fun n d K => laws_eqIntS_l0 N n d.1.1 d.1.2.1 d.1.2.2.1 (fun y0 => K .ret ⟨[(4, .c (.bo y0))], [], 0, []⟩) (K (.exit 0) ⟨[], [], 0, []⟩)
noncomputable def L32 {R : Type} (N : Nat) : List (Nat × LCon R) := [(58, l32_58 N)]
theorem q32_58 {R : Type} (N : Nat) : LSpec Try.prog (gam (g32 N)) N (L32 N) 16 (subC (Try.f32.body.get rfl) [true, true, false, true, false, false]) 58 35 [(0, 0)] (l32_58 N : LCon R) :=
  lspec_of (fun d K => rfl) (fun n d K => by kernel_rfl)
theorem e32 {R : Type} (N : Nat) (d : AMs.D a32) (k : List Val → List Val → Option R) : evF Try.prog (gam (g32 N)) N (L32 N) Try.f32 (encAs a32 d (canAs a32 0)) k = u32 N d k := by kernel_rfl
theorem s32 {R : Type} (N : Nat) : Snd Try.prog 32 (c32 N : Con R) :=
  snd_eq (Γ := g32 N) (allG trivial) mixed Try.func32 (c := (Try.f32.body.get rfl)) rfl (by kernel_rfl) (by kernel_rfl) (Λ := L32 N) (qs := [⟨58, subC (Try.f32.body.get rfl) [true, true, false, true, false, false], 35, [(0, 0)]⟩]) (by kernel_rfl) ⟨lsome rfl (q32_58 N), trivial⟩ (e32 N)
/-- laws.eqSink -/
noncomputable def laws_eqSink {R : Type} (N : Nat) (a : DSink) (b : DSink) (k : Bool → Option R) : Option R :=
  cond (!decide (a.1 = b.1))
    (k false)
    (laws_eqIntS N a.2.1 b.2.1 fun r =>
      cond (!r)
        (k false)
        (cond (!(decide (a.2.2.1 = b.2.2.1)))
          (k false)
          (cond (!(decide (a.2.2.2 = b.2.2.2)))
            (k false)
            (k true))))
abbrev a57 : List AM := [.a (.pr .str (.pr (.ro 3 (.int .i64)) (.pr (.int .i64) (.int .i64)))), .a (.pr .str (.pr (.ro 3 (.int .i64)) (.pr (.int .i64) (.int .i64))))]
noncomputable def u57 {R : Type} (N : Nat) (d : AMs.D a57) (k : List Val → List Val → Option R) : Option R := laws_eqSink N d.1 d.2.1 (fun r0 => k [.c (.bo r0)] [])
noncomputable def c57 {R : Type} (N : Nat) : Con R := conOf [.rd, .rd] a57 (u57 N)
noncomputable def g57 {R : Type} (N : Nat) : List (Nat × Con R) := [(32, c32 N)]
noncomputable def L57 {R : Type} (N : Nat) : List (Nat × LCon R) := []
theorem e57 {R : Type} (N : Nat) (d : AMs.D a57) (k : List Val → List Val → Option R) : evF Try.prog (gam (g57 N)) N (L57 N) Try.f57 (encAs a57 d (canAs a57 0)) k = u57 N d k := by kernel_rfl
theorem s57 {R : Type} (N : Nat) : Snd Try.prog 57 (c57 N : Con R) :=
  snd_eq (Γ := g57 N) (allG ⟨s32 N, trivial⟩) mixed Try.func57 (c := (Try.f57.body.get rfl)) rfl (by kernel_rfl) (by kernel_rfl) (Λ := L57 N) (qs := []) (by kernel_rfl) trivial (e57 N)
/-- laws.eqEvent -/
noncomputable def laws_eqEvent {R : Type} (N : Nat) (a : DEvent) (b : DEvent) (k : Bool → Option R) : Option R :=
  cond (!(decide (a.1 = b.1)))
    (k false)
    (cond (!(decide (a.2.1 = b.2.1)))
      (k false)
      (cond (!(decide (a.2.2.1 = b.2.2.1)))
        (k false)
        (cond (!(decide (a.2.2.2.1 = b.2.2.2.1)))
          (k false)
          (cond (!decide (a.2.2.2.2.1 = b.2.2.2.2.1))
            (k false)
            (cond (!(decide (a.2.2.2.2.2.1 = b.2.2.2.2.2.1)))
              (k false)
              (cond (!(decide (a.2.2.2.2.2.2 = b.2.2.2.2.2.2)))
                (k false)
                (k true)))))))
abbrev a81 : List AM := [.a (.pr (.int .i64) (.pr (.int .i64) (.pr (.int .u64) (.pr (.int .i64) (.pr .str (.pr (.int .i64) (.int .i64))))))), .a (.pr (.int .i64) (.pr (.int .i64) (.pr (.int .u64) (.pr (.int .i64) (.pr .str (.pr (.int .i64) (.int .i64)))))))]
noncomputable def u81 {R : Type} (N : Nat) (d : AMs.D a81) (k : List Val → List Val → Option R) : Option R := laws_eqEvent N d.1 d.2.1 (fun r0 => k [.c (.bo r0)] [])
noncomputable def c81 {R : Type} (N : Nat) : Con R := conOf [.rd, .rd] a81 (u81 N)
noncomputable def g81 {R : Type} (N : Nat) : List (Nat × Con R) := []
noncomputable def L81 {R : Type} (N : Nat) : List (Nat × LCon R) := []
theorem e81 {R : Type} (N : Nat) (d : AMs.D a81) (k : List Val → List Val → Option R) : evF Try.prog (gam (g81 N)) N (L81 N) Try.f81 (encAs a81 d (canAs a81 0)) k = u81 N d k := by kernel_rfl
theorem s81 {R : Type} (N : Nat) : Snd Try.prog 81 (c81 N : Con R) :=
  snd_eq (Γ := g81 N) (allG trivial) mixed Try.func81 (c := (Try.f81.body.get rfl)) rfl (by kernel_rfl) (by kernel_rfl) (Λ := L81 N) (qs := []) (by kernel_rfl) trivial (e81 N)
/-- laws.eqEventS, the loop 58 -/
noncomputable def laws_eqEventS_l0 {R : Type} (N : Nat) : Nat → List DEvent → List DEvent → Int → (Bool → Option R) → Option R → Option R
  | 0, _, _, _, _, _ => none
  | n + 1, a1, b1, i, x0_, x1_ =>
    cond (decide (i < (a1.length : Int)))
      (cond (idxE a1.length i)
        (cond (idxE b1.length i)
          (laws_eqEvent N (a1.getD i.toNat YEvent.z) (b1.getD i.toNat YEvent.z) fun r =>
            cond (!r)
              (x0_ false)
              (laws_eqEventS_l0 N n a1 b1 (w64 (i + 1)) x0_ x1_))
          none)
        none)
      x1_
/-- laws.eqEventS -/
noncomputable def laws_eqEventS {R : Type} (N : Nat) (a : List DEvent) (b : List DEvent) (k : Bool → Option R) : Option R :=
  cond (!(decide ((a.length : Int) = (b.length : Int))))
    (k false)
    (laws_eqEventS_l0 N N a b 0
      (fun v =>
        k v)
      (k true))
abbrev a58 : List AM := [.v (.ro 117 YEvent), .v (.ro 117 YEvent)]
noncomputable def u58 {R : Type} (N : Nat) (d : AMs.D a58) (k : List Val → List Val → Option R) : Option R := laws_eqEventS N d.1 d.2.1 (fun r0 => k [.c (.bo r0)] [])
noncomputable def c58 {R : Type} (N : Nat) : Con R := conOf [.rd, .rd] a58 (u58 N)
noncomputable def g58 {R : Type} (N : Nat) : List (Nat × Con R) := [(81, c81 N)]
abbrev h58_58 : Sh := ⟨[(0, .c (.ro 0 117 YEvent)), (1, .c (.ro 1 117 YEvent)), (5, .c (.nu .i64))], [], 0, []⟩
noncomputable def l58_58 {R : Type} (N : Nat) : LCon R := lconOf [] false h58_58 fun n d K => laws_eqEventS_l0 N n d.1.1 d.1.2.1 d.1.2.2.1 (fun y0 => K .ret ⟨[(4, .c (.bo y0))], [], 0, []⟩) (K (.exit 0) ⟨[], [], 0, []⟩)
noncomputable def L58 {R : Type} (N : Nat) : List (Nat × LCon R) := [(58, l58_58 N)]
theorem q58_58 {R : Type} (N : Nat) : LSpec Try.prog (gam (g58 N)) N (L58 N) 16 (subC (Try.f58.body.get rfl) [true, true, false, true, false, false]) 58 35 [(0, 0)] (l58_58 N : LCon R) :=
  lspec_of (fun d K => rfl) (fun n d K => by kernel_rfl)
theorem e58 {R : Type} (N : Nat) (d : AMs.D a58) (k : List Val → List Val → Option R) : evF Try.prog (gam (g58 N)) N (L58 N) Try.f58 (encAs a58 d (canAs a58 0)) k = u58 N d k := by kernel_rfl
theorem s58 {R : Type} (N : Nat) : Snd Try.prog 58 (c58 N : Con R) :=
  snd_eq (Γ := g58 N) (allG ⟨s81 N, trivial⟩) mixed Try.func58 (c := (Try.f58.body.get rfl)) rfl (by kernel_rfl) (by kernel_rfl) (Λ := L58 N) (qs := [⟨58, subC (Try.f58.body.get rfl) [true, true, false, true, false, false], 35, [(0, 0)]⟩]) (by kernel_rfl) ⟨lsome rfl (q58_58 N), trivial⟩ (e58 N)
/-- laws.eqEncoder -/
noncomputable def laws_eqEncoder {R : Type} (N : Nat) (a : DEncoder) (b : DEncoder) (k : Bool → Option R) : Option R :=
  laws_eqPlan N a.1 b.1 fun r =>
    cond (!r)
      (k false)
      (laws_eqSink N a.2.1 b.2.1 fun r1 =>
        cond (!r1)
          (k false)
          (laws_eqEventS N a.2.2.1 b.2.2.1 fun r2 =>
            cond (!r2)
              (k false)
              (cond (!(decide (a.2.2.2.1 = b.2.2.2.1)))
                (k false)
                (cond (!(decide (a.2.2.2.2.1 = b.2.2.2.2.1)))
                  (k false)
                  (cond (!(decide (a.2.2.2.2.2 = b.2.2.2.2.2)))
                    (k false)
                    (k true))))))
abbrev a25 : List AM := [.a (.pr (.pr (.ro 77 YShape) (.pr (.int .i64) (.pr (.int .i64) (.int .i64)))) (.pr (.pr .str (.pr (.ro 3 (.int .i64)) (.pr (.int .i64) (.int .i64)))) (.pr (.ro 117 YEvent) (.pr (.int .i64) (.pr (.int .i64) (.int .i64)))))), .a (.pr (.pr (.ro 77 YShape) (.pr (.int .i64) (.pr (.int .i64) (.int .i64)))) (.pr (.pr .str (.pr (.ro 3 (.int .i64)) (.pr (.int .i64) (.int .i64)))) (.pr (.ro 117 YEvent) (.pr (.int .i64) (.pr (.int .i64) (.int .i64))))))]
noncomputable def u25 {R : Type} (N : Nat) (d : AMs.D a25) (k : List Val → List Val → Option R) : Option R := laws_eqEncoder N d.1 d.2.1 (fun r0 => k [.c (.bo r0)] [])
noncomputable def c25 {R : Type} (N : Nat) : Con R := conOf [.rd, .rd] a25 (u25 N)
noncomputable def g25 {R : Type} (N : Nat) : List (Nat × Con R) := [(31, c31 N), (57, c57 N), (58, c58 N)]
noncomputable def L25 {R : Type} (N : Nat) : List (Nat × LCon R) := []
theorem e25 {R : Type} (N : Nat) (d : AMs.D a25) (k : List Val → List Val → Option R) : evF Try.prog (gam (g25 N)) N (L25 N) Try.f25 (encAs a25 d (canAs a25 0)) k = u25 N d k := by kernel_rfl
theorem s25 {R : Type} (N : Nat) : Snd Try.prog 25 (c25 N : Con R) :=
  snd_eq (Γ := g25 N) (allG ⟨s31 N, s57 N, s58 N, trivial⟩) mixed Try.func25 (c := (Try.f25.body.get rfl)) rfl (by kernel_rfl) (by kernel_rfl) (Λ := L25 N) (qs := []) (by kernel_rfl) trivial (e25 N)
/-- laws.markIntS, the loop 26 -/
noncomputable def laws_markIntS_l0 {R : Type} (N : Nat) : Nat → Int → Int → List Int → (Int → List Int → Option R) → Option R
  | 0, _, _, _, _ => none
  | n + 1, k_1, i, xs, x0_ =>
    cond (decide (i < (xs.length : Int)))
      (cond (idxE xs.length i)
        (laws_markIntS_l0 N n (w64 (k_1 + 1)) (w64 (i + 1)) (xs.set i.toNat k_1) x0_)
        none)
      (x0_ k_1 xs)
/-- laws.markIntS -/
noncomputable def laws_markIntS {R : Type} (N : Nat) (a : List Int) (k_ : Int) (k : Int → List Int → Option R) : Option R :=
  laws_markIntS_l0 N N k_ 0 a
    (fun k_2 xs1 =>
      k k_2 xs1)
abbrev a34 : List AM := [.v (.ow 3 (.int .i64)), .v (.int .i64)]
noncomputable def u34 {R : Type} (N : Nat) (d : AMs.D a34) (k : List Val → List Val → Option R) : Option R := laws_markIntS N d.1 d.2.1 (fun r0 o0 => k [.c (.nu .i64 r0)] [.c (.own (.int .i64) 3 o0)])
noncomputable def c34 {R : Type} (N : Nat) : Con R := conOf [.bk, .rd] a34 (u34 N)
noncomputable def g34 {R : Type} (N : Nat) : List (Nat × Con R) := []
abbrev h34_26 : Sh := ⟨[(0, .c (.slw 0)), (1, .c (.nu .i64)), (5, .c (.nu .i64))], [(0, .rows (.int .i64) 3)], 1, [.c (.slw 0)]⟩
noncomputable def l34_26 {R : Type} (N : Nat) : LCon R := lconOf [] false h34_26 fun n d K => laws_markIntS_l0 N n d.1.2.1 d.1.2.2.1 d.2.1.1 (fun y0 y1 => K (.exit 0) ⟨[(1, .c (.nu .i64 y0))], [(0, some (.rows (.int .i64) 3 y1))], 1, [.c (.slw 0)]⟩)
noncomputable def L34 {R : Type} (N : Nat) : List (Nat × LCon R) := [(26, l34_26 N)]
theorem q34_26 {R : Type} (N : Nat) : LSpec Try.prog (gam (g34 N)) N (L34 N) 16 (subC (Try.f34.body.get rfl) [true, false, true, false, false]) 26 35 [(0, 2)] (l34_26 N : LCon R) :=
  lspec_of (fun d K => rfl) (fun n d K => by kernel_rfl)
theorem e34 {R : Type} (N : Nat) (d : AMs.D a34) (k : List Val → List Val → Option R) : evF Try.prog (gam (g34 N)) N (L34 N) Try.f34 (encAs a34 d (canAs a34 0)) k = u34 N d k := by kernel_rfl
theorem s34 {R : Type} (N : Nat) : Snd Try.prog 34 (c34 N : Con R) :=
  snd_eq (Γ := g34 N) (allG trivial) mixed Try.func34 (c := (Try.f34.body.get rfl)) rfl (by kernel_rfl) (by kernel_rfl) (Λ := L34 N) (qs := [⟨26, subC (Try.f34.body.get rfl) [true, false, true, false, false], 35, [(0, 2)]⟩]) (by kernel_rfl) ⟨lsome rfl (q34_26 N), trivial⟩ (e34 N)
/-- laws.markSink -/
noncomputable def laws_markSink {R : Type} (N : Nat) (a : DSink) (k_ : Int) (k : Int → DSink → Option R) : Option R :=
  laws_markIntS N a.2.1 k_ fun r o =>
    k r (a.1, o, a.2.2)
abbrev a66 : List AM := [.a (.pr .str (.pr (.ow 3 (.int .i64)) (.pr (.int .i64) (.int .i64)))), .v (.int .i64)]
noncomputable def u66 {R : Type} (N : Nat) (d : AMs.D a66) (k : List Val → List Val → Option R) : Option R := laws_markSink N d.1 d.2.1 (fun r0 o0 => k [.c (.nu .i64 r0)] [.agg [.sr o0.1, .own (.int .i64) 3 o0.2.1, .nu .i64 o0.2.2.1, .nu .i64 o0.2.2.2]])
noncomputable def c66 {R : Type} (N : Nat) : Con R := conOf [.bk, .rd] a66 (u66 N)
noncomputable def g66 {R : Type} (N : Nat) : List (Nat × Con R) := [(34, c34 N)]
noncomputable def L66 {R : Type} (N : Nat) : List (Nat × LCon R) := []
theorem e66 {R : Type} (N : Nat) (d : AMs.D a66) (k : List Val → List Val → Option R) : evF Try.prog (gam (g66 N)) N (L66 N) Try.f66 (encAs a66 d (canAs a66 0)) k = u66 N d k := by kernel_rfl
theorem s66 {R : Type} (N : Nat) : Snd Try.prog 66 (c66 N : Con R) :=
  snd_eq (Γ := g66 N) (allG ⟨s34 N, trivial⟩) mixed Try.func66 (c := (Try.f66.body.get rfl)) rfl (by kernel_rfl) (by kernel_rfl) (Λ := L66 N) (qs := []) (by kernel_rfl) trivial (e66 N)
/-- laws.markText, the loop 60 -/
noncomputable def laws_markText_l0 {R : Type} (N : Nat) : Nat → Int → ByteArray → (ByteArray → Option R) → Option R
  | 0, _, _, _ => none
  | n + 1, k_1, out_, x0_ =>
    cond (decide (0 < k_1))
      (cond (decide ((ofBytes [wu8 (w64 (48 + (k_1.tmod 10)))]).size + out_.size ≤ 1152921504606846976))
        (laws_markText_l0 N n (w64 (k_1.tdiv 10)) ((ofBytes [wu8 (w64 (48 + (k_1.tmod 10)))]) ++ out_) x0_)
        none)
      (x0_ out_)
/-- laws.markText -/
noncomputable def laws_markText {R : Type} (N : Nat) (k_ : Int) (k : ByteArray → Option R) : Option R :=
  cond (decide (k_ ≤ 0))
    (k (bs [109, 48]))
    (laws_markText_l0 N N k_ ByteArray.empty
      (fun out_1 =>
        cond (decide ((bs [109]).size + out_1.size ≤ 1152921504606846976))
          (k ((bs [109]) ++ out_1))
          none))
abbrev a44 : List AM := [.v (.int .i64)]
noncomputable def u44 {R : Type} (N : Nat) (d : AMs.D a44) (k : List Val → List Val → Option R) : Option R := laws_markText N d.1 (fun r0 => k [.c (.sr r0)] [])
noncomputable def c44 {R : Type} (N : Nat) : Con R := conOf [.rd] a44 (u44 N)
noncomputable def g44 {R : Type} (N : Nat) : List (Nat × Con R) := []
abbrev h44_60 : Sh := ⟨[(0, .c (.nu .i64)), (3, .c .sr)], [], 0, []⟩
noncomputable def l44_60 {R : Type} (N : Nat) : LCon R := lconOf [] false h44_60 fun n d K => laws_markText_l0 N n d.1.1 d.1.2.1 (fun y0 => K (.exit 0) ⟨[(3, .c (.sr y0))], [], 0, []⟩)
noncomputable def L44 {R : Type} (N : Nat) : List (Nat × LCon R) := [(60, l44_60 N)]
theorem q44_60 {R : Type} (N : Nat) : LSpec Try.prog (gam (g44 N)) N (L44 N) 4 (subC (Try.f44.body.get rfl) [true, true, true, false, false, false]) 60 9 [(0, 8)] (l44_60 N : LCon R) :=
  lspec_of (fun d K => rfl) (fun n d K => by kernel_rfl)
theorem e44 {R : Type} (N : Nat) (d : AMs.D a44) (k : List Val → List Val → Option R) : evF Try.prog (gam (g44 N)) N (L44 N) Try.f44 (encAs a44 d (canAs a44 0)) k = u44 N d k := by kernel_rfl
theorem s44 {R : Type} (N : Nat) : Snd Try.prog 44 (c44 N : Con R) :=
  snd_eq (Γ := g44 N) (allG trivial) mixed Try.func44 (c := (Try.f44.body.get rfl)) rfl (by kernel_rfl) (by kernel_rfl) (Λ := L44 N) (qs := [⟨60, subC (Try.f44.body.get rfl) [true, true, true, false, false, false], 9, [(0, 8)]⟩]) (by kernel_rfl) ⟨lsome rfl (q44_60 N), trivial⟩ (e44 N)
/-- laws.markEventS, the loop 26 -/
noncomputable def laws_markEventS_l0 {R : Type} (N : Nat) : Nat → Int → Int → List DEvent → (Int → List DEvent → Option R) → Option R
  | 0, _, _, _, _ => none
  | n + 1, k_1, i, xs, x0_ =>
    cond (decide (i < (xs.length : Int)))
      (cond (idxE xs.length i)
        (cond (idxE ((xs.set i.toNat (k_1, (xs.getD i.toNat YEvent.z).2)).length) i)
          (let xs1 : List DEvent := (xs.set i.toNat (k_1, (xs.getD i.toNat YEvent.z).2)).set i.toNat (((xs.set i.toNat (k_1, (xs.getD i.toNat YEvent.z).2)).getD i.toNat YEvent.z).1, w64 (k_1 + 1), (((xs.set i.toNat (k_1, (xs.getD i.toNat YEvent.z).2)).getD i.toNat YEvent.z).2).2)
          cond (idxE xs1.length i)
            (let xs2 : List DEvent := xs1.set i.toNat ((xs1.getD i.toNat YEvent.z).1, ((xs1.getD i.toNat YEvent.z).2).1, wu64 (w64 ((w64 (k_1 + 1)) + 1)), (((xs1.getD i.toNat YEvent.z).2).2).2)
            cond (idxE xs2.length i)
              (let xs3 : List DEvent := xs2.set i.toNat ((xs2.getD i.toNat YEvent.z).1, ((xs2.getD i.toNat YEvent.z).2).1, (((xs2.getD i.toNat YEvent.z).2).2).1, w64 ((w64 ((w64 (k_1 + 1)) + 1)) + 1), ((((xs2.getD i.toNat YEvent.z).2).2).2).2)
              laws_markText N (w64 ((w64 ((w64 ((w64 (k_1 + 1)) + 1)) + 1)) + 1)) fun r =>
                cond (idxE xs3.length i)
                  (let xs4 : List DEvent := xs3.set i.toNat ((xs3.getD i.toNat YEvent.z).1, ((xs3.getD i.toNat YEvent.z).2).1, (((xs3.getD i.toNat YEvent.z).2).2).1, ((((xs3.getD i.toNat YEvent.z).2).2).2).1, r, (((((xs3.getD i.toNat YEvent.z).2).2).2).2).2)
                  cond (idxE xs4.length i)
                    (let xs5 : List DEvent := xs4.set i.toNat ((xs4.getD i.toNat YEvent.z).1, ((xs4.getD i.toNat YEvent.z).2).1, (((xs4.getD i.toNat YEvent.z).2).2).1, ((((xs4.getD i.toNat YEvent.z).2).2).2).1, (((((xs4.getD i.toNat YEvent.z).2).2).2).2).1, w64 ((w64 ((w64 ((w64 ((w64 (k_1 + 1)) + 1)) + 1)) + 1)) + 1), ((((((xs4.getD i.toNat YEvent.z).2).2).2).2).2).2)
                    cond (idxE xs5.length i)
                      (let xs6 : List DEvent := xs5.set i.toNat ((xs5.getD i.toNat YEvent.z).1, ((xs5.getD i.toNat YEvent.z).2).1, (((xs5.getD i.toNat YEvent.z).2).2).1, ((((xs5.getD i.toNat YEvent.z).2).2).2).1, (((((xs5.getD i.toNat YEvent.z).2).2).2).2).1, ((((((xs5.getD i.toNat YEvent.z).2).2).2).2).2).1, w64 ((w64 ((w64 ((w64 ((w64 ((w64 (k_1 + 1)) + 1)) + 1)) + 1)) + 1)) + 1))
                      laws_markEventS_l0 N n (w64 ((w64 ((w64 ((w64 ((w64 ((w64 ((w64 (k_1 + 1)) + 1)) + 1)) + 1)) + 1)) + 1)) + 1)) (w64 (i + 1)) xs6 x0_)
                      none)
                    none)
                  none)
              none)
            none)
          none)
        none)
      (x0_ k_1 xs)
/-- laws.markEventS -/
noncomputable def laws_markEventS {R : Type} (N : Nat) (a : List DEvent) (k_ : Int) (k : Int → List DEvent → Option R) : Option R :=
  laws_markEventS_l0 N N k_ 0 a
    (fun k_2 xs7 =>
      k k_2 xs7)
abbrev a67 : List AM := [.v (.ow 117 YEvent), .v (.int .i64)]
noncomputable def u67 {R : Type} (N : Nat) (d : AMs.D a67) (k : List Val → List Val → Option R) : Option R := laws_markEventS N d.1 d.2.1 (fun r0 o0 => k [.c (.nu .i64 r0)] [.c (.own YEvent 117 o0)])
noncomputable def c67 {R : Type} (N : Nat) : Con R := conOf [.bk, .rd] a67 (u67 N)
noncomputable def g67 {R : Type} (N : Nat) : List (Nat × Con R) := [(44, c44 N)]
abbrev h67_26 : Sh := ⟨[(0, .c (.slw 0)), (1, .c (.nu .i64)), (5, .c (.nu .i64))], [(0, .rows YEvent 117)], 1, [.c (.slw 0)]⟩
noncomputable def l67_26 {R : Type} (N : Nat) : LCon R := lconOf [] false h67_26 fun n d K => laws_markEventS_l0 N n d.1.2.1 d.1.2.2.1 d.2.1.1 (fun y0 y1 => K (.exit 0) ⟨[(1, .c (.nu .i64 y0))], [(0, some (.rows YEvent 117 y1))], 1, [.c (.slw 0)]⟩)
noncomputable def L67 {R : Type} (N : Nat) : List (Nat × LCon R) := [(26, l67_26 N)]
theorem q67_26 {R : Type} (N : Nat) : LSpec Try.prog (gam (g67 N)) N (L67 N) 16 (subC (Try.f67.body.get rfl) [true, false, true, false, false]) 26 35 [(0, 2)] (l67_26 N : LCon R) :=
  lspec_of (fun d K => rfl) (fun n d K => by kernel_rfl)
theorem e67 {R : Type} (N : Nat) (d : AMs.D a67) (k : List Val → List Val → Option R) : evF Try.prog (gam (g67 N)) N (L67 N) Try.f67 (encAs a67 d (canAs a67 0)) k = u67 N d k := by kernel_rfl
theorem s67 {R : Type} (N : Nat) : Snd Try.prog 67 (c67 N : Con R) :=
  snd_eq (Γ := g67 N) (allG ⟨s44 N, trivial⟩) mixed Try.func67 (c := (Try.f67.body.get rfl)) rfl (by kernel_rfl) (by kernel_rfl) (Λ := L67 N) (qs := [⟨26, subC (Try.f67.body.get rfl) [true, false, true, false, false], 35, [(0, 2)]⟩]) (by kernel_rfl) ⟨lsome rfl (q67_26 N), trivial⟩ (e67 N)
/-- laws.markEncoder -/
noncomputable def laws_markEncoder {R : Type} (N : Nat) (a : DEncoder) (k_ : Int) (k : Int → DEncoder → Option R) : Option R :=
  laws_markPlan N a.1 k_ fun r o =>
    laws_markSink N a.2.1 r fun r1 o1 =>
      laws_markEventS N a.2.2.1 r1 fun r2 o2 =>
        k r2 ((o.1, a.1.2), (a.2.1.1, o1.2.1, a.2.1.2.2), o2, a.2.2.2)
abbrev a35 : List AM := [.a (.pr (.pr (.ow 77 YShape) (.pr (.int .i64) (.pr (.int .i64) (.int .i64)))) (.pr (.pr .str (.pr (.ow 3 (.int .i64)) (.pr (.int .i64) (.int .i64)))) (.pr (.ow 117 YEvent) (.pr (.int .i64) (.pr (.int .i64) (.int .i64)))))), .v (.int .i64)]
noncomputable def u35 {R : Type} (N : Nat) (d : AMs.D a35) (k : List Val → List Val → Option R) : Option R := laws_markEncoder N d.1 d.2.1 (fun r0 o0 => k [.c (.nu .i64 r0)] [.agg [.own YShape 77 o0.1.1, .nu .i64 o0.1.2.1, .nu .i64 o0.1.2.2.1, .nu .i64 o0.1.2.2.2, .sr o0.2.1.1, .own (.int .i64) 3 o0.2.1.2.1, .nu .i64 o0.2.1.2.2.1, .nu .i64 o0.2.1.2.2.2, .own YEvent 117 o0.2.2.1, .nu .i64 o0.2.2.2.1, .nu .i64 o0.2.2.2.2.1, .nu .i64 o0.2.2.2.2.2]])
noncomputable def c35 {R : Type} (N : Nat) : Con R := conOf [.bk, .rd] a35 (u35 N)
noncomputable def g35 {R : Type} (N : Nat) : List (Nat × Con R) := [(33, c33 N), (66, c66 N), (67, c67 N)]
noncomputable def L35 {R : Type} (N : Nat) : List (Nat × LCon R) := []
theorem e35 {R : Type} (N : Nat) (d : AMs.D a35) (k : List Val → List Val → Option R) : evF Try.prog (gam (g35 N)) N (L35 N) Try.f35 (encAs a35 d (canAs a35 0)) k = u35 N d k := by kernel_rfl
theorem s35 {R : Type} (N : Nat) : Snd Try.prog 35 (c35 N : Con R) :=
  snd_eq (Γ := g35 N) (allG ⟨s33 N, s66 N, s67 N, trivial⟩) mixed Try.func35 (c := (Try.f35.body.get rfl)) rfl (by kernel_rfl) (by kernel_rfl) (Λ := L35 N) (qs := []) (by kernel_rfl) trivial (e35 N)
/-- laws.heldIntS, the loop 26 -/
noncomputable def laws_heldIntS_l0 {R : Type} (N : Nat) : Nat → List Int → Int → Int → (Int → Option R) → (Int → Option R) → Option R
  | 0, _, _, _, _, _ => none
  | n + 1, a1, k_1, i, x0_, x1_ =>
    cond (decide (i < (a1.length : Int)))
      (cond (idxE a1.length i)
        (cond (!(decide ((a1.getD i.toNat 0) = k_1)))
          (x0_ (-1))
          (laws_heldIntS_l0 N n a1 (w64 (k_1 + 1)) (w64 (i + 1)) x0_ x1_))
        none)
      (x1_ k_1)
/-- laws.heldIntS -/
noncomputable def laws_heldIntS {R : Type} (N : Nat) (a : List Int) (k_ : Int) (k : Int → Option R) : Option R :=
  laws_heldIntS_l0 N N a k_ 0
    (fun v =>
      k v)
    (fun k_2 =>
      k k_2)
abbrev a87 : List AM := [.v (.ro 3 (.int .i64)), .v (.int .i64)]
noncomputable def u87 {R : Type} (N : Nat) (d : AMs.D a87) (k : List Val → List Val → Option R) : Option R := laws_heldIntS N d.1 d.2.1 (fun r0 => k [.c (.nu .i64 r0)] [])
noncomputable def c87 {R : Type} (N : Nat) : Con R := conOf [.rd, .rd] a87 (u87 N)
noncomputable def g87 {R : Type} (N : Nat) : List (Nat × Con R) := []
abbrev h87_26 : Sh := ⟨[(0, .c (.ro 0 3 (.int .i64))), (1, .c (.nu .i64)), (5, .c (.nu .i64))], [], 0, []⟩
noncomputable def l87_26 {R : Type} (N : Nat) : LCon R := lconOf [] false h87_26 fun n d K => laws_heldIntS_l0 N n d.1.1 d.1.2.1 d.1.2.2.1 (fun y0 => K .ret ⟨[(4, .c (.nu .i64 y0))], [], 0, []⟩) (fun y0 => K (.exit 0) ⟨[(1, .c (.nu .i64 y0))], [], 0, []⟩)
noncomputable def L87 {R : Type} (N : Nat) : List (Nat × LCon R) := [(26, l87_26 N)]
theorem q87_26 {R : Type} (N : Nat) : LSpec Try.prog (gam (g87 N)) N (L87 N) 16 (subC (Try.f87.body.get rfl) [true, false, true, false, false]) 26 35 [(0, 2)] (l87_26 N : LCon R) :=
  lspec_of (fun d K => rfl) (fun n d K => by kernel_rfl)
theorem e87 {R : Type} (N : Nat) (d : AMs.D a87) (k : List Val → List Val → Option R) : evF Try.prog (gam (g87 N)) N (L87 N) Try.f87 (encAs a87 d (canAs a87 0)) k = u87 N d k := by kernel_rfl
theorem s87 {R : Type} (N : Nat) : Snd Try.prog 87 (c87 N : Con R) :=
  snd_eq (Γ := g87 N) (allG trivial) mixed Try.func87 (c := (Try.f87.body.get rfl)) rfl (by kernel_rfl) (by kernel_rfl) (Λ := L87 N) (qs := [⟨26, subC (Try.f87.body.get rfl) [true, false, true, false, false], 35, [(0, 2)]⟩]) (by kernel_rfl) ⟨lsome rfl (q87_26 N), trivial⟩ (e87 N)
/-- laws.heldSink -/
noncomputable def laws_heldSink {R : Type} (N : Nat) (a : DSink) (k_ : Int) (k : Int → Option R) : Option R :=
  laws_heldIntS N a.2.1 k_ fun r =>
    cond (decide (r < 0))
      (k (-1))
      (k r)
abbrev a68 : List AM := [.a (.pr .str (.pr (.ro 3 (.int .i64)) (.pr (.int .i64) (.int .i64)))), .v (.int .i64)]
noncomputable def u68 {R : Type} (N : Nat) (d : AMs.D a68) (k : List Val → List Val → Option R) : Option R := laws_heldSink N d.1 d.2.1 (fun r0 => k [.c (.nu .i64 r0)] [])
noncomputable def c68 {R : Type} (N : Nat) : Con R := conOf [.rd, .rd] a68 (u68 N)
noncomputable def g68 {R : Type} (N : Nat) : List (Nat × Con R) := [(87, c87 N)]
noncomputable def L68 {R : Type} (N : Nat) : List (Nat × LCon R) := []
theorem e68 {R : Type} (N : Nat) (d : AMs.D a68) (k : List Val → List Val → Option R) : evF Try.prog (gam (g68 N)) N (L68 N) Try.f68 (encAs a68 d (canAs a68 0)) k = u68 N d k := by kernel_rfl
theorem s68 {R : Type} (N : Nat) : Snd Try.prog 68 (c68 N : Con R) :=
  snd_eq (Γ := g68 N) (allG ⟨s87 N, trivial⟩) mixed Try.func68 (c := (Try.f68.body.get rfl)) rfl (by kernel_rfl) (by kernel_rfl) (Λ := L68 N) (qs := []) (by kernel_rfl) trivial (e68 N)
/-- laws.heldEventS, the loop 26 -/
noncomputable def laws_heldEventS_l0 {R : Type} (N : Nat) : Nat → List DEvent → Int → Int → (Int → Option R) → (Int → Option R) → Option R
  | 0, _, _, _, _, _ => none
  | n + 1, a1, k_1, i, x0_, x1_ =>
    cond (decide (i < (a1.length : Int)))
      (cond (idxE a1.length i)
        (cond (!(decide (((a1.getD i.toNat YEvent.z).1) = k_1)))
          (x0_ (-1))
          (cond (idxE a1.length i)
            (cond (!(decide ((((a1.getD i.toNat YEvent.z).2).1) = (w64 (k_1 + 1)))))
              (x0_ (-1))
              (cond (idxE a1.length i)
                (cond (!(decide (((((a1.getD i.toNat YEvent.z).2).2).1) = (wu64 (w64 ((w64 (k_1 + 1)) + 1))))))
                  (x0_ (-1))
                  (cond (idxE a1.length i)
                    (cond (!(decide ((((((a1.getD i.toNat YEvent.z).2).2).2).1) = (w64 ((w64 ((w64 (k_1 + 1)) + 1)) + 1)))))
                      (x0_ (-1))
                      (cond (idxE a1.length i)
                        (laws_markText N (w64 ((w64 ((w64 ((w64 (k_1 + 1)) + 1)) + 1)) + 1)) fun r =>
                          cond (!decide ((((((a1.getD i.toNat YEvent.z).2).2).2).2).1 = r))
                            (x0_ (-1))
                            (cond (idxE a1.length i)
                              (cond (!(decide ((((((((a1.getD i.toNat YEvent.z).2).2).2).2).2).1) = (w64 ((w64 ((w64 ((w64 ((w64 (k_1 + 1)) + 1)) + 1)) + 1)) + 1)))))
                                (x0_ (-1))
                                (cond (idxE a1.length i)
                                  (cond (!(decide ((((((((a1.getD i.toNat YEvent.z).2).2).2).2).2).2) = (w64 ((w64 ((w64 ((w64 ((w64 ((w64 (k_1 + 1)) + 1)) + 1)) + 1)) + 1)) + 1)))))
                                    (x0_ (-1))
                                    (laws_heldEventS_l0 N n a1 (w64 ((w64 ((w64 ((w64 ((w64 ((w64 ((w64 (k_1 + 1)) + 1)) + 1)) + 1)) + 1)) + 1)) + 1)) (w64 (i + 1)) x0_ x1_))
                                  none))
                              none))
                        none))
                    none))
                none))
            none))
        none)
      (x1_ k_1)
/-- laws.heldEventS -/
noncomputable def laws_heldEventS {R : Type} (N : Nat) (a : List DEvent) (k_ : Int) (k : Int → Option R) : Option R :=
  laws_heldEventS_l0 N N a k_ 0
    (fun v =>
      k v)
    (fun k_2 =>
      k k_2)
abbrev a69 : List AM := [.v (.ro 117 YEvent), .v (.int .i64)]
noncomputable def u69 {R : Type} (N : Nat) (d : AMs.D a69) (k : List Val → List Val → Option R) : Option R := laws_heldEventS N d.1 d.2.1 (fun r0 => k [.c (.nu .i64 r0)] [])
noncomputable def c69 {R : Type} (N : Nat) : Con R := conOf [.rd, .rd] a69 (u69 N)
noncomputable def g69 {R : Type} (N : Nat) : List (Nat × Con R) := [(44, c44 N)]
abbrev h69_26 : Sh := ⟨[(0, .c (.ro 0 117 YEvent)), (1, .c (.nu .i64)), (5, .c (.nu .i64))], [], 0, []⟩
noncomputable def l69_26 {R : Type} (N : Nat) : LCon R := lconOf [] false h69_26 fun n d K => laws_heldEventS_l0 N n d.1.1 d.1.2.1 d.1.2.2.1 (fun y0 => K .ret ⟨[(4, .c (.nu .i64 y0))], [], 0, []⟩) (fun y0 => K (.exit 0) ⟨[(1, .c (.nu .i64 y0))], [], 0, []⟩)
noncomputable def L69 {R : Type} (N : Nat) : List (Nat × LCon R) := [(26, l69_26 N)]
theorem q69_26 {R : Type} (N : Nat) : LSpec Try.prog (gam (g69 N)) N (L69 N) 16 (subC (Try.f69.body.get rfl) [true, false, true, false, false]) 26 35 [(0, 2)] (l69_26 N : LCon R) :=
  lspec_of (fun d K => rfl) (fun n d K => by kernel_rfl)
theorem e69 {R : Type} (N : Nat) (d : AMs.D a69) (k : List Val → List Val → Option R) : evF Try.prog (gam (g69 N)) N (L69 N) Try.f69 (encAs a69 d (canAs a69 0)) k = u69 N d k := by kernel_rfl
theorem s69 {R : Type} (N : Nat) : Snd Try.prog 69 (c69 N : Con R) :=
  snd_eq (Γ := g69 N) (allG ⟨s44 N, trivial⟩) mixed Try.func69 (c := (Try.f69.body.get rfl)) rfl (by kernel_rfl) (by kernel_rfl) (Λ := L69 N) (qs := [⟨26, subC (Try.f69.body.get rfl) [true, false, true, false, false], 35, [(0, 2)]⟩]) (by kernel_rfl) ⟨lsome rfl (q69_26 N), trivial⟩ (e69 N)
/-- laws.heldEncoder -/
noncomputable def laws_heldEncoder {R : Type} (N : Nat) (a : DEncoder) (k_ : Int) (k : Int → Option R) : Option R :=
  laws_heldPlan N a.1 k_ fun r =>
    cond (decide (r < 0))
      (k (-1))
      (laws_heldSink N a.2.1 r fun r1 =>
        cond (decide (r1 < 0))
          (k (-1))
          (laws_heldEventS N a.2.2.1 r1 fun r2 =>
            cond (decide (r2 < 0))
              (k (-1))
              (k r2)))
abbrev a36 : List AM := [.a (.pr (.pr (.ro 77 YShape) (.pr (.int .i64) (.pr (.int .i64) (.int .i64)))) (.pr (.pr .str (.pr (.ro 3 (.int .i64)) (.pr (.int .i64) (.int .i64)))) (.pr (.ro 117 YEvent) (.pr (.int .i64) (.pr (.int .i64) (.int .i64)))))), .v (.int .i64)]
noncomputable def u36 {R : Type} (N : Nat) (d : AMs.D a36) (k : List Val → List Val → Option R) : Option R := laws_heldEncoder N d.1 d.2.1 (fun r0 => k [.c (.nu .i64 r0)] [])
noncomputable def c36 {R : Type} (N : Nat) : Con R := conOf [.rd, .rd] a36 (u36 N)
noncomputable def g36 {R : Type} (N : Nat) : List (Nat × Con R) := [(37, c37 N), (68, c68 N), (69, c69 N)]
noncomputable def L36 {R : Type} (N : Nat) : List (Nat × LCon R) := []
theorem e36 {R : Type} (N : Nat) (d : AMs.D a36) (k : List Val → List Val → Option R) : evF Try.prog (gam (g36 N)) N (L36 N) Try.f36 (encAs a36 d (canAs a36 0)) k = u36 N d k := by kernel_rfl
theorem s36 {R : Type} (N : Nat) : Snd Try.prog 36 (c36 N : Con R) :=
  snd_eq (Γ := g36 N) (allG ⟨s37 N, s68 N, s69 N, trivial⟩) mixed Try.func36 (c := (Try.f36.body.get rfl)) rfl (by kernel_rfl) (by kernel_rfl) (Λ := L36 N) (qs := []) (by kernel_rfl) trivial (e36 N)
/-- laws.FnExactEncNew -/
noncomputable def laws_FnExactEncNew {R : Type} (N : Nat) (aP : DlPlan) (aScript : List Int) (k : Bool → Option R) : Option R :=
  cond (decide (1048576 < (aScript.length : Int)))
    (k true)
    (laws_szPlan N aP 1048576 fun r =>
      cond (decide (r < 0))
        (k true)
        (laws_toPlan N aP fun r1 =>
          laws_toIntS N aScript fun r2 =>
            spec_EncNew N r1 r2 fun r3 r4 =>
              laws_toPlan N aP fun r5 =>
                laws_toIntS N aScript fun r6 =>
                  impl_EncNew N r5 r6 fun r7 r8 =>
                    laws_eqEncoder N r7 r3 fun r9 =>
                      cond (!r9)
                        (k false)
                        (cond (!(r8 == r4))
                          (k false)
                          (laws_toPlan N aP fun r10 =>
                            laws_eqPlan N r5 r10 fun r11 =>
                              cond (!r11)
                                (k false)
                                (laws_toIntS N aScript fun r12 =>
                                  laws_eqIntS N r6 r12 fun r13 =>
                                    cond (!r13)
                                      (k false)
                                      (laws_markPlan N r5 1 fun r14 o =>
                                        laws_markIntS N r6 r14 fun r15 o1 =>
                                          cond (decide (r15 < 0))
                                            (k false)
                                            (laws_eqEncoder N r7 r3 fun r16 =>
                                              cond (!r16)
                                                (k false)
                                                (cond (!(r8 == r4))
                                                  (k false)
                                                  (laws_markEncoder N r7 1 fun r17 o2 =>
                                                    laws_heldEncoder N ((o2.1.1, r7.1.2), (r7.2.1.1, o2.2.1.2.1, r7.2.1.2.2), o2.2.2.1, r7.2.2.2) 1 fun r18 =>
                                                      cond (decide (r18 < 0))
                                                        (k false)
                                                        (cond (!(decide (r18 = r17)))
                                                          (k false)
                                                          (laws_toPlan N aP fun r19 =>
                                                            laws_toIntS N aScript fun r20 =>
                                                              impl_EncNew N r19 r20 fun r21 r22 =>
                                                                laws_eqEncoder N r21 r3 fun r23 =>
                                                                  cond (!r23)
                                                                    (k false)
                                                                    (cond (!(r22 == r4))
                                                                      (k false)
                                                                      (laws_heldEncoder N ((o2.1.1, r7.1.2), (r7.2.1.1, o2.2.1.2.1, r7.2.1.2.2), o2.2.2.1, r7.2.2.2) 1 fun r24 =>
                                                                        cond (decide (r24 < 0))
                                                                          (k false)
                                                                          (cond (!(decide (r24 = r17)))
                                                                            (k false)
                                                                            (k true)))))))))))))))
abbrev a6 : List AM := [.a (.pr (.ro 133 YlShape) (.pr (.int .i64) (.pr (.int .i64) (.int .i64)))), .v (.ro 3 (.int .i64))]
noncomputable def u6 {R : Type} (N : Nat) (d : AMs.D a6) (k : List Val → List Val → Option R) : Option R := laws_FnExactEncNew N d.1 d.2.1 (fun r0 => k [.c (.bo r0)] [])
noncomputable def c6 {R : Type} (N : Nat) : Con R := conOf [.rd, .rd] a6 (u6 N)
noncomputable def g6 {R : Type} (N : Nat) : List (Nat × Con R) := [(26, c26 N), (28, c28 N), (29, c29 N), (27, c27 N), (30, c30 N), (25, c25 N), (31, c31 N), (32, c32 N), (33, c33 N), (34, c34 N), (35, c35 N), (36, c36 N)]
noncomputable def L6 {R : Type} (N : Nat) : List (Nat × LCon R) := []
theorem e6 {R : Type} (N : Nat) (d : AMs.D a6) (k : List Val → List Val → Option R) : evF Try.prog (gam (g6 N)) N (L6 N) Try.f6 (encAs a6 d (canAs a6 0)) k = u6 N d k := by kernel_rfl
theorem s6 {R : Type} (N : Nat) : Snd Try.prog 6 (c6 N : Con R) :=
  snd_eq (Γ := g6 N) (allG ⟨s26 N, s28 N, s29 N, s27 N, s30 N, s25 N, s31 N, s32 N, s33 N, s34 N, s35 N, s36 N, trivial⟩) mixed Try.func6 (c := (Try.f6.body.get rfl)) rfl (by kernel_rfl) (by kernel_rfl) (Λ := L6 N) (qs := []) (by kernel_rfl) trivial (e6 N)
end Go.Proofs.YthpklbpdchckkaaT
