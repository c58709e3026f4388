/- Typed twins of the program's functions, and that they answer as the functions do. It states nothing by itself. -/
import Derived.Test.YthpklbpdchckkaaAOT
namespace Go.Proofs.YthpklbpdchckkaaT
open Go.Proofs Go.Proofs.YthpklbpdchckkaaEv
set_option maxRecDepth 100000
set_option linter.unusedVariables false
/-- laws.szFieldS -/
noncomputable def laws_szFieldS {R : Type} (N : Nat) (a : List DField) (left : Int) (k : Int → Option R) : Option R :=
  cond (decide ((w64 (left - (a.length : Int))) < 0))
    (k (-1))
    (k (w64 (left - (a.length : Int))))
abbrev a107 : List AM := [.v (.ro 143 YField), .v (.int .i64)]
noncomputable def u107 {R : Type} (N : Nat) (d : AMs.D a107) (k : List Val → List Val → Option R) : Option R := laws_szFieldS N d.1 d.2.1 (fun r0 => k [.c (.nu .i64 r0)] [])
noncomputable def c107 {R : Type} (N : Nat) : Con R := conOf [.rd, .rd] a107 (u107 N)
noncomputable def g107 {R : Type} (N : Nat) : List (Nat × Con R) := []
noncomputable def L107 {R : Type} (N : Nat) : List (Nat × LCon R) := []
theorem e107 {R : Type} (N : Nat) (d : AMs.D a107) (k : List Val → List Val → Option R) : evF Try.prog (gam (g107 N)) N (L107 N) Try.f107 (encAs a107 d (canAs a107 0)) k = u107 N d k := by kernel_rfl
theorem s107 {R : Type} (N : Nat) : Snd Try.prog 107 (c107 N : Con R) :=
  snd_eq (Γ := g107 N) (allG trivial) mixed Try.func107 (c := (Try.f107.body.get rfl)) rfl (by kernel_rfl) (by kernel_rfl) (Λ := L107 N) (qs := []) (by kernel_rfl) trivial (e107 N)
/-- laws.szShape -/
noncomputable def laws_szShape {R : Type} (N : Nat) (a : DlShape) (left : Int) (k : Int → Option R) : Option R :=
  laws_szFieldS N a.2 left fun r =>
    cond (decide (r < 0))
      (k (-1))
      (k r)
abbrev a95 : List AM := [.a (.pr (.int .i64) (.ro 143 YField)), .v (.int .i64)]
noncomputable def u95 {R : Type} (N : Nat) (d : AMs.D a95) (k : List Val → List Val → Option R) : Option R := laws_szShape N d.1 d.2.1 (fun r0 => k [.c (.nu .i64 r0)] [])
noncomputable def c95 {R : Type} (N : Nat) : Con R := conOf [.rd, .rd] a95 (u95 N)
noncomputable def g95 {R : Type} (N : Nat) : List (Nat × Con R) := [(107, c107 N)]
noncomputable def L95 {R : Type} (N : Nat) : List (Nat × LCon R) := []
theorem e95 {R : Type} (N : Nat) (d : AMs.D a95) (k : List Val → List Val → Option R) : evF Try.prog (gam (g95 N)) N (L95 N) Try.f95 (encAs a95 d (canAs a95 0)) k = u95 N d k := by kernel_rfl
theorem s95 {R : Type} (N : Nat) : Snd Try.prog 95 (c95 N : Con R) :=
  snd_eq (Γ := g95 N) (allG ⟨s107 N, trivial⟩) mixed Try.func95 (c := (Try.f95.body.get rfl)) rfl (by kernel_rfl) (by kernel_rfl) (Λ := L95 N) (qs := []) (by kernel_rfl) trivial (e95 N)
/-- laws.szShapeS, the loop 122 -/
noncomputable def laws_szShapeS_l0 {R : Type} (N : Nat) : Nat → List DlShape → Int → Int → (Int → Option R) → (Int → Option R) → Option R
  | 0, _, _, _, _, _ => none
  | n + 1, a1, left1, i, x0_, x1_ =>
    cond (decide (i < (a1.length : Int)))
      (cond (idxE a1.length i)
        (laws_szShape N (a1.getD i.toNat YlShape.z) left1 fun r =>
          cond (decide (r < 0))
            (x0_ (-1))
            (laws_szShapeS_l0 N n a1 r (w64 (i + 1)) x0_ x1_))
        none)
      (x1_ left1)
/-- laws.szShapeS -/
noncomputable def laws_szShapeS {R : Type} (N : Nat) (a : List DlShape) (left : Int) (k : Int → Option R) : Option R :=
  cond (decide ((w64 (left - (a.length : Int))) < 0))
    (k (-1))
    (laws_szShapeS_l0 N N a (w64 (left - (a.length : Int))) 0
      (fun v =>
        k v)
      (fun left2 =>
        k left2))
abbrev a82 : List AM := [.v (.ro 133 YlShape), .v (.int .i64)]
noncomputable def u82 {R : Type} (N : Nat) (d : AMs.D a82) (k : List Val → List Val → Option R) : Option R := laws_szShapeS N d.1 d.2.1 (fun r0 => k [.c (.nu .i64 r0)] [])
noncomputable def c82 {R : Type} (N : Nat) : Con R := conOf [.rd, .rd] a82 (u82 N)
noncomputable def g82 {R : Type} (N : Nat) : List (Nat × Con R) := [(95, c95 N)]
abbrev h82_122 : Sh := ⟨[(0, .c (.ro 0 133 YlShape)), (1, .c (.nu .i64)), (5, .c (.nu .i64))], [], 0, []⟩
noncomputable def l82_122 {R : Type} (N : Nat) : LCon R := lconOf [] h82_122 fun n d K => laws_szShapeS_l0 N n d.1.1 d.1.2.1 d.1.2.2.1 (fun y0 => K .ret ⟨[(4, .c (.nu .i64 y0))], [], 0, []⟩) (fun y0 => K (.exit 0) ⟨[(1, .c (.nu .i64 y0))], [], 0, []⟩)
noncomputable def L82 {R : Type} (N : Nat) : List (Nat × LCon R) := [(122, l82_122 N)]
theorem q82_122 {R : Type} (N : Nat) : LSpec Try.prog (gam (g82 N)) N (L82 N) 16 (subC (Try.f82.body.get rfl) [true, true, true, false, true, false, false]) 122 35 [(0, 2)] (l82_122 N : LCon R) :=
  lspec_of (fun d K => rfl) (fun n d K => by kernel_rfl)
theorem e82 {R : Type} (N : Nat) (d : AMs.D a82) (k : List Val → List Val → Option R) : evF Try.prog (gam (g82 N)) N (L82 N) Try.f82 (encAs a82 d (canAs a82 0)) k = u82 N d k := by kernel_rfl
theorem s82 {R : Type} (N : Nat) : Snd Try.prog 82 (c82 N : Con R) :=
  snd_eq (Γ := g82 N) (allG ⟨s95 N, trivial⟩) mixed Try.func82 (c := (Try.f82.body.get rfl)) rfl (by kernel_rfl) (by kernel_rfl) (Λ := L82 N) (qs := [⟨122, subC (Try.f82.body.get rfl) [true, true, true, false, true, false, false], 35, [(0, 2)]⟩]) (by kernel_rfl) ⟨lsome rfl (q82_122 N), trivial⟩ (e82 N)
/-- laws.szSchema -/
noncomputable def laws_szSchema {R : Type} (N : Nat) (a : List DlShape) (left : Int) (k : Int → Option R) : Option R :=
  laws_szShapeS N a left fun r =>
    cond (decide (r < 0))
      (k (-1))
      (k r)
abbrev a59 : List AM := [.a (.ro 133 YlShape), .v (.int .i64)]
noncomputable def u59 {R : Type} (N : Nat) (d : AMs.D a59) (k : List Val → List Val → Option R) : Option R := laws_szSchema N d.1 d.2.1 (fun r0 => k [.c (.nu .i64 r0)] [])
noncomputable def c59 {R : Type} (N : Nat) : Con R := conOf [.rd, .rd] a59 (u59 N)
noncomputable def g59 {R : Type} (N : Nat) : List (Nat × Con R) := [(82, c82 N)]
noncomputable def L59 {R : Type} (N : Nat) : List (Nat × LCon R) := []
theorem e59 {R : Type} (N : Nat) (d : AMs.D a59) (k : List Val → List Val → Option R) : evF Try.prog (gam (g59 N)) N (L59 N) Try.f59 (encAs a59 d (canAs a59 0)) k = u59 N d k := by kernel_rfl
theorem s59 {R : Type} (N : Nat) : Snd Try.prog 59 (c59 N : Con R) :=
  snd_eq (Γ := g59 N) (allG ⟨s82 N, trivial⟩) mixed Try.func59 (c := (Try.f59.body.get rfl)) rfl (by kernel_rfl) (by kernel_rfl) (Λ := L59 N) (qs := []) (by kernel_rfl) trivial (e59 N)
/-- laws.szPlan -/
noncomputable def laws_szPlan {R : Type} (N : Nat) (a : DlPlan) (left : Int) (k : Int → Option R) : Option R :=
  laws_szSchema N a.1 left fun r =>
    cond (decide (r < 0))
      (k (-1))
      (k r)
abbrev a26 : List AM := [.a (.pr (.ro 133 YlShape) (.pr (.int .i64) (.pr (.int .i64) (.int .i64)))), .v (.int .i64)]
noncomputable def u26 {R : Type} (N : Nat) (d : AMs.D a26) (k : List Val → List Val → Option R) : Option R := laws_szPlan N d.1 d.2.1 (fun r0 => k [.c (.nu .i64 r0)] [])
noncomputable def c26 {R : Type} (N : Nat) : Con R := conOf [.rd, .rd] a26 (u26 N)
noncomputable def g26 {R : Type} (N : Nat) : List (Nat × Con R) := [(59, c59 N)]
noncomputable def L26 {R : Type} (N : Nat) : List (Nat × LCon R) := []
theorem e26 {R : Type} (N : Nat) (d : AMs.D a26) (k : List Val → List Val → Option R) : evF Try.prog (gam (g26 N)) N (L26 N) Try.f26 (encAs a26 d (canAs a26 0)) k = u26 N d k := by kernel_rfl
theorem s26 {R : Type} (N : Nat) : Snd Try.prog 26 (c26 N : Con R) :=
  snd_eq (Γ := g26 N) (allG ⟨s59 N, trivial⟩) mixed Try.func26 (c := (Try.f26.body.get rfl)) rfl (by kernel_rfl) (by kernel_rfl) (Λ := L26 N) (qs := []) (by kernel_rfl) trivial (e26 N)
/-- laws.szIntS -/
noncomputable def laws_szIntS {R : Type} (N : Nat) (a : List Int) (left : Int) (k : Int → Option R) : Option R :=
  cond (decide ((w64 (left - (a.length : Int))) < 0))
    (k (-1))
    (k (w64 (left - (a.length : Int))))
abbrev a76 : List AM := [.v (.ro 3 (.int .i64)), .v (.int .i64)]
noncomputable def u76 {R : Type} (N : Nat) (d : AMs.D a76) (k : List Val → List Val → Option R) : Option R := laws_szIntS N d.1 d.2.1 (fun r0 => k [.c (.nu .i64 r0)] [])
noncomputable def c76 {R : Type} (N : Nat) : Con R := conOf [.rd, .rd] a76 (u76 N)
noncomputable def g76 {R : Type} (N : Nat) : List (Nat × Con R) := []
noncomputable def L76 {R : Type} (N : Nat) : List (Nat × LCon R) := []
theorem e76 {R : Type} (N : Nat) (d : AMs.D a76) (k : List Val → List Val → Option R) : evF Try.prog (gam (g76 N)) N (L76 N) Try.f76 (encAs a76 d (canAs a76 0)) k = u76 N d k := by kernel_rfl
theorem s76 {R : Type} (N : Nat) : Snd Try.prog 76 (c76 N : Con R) :=
  snd_eq (Γ := g76 N) (allG trivial) mixed Try.func76 (c := (Try.f76.body.get rfl)) rfl (by kernel_rfl) (by kernel_rfl) (Λ := L76 N) (qs := []) (by kernel_rfl) trivial (e76 N)
/-- laws.szSink -/
noncomputable def laws_szSink {R : Type} (N : Nat) (a : DSink) (left : Int) (k : Int → Option R) : Option R :=
  cond (decide ((w64 (left - (a.1.size : Int))) < 0))
    (k (-1))
    (laws_szIntS N a.2.1 (w64 (left - (a.1.size : Int))) fun r =>
      cond (decide (r < 0))
        (k (-1))
        (k r))
abbrev a45 : List AM := [.a (.pr .str (.pr (.ro 3 (.int .i64)) (.pr (.int .i64) (.int .i64)))), .v (.int .i64)]
noncomputable def u45 {R : Type} (N : Nat) (d : AMs.D a45) (k : List Val → List Val → Option R) : Option R := laws_szSink N d.1 d.2.1 (fun r0 => k [.c (.nu .i64 r0)] [])
noncomputable def c45 {R : Type} (N : Nat) : Con R := conOf [.rd, .rd] a45 (u45 N)
noncomputable def g45 {R : Type} (N : Nat) : List (Nat × Con R) := [(76, c76 N)]
noncomputable def L45 {R : Type} (N : Nat) : List (Nat × LCon R) := []
theorem e45 {R : Type} (N : Nat) (d : AMs.D a45) (k : List Val → List Val → Option R) : evF Try.prog (gam (g45 N)) N (L45 N) Try.f45 (encAs a45 d (canAs a45 0)) k = u45 N d k := by kernel_rfl
theorem s45 {R : Type} (N : Nat) : Snd Try.prog 45 (c45 N : Con R) :=
  snd_eq (Γ := g45 N) (allG ⟨s76 N, trivial⟩) mixed Try.func45 (c := (Try.f45.body.get rfl)) rfl (by kernel_rfl) (by kernel_rfl) (Λ := L45 N) (qs := []) (by kernel_rfl) trivial (e45 N)
/-- laws.szEvent -/
noncomputable def laws_szEvent {R : Type} (N : Nat) (a : DEvent) (left : Int) (k : Int → Option R) : Option R :=
  cond (decide ((w64 (left - (a.2.2.2.2.1.size : Int))) < 0))
    (k (-1))
    (k (w64 (left - (a.2.2.2.2.1.size : Int))))
abbrev a77 : List AM := [.a (.pr (.int .i64) (.pr (.int .i64) (.pr (.int .u64) (.pr (.int .i64) (.pr .str (.pr (.int .i64) (.int .i64))))))), .v (.int .i64)]
noncomputable def u77 {R : Type} (N : Nat) (d : AMs.D a77) (k : List Val → List Val → Option R) : Option R := laws_szEvent N d.1 d.2.1 (fun r0 => k [.c (.nu .i64 r0)] [])
noncomputable def c77 {R : Type} (N : Nat) : Con R := conOf [.rd, .rd] a77 (u77 N)
noncomputable def g77 {R : Type} (N : Nat) : List (Nat × Con R) := []
noncomputable def L77 {R : Type} (N : Nat) : List (Nat × LCon R) := []
theorem e77 {R : Type} (N : Nat) (d : AMs.D a77) (k : List Val → List Val → Option R) : evF Try.prog (gam (g77 N)) N (L77 N) Try.f77 (encAs a77 d (canAs a77 0)) k = u77 N d k := by kernel_rfl
theorem s77 {R : Type} (N : Nat) : Snd Try.prog 77 (c77 N : Con R) :=
  snd_eq (Γ := g77 N) (allG trivial) mixed Try.func77 (c := (Try.f77.body.get rfl)) rfl (by kernel_rfl) (by kernel_rfl) (Λ := L77 N) (qs := []) (by kernel_rfl) trivial (e77 N)
/-- laws.szEventS, the loop 122 -/
noncomputable def laws_szEventS_l0 {R : Type} (N : Nat) : Nat → List DEvent → Int → Int → (Int → Option R) → (Int → Option R) → Option R
  | 0, _, _, _, _, _ => none
  | n + 1, a1, left1, i, x0_, x1_ =>
    cond (decide (i < (a1.length : Int)))
      (cond (idxE a1.length i)
        (laws_szEvent N (a1.getD i.toNat YEvent.z) left1 fun r =>
          cond (decide (r < 0))
            (x0_ (-1))
            (laws_szEventS_l0 N n a1 r (w64 (i + 1)) x0_ x1_))
        none)
      (x1_ left1)
/-- laws.szEventS -/
noncomputable def laws_szEventS {R : Type} (N : Nat) (a : List DEvent) (left : Int) (k : Int → Option R) : Option R :=
  cond (decide ((w64 (left - (a.length : Int))) < 0))
    (k (-1))
    (laws_szEventS_l0 N N a (w64 (left - (a.length : Int))) 0
      (fun v =>
        k v)
      (fun left2 =>
        k left2))
abbrev a46 : List AM := [.v (.ro 115 YEvent), .v (.int .i64)]
noncomputable def u46 {R : Type} (N : Nat) (d : AMs.D a46) (k : List Val → List Val → Option R) : Option R := laws_szEventS N d.1 d.2.1 (fun r0 => k [.c (.nu .i64 r0)] [])
noncomputable def c46 {R : Type} (N : Nat) : Con R := conOf [.rd, .rd] a46 (u46 N)
noncomputable def g46 {R : Type} (N : Nat) : List (Nat × Con R) := [(77, c77 N)]
abbrev h46_122 : Sh := ⟨[(0, .c (.ro 0 115 YEvent)), (1, .c (.nu .i64)), (5, .c (.nu .i64))], [], 0, []⟩
noncomputable def l46_122 {R : Type} (N : Nat) : LCon R := lconOf [] h46_122 fun n d K => laws_szEventS_l0 N n d.1.1 d.1.2.1 d.1.2.2.1 (fun y0 => K .ret ⟨[(4, .c (.nu .i64 y0))], [], 0, []⟩) (fun y0 => K (.exit 0) ⟨[(1, .c (.nu .i64 y0))], [], 0, []⟩)
noncomputable def L46 {R : Type} (N : Nat) : List (Nat × LCon R) := [(122, l46_122 N)]
theorem q46_122 {R : Type} (N : Nat) : LSpec Try.prog (gam (g46 N)) N (L46 N) 16 (subC (Try.f46.body.get rfl) [true, true, true, false, true, false, false]) 122 35 [(0, 2)] (l46_122 N : LCon R) :=
  lspec_of (fun d K => rfl) (fun n d K => by kernel_rfl)
theorem e46 {R : Type} (N : Nat) (d : AMs.D a46) (k : List Val → List Val → Option R) : evF Try.prog (gam (g46 N)) N (L46 N) Try.f46 (encAs a46 d (canAs a46 0)) k = u46 N d k := by kernel_rfl
theorem s46 {R : Type} (N : Nat) : Snd Try.prog 46 (c46 N : Con R) :=
  snd_eq (Γ := g46 N) (allG ⟨s77 N, trivial⟩) mixed Try.func46 (c := (Try.f46.body.get rfl)) rfl (by kernel_rfl) (by kernel_rfl) (Λ := L46 N) (qs := [⟨122, subC (Try.f46.body.get rfl) [true, true, true, false, true, false, false], 35, [(0, 2)]⟩]) (by kernel_rfl) ⟨lsome rfl (q46_122 N), trivial⟩ (e46 N)
/-- laws.szEncoder -/
noncomputable def laws_szEncoder {R : Type} (N : Nat) (a : DlEncoder) (left : Int) (k : Int → Option R) : Option R :=
  laws_szPlan N a.1 left fun r =>
    cond (decide (r < 0))
      (k (-1))
      (laws_szSink N a.2.1 r fun r1 =>
        cond (decide (r1 < 0))
          (k (-1))
          (laws_szEventS N a.2.2.1 r1 fun r2 =>
            cond (decide (r2 < 0))
              (k (-1))
              (k r2)))
abbrev a21 : List AM := [.a (.pr (.pr (.ro 133 YlShape) (.pr (.int .i64) (.pr (.int .i64) (.int .i64)))) (.pr (.pr .str (.pr (.ro 3 (.int .i64)) (.pr (.int .i64) (.int .i64)))) (.pr (.ro 115 YEvent) (.pr (.int .i64) (.pr (.int .i64) (.int .i64)))))), .v (.int .i64)]
noncomputable def u21 {R : Type} (N : Nat) (d : AMs.D a21) (k : List Val → List Val → Option R) : Option R := laws_szEncoder N d.1 d.2.1 (fun r0 => k [.c (.nu .i64 r0)] [])
noncomputable def c21 {R : Type} (N : Nat) : Con R := conOf [.rd, .rd] a21 (u21 N)
noncomputable def g21 {R : Type} (N : Nat) : List (Nat × Con R) := [(26, c26 N), (45, c45 N), (46, c46 N)]
noncomputable def L21 {R : Type} (N : Nat) : List (Nat × LCon R) := []
theorem e21 {R : Type} (N : Nat) (d : AMs.D a21) (k : List Val → List Val → Option R) : evF Try.prog (gam (g21 N)) N (L21 N) Try.f21 (encAs a21 d (canAs a21 0)) k = u21 N d k := by kernel_rfl
theorem s21 {R : Type} (N : Nat) : Snd Try.prog 21 (c21 N : Con R) :=
  snd_eq (Γ := g21 N) (allG ⟨s26 N, s45 N, s46 N, trivial⟩) mixed Try.func21 (c := (Try.f21.body.get rfl)) rfl (by kernel_rfl) (by kernel_rfl) (Λ := L21 N) (qs := []) (by kernel_rfl) trivial (e21 N)
/-- laws.toField -/
noncomputable def laws_toField {R : Type} (N : Nat) (a : DField) (k : DField → Option R) : Option R :=
  k a
abbrev a110 : List AM := [.a (.pr (.int .i64) (.pr (.int .i64) (.pr .bool (.pr .bool (.int .i64)))))]
noncomputable def u110 {R : Type} (N : Nat) (d : AMs.D a110) (k : List Val → List Val → Option R) : Option R := laws_toField N d.1 (fun r0 => k [.agg [.nu .i64 r0.1, .nu .i64 r0.2.1, .bo r0.2.2.1, .bo r0.2.2.2.1, .nu .i64 r0.2.2.2.2]] [])
noncomputable def c110 {R : Type} (N : Nat) : Con R := conOf [.rd] a110 (u110 N)
noncomputable def g110 {R : Type} (N : Nat) : List (Nat × Con R) := []
noncomputable def L110 {R : Type} (N : Nat) : List (Nat × LCon R) := []
theorem e110 {R : Type} (N : Nat) (d : AMs.D a110) (k : List Val → List Val → Option R) : evF Try.prog (gam (g110 N)) N (L110 N) Try.f110 (encAs a110 d (canAs a110 0)) k = u110 N d k := by kernel_rfl
theorem s110 {R : Type} (N : Nat) : Snd Try.prog 110 (c110 N : Con R) :=
  snd_eq (Γ := g110 N) (allG trivial) mixed Try.func110 (c := (Try.f110.body.get rfl)) rfl (by kernel_rfl) (by kernel_rfl) (Λ := L110 N) (qs := []) (by kernel_rfl) trivial (e110 N)
/-- laws.toFieldS, the loop 58 -/
noncomputable def laws_toFieldS_l0 {R : Type} (N : Nat) : Nat → List DField → Int → List DField → (List DField → Option R) → Option R
  | 0, _, _, _, _ => none
  | n + 1, a1, i, xs, x0_ =>
    cond (decide (i < (a1.length : Int)))
      (cond (idxE a1.length i)
        (laws_toField N (a1.getD i.toNat YField.z) fun r =>
          cond (idxE xs.length i)
            (laws_toFieldS_l0 N n a1 (w64 (i + 1)) (xs.set i.toNat r) x0_)
            none)
        none)
      (x0_ xs)
/-- laws.toFieldS -/
noncomputable def laws_toFieldS {R : Type} (N : Nat) (a : List DField) (k : List DField → Option R) : Option R :=
  cond (decide (0 ≤ (a.length : Int) ∧ (a.length : Int) ≤ (a.length : Int) ∧ (a.length : Int) ≤ 4611686018427387904 ∧ (32 : Int) * (a.length : Int) ≤ 140737488355328))
    (laws_toFieldS_l0 N N a 0 (List.replicate ((a.length : Int).toNat) (0, 0, false, false, 0))
      (fun xs1 =>
        k xs1))
    none
abbrev a108 : List AM := [.v (.ro 143 YField)]
noncomputable def u108 {R : Type} (N : Nat) (d : AMs.D a108) (k : List Val → List Val → Option R) : Option R := laws_toFieldS N d.1 (fun r0 => k [.c (.own YField 128 r0)] [])
noncomputable def c108 {R : Type} (N : Nat) : Con R := conOf [.rd] a108 (u108 N)
noncomputable def g108 {R : Type} (N : Nat) : List (Nat × Con R) := [(110, c110 N)]
abbrev h108_58 : Sh := ⟨[(0, .c (.ro 0 143 YField)), (3, .c (.slw 0)), (4, .c (.nu .i64))], [(0, .rows YField 128)], 1, []⟩
noncomputable def l108_58 {R : Type} (N : Nat) : LCon R := lconOf [] h108_58 fun n d K => laws_toFieldS_l0 N n d.1.1 d.1.2.2.1 d.2.1.1 (fun y0 => K (.exit 0) ⟨[(3, .c (.slw 0))], [(0, some (.rows YField 128 y0))], 1, []⟩)
noncomputable def L108 {R : Type} (N : Nat) : List (Nat × LCon R) := [(58, l108_58 N)]
theorem q108_58 {R : Type} (N : Nat) : LSpec Try.prog (gam (g108 N)) N (L108 N) 4 (subC (Try.f108.body.get rfl) [true, true, false, true, false, false]) 58 25 [(0, 8)] (l108_58 N : LCon R) :=
  lspec_of (fun d K => rfl) (fun n d K => by kernel_rfl)
theorem e108 {R : Type} (N : Nat) (d : AMs.D a108) (k : List Val → List Val → Option R) : evF Try.prog (gam (g108 N)) N (L108 N) Try.f108 (encAs a108 d (canAs a108 0)) k = u108 N d k := by kernel_rfl
theorem s108 {R : Type} (N : Nat) : Snd Try.prog 108 (c108 N : Con R) :=
  snd_eq (Γ := g108 N) (allG ⟨s110 N, trivial⟩) mixed Try.func108 (c := (Try.f108.body.get rfl)) rfl (by kernel_rfl) (by kernel_rfl) (Λ := L108 N) (qs := [⟨58, subC (Try.f108.body.get rfl) [true, true, false, true, false, false], 25, [(0, 8)]⟩]) (by kernel_rfl) ⟨lsome rfl (q108_58 N), trivial⟩ (e108 N)
/-- laws.toShape -/
noncomputable def laws_toShape {R : Type} (N : Nat) (a : DlShape) (k : DShape → Option R) : Option R :=
  laws_toFieldS N a.2 fun r =>
    k (a.1, r)
abbrev a96 : List AM := [.a (.pr (.int .i64) (.ro 143 YField))]
noncomputable def u96 {R : Type} (N : Nat) (d : AMs.D a96) (k : List Val → List Val → Option R) : Option R := laws_toShape N d.1 (fun r0 => k [.agg [.nu .i64 r0.1, .own YField 128 r0.2]] [])
noncomputable def c96 {R : Type} (N : Nat) : Con R := conOf [.rd] a96 (u96 N)
noncomputable def g96 {R : Type} (N : Nat) : List (Nat × Con R) := [(108, c108 N)]
noncomputable def L96 {R : Type} (N : Nat) : List (Nat × LCon R) := []
theorem e96 {R : Type} (N : Nat) (d : AMs.D a96) (k : List Val → List Val → Option R) : evF Try.prog (gam (g96 N)) N (L96 N) Try.f96 (encAs a96 d (canAs a96 0)) k = u96 N d k := by kernel_rfl
theorem s96 {R : Type} (N : Nat) : Snd Try.prog 96 (c96 N : Con R) :=
  snd_eq (Γ := g96 N) (allG ⟨s108 N, trivial⟩) mixed Try.func96 (c := (Try.f96.body.get rfl)) rfl (by kernel_rfl) (by kernel_rfl) (Λ := L96 N) (qs := []) (by kernel_rfl) trivial (e96 N)
/-- laws.toShapeS, the loop 58 -/
noncomputable def laws_toShapeS_l0 {R : Type} (N : Nat) : Nat → List DlShape → Int → List DShape → (List DShape → Option R) → Option R
  | 0, _, _, _, _ => none
  | n + 1, a1, i, xs, x0_ =>
    cond (decide (i < (a1.length : Int)))
      (cond (idxE a1.length i)
        (laws_toShape N (a1.getD i.toNat YlShape.z) fun r =>
          cond (idxE xs.length i)
            (laws_toShapeS_l0 N n a1 (w64 (i + 1)) (xs.set i.toNat r) x0_)
            none)
        none)
      (x0_ xs)
/-- laws.toShapeS -/
noncomputable def laws_toShapeS {R : Type} (N : Nat) (a : List DlShape) (k : List DShape → Option R) : Option R :=
  cond (decide (0 ≤ (a.length : Int) ∧ (a.length : Int) ≤ (a.length : Int) ∧ (a.length : Int) ≤ 4611686018427387904 ∧ (32 : Int) * (a.length : Int) ≤ 140737488355328))
    (laws_toShapeS_l0 N N a 0 (List.replicate ((a.length : Int).toNat) (0, []))
      (fun xs1 =>
        k xs1))
    none
abbrev a83 : List AM := [.v (.ro 133 YlShape)]
noncomputable def u83 {R : Type} (N : Nat) (d : AMs.D a83) (k : List Val → List Val → Option R) : Option R := laws_toShapeS N d.1 (fun r0 => k [.c (.own YShape 77 r0)] [])
noncomputable def c83 {R : Type} (N : Nat) : Con R := conOf [.rd] a83 (u83 N)
noncomputable def g83 {R : Type} (N : Nat) : List (Nat × Con R) := [(96, c96 N)]
abbrev h83_58 : Sh := ⟨[(0, .c (.ro 0 133 YlShape)), (3, .c (.slw 0)), (4, .c (.nu .i64))], [(0, .rows YShape 77)], 1, []⟩
noncomputable def l83_58 {R : Type} (N : Nat) : LCon R := lconOf [] h83_58 fun n d K => laws_toShapeS_l0 N n d.1.1 d.1.2.2.1 d.2.1.1 (fun y0 => K (.exit 0) ⟨[(3, .c (.slw 0))], [(0, some (.rows YShape 77 y0))], 1, []⟩)
noncomputable def L83 {R : Type} (N : Nat) : List (Nat × LCon R) := [(58, l83_58 N)]
theorem q83_58 {R : Type} (N : Nat) : LSpec Try.prog (gam (g83 N)) N (L83 N) 4 (subC (Try.f83.body.get rfl) [true, true, false, true, false, false]) 58 25 [(0, 8)] (l83_58 N : LCon R) :=
  lspec_of (fun d K => rfl) (fun n d K => by kernel_rfl)
theorem e83 {R : Type} (N : Nat) (d : AMs.D a83) (k : List Val → List Val → Option R) : evF Try.prog (gam (g83 N)) N (L83 N) Try.f83 (encAs a83 d (canAs a83 0)) k = u83 N d k := by kernel_rfl
theorem s83 {R : Type} (N : Nat) : Snd Try.prog 83 (c83 N : Con R) :=
  snd_eq (Γ := g83 N) (allG ⟨s96 N, trivial⟩) mixed Try.func83 (c := (Try.f83.body.get rfl)) rfl (by kernel_rfl) (by kernel_rfl) (Λ := L83 N) (qs := [⟨58, subC (Try.f83.body.get rfl) [true, true, false, true, false, false], 25, [(0, 8)]⟩]) (by kernel_rfl) ⟨lsome rfl (q83_58 N), trivial⟩ (e83 N)
/-- laws.toSchema -/
noncomputable def laws_toSchema {R : Type} (N : Nat) (a : List DlShape) (k : List DShape → Option R) : Option R :=
  laws_toShapeS N a fun r =>
    k r
abbrev a61 : List AM := [.a (.ro 133 YlShape)]
noncomputable def u61 {R : Type} (N : Nat) (d : AMs.D a61) (k : List Val → List Val → Option R) : Option R := laws_toSchema N d.1 (fun r0 => k [.agg [.own YShape 77 r0]] [])
noncomputable def c61 {R : Type} (N : Nat) : Con R := conOf [.rd] a61 (u61 N)
noncomputable def g61 {R : Type} (N : Nat) : List (Nat × Con R) := [(83, c83 N)]
noncomputable def L61 {R : Type} (N : Nat) : List (Nat × LCon R) := []
theorem e61 {R : Type} (N : Nat) (d : AMs.D a61) (k : List Val → List Val → Option R) : evF Try.prog (gam (g61 N)) N (L61 N) Try.f61 (encAs a61 d (canAs a61 0)) k = u61 N d k := by kernel_rfl
theorem s61 {R : Type} (N : Nat) : Snd Try.prog 61 (c61 N : Con R) :=
  snd_eq (Γ := g61 N) (allG ⟨s83 N, trivial⟩) mixed Try.func61 (c := (Try.f61.body.get rfl)) rfl (by kernel_rfl) (by kernel_rfl) (Λ := L61 N) (qs := []) (by kernel_rfl) trivial (e61 N)
/-- laws.toPlan -/
noncomputable def laws_toPlan {R : Type} (N : Nat) (a : DlPlan) (k : DPlan → Option R) : Option R :=
  laws_toSchema N a.1 fun r =>
    k (r, a.2)
abbrev a28 : List AM := [.a (.pr (.ro 133 YlShape) (.pr (.int .i64) (.pr (.int .i64) (.int .i64))))]
noncomputable def u28 {R : Type} (N : Nat) (d : AMs.D a28) (k : List Val → List Val → Option R) : Option R := laws_toPlan N d.1 (fun r0 => k [.agg [.own YShape 77 r0.1, .nu .i64 r0.2.1, .nu .i64 r0.2.2.1, .nu .i64 r0.2.2.2]] [])
noncomputable def c28 {R : Type} (N : Nat) : Con R := conOf [.rd] a28 (u28 N)
noncomputable def g28 {R : Type} (N : Nat) : List (Nat × Con R) := [(61, c61 N)]
noncomputable def L28 {R : Type} (N : Nat) : List (Nat × LCon R) := []
theorem e28 {R : Type} (N : Nat) (d : AMs.D a28) (k : List Val → List Val → Option R) : evF Try.prog (gam (g28 N)) N (L28 N) Try.f28 (encAs a28 d (canAs a28 0)) k = u28 N d k := by kernel_rfl
theorem s28 {R : Type} (N : Nat) : Snd Try.prog 28 (c28 N : Con R) :=
  snd_eq (Γ := g28 N) (allG ⟨s61 N, trivial⟩) mixed Try.func28 (c := (Try.f28.body.get rfl)) rfl (by kernel_rfl) (by kernel_rfl) (Λ := L28 N) (qs := []) (by kernel_rfl) trivial (e28 N)
/-- laws.toIntS, the loop 58 -/
noncomputable def laws_toIntS_l0 {R : Type} (N : Nat) : Nat → List Int → Int → List Int → (List Int → Option R) → Option R
  | 0, _, _, _, _ => none
  | n + 1, a1, i, xs, x0_ =>
    cond (decide (i < (a1.length : Int)))
      (cond (idxE a1.length i)
        (cond (idxE xs.length i)
          (laws_toIntS_l0 N n a1 (w64 (i + 1)) (xs.set i.toNat (a1.getD i.toNat 0)) x0_)
          none)
        none)
      (x0_ xs)
/-- laws.toIntS -/
noncomputable def laws_toIntS {R : Type} (N : Nat) (a : List Int) (k : List Int → Option R) : Option R :=
  cond (decide (0 ≤ (a.length : Int) ∧ (a.length : Int) ≤ (a.length : Int) ∧ (a.length : Int) ≤ 4611686018427387904 ∧ (8 : Int) * (a.length : Int) ≤ 140737488355328))
    (laws_toIntS_l0 N N a 0 (List.replicate ((a.length : Int).toNat) 0)
      (fun xs1 =>
        k xs1))
    none
abbrev a29 : List AM := [.v (.ro 3 (.int .i64))]
noncomputable def u29 {R : Type} (N : Nat) (d : AMs.D a29) (k : List Val → List Val → Option R) : Option R := laws_toIntS N d.1 (fun r0 => k [.c (.own (.int .i64) 3 r0)] [])
noncomputable def c29 {R : Type} (N : Nat) : Con R := conOf [.rd] a29 (u29 N)
noncomputable def g29 {R : Type} (N : Nat) : List (Nat × Con R) := []
abbrev h29_58 : Sh := ⟨[(0, .c (.ro 0 3 (.int .i64))), (3, .c (.slw 0)), (4, .c (.nu .i64))], [(0, .rows (.int .i64) 3)], 1, []⟩
noncomputable def l29_58 {R : Type} (N : Nat) : LCon R := lconOf [] h29_58 fun n d K => laws_toIntS_l0 N n d.1.1 d.1.2.2.1 d.2.1.1 (fun y0 => K (.exit 0) ⟨[(3, .c (.slw 0))], [(0, some (.rows (.int .i64) 3 y0))], 1, []⟩)
noncomputable def L29 {R : Type} (N : Nat) : List (Nat × LCon R) := [(58, l29_58 N)]
theorem q29_58 {R : Type} (N : Nat) : LSpec Try.prog (gam (g29 N)) N (L29 N) 4 (subC (Try.f29.body.get rfl) [true, true, false, true, false, false]) 58 25 [(0, 8)] (l29_58 N : LCon R) :=
  lspec_of (fun d K => rfl) (fun n d K => by kernel_rfl)
theorem e29 {R : Type} (N : Nat) (d : AMs.D a29) (k : List Val → List Val → Option R) : evF Try.prog (gam (g29 N)) N (L29 N) Try.f29 (encAs a29 d (canAs a29 0)) k = u29 N d k := by kernel_rfl
theorem s29 {R : Type} (N : Nat) : Snd Try.prog 29 (c29 N : Con R) :=
  snd_eq (Γ := g29 N) (allG trivial) mixed Try.func29 (c := (Try.f29.body.get rfl)) rfl (by kernel_rfl) (by kernel_rfl) (Λ := L29 N) (qs := [⟨58, subC (Try.f29.body.get rfl) [true, true, false, true, false, false], 25, [(0, 8)]⟩]) (by kernel_rfl) ⟨lsome rfl (q29_58 N), trivial⟩ (e29 N)
/-- laws.toSink -/
noncomputable def laws_toSink {R : Type} (N : Nat) (a : DSink) (k : DSink → Option R) : Option R :=
  laws_toIntS N a.2.1 fun r =>
    k (a.1, r, a.2.2)
abbrev a51 : List AM := [.a (.pr .str (.pr (.ro 3 (.int .i64)) (.pr (.int .i64) (.int .i64))))]
noncomputable def u51 {R : Type} (N : Nat) (d : AMs.D a51) (k : List Val → List Val → Option R) : Option R := laws_toSink N d.1 (fun r0 => k [.agg [.sr r0.1, .own (.int .i64) 3 r0.2.1, .nu .i64 r0.2.2.1, .nu .i64 r0.2.2.2]] [])
noncomputable def c51 {R : Type} (N : Nat) : Con R := conOf [.rd] a51 (u51 N)
noncomputable def g51 {R : Type} (N : Nat) : List (Nat × Con R) := [(29, c29 N)]
noncomputable def L51 {R : Type} (N : Nat) : List (Nat × LCon R) := []
theorem e51 {R : Type} (N : Nat) (d : AMs.D a51) (k : List Val → List Val → Option R) : evF Try.prog (gam (g51 N)) N (L51 N) Try.f51 (encAs a51 d (canAs a51 0)) k = u51 N d k := by kernel_rfl
theorem s51 {R : Type} (N : Nat) : Snd Try.prog 51 (c51 N : Con R) :=
  snd_eq (Γ := g51 N) (allG ⟨s29 N, trivial⟩) mixed Try.func51 (c := (Try.f51.body.get rfl)) rfl (by kernel_rfl) (by kernel_rfl) (Λ := L51 N) (qs := []) (by kernel_rfl) trivial (e51 N)
/-- laws.toEvent -/
noncomputable def laws_toEvent {R : Type} (N : Nat) (a : DEvent) (k : DEvent → Option R) : Option R :=
  k a
abbrev a79 : List AM := [.a (.pr (.int .i64) (.pr (.int .i64) (.pr (.int .u64) (.pr (.int .i64) (.pr .str (.pr (.int .i64) (.int .i64)))))))]
noncomputable def u79 {R : Type} (N : Nat) (d : AMs.D a79) (k : List Val → List Val → Option R) : Option R := laws_toEvent N d.1 (fun r0 => k [.agg [.nu .i64 r0.1, .nu .i64 r0.2.1, .nu .u64 r0.2.2.1, .nu .i64 r0.2.2.2.1, .sr r0.2.2.2.2.1, .nu .i64 r0.2.2.2.2.2.1, .nu .i64 r0.2.2.2.2.2.2]] [])
noncomputable def c79 {R : Type} (N : Nat) : Con R := conOf [.rd] a79 (u79 N)
noncomputable def g79 {R : Type} (N : Nat) : List (Nat × Con R) := []
noncomputable def L79 {R : Type} (N : Nat) : List (Nat × LCon R) := []
theorem e79 {R : Type} (N : Nat) (d : AMs.D a79) (k : List Val → List Val → Option R) : evF Try.prog (gam (g79 N)) N (L79 N) Try.f79 (encAs a79 d (canAs a79 0)) k = u79 N d k := by kernel_rfl
theorem s79 {R : Type} (N : Nat) : Snd Try.prog 79 (c79 N : Con R) :=
  snd_eq (Γ := g79 N) (allG trivial) mixed Try.func79 (c := (Try.f79.body.get rfl)) rfl (by kernel_rfl) (by kernel_rfl) (Λ := L79 N) (qs := []) (by kernel_rfl) trivial (e79 N)
/-- laws.toEventS, the loop 58 -/
noncomputable def laws_toEventS_l0 {R : Type} (N : Nat) : Nat → List DEvent → Int → List DEvent → (List DEvent → Option R) → Option R
  | 0, _, _, _, _ => none
  | n + 1, a1, i, xs, x0_ =>
    cond (decide (i < (a1.length : Int)))
      (cond (idxE a1.length i)
        (laws_toEvent N (a1.getD i.toNat YEvent.z) fun r =>
          cond (idxE xs.length i)
            (laws_toEventS_l0 N n a1 (w64 (i + 1)) (xs.set i.toNat r) x0_)
            none)
        none)
      (x0_ xs)
/-- laws.toEventS -/
noncomputable def laws_toEventS {R : Type} (N : Nat) (a : List DEvent) (k : List DEvent → Option R) : Option R :=
  cond (decide (0 ≤ (a.length : Int) ∧ (a.length : Int) ≤ (a.length : Int) ∧ (a.length : Int) ≤ 4611686018427387904 ∧ (64 : Int) * (a.length : Int) ≤ 140737488355328))
    (laws_toEventS_l0 N N a 0 (List.replicate ((a.length : Int).toNat) (0, 0, 0, 0, ByteArray.empty, 0, 0))
      (fun xs1 =>
        k xs1))
    none
abbrev a52 : List AM := [.v (.ro 115 YEvent)]
noncomputable def u52 {R : Type} (N : Nat) (d : AMs.D a52) (k : List Val → List Val → Option R) : Option R := laws_toEventS N d.1 (fun r0 => k [.c (.own YEvent 117 r0)] [])
noncomputable def c52 {R : Type} (N : Nat) : Con R := conOf [.rd] a52 (u52 N)
noncomputable def g52 {R : Type} (N : Nat) : List (Nat × Con R) := [(79, c79 N)]
abbrev h52_58 : Sh := ⟨[(0, .c (.ro 0 115 YEvent)), (3, .c (.slw 0)), (4, .c (.nu .i64))], [(0, .rows YEvent 117)], 1, []⟩
noncomputable def l52_58 {R : Type} (N : Nat) : LCon R := lconOf [] h52_58 fun n d K => laws_toEventS_l0 N n d.1.1 d.1.2.2.1 d.2.1.1 (fun y0 => K (.exit 0) ⟨[(3, .c (.slw 0))], [(0, some (.rows YEvent 117 y0))], 1, []⟩)
noncomputable def L52 {R : Type} (N : Nat) : List (Nat × LCon R) := [(58, l52_58 N)]
theorem q52_58 {R : Type} (N : Nat) : LSpec Try.prog (gam (g52 N)) N (L52 N) 4 (subC (Try.f52.body.get rfl) [true, true, false, true, false, false]) 58 25 [(0, 8)] (l52_58 N : LCon R) :=
  lspec_of (fun d K => rfl) (fun n d K => by kernel_rfl)
theorem e52 {R : Type} (N : Nat) (d : AMs.D a52) (k : List Val → List Val → Option R) : evF Try.prog (gam (g52 N)) N (L52 N) Try.f52 (encAs a52 d (canAs a52 0)) k = u52 N d k := by kernel_rfl
theorem s52 {R : Type} (N : Nat) : Snd Try.prog 52 (c52 N : Con R) :=
  snd_eq (Γ := g52 N) (allG ⟨s79 N, trivial⟩) mixed Try.func52 (c := (Try.f52.body.get rfl)) rfl (by kernel_rfl) (by kernel_rfl) (Λ := L52 N) (qs := [⟨58, subC (Try.f52.body.get rfl) [true, true, false, true, false, false], 25, [(0, 8)]⟩]) (by kernel_rfl) ⟨lsome rfl (q52_58 N), trivial⟩ (e52 N)
/-- laws.toEncoder -/
noncomputable def laws_toEncoder {R : Type} (N : Nat) (a : DlEncoder) (k : DEncoder → Option R) : Option R :=
  laws_toPlan N a.1 fun r =>
    laws_toSink N a.2.1 fun r1 =>
      laws_toEventS N a.2.2.1 fun r2 =>
        k (r, r1, r2, a.2.2.2)
abbrev a23 : List AM := [.a (.pr (.pr (.ro 133 YlShape) (.pr (.int .i64) (.pr (.int .i64) (.int .i64)))) (.pr (.pr .str (.pr (.ro 3 (.int .i64)) (.pr (.int .i64) (.int .i64)))) (.pr (.ro 115 YEvent) (.pr (.int .i64) (.pr (.int .i64) (.int .i64))))))]
noncomputable def u23 {R : Type} (N : Nat) (d : AMs.D a23) (k : List Val → List Val → Option R) : Option R := laws_toEncoder N d.1 (fun r0 => k [.agg [.own YShape 77 r0.1.1, .nu .i64 r0.1.2.1, .nu .i64 r0.1.2.2.1, .nu .i64 r0.1.2.2.2, .sr r0.2.1.1, .own (.int .i64) 3 r0.2.1.2.1, .nu .i64 r0.2.1.2.2.1, .nu .i64 r0.2.1.2.2.2, .own YEvent 117 r0.2.2.1, .nu .i64 r0.2.2.2.1, .nu .i64 r0.2.2.2.2.1, .nu .i64 r0.2.2.2.2.2]] [])
noncomputable def c23 {R : Type} (N : Nat) : Con R := conOf [.rd] a23 (u23 N)
noncomputable def g23 {R : Type} (N : Nat) : List (Nat × Con R) := [(28, c28 N), (51, c51 N), (52, c52 N)]
noncomputable def L23 {R : Type} (N : Nat) : List (Nat × LCon R) := []
theorem e23 {R : Type} (N : Nat) (d : AMs.D a23) (k : List Val → List Val → Option R) : evF Try.prog (gam (g23 N)) N (L23 N) Try.f23 (encAs a23 d (canAs a23 0)) k = u23 N d k := by kernel_rfl
theorem s23 {R : Type} (N : Nat) : Snd Try.prog 23 (c23 N : Con R) :=
  snd_eq (Γ := g23 N) (allG ⟨s28 N, s51 N, s52 N, trivial⟩) mixed Try.func23 (c := (Try.f23.body.get rfl)) rfl (by kernel_rfl) (by kernel_rfl) (Λ := L23 N) (qs := []) (by kernel_rfl) trivial (e23 N)
/-- spec.l1In -/
noncomputable def spec_l1In {R : Type} (N : Nat) (x : Int) (lo : Int) (hi : Int) (k : Bool → Option R) : Option R :=
  cond (decide (lo ≤ x))
    (k (decide (x ≤ hi)))
    (k false)
abbrev a50 : List AM := [.v (.int .i64), .v (.int .i64), .v (.int .i64)]
noncomputable def u50 {R : Type} (N : Nat) (d : AMs.D a50) (k : List Val → List Val → Option R) : Option R := spec_l1In N d.1 d.2.1 d.2.2.1 (fun r0 => k [.c (.bo r0)] [])
noncomputable def c50 {R : Type} (N : Nat) : Con R := conOf [.rd, .rd, .rd] a50 (u50 N)
noncomputable def g50 {R : Type} (N : Nat) : List (Nat × Con R) := []
noncomputable def L50 {R : Type} (N : Nat) : List (Nat × LCon R) := []
theorem e50 {R : Type} (N : Nat) (d : AMs.D a50) (k : List Val → List Val → Option R) : evF Try.prog (gam (g50 N)) N (L50 N) Try.f50 (encAs a50 d (canAs a50 0)) k = u50 N d k := by kernel_rfl
theorem s50 {R : Type} (N : Nat) : Snd Try.prog 50 (c50 N : Con R) :=
  snd_eq (Γ := g50 N) (allG trivial) mixed Try.func50 (c := (Try.f50.body.get rfl)) rfl (by kernel_rfl) (by kernel_rfl) (Λ := L50 N) (qs := []) (by kernel_rfl) trivial (e50 N)
/-- spec.NumberOk -/
noncomputable def spec_NumberOk {R : Type} (N : Nat) (n_ : Int) (k : Bool → Option R) : Option R :=
  spec_l1In N n_ 1 536870911 fun r =>
    cond r
      (spec_l1In N n_ 19000 19999 fun r1 =>
        k (!r1))
      (k false)
abbrev a101 : List AM := [.v (.int .i64)]
noncomputable def u101 {R : Type} (N : Nat) (d : AMs.D a101) (k : List Val → List Val → Option R) : Option R := spec_NumberOk N d.1 (fun r0 => k [.c (.bo r0)] [])
noncomputable def c101 {R : Type} (N : Nat) : Con R := conOf [.rd] a101 (u101 N)
noncomputable def g101 {R : Type} (N : Nat) : List (Nat × Con R) := [(50, c50 N)]
noncomputable def L101 {R : Type} (N : Nat) : List (Nat × LCon R) := []
theorem e101 {R : Type} (N : Nat) (d : AMs.D a101) (k : List Val → List Val → Option R) : evF Try.prog (gam (g101 N)) N (L101 N) Try.f101 (encAs a101 d (canAs a101 0)) k = u101 N d k := by kernel_rfl
theorem s101 {R : Type} (N : Nat) : Snd Try.prog 101 (c101 N : Con R) :=
  snd_eq (Γ := g101 N) (allG ⟨s50 N, trivial⟩) mixed Try.func101 (c := (Try.f101.body.get rfl)) rfl (by kernel_rfl) (by kernel_rfl) (Λ := L101 N) (qs := []) (by kernel_rfl) trivial (e101 N)
/-- spec.l6Kind -/
noncomputable def spec_l6Kind {R : Type} (N : Nat) (k_ : Int) (k : Bool → Option R) : Option R :=
  spec_l1In N k_ 1 8 fun r =>
    k r
abbrev a102 : List AM := [.v (.int .i64)]
noncomputable def u102 {R : Type} (N : Nat) (d : AMs.D a102) (k : List Val → List Val → Option R) : Option R := spec_l6Kind N d.1 (fun r0 => k [.c (.bo r0)] [])
noncomputable def c102 {R : Type} (N : Nat) : Con R := conOf [.rd] a102 (u102 N)
noncomputable def g102 {R : Type} (N : Nat) : List (Nat × Con R) := [(50, c50 N)]
noncomputable def L102 {R : Type} (N : Nat) : List (Nat × LCon R) := []
theorem e102 {R : Type} (N : Nat) (d : AMs.D a102) (k : List Val → List Val → Option R) : evF Try.prog (gam (g102 N)) N (L102 N) Try.f102 (encAs a102 d (canAs a102 0)) k = u102 N d k := by kernel_rfl
theorem s102 {R : Type} (N : Nat) : Snd Try.prog 102 (c102 N : Con R) :=
  snd_eq (Γ := g102 N) (allG ⟨s50 N, trivial⟩) mixed Try.func102 (c := (Try.f102.body.get rfl)) rfl (by kernel_rfl) (by kernel_rfl) (Λ := L102 N) (qs := []) (by kernel_rfl) trivial (e102 N)
/-- spec.Numeric -/
noncomputable def spec_Numeric {R : Type} (N : Nat) (k_ : Int) (k : Bool → Option R) : Option R :=
  spec_l1In N k_ 1 5 fun r =>
    k r
abbrev a103 : List AM := [.v (.int .i64)]
noncomputable def u103 {R : Type} (N : Nat) (d : AMs.D a103) (k : List Val → List Val → Option R) : Option R := spec_Numeric N d.1 (fun r0 => k [.c (.bo r0)] [])
noncomputable def c103 {R : Type} (N : Nat) : Con R := conOf [.rd] a103 (u103 N)
noncomputable def g103 {R : Type} (N : Nat) : List (Nat × Con R) := [(50, c50 N)]
noncomputable def L103 {R : Type} (N : Nat) : List (Nat × LCon R) := []
theorem e103 {R : Type} (N : Nat) (d : AMs.D a103) (k : List Val → List Val → Option R) : evF Try.prog (gam (g103 N)) N (L103 N) Try.f103 (encAs a103 d (canAs a103 0)) k = u103 N d k := by kernel_rfl
theorem s103 {R : Type} (N : Nat) : Snd Try.prog 103 (c103 N : Con R) :=
  snd_eq (Γ := g103 N) (allG ⟨s50 N, trivial⟩) mixed Try.func103 (c := (Try.f103.body.get rfl)) rfl (by kernel_rfl) (by kernel_rfl) (Λ := L103 N) (qs := []) (by kernel_rfl) trivial (e103 N)
/-- spec.l8FieldOk -/
noncomputable def spec_l8FieldOk {R : Type} (N : Nat) (s : List DShape) (f : DField) (k : Bool → Option R) : Option R :=
  spec_NumberOk N f.1 fun r =>
    cond (!r)
      (k false)
      (spec_l6Kind N f.2.1 fun r1 =>
        cond (!r1)
          (k false)
          (cond f.2.2.2.1
            (cond (!f.2.2.1)
              (k false)
              (spec_Numeric N f.2.1 fun r2 =>
                cond (!r2)
                  (k false)
                  (cond (decide (f.2.1 = 8))
                    (spec_l1In N f.2.2.2.2 0 (w64 ((s.length : Int) - 1)) fun r3 =>
                      k r3)
                    (k (decide (f.2.2.2.2 = (-1)))))))
            (cond (decide (f.2.1 = 8))
              (spec_l1In N f.2.2.2.2 0 (w64 ((s.length : Int) - 1)) fun r4 =>
                k r4)
              (k (decide (f.2.2.2.2 = (-1)))))))
abbrev a93 : List AM := [.a (.ro 77 YShape), .a (.pr (.int .i64) (.pr (.int .i64) (.pr .bool (.pr .bool (.int .i64)))))]
noncomputable def u93 {R : Type} (N : Nat) (d : AMs.D a93) (k : List Val → List Val → Option R) : Option R := spec_l8FieldOk N d.1 d.2.1 (fun r0 => k [.c (.bo r0)] [])
noncomputable def c93 {R : Type} (N : Nat) : Con R := conOf [.rd, .rd] a93 (u93 N)
noncomputable def g93 {R : Type} (N : Nat) : List (Nat × Con R) := [(101, c101 N), (102, c102 N), (103, c103 N), (50, c50 N)]
noncomputable def L93 {R : Type} (N : Nat) : List (Nat × LCon R) := []
theorem e93 {R : Type} (N : Nat) (d : AMs.D a93) (k : List Val → List Val → Option R) : evF Try.prog (gam (g93 N)) N (L93 N) Try.f93 (encAs a93 d (canAs a93 0)) k = u93 N d k := by kernel_rfl
theorem s93 {R : Type} (N : Nat) : Snd Try.prog 93 (c93 N : Con R) :=
  snd_eq (Γ := g93 N) (allG ⟨s101 N, s102 N, s103 N, s50 N, trivial⟩) mixed Try.func93 (c := (Try.f93.body.get rfl)) rfl (by kernel_rfl) (by kernel_rfl) (Λ := L93 N) (qs := []) (by kernel_rfl) trivial (e93 N)
/-- spec.SchemaOk, the loop 14926 -/
noncomputable def spec_SchemaOk_l0 {R : Type} (N : Nat) : Nat → Int → Int → List DShape → Int → List DField → (Bool → Option R) → (Int → List DShape → Option R) → Option R
  | 0, _, _, _, _, _, _, _ => none
  | n + 1, i1, k_, b1, b2, b3, x0_, x1_ =>
    cond (decide (k_ < (b3.length : Int)))
      (cond (idxE b3.length k_)
        (spec_l8FieldOk N b1 (b3.getD k_.toNat YField.z) fun r1 =>
          cond (!r1)
            (x0_ false)
            (cond (decide (0 < k_))
              (cond (idxE b3.length (w64 (k_ - 1)))
                (cond (idxE b3.length k_)
                  (cond (decide (((b3.getD k_.toNat YField.z).1) ≤ ((b3.getD ((w64 (k_ - 1)).toNat) YField.z).1)))
                    (x0_ false)
                    (spec_SchemaOk_l0 N n i1 (w64 (k_ + 1)) b1 b2 b3 x0_ x1_))
                  none)
                none)
              (spec_SchemaOk_l0 N n i1 (w64 (k_ + 1)) b1 b2 b3 x0_ x1_)))
        none)
      (x1_ i1 b1)
/-- spec.SchemaOk, the loop 58 -/
noncomputable def spec_SchemaOk_l1 {R : Type} (N : Nat) : Nat → Int → List DShape → (Bool → Option R) → Option R → Option R
  | 0, _, _, _, _ => none
  | n + 1, i, b, x0_, x1_ =>
    cond (decide (i < (b.length : Int)))
      (cond (idxE b.length i)
        (spec_l1In N ((b.getD i.toNat YShape.z).1) 1 99 fun r =>
          cond (!r)
            (x0_ false)
            (cond (decide (0 < i))
              (cond (idxE b.length (w64 (i - 1)))
                (cond (decide (((b.getD i.toNat YShape.z).1) ≤ ((b.getD ((w64 (i - 1)).toNat) YShape.z).1)))
                  (x0_ false)
                  (cond (decide (8 < (((b.getD i.toNat YShape.z).2).length : Int)))
                    (x0_ false)
                    (spec_SchemaOk_l0 N N i 0 b ((b.getD i.toNat YShape.z).1) ((b.getD i.toNat YShape.z).2)
                      (fun v =>
                        x0_ v)
                      (fun i2 b4 =>
                        spec_SchemaOk_l1 N n (w64 (i2 + 1)) b4 x0_ x1_))))
                none)
              (cond (decide (8 < (((b.getD i.toNat YShape.z).2).length : Int)))
                (x0_ false)
                (spec_SchemaOk_l0 N N i 0 b ((b.getD i.toNat YShape.z).1) ((b.getD i.toNat YShape.z).2)
                  (fun v1 =>
                    x0_ v1)
                  (fun i3 b5 =>
                    spec_SchemaOk_l1 N n (w64 (i3 + 1)) b5 x0_ x1_)))))
        none)
      x1_
/-- spec.SchemaOk -/
noncomputable def spec_SchemaOk {R : Type} (N : Nat) (s : List DShape) (k : Bool → Option R) : Option R :=
  cond (decide (6 < (s.length : Int)))
    (k false)
    (spec_SchemaOk_l1 N N 0 s
      (fun v2 =>
        k v2)
      (k true))
abbrev a78 : List AM := [.a (.ro 77 YShape)]
noncomputable def u78 {R : Type} (N : Nat) (d : AMs.D a78) (k : List Val → List Val → Option R) : Option R := spec_SchemaOk N d.1 (fun r0 => k [.c (.bo r0)] [])
noncomputable def c78 {R : Type} (N : Nat) : Con R := conOf [.rd] a78 (u78 N)
noncomputable def g78 {R : Type} (N : Nat) : List (Nat × Con R) := [(50, c50 N), (93, c93 N)]
abbrev h78_14926 : Sh := ⟨[(1, .c (.ptr 0 0)), (3, .c (.nu .i64)), (4, .c (.ptr 1 0)), (5, .c (.nu .i64))], [(0, .box 24 [.ro 0 77 YShape]), (1, .box 77 [.nu .i64, .ro 0 128 YField])], 2, []⟩
noncomputable def l78_14926 {R : Type} (N : Nat) : LCon R := lconOf [] h78_14926 fun n d K => spec_SchemaOk_l0 N n d.1.2.1 d.1.2.2.2.1 d.2.1.1.1 d.2.1.2.1.1 d.2.1.2.1.2.1 (fun y0 => K .ret ⟨[(2, .c (.bo y0))], [], 0, []⟩) (fun y0 y1 => K (.exit 2) ⟨[(1, .c (.ptr 0 0)), (3, .c (.nu .i64 y0))], [(0, some (.box 24 [.ro 0 YShape 77 y1]))], 1, []⟩)
abbrev h78_58 : Sh := ⟨[(1, .c (.ptr 0 0)), (3, .c (.nu .i64))], [(0, .box 24 [.ro 0 77 YShape])], 1, []⟩
noncomputable def l78_58 {R : Type} (N : Nat) : LCon R := lconOf [] h78_58 fun n d K => spec_SchemaOk_l1 N n d.1.2.1 d.2.1.1.1 (fun y0 => K .ret ⟨[(2, .c (.bo y0))], [], 0, []⟩) (K (.exit 0) ⟨[], [], 0, []⟩)
noncomputable def L78 {R : Type} (N : Nat) : List (Nat × LCon R) := [(14926, l78_14926 N), (58, l78_58 N)]
theorem q78_14926 {R : Type} (N : Nat) : LSpec Try.prog (gam (g78 N)) N (L78 N) 4 (subC (Try.f78.body.get rfl) [true, true, false, true, false, false, true, false, false, true, true, true, false, false]) 14926 58 [(2, 10), (1, 10), (0, 0)] (l78_14926 N : LCon R) :=
  lspec_of (fun d K => rfl) (fun n d K => by kernel_rfl)
theorem q78_58 {R : Type} (N : Nat) : LSpec Try.prog (gam (g78 N)) N (L78 N) 4 (subC (Try.f78.body.get rfl) [true, true, false, true, false, false]) 58 10 [(0, 0)] (l78_58 N : LCon R) :=
  lspec_of (fun d K => rfl) (fun n d K => by kernel_rfl)
theorem e78 {R : Type} (N : Nat) (d : AMs.D a78) (k : List Val → List Val → Option R) : evF Try.prog (gam (g78 N)) N (L78 N) Try.f78 (encAs a78 d (canAs a78 0)) k = u78 N d k := by kernel_rfl
theorem s78 {R : Type} (N : Nat) : Snd Try.prog 78 (c78 N : Con R) :=
  snd_eq (Γ := g78 N) (allG ⟨s50 N, s93 N, trivial⟩) mixed Try.func78 (c := (Try.f78.body.get rfl)) rfl (by kernel_rfl) (by kernel_rfl) (Λ := L78 N) (qs := [⟨14926, subC (Try.f78.body.get rfl) [true, true, false, true, false, false, true, false, false, true, true, true, false, false], 58, [(2, 10), (1, 10), (0, 0)]⟩, ⟨58, subC (Try.f78.body.get rfl) [true, true, false, true, false, false], 10, [(0, 0)]⟩]) (by kernel_rfl) ⟨lsome rfl (q78_14926 N), lsome rfl (q78_58 N), trivial⟩ (e78 N)
/-- spec.PlanOk -/
noncomputable def spec_PlanOk {R : Type} (N : Nat) (p : DPlan) (k : Bool → Option R) : Option R :=
  spec_SchemaOk N p.1 fun r =>
    cond r
      (spec_l1In N p.2.1 0 (w64 ((p.1.length : Int) - 1)) fun r1 =>
        cond r1
          (spec_l1In N p.2.2.1 1 8 fun r2 =>
            cond r2
              (spec_l1In N p.2.2.2 0 2000 fun r3 =>
                k r3)
              (k false))
          (k false))
      (k false)
abbrev a47 : List AM := [.a (.pr (.ro 77 YShape) (.pr (.int .i64) (.pr (.int .i64) (.int .i64))))]
noncomputable def u47 {R : Type} (N : Nat) (d : AMs.D a47) (k : List Val → List Val → Option R) : Option R := spec_PlanOk N d.1 (fun r0 => k [.c (.bo r0)] [])
noncomputable def c47 {R : Type} (N : Nat) : Con R := conOf [.rd] a47 (u47 N)
noncomputable def g47 {R : Type} (N : Nat) : List (Nat × Con R) := [(78, c78 N), (50, c50 N)]
noncomputable def L47 {R : Type} (N : Nat) : List (Nat × LCon R) := []
theorem e47 {R : Type} (N : Nat) (d : AMs.D a47) (k : List Val → List Val → Option R) : evF Try.prog (gam (g47 N)) N (L47 N) Try.f47 (encAs a47 d (canAs a47 0)) k = u47 N d k := by kernel_rfl
theorem s47 {R : Type} (N : Nat) : Snd Try.prog 47 (c47 N : Con R) :=
  snd_eq (Γ := g47 N) (allG ⟨s78 N, s50 N, trivial⟩) mixed Try.func47 (c := (Try.f47.body.get rfl)) rfl (by kernel_rfl) (by kernel_rfl) (Λ := L47 N) (qs := []) (by kernel_rfl) trivial (e47 N)
/-- spec.SinkOk -/
noncomputable def spec_SinkOk {R : Type} (N : Nat) (k_ : DSink) (k : Bool → Option R) : Option R :=
  cond (decide ((k_.1.size : Int) ≤ 4000))
    (cond (decide ((k_.2.1.length : Int) ≤ 200))
      (spec_l1In N k_.2.2.1 0 (k_.2.1.length : Int) fun r =>
        cond r
          (spec_l1In N k_.2.2.2 0 1000000 fun r1 =>
            k r1)
          (k false))
      (k false))
    (k false)
abbrev a48 : List AM := [.a (.pr .str (.pr (.ro 3 (.int .i64)) (.pr (.int .i64) (.int .i64))))]
noncomputable def u48 {R : Type} (N : Nat) (d : AMs.D a48) (k : List Val → List Val → Option R) : Option R := spec_SinkOk N d.1 (fun r0 => k [.c (.bo r0)] [])
noncomputable def c48 {R : Type} (N : Nat) : Con R := conOf [.rd] a48 (u48 N)
noncomputable def g48 {R : Type} (N : Nat) : List (Nat × Con R) := [(50, c50 N)]
noncomputable def L48 {R : Type} (N : Nat) : List (Nat × LCon R) := []
theorem e48 {R : Type} (N : Nat) (d : AMs.D a48) (k : List Val → List Val → Option R) : evF Try.prog (gam (g48 N)) N (L48 N) Try.f48 (encAs a48 d (canAs a48 0)) k = u48 N d k := by kernel_rfl
theorem s48 {R : Type} (N : Nat) : Snd Try.prog 48 (c48 N : Con R) :=
  snd_eq (Γ := g48 N) (allG ⟨s50 N, trivial⟩) mixed Try.func48 (c := (Try.f48.body.get rfl)) rfl (by kernel_rfl) (by kernel_rfl) (Λ := L48 N) (qs := []) (by kernel_rfl) trivial (e48 N)
/-- spec.Many, the loop 58 -/
noncomputable def spec_Many_l0 {R : Type} (N : Nat) : Nat → List DEvent → Int → Int → Int → (Int → Option R) → Option R
  | 0, _, _, _, _, _ => none
  | n + 1, list1, kind1, n_, i, x0_ =>
    cond (decide (i < (list1.length : Int)))
      (cond (idxE list1.length i)
        (cond (decide (((list1.getD i.toNat YEvent.z).1) = kind1))
          (spec_Many_l0 N n list1 kind1 (w64 (n_ + 1)) (w64 (i + 1)) x0_)
          (spec_Many_l0 N n list1 kind1 n_ (w64 (i + 1)) x0_))
        none)
      (x0_ n_)
/-- spec.Many -/
noncomputable def spec_Many {R : Type} (N : Nat) (list : List DEvent) (kind : Int) (k : Int → Option R) : Option R :=
  spec_Many_l0 N N list kind 0 0
    (fun n_1 =>
      k n_1)
abbrev a49 : List AM := [.v (.ro 117 YEvent), .v (.int .i64)]
noncomputable def u49 {R : Type} (N : Nat) (d : AMs.D a49) (k : List Val → List Val → Option R) : Option R := spec_Many N d.1 d.2.1 (fun r0 => k [.c (.nu .i64 r0)] [])
noncomputable def c49 {R : Type} (N : Nat) : Con R := conOf [.rd, .rd] a49 (u49 N)
noncomputable def g49 {R : Type} (N : Nat) : List (Nat × Con R) := []
abbrev h49_58 : Sh := ⟨[(0, .c (.ro 0 117 YEvent)), (1, .c (.nu .i64)), (5, .c (.nu .i64)), (6, .c (.nu .i64))], [], 0, []⟩
noncomputable def l49_58 {R : Type} (N : Nat) : LCon R := lconOf [] h49_58 fun n d K => spec_Many_l0 N n d.1.1 d.1.2.1 d.1.2.2.1 d.1.2.2.2.1 (fun y0 => K (.exit 0) ⟨[(5, .c (.nu .i64 y0))], [], 0, []⟩)
noncomputable def L49 {R : Type} (N : Nat) : List (Nat × LCon R) := [(58, l49_58 N)]
theorem q49_58 {R : Type} (N : Nat) : LSpec Try.prog (gam (g49 N)) N (L49 N) 16 (subC (Try.f49.body.get rfl) [true, true, false, true, false, false]) 58 99 [(0, 32)] (l49_58 N : LCon R) :=
  lspec_of (fun d K => rfl) (fun n d K => by kernel_rfl)
theorem e49 {R : Type} (N : Nat) (d : AMs.D a49) (k : List Val → List Val → Option R) : evF Try.prog (gam (g49 N)) N (L49 N) Try.f49 (encAs a49 d (canAs a49 0)) k = u49 N d k := by kernel_rfl
theorem s49 {R : Type} (N : Nat) : Snd Try.prog 49 (c49 N : Con R) :=
  snd_eq (Γ := g49 N) (allG trivial) mixed Try.func49 (c := (Try.f49.body.get rfl)) rfl (by kernel_rfl) (by kernel_rfl) (Λ := L49 N) (qs := [⟨58, subC (Try.f49.body.get rfl) [true, true, false, true, false, false], 99, [(0, 32)]⟩]) (by kernel_rfl) ⟨lsome rfl (q49_58 N), trivial⟩ (e49 N)
/-- spec.EncOk -/
noncomputable def spec_EncOk {R : Type} (N : Nat) (e : DEncoder) (k : Bool → Option R) : Option R :=
  spec_PlanOk N e.1 fun r =>
    cond r
      (spec_SinkOk N e.2.1 fun r1 =>
        cond r1
          (cond (decide ((e.2.2.1.length : Int) ≤ 400))
            (spec_Many N e.2.2.1 8 fun r2 =>
              cond (decide (r2 = 0))
                (spec_l1In N e.2.2.2.1 (e.2.2.1.length : Int) 1000000 fun r3 =>
                  cond r3
                    (spec_l1In N e.2.2.2.2.1 0 8 fun r4 =>
                      cond r4
                        (spec_l1In N e.2.2.2.2.2 0 e.2.2.2.1 fun r5 =>
                          k r5)
                        (k false))
                    (k false))
                (k false))
            (k false))
          (k false))
      (k false)
abbrev a22 : List AM := [.a (.pr (.pr (.ro 77 YShape) (.pr (.int .i64) (.pr (.int .i64) (.int .i64)))) (.pr (.pr .str (.pr (.ro 3 (.int .i64)) (.pr (.int .i64) (.int .i64)))) (.pr (.ro 117 YEvent) (.pr (.int .i64) (.pr (.int .i64) (.int .i64))))))]
noncomputable def u22 {R : Type} (N : Nat) (d : AMs.D a22) (k : List Val → List Val → Option R) : Option R := spec_EncOk N d.1 (fun r0 => k [.c (.bo r0)] [])
noncomputable def c22 {R : Type} (N : Nat) : Con R := conOf [.rd] a22 (u22 N)
noncomputable def g22 {R : Type} (N : Nat) : List (Nat × Con R) := [(47, c47 N), (48, c48 N), (49, c49 N), (50, c50 N)]
noncomputable def L22 {R : Type} (N : Nat) : List (Nat × LCon R) := []
theorem e22 {R : Type} (N : Nat) (d : AMs.D a22) (k : List Val → List Val → Option R) : evF Try.prog (gam (g22 N)) N (L22 N) Try.f22 (encAs a22 d (canAs a22 0)) k = u22 N d k := by kernel_rfl
theorem s22 {R : Type} (N : Nat) : Snd Try.prog 22 (c22 N : Con R) :=
  snd_eq (Γ := g22 N) (allG ⟨s47 N, s48 N, s49 N, s50 N, trivial⟩) mixed Try.func22 (c := (Try.f22.body.get rfl)) rfl (by kernel_rfl) (by kernel_rfl) (Λ := L22 N) (qs := []) (by kernel_rfl) trivial (e22 N)
/-- impl.within -/
noncomputable def impl_within {R : Type} (N : Nat) (n_ : Int) (low : Int) (high : Int) (k : Bool → Option R) : Option R :=
  cond (decide (low ≤ n_))
    (k (decide (n_ ≤ high)))
    (k false)
abbrev a56 : List AM := [.v (.int .i64), .v (.int .i64), .v (.int .i64)]
noncomputable def u56 {R : Type} (N : Nat) (d : AMs.D a56) (k : List Val → List Val → Option R) : Option R := impl_within N d.1 d.2.1 d.2.2.1 (fun r0 => k [.c (.bo r0)] [])
noncomputable def c56 {R : Type} (N : Nat) : Con R := conOf [.rd, .rd, .rd] a56 (u56 N)
noncomputable def g56 {R : Type} (N : Nat) : List (Nat × Con R) := []
noncomputable def L56 {R : Type} (N : Nat) : List (Nat × LCon R) := []
theorem e56 {R : Type} (N : Nat) (d : AMs.D a56) (k : List Val → List Val → Option R) : evF Try.prog (gam (g56 N)) N (L56 N) Try.f56 (encAs a56 d (canAs a56 0)) k = u56 N d k := by kernel_rfl
theorem s56 {R : Type} (N : Nat) : Snd Try.prog 56 (c56 N : Con R) :=
  snd_eq (Γ := g56 N) (allG trivial) mixed Try.func56 (c := (Try.f56.body.get rfl)) rfl (by kernel_rfl) (by kernel_rfl) (Λ := L56 N) (qs := []) (by kernel_rfl) trivial (e56 N)
/-- impl.NumberOk -/
noncomputable def impl_NumberOk {R : Type} (N : Nat) (n_ : Int) (k : Bool → Option R) : Option R :=
  impl_within N n_ 1 536870911 fun r =>
    cond r
      (impl_within N n_ 19000 19999 fun r1 =>
        k (!r1))
      (k false)
abbrev a104 : List AM := [.v (.int .i64)]
noncomputable def u104 {R : Type} (N : Nat) (d : AMs.D a104) (k : List Val → List Val → Option R) : Option R := impl_NumberOk N d.1 (fun r0 => k [.c (.bo r0)] [])
noncomputable def c104 {R : Type} (N : Nat) : Con R := conOf [.rd] a104 (u104 N)
noncomputable def g104 {R : Type} (N : Nat) : List (Nat × Con R) := [(56, c56 N)]
noncomputable def L104 {R : Type} (N : Nat) : List (Nat × LCon R) := []
theorem e104 {R : Type} (N : Nat) (d : AMs.D a104) (k : List Val → List Val → Option R) : evF Try.prog (gam (g104 N)) N (L104 N) Try.f104 (encAs a104 d (canAs a104 0)) k = u104 N d k := by kernel_rfl
theorem s104 {R : Type} (N : Nat) : Snd Try.prog 104 (c104 N : Con R) :=
  snd_eq (Γ := g104 N) (allG ⟨s56 N, trivial⟩) mixed Try.func104 (c := (Try.f104.body.get rfl)) rfl (by kernel_rfl) (by kernel_rfl) (Λ := L104 N) (qs := []) (by kernel_rfl) trivial (e104 N)
/-- impl.isKind -/
noncomputable def impl_isKind {R : Type} (N : Nat) (k_ : Int) (k : Bool → Option R) : Option R :=
  impl_within N k_ 1 8 fun r =>
    k r
abbrev a105 : List AM := [.v (.int .i64)]
noncomputable def u105 {R : Type} (N : Nat) (d : AMs.D a105) (k : List Val → List Val → Option R) : Option R := impl_isKind N d.1 (fun r0 => k [.c (.bo r0)] [])
noncomputable def c105 {R : Type} (N : Nat) : Con R := conOf [.rd] a105 (u105 N)
noncomputable def g105 {R : Type} (N : Nat) : List (Nat × Con R) := [(56, c56 N)]
noncomputable def L105 {R : Type} (N : Nat) : List (Nat × LCon R) := []
theorem e105 {R : Type} (N : Nat) (d : AMs.D a105) (k : List Val → List Val → Option R) : evF Try.prog (gam (g105 N)) N (L105 N) Try.f105 (encAs a105 d (canAs a105 0)) k = u105 N d k := by kernel_rfl
theorem s105 {R : Type} (N : Nat) : Snd Try.prog 105 (c105 N : Con R) :=
  snd_eq (Γ := g105 N) (allG ⟨s56 N, trivial⟩) mixed Try.func105 (c := (Try.f105.body.get rfl)) rfl (by kernel_rfl) (by kernel_rfl) (Λ := L105 N) (qs := []) (by kernel_rfl) trivial (e105 N)
/-- impl.Numeric -/
noncomputable def impl_Numeric {R : Type} (N : Nat) (k_ : Int) (k : Bool → Option R) : Option R :=
  impl_within N k_ 1 5 fun r =>
    k r
abbrev a106 : List AM := [.v (.int .i64)]
noncomputable def u106 {R : Type} (N : Nat) (d : AMs.D a106) (k : List Val → List Val → Option R) : Option R := impl_Numeric N d.1 (fun r0 => k [.c (.bo r0)] [])
noncomputable def c106 {R : Type} (N : Nat) : Con R := conOf [.rd] a106 (u106 N)
noncomputable def g106 {R : Type} (N : Nat) : List (Nat × Con R) := [(56, c56 N)]
noncomputable def L106 {R : Type} (N : Nat) : List (Nat × LCon R) := []
theorem e106 {R : Type} (N : Nat) (d : AMs.D a106) (k : List Val → List Val → Option R) : evF Try.prog (gam (g106 N)) N (L106 N) Try.f106 (encAs a106 d (canAs a106 0)) k = u106 N d k := by kernel_rfl
theorem s106 {R : Type} (N : Nat) : Snd Try.prog 106 (c106 N : Con R) :=
  snd_eq (Γ := g106 N) (allG ⟨s56 N, trivial⟩) mixed Try.func106 (c := (Try.f106.body.get rfl)) rfl (by kernel_rfl) (by kernel_rfl) (Λ := L106 N) (qs := []) (by kernel_rfl) trivial (e106 N)
/-- impl.fieldOk -/
noncomputable def impl_fieldOk {R : Type} (N : Nat) (f : DField) (before : Int) (shapes : Int) (k : Bool → Option R) : Option R :=
  impl_NumberOk N f.1 fun r =>
    cond (!r)
      (k false)
      (cond (decide (f.1 ≤ before))
        (k false)
        (impl_isKind N f.2.1 fun r1 =>
          cond (!r1)
            (k false)
            (cond f.2.2.2.1
              (cond (!f.2.2.1)
                (k false)
                (impl_Numeric N f.2.1 fun r2 =>
                  cond (!r2)
                    (k false)
                    (cond (decide (f.2.1 = 8))
                      (impl_within N f.2.2.2.2 0 (w64 (shapes - 1)) fun r3 =>
                        k r3)
                      (k (decide (f.2.2.2.2 = (-1)))))))
              (cond (decide (f.2.1 = 8))
                (impl_within N f.2.2.2.2 0 (w64 (shapes - 1)) fun r4 =>
                  k r4)
                (k (decide (f.2.2.2.2 = (-1))))))))
abbrev a94 : List AM := [.a (.pr (.int .i64) (.pr (.int .i64) (.pr .bool (.pr .bool (.int .i64))))), .v (.int .i64), .v (.int .i64)]
noncomputable def u94 {R : Type} (N : Nat) (d : AMs.D a94) (k : List Val → List Val → Option R) : Option R := impl_fieldOk N d.1 d.2.1 d.2.2.1 (fun r0 => k [.c (.bo r0)] [])
noncomputable def c94 {R : Type} (N : Nat) : Con R := conOf [.rd, .rd, .rd] a94 (u94 N)
noncomputable def g94 {R : Type} (N : Nat) : List (Nat × Con R) := [(104, c104 N), (105, c105 N), (106, c106 N), (56, c56 N)]
noncomputable def L94 {R : Type} (N : Nat) : List (Nat × LCon R) := []
theorem e94 {R : Type} (N : Nat) (d : AMs.D a94) (k : List Val → List Val → Option R) : evF Try.prog (gam (g94 N)) N (L94 N) Try.f94 (encAs a94 d (canAs a94 0)) k = u94 N d k := by kernel_rfl
theorem s94 {R : Type} (N : Nat) : Snd Try.prog 94 (c94 N : Con R) :=
  snd_eq (Γ := g94 N) (allG ⟨s104 N, s105 N, s106 N, s56 N, trivial⟩) mixed Try.func94 (c := (Try.f94.body.get rfl)) rfl (by kernel_rfl) (by kernel_rfl) (Λ := L94 N) (qs := []) (by kernel_rfl) trivial (e94 N)
/-- impl.SchemaOk, the loop 250682 -/
noncomputable def impl_SchemaOk_l0 {R : Type} (N : Nat) : Nat → Int → List DShape → Int → Int → List DField → Int → Int → List DShape → Int → List DField → (Bool → Option R) → (List DShape → Int → Int → List DShape → Int → List DField → Option R) → Option R
  | 0, _, _, _, _, _, _, _, _, _, _, _, _ => none
  | n + 1, number, v3, v4, v5, v6, v7, v8, b1, b2, b3, x0_, x1_ =>
    cond (decide (v8 < v7))
      (cond (idxE v6.length v8)
        (impl_fieldOk N (v6.getD v8.toNat YField.z) number (b1.length : Int) fun r =>
          cond (!r)
            (x0_ false)
            (impl_SchemaOk_l0 N n ((v6.getD v8.toNat YField.z).1) v3 v4 v5 v6 v7 (w64 (v8 + 1)) b1 b2 b3 x0_ x1_))
        none)
      (x1_ v3 v4 v5 b1 b2 b3)
/-- impl.SchemaOk, the loop 122 -/
noncomputable def impl_SchemaOk_l1 {R : Type} (N : Nat) : Nat → Int → List DShape → Int → Int → List DShape → (Bool → Option R) → Option R → Option R
  | 0, _, _, _, _, _, _, _ => none
  | n + 1, id, v, v1, v2, b, x0_, x1_ =>
    cond (decide (v2 < v1))
      (cond (idxE v.length v2)
        (cond (decide (((v.getD v2.toNat YShape.z).1) ≤ id))
          (x0_ false)
          (cond (decide (99 < ((v.getD v2.toNat YShape.z).1)))
            (x0_ false)
            (cond (decide (8 < (((v.getD v2.toNat YShape.z).2).length : Int)))
              (x0_ false)
              (impl_SchemaOk_l0 N N 0 v v1 v2 ((v.getD v2.toNat YShape.z).2) (((v.getD v2.toNat YShape.z).2).length : Int) 0 b ((v.getD v2.toNat YShape.z).1) ((v.getD v2.toNat YShape.z).2)
                (fun v9 =>
                  x0_ v9)
                (fun v10 v11 v12 b4 b5 b6 =>
                  impl_SchemaOk_l1 N n b5 v10 v11 (w64 (v12 + 1)) b4 x0_ x1_)))))
        none)
      x1_
/-- impl.SchemaOk -/
noncomputable def impl_SchemaOk {R : Type} (N : Nat) (s : List DShape) (k : Bool → Option R) : Option R :=
  cond (decide (6 < (s.length : Int)))
    (k false)
    (impl_SchemaOk_l1 N N 0 s (s.length : Int) 0 s
      (fun v13 =>
        k v13)
      (k true))
abbrev a80 : List AM := [.a (.ro 77 YShape)]
noncomputable def u80 {R : Type} (N : Nat) (d : AMs.D a80) (k : List Val → List Val → Option R) : Option R := impl_SchemaOk N d.1 (fun r0 => k [.c (.bo r0)] [])
noncomputable def c80 {R : Type} (N : Nat) : Con R := conOf [.rd] a80 (u80 N)
noncomputable def g80 {R : Type} (N : Nat) : List (Nat × Con R) := [(94, c94 N)]
abbrev h80_250682 : Sh := ⟨[(1, .c (.ptr 0 0)), (5, .c (.ptr 1 0)), (6, .c (.nu .i64)), (14, .c (.ro 0 77 YShape)), (15, .c (.nu .i64)), (16, .c (.nu .i64)), (36, .c (.ro 0 128 YField)), (37, .c (.nu .i64)), (38, .c (.nu .i64))], [(0, .box 24 [.ro 0 77 YShape]), (1, .box 77 [.nu .i64, .ro 0 128 YField])], 2, []⟩
noncomputable def l80_250682 {R : Type} (N : Nat) : LCon R := lconOf [] h80_250682 fun n d K => impl_SchemaOk_l0 N n d.1.2.2.1 d.1.2.2.2.1 d.1.2.2.2.2.1 d.1.2.2.2.2.2.1 d.1.2.2.2.2.2.2.1 d.1.2.2.2.2.2.2.2.1 d.1.2.2.2.2.2.2.2.2.1 d.2.1.1.1 d.2.1.2.1.1 d.2.1.2.1.2.1 (fun y0 => K .ret ⟨[(2, .c (.bo y0))], [], 0, []⟩) (fun y0 y1 y2 y3 y4 y5 => K (.exit 2) ⟨[(1, .c (.ptr 0 0)), (5, .c (.ptr 1 0)), (14, .c (.ro 0 YShape 77 y0)), (15, .c (.nu .i64 y1)), (16, .c (.nu .i64 y2))], [(0, some (.box 24 [.ro 0 YShape 77 y3])), (1, some (.box 77 [.nu .i64 y4, .ro 0 YField 128 y5]))], 2, []⟩)
abbrev h80_122 : Sh := ⟨[(1, .c (.ptr 0 0)), (3, .c (.nu .i64)), (14, .c (.ro 0 77 YShape)), (15, .c (.nu .i64)), (16, .c (.nu .i64))], [(0, .box 24 [.ro 0 77 YShape])], 1, []⟩
noncomputable def l80_122 {R : Type} (N : Nat) : LCon R := lconOf [] h80_122 fun n d K => impl_SchemaOk_l1 N n d.1.2.1 d.1.2.2.1 d.1.2.2.2.1 d.1.2.2.2.2.1 d.2.1.1.1 (fun y0 => K .ret ⟨[(2, .c (.bo y0))], [], 0, []⟩) (K (.exit 0) ⟨[], [], 0, []⟩)
noncomputable def L80 {R : Type} (N : Nat) : List (Nat × LCon R) := [(250682, l80_250682 N), (122, l80_122 N)]
theorem q80_250682 {R : Type} (N : Nat) : LSpec Try.prog (gam (g80 N)) N (L80 N) 4 (subC (Try.f80.body.get rfl) [true, true, true, false, true, false, false, true, true, false, false, true, true, true, false, true, false, false]) 250682 481036451938 [(2, 114722), (1, 114698), (0, 0)] (l80_250682 N : LCon R) :=
  lspec_of (fun d K => rfl) (fun n d K => by kernel_rfl)
theorem q80_122 {R : Type} (N : Nat) : LSpec Try.prog (gam (g80 N)) N (L80 N) 4 (subC (Try.f80.body.get rfl) [true, true, true, false, true, false, false]) 122 114698 [(0, 0)] (l80_122 N : LCon R) :=
  lspec_of (fun d K => rfl) (fun n d K => by kernel_rfl)
theorem e80 {R : Type} (N : Nat) (d : AMs.D a80) (k : List Val → List Val → Option R) : evF Try.prog (gam (g80 N)) N (L80 N) Try.f80 (encAs a80 d (canAs a80 0)) k = u80 N d k := by kernel_rfl
theorem s80 {R : Type} (N : Nat) : Snd Try.prog 80 (c80 N : Con R) :=
  snd_eq (Γ := g80 N) (allG ⟨s94 N, trivial⟩) mixed Try.func80 (c := (Try.f80.body.get rfl)) rfl (by kernel_rfl) (by kernel_rfl) (Λ := L80 N) (qs := [⟨250682, subC (Try.f80.body.get rfl) [true, true, true, false, true, false, false, true, true, false, false, true, true, true, false, true, false, false], 481036451938, [(2, 114722), (1, 114698), (0, 0)]⟩, ⟨122, subC (Try.f80.body.get rfl) [true, true, true, false, true, false, false], 114698, [(0, 0)]⟩]) (by kernel_rfl) ⟨lsome rfl (q80_250682 N), lsome rfl (q80_122 N), trivial⟩ (e80 N)
/-- impl.PlanOk -/
noncomputable def impl_PlanOk {R : Type} (N : Nat) (p : DPlan) (k : Bool → Option R) : Option R :=
  impl_SchemaOk N p.1 fun r =>
    cond r
      (impl_within N p.2.1 0 (w64 ((p.1.length : Int) - 1)) fun r1 =>
        cond r1
          (impl_within N p.2.2.1 1 8 fun r2 =>
            cond r2
              (impl_within N p.2.2.2 0 2000 fun r3 =>
                k r3)
              (k false))
          (k false))
      (k false)
abbrev a53 : List AM := [.a (.pr (.ro 77 YShape) (.pr (.int .i64) (.pr (.int .i64) (.int .i64))))]
noncomputable def u53 {R : Type} (N : Nat) (d : AMs.D a53) (k : List Val → List Val → Option R) : Option R := impl_PlanOk N d.1 (fun r0 => k [.c (.bo r0)] [])
noncomputable def c53 {R : Type} (N : Nat) : Con R := conOf [.rd] a53 (u53 N)
noncomputable def g53 {R : Type} (N : Nat) : List (Nat × Con R) := [(80, c80 N), (56, c56 N)]
noncomputable def L53 {R : Type} (N : Nat) : List (Nat × LCon R) := []
theorem e53 {R : Type} (N : Nat) (d : AMs.D a53) (k : List Val → List Val → Option R) : evF Try.prog (gam (g53 N)) N (L53 N) Try.f53 (encAs a53 d (canAs a53 0)) k = u53 N d k := by kernel_rfl
theorem s53 {R : Type} (N : Nat) : Snd Try.prog 53 (c53 N : Con R) :=
  snd_eq (Γ := g53 N) (allG ⟨s80 N, s56 N, trivial⟩) mixed Try.func53 (c := (Try.f53.body.get rfl)) rfl (by kernel_rfl) (by kernel_rfl) (Λ := L53 N) (qs := []) (by kernel_rfl) trivial (e53 N)
/-- impl.SinkOk -/
noncomputable def impl_SinkOk {R : Type} (N : Nat) (k_ : DSink) (k : Bool → Option R) : Option R :=
  cond (decide ((k_.1.size : Int) ≤ 4000))
    (cond (decide ((k_.2.1.length : Int) ≤ 200))
      (impl_within N k_.2.2.1 0 (k_.2.1.length : Int) fun r =>
        cond r
          (impl_within N k_.2.2.2 0 1000000 fun r1 =>
            k r1)
          (k false))
      (k false))
    (k false)
abbrev a54 : List AM := [.a (.pr .str (.pr (.ro 3 (.int .i64)) (.pr (.int .i64) (.int .i64))))]
noncomputable def u54 {R : Type} (N : Nat) (d : AMs.D a54) (k : List Val → List Val → Option R) : Option R := impl_SinkOk N d.1 (fun r0 => k [.c (.bo r0)] [])
noncomputable def c54 {R : Type} (N : Nat) : Con R := conOf [.rd] a54 (u54 N)
noncomputable def g54 {R : Type} (N : Nat) : List (Nat × Con R) := [(56, c56 N)]
noncomputable def L54 {R : Type} (N : Nat) : List (Nat × LCon R) := []
theorem e54 {R : Type} (N : Nat) (d : AMs.D a54) (k : List Val → List Val → Option R) : evF Try.prog (gam (g54 N)) N (L54 N) Try.f54 (encAs a54 d (canAs a54 0)) k = u54 N d k := by kernel_rfl
theorem s54 {R : Type} (N : Nat) : Snd Try.prog 54 (c54 N : Con R) :=
  snd_eq (Γ := g54 N) (allG ⟨s56 N, trivial⟩) mixed Try.func54 (c := (Try.f54.body.get rfl)) rfl (by kernel_rfl) (by kernel_rfl) (Λ := L54 N) (qs := []) (by kernel_rfl) trivial (e54 N)
/-- impl.FrameStop, the loop 58 -/
noncomputable def impl_FrameStop_l0 {R : Type} (N : Nat) : Nat → List DEvent → Int → (Int → Option R) → Option R → Option R
  | 0, _, _, _, _ => none
  | n + 1, list1, i, x0_, x1_ =>
    cond (decide (i < (list1.length : Int)))
      (cond (idxE list1.length i)
        (cond (decide (((list1.getD i.toNat YEvent.z).1) = 8))
          (x0_ i)
          (impl_FrameStop_l0 N n list1 (w64 (i + 1)) x0_ x1_))
        none)
      x1_
/-- impl.FrameStop -/
noncomputable def impl_FrameStop {R : Type} (N : Nat) (list : List DEvent) (at_ : Int) (k : Int → Option R) : Option R :=
  cond (decide (at_ < 0))
    (k (-1))
    (impl_FrameStop_l0 N N list at_
      (fun v =>
        k v)
      (k (-1)))
abbrev a55 : List AM := [.v (.ro 117 YEvent), .v (.int .i64)]
noncomputable def u55 {R : Type} (N : Nat) (d : AMs.D a55) (k : List Val → List Val → Option R) : Option R := impl_FrameStop N d.1 d.2.1 (fun r0 => k [.c (.nu .i64 r0)] [])
noncomputable def c55 {R : Type} (N : Nat) : Con R := conOf [.rd, .rd] a55 (u55 N)
noncomputable def g55 {R : Type} (N : Nat) : List (Nat × Con R) := []
abbrev h55_58 : Sh := ⟨[(0, .c (.ro 0 117 YEvent)), (5, .c (.nu .i64))], [], 0, []⟩
noncomputable def l55_58 {R : Type} (N : Nat) : LCon R := lconOf [] h55_58 fun n d K => impl_FrameStop_l0 N n d.1.1 d.1.2.1 (fun y0 => K .ret ⟨[(4, .c (.nu .i64 y0))], [], 0, []⟩) (K (.exit 0) ⟨[], [], 0, []⟩)
noncomputable def L55 {R : Type} (N : Nat) : List (Nat × LCon R) := [(58, l55_58 N)]
theorem q55_58 {R : Type} (N : Nat) : LSpec Try.prog (gam (g55 N)) N (L55 N) 16 (subC (Try.f55.body.get rfl) [true, true, false, true, false, false]) 58 33 [(0, 0)] (l55_58 N : LCon R) :=
  lspec_of (fun d K => rfl) (fun n d K => by kernel_rfl)
theorem e55 {R : Type} (N : Nat) (d : AMs.D a55) (k : List Val → List Val → Option R) : evF Try.prog (gam (g55 N)) N (L55 N) Try.f55 (encAs a55 d (canAs a55 0)) k = u55 N d k := by kernel_rfl
theorem s55 {R : Type} (N : Nat) : Snd Try.prog 55 (c55 N : Con R) :=
  snd_eq (Γ := g55 N) (allG trivial) mixed Try.func55 (c := (Try.f55.body.get rfl)) rfl (by kernel_rfl) (by kernel_rfl) (Λ := L55 N) (qs := [⟨58, subC (Try.f55.body.get rfl) [true, true, false, true, false, false], 33, [(0, 0)]⟩]) (by kernel_rfl) ⟨lsome rfl (q55_58 N), trivial⟩ (e55 N)
/-- impl.EncOk -/
noncomputable def impl_EncOk {R : Type} (N : Nat) (e : DEncoder) (k : Bool → Option R) : Option R :=
  impl_PlanOk N e.1 fun r =>
    cond r
      (impl_SinkOk N e.2.1 fun r1 =>
        cond r1
          (cond (decide ((e.2.2.1.length : Int) ≤ 400))
            (impl_FrameStop N e.2.2.1 0 fun r2 =>
              cond (decide (r2 < 0))
                (impl_within N e.2.2.2.1 (e.2.2.1.length : Int) 1000000 fun r3 =>
                  cond r3
                    (impl_within N e.2.2.2.2.1 0 8 fun r4 =>
                      cond r4
                        (impl_within N e.2.2.2.2.2 0 e.2.2.2.1 fun r5 =>
                          k r5)
                        (k false))
                    (k false))
                (k false))
            (k false))
          (k false))
      (k false)
abbrev a24 : List AM := [.a (.pr (.pr (.ro 77 YShape) (.pr (.int .i64) (.pr (.int .i64) (.int .i64)))) (.pr (.pr .str (.pr (.ro 3 (.int .i64)) (.pr (.int .i64) (.int .i64)))) (.pr (.ro 117 YEvent) (.pr (.int .i64) (.pr (.int .i64) (.int .i64))))))]
noncomputable def u24 {R : Type} (N : Nat) (d : AMs.D a24) (k : List Val → List Val → Option R) : Option R := impl_EncOk N d.1 (fun r0 => k [.c (.bo r0)] [])
noncomputable def c24 {R : Type} (N : Nat) : Con R := conOf [.rd] a24 (u24 N)
noncomputable def g24 {R : Type} (N : Nat) : List (Nat × Con R) := [(53, c53 N), (54, c54 N), (55, c55 N), (56, c56 N)]
noncomputable def L24 {R : Type} (N : Nat) : List (Nat × LCon R) := []
theorem e24 {R : Type} (N : Nat) (d : AMs.D a24) (k : List Val → List Val → Option R) : evF Try.prog (gam (g24 N)) N (L24 N) Try.f24 (encAs a24 d (canAs a24 0)) k = u24 N d k := by kernel_rfl
theorem s24 {R : Type} (N : Nat) : Snd Try.prog 24 (c24 N : Con R) :=
  snd_eq (Γ := g24 N) (allG ⟨s53 N, s54 N, s55 N, s56 N, trivial⟩) mixed Try.func24 (c := (Try.f24.body.get rfl)) rfl (by kernel_rfl) (by kernel_rfl) (Λ := L24 N) (qs := []) (by kernel_rfl) trivial (e24 N)
/-- laws.eqField -/
noncomputable def laws_eqField {R : Type} (N : Nat) (a : DField) (b : DField) (k : Bool → Option R) : Option R :=
  cond (!(decide (a.1 = b.1)))
    (k false)
    (cond (!(decide (a.2.1 = b.2.1)))
      (k false)
      (cond (!(a.2.2.1 == b.2.2.1))
        (k false)
        (cond (!(a.2.2.2.1 == b.2.2.2.1))
          (k false)
          (cond (!(decide (a.2.2.2.2 = b.2.2.2.2)))
            (k false)
            (k true)))))
abbrev a111 : List AM := [.a (.pr (.int .i64) (.pr (.int .i64) (.pr .bool (.pr .bool (.int .i64))))), .a (.pr (.int .i64) (.pr (.int .i64) (.pr .bool (.pr .bool (.int .i64)))))]
noncomputable def u111 {R : Type} (N : Nat) (d : AMs.D a111) (k : List Val → List Val → Option R) : Option R := laws_eqField N d.1 d.2.1 (fun r0 => k [.c (.bo r0)] [])
noncomputable def c111 {R : Type} (N : Nat) : Con R := conOf [.rd, .rd] a111 (u111 N)
noncomputable def g111 {R : Type} (N : Nat) : List (Nat × Con R) := []
noncomputable def L111 {R : Type} (N : Nat) : List (Nat × LCon R) := []
theorem e111 {R : Type} (N : Nat) (d : AMs.D a111) (k : List Val → List Val → Option R) : evF Try.prog (gam (g111 N)) N (L111 N) Try.f111 (encAs a111 d (canAs a111 0)) k = u111 N d k := by kernel_rfl
theorem s111 {R : Type} (N : Nat) : Snd Try.prog 111 (c111 N : Con R) :=
  snd_eq (Γ := g111 N) (allG trivial) mixed Try.func111 (c := (Try.f111.body.get rfl)) rfl (by kernel_rfl) (by kernel_rfl) (Λ := L111 N) (qs := []) (by kernel_rfl) trivial (e111 N)
/-- laws.eqFieldS, the loop 58 -/
noncomputable def laws_eqFieldS_l0 {R : Type} (N : Nat) : Nat → List DField → List DField → Int → (Bool → Option R) → Option R → Option R
  | 0, _, _, _, _, _ => none
  | n + 1, a1, b1, i, x0_, x1_ =>
    cond (decide (i < (a1.length : Int)))
      (cond (idxE a1.length i)
        (cond (idxE b1.length i)
          (laws_eqField N (a1.getD i.toNat YField.z) (b1.getD i.toNat YField.z) fun r =>
            cond (!r)
              (x0_ false)
              (laws_eqFieldS_l0 N n a1 b1 (w64 (i + 1)) x0_ x1_))
          none)
        none)
      x1_
/-- laws.eqFieldS -/
noncomputable def laws_eqFieldS {R : Type} (N : Nat) (a : List DField) (b : List DField) (k : Bool → Option R) : Option R :=
  cond (!(decide ((a.length : Int) = (b.length : Int))))
    (k false)
    (laws_eqFieldS_l0 N N a b 0
      (fun v =>
        k v)
      (k true))
abbrev a109 : List AM := [.v (.ro 128 YField), .v (.ro 128 YField)]
noncomputable def u109 {R : Type} (N : Nat) (d : AMs.D a109) (k : List Val → List Val → Option R) : Option R := laws_eqFieldS N d.1 d.2.1 (fun r0 => k [.c (.bo r0)] [])
noncomputable def c109 {R : Type} (N : Nat) : Con R := conOf [.rd, .rd] a109 (u109 N)
noncomputable def g109 {R : Type} (N : Nat) : List (Nat × Con R) := [(111, c111 N)]
abbrev h109_58 : Sh := ⟨[(0, .c (.ro 0 128 YField)), (1, .c (.ro 1 128 YField)), (5, .c (.nu .i64))], [], 0, []⟩
noncomputable def l109_58 {R : Type} (N : Nat) : LCon R := lconOf [] h109_58 fun n d K => laws_eqFieldS_l0 N n d.1.1 d.1.2.1 d.1.2.2.1 (fun y0 => K .ret ⟨[(4, .c (.bo y0))], [], 0, []⟩) (K (.exit 0) ⟨[], [], 0, []⟩)
noncomputable def L109 {R : Type} (N : Nat) : List (Nat × LCon R) := [(58, l109_58 N)]
theorem q109_58 {R : Type} (N : Nat) : LSpec Try.prog (gam (g109 N)) N (L109 N) 16 (subC (Try.f109.body.get rfl) [true, true, false, true, false, false]) 58 35 [(0, 0)] (l109_58 N : LCon R) :=
  lspec_of (fun d K => rfl) (fun n d K => by kernel_rfl)
theorem e109 {R : Type} (N : Nat) (d : AMs.D a109) (k : List Val → List Val → Option R) : evF Try.prog (gam (g109 N)) N (L109 N) Try.f109 (encAs a109 d (canAs a109 0)) k = u109 N d k := by kernel_rfl
theorem s109 {R : Type} (N : Nat) : Snd Try.prog 109 (c109 N : Con R) :=
  snd_eq (Γ := g109 N) (allG ⟨s111 N, trivial⟩) mixed Try.func109 (c := (Try.f109.body.get rfl)) rfl (by kernel_rfl) (by kernel_rfl) (Λ := L109 N) (qs := [⟨58, subC (Try.f109.body.get rfl) [true, true, false, true, false, false], 35, [(0, 0)]⟩]) (by kernel_rfl) ⟨lsome rfl (q109_58 N), trivial⟩ (e109 N)
/-- laws.eqShape -/
noncomputable def laws_eqShape {R : Type} (N : Nat) (a : DShape) (b : DShape) (k : Bool → Option R) : Option R :=
  cond (!(decide (a.1 = b.1)))
    (k false)
    (laws_eqFieldS N a.2 b.2 fun r =>
      cond (!r)
        (k false)
        (k true))
abbrev a98 : List AM := [.a (.pr (.int .i64) (.ro 128 YField)), .a (.pr (.int .i64) (.ro 128 YField))]
noncomputable def u98 {R : Type} (N : Nat) (d : AMs.D a98) (k : List Val → List Val → Option R) : Option R := laws_eqShape N d.1 d.2.1 (fun r0 => k [.c (.bo r0)] [])
noncomputable def c98 {R : Type} (N : Nat) : Con R := conOf [.rd, .rd] a98 (u98 N)
noncomputable def g98 {R : Type} (N : Nat) : List (Nat × Con R) := [(109, c109 N)]
noncomputable def L98 {R : Type} (N : Nat) : List (Nat × LCon R) := []
theorem e98 {R : Type} (N : Nat) (d : AMs.D a98) (k : List Val → List Val → Option R) : evF Try.prog (gam (g98 N)) N (L98 N) Try.f98 (encAs a98 d (canAs a98 0)) k = u98 N d k := by kernel_rfl
theorem s98 {R : Type} (N : Nat) : Snd Try.prog 98 (c98 N : Con R) :=
  snd_eq (Γ := g98 N) (allG ⟨s109 N, trivial⟩) mixed Try.func98 (c := (Try.f98.body.get rfl)) rfl (by kernel_rfl) (by kernel_rfl) (Λ := L98 N) (qs := []) (by kernel_rfl) trivial (e98 N)
/-- laws.eqShapeS, the loop 58 -/
noncomputable def laws_eqShapeS_l0 {R : Type} (N : Nat) : Nat → List DShape → List DShape → Int → (Bool → Option R) → Option R → Option R
  | 0, _, _, _, _, _ => none
  | n + 1, a1, b1, i, x0_, x1_ =>
    cond (decide (i < (a1.length : Int)))
      (cond (idxE a1.length i)
        (cond (idxE b1.length i)
          (laws_eqShape N (a1.getD i.toNat YShape.z) (b1.getD i.toNat YShape.z) fun r =>
            cond (!r)
              (x0_ false)
              (laws_eqShapeS_l0 N n a1 b1 (w64 (i + 1)) x0_ x1_))
          none)
        none)
      x1_
/-- laws.eqShapeS -/
noncomputable def laws_eqShapeS {R : Type} (N : Nat) (a : List DShape) (b : List DShape) (k : Bool → Option R) : Option R :=
  cond (!(decide ((a.length : Int) = (b.length : Int))))
    (k false)
    (laws_eqShapeS_l0 N N a b 0
      (fun v =>
        k v)
      (k true))
abbrev a85 : List AM := [.v (.ro 77 YShape), .v (.ro 77 YShape)]
noncomputable def u85 {R : Type} (N : Nat) (d : AMs.D a85) (k : List Val → List Val → Option R) : Option R := laws_eqShapeS N d.1 d.2.1 (fun r0 => k [.c (.bo r0)] [])
noncomputable def c85 {R : Type} (N : Nat) : Con R := conOf [.rd, .rd] a85 (u85 N)
noncomputable def g85 {R : Type} (N : Nat) : List (Nat × Con R) := [(98, c98 N)]
abbrev h85_58 : Sh := ⟨[(0, .c (.ro 0 77 YShape)), (1, .c (.ro 1 77 YShape)), (5, .c (.nu .i64))], [], 0, []⟩
noncomputable def l85_58 {R : Type} (N : Nat) : LCon R := lconOf [] h85_58 fun n d K => laws_eqShapeS_l0 N n d.1.1 d.1.2.1 d.1.2.2.1 (fun y0 => K .ret ⟨[(4, .c (.bo y0))], [], 0, []⟩) (K (.exit 0) ⟨[], [], 0, []⟩)
noncomputable def L85 {R : Type} (N : Nat) : List (Nat × LCon R) := [(58, l85_58 N)]
theorem q85_58 {R : Type} (N : Nat) : LSpec Try.prog (gam (g85 N)) N (L85 N) 16 (subC (Try.f85.body.get rfl) [true, true, false, true, false, false]) 58 35 [(0, 0)] (l85_58 N : LCon R) :=
  lspec_of (fun d K => rfl) (fun n d K => by kernel_rfl)
theorem e85 {R : Type} (N : Nat) (d : AMs.D a85) (k : List Val → List Val → Option R) : evF Try.prog (gam (g85 N)) N (L85 N) Try.f85 (encAs a85 d (canAs a85 0)) k = u85 N d k := by kernel_rfl
theorem s85 {R : Type} (N : Nat) : Snd Try.prog 85 (c85 N : Con R) :=
  snd_eq (Γ := g85 N) (allG ⟨s98 N, trivial⟩) mixed Try.func85 (c := (Try.f85.body.get rfl)) rfl (by kernel_rfl) (by kernel_rfl) (Λ := L85 N) (qs := [⟨58, subC (Try.f85.body.get rfl) [true, true, false, true, false, false], 35, [(0, 0)]⟩]) (by kernel_rfl) ⟨lsome rfl (q85_58 N), trivial⟩ (e85 N)
/-- laws.eqSchema -/
noncomputable def laws_eqSchema {R : Type} (N : Nat) (a : List DShape) (b : List DShape) (k : Bool → Option R) : Option R :=
  laws_eqShapeS N a b fun r =>
    cond (!r)
      (k false)
      (k true)
abbrev a64 : List AM := [.a (.ro 77 YShape), .a (.ro 77 YShape)]
noncomputable def u64 {R : Type} (N : Nat) (d : AMs.D a64) (k : List Val → List Val → Option R) : Option R := laws_eqSchema N d.1 d.2.1 (fun r0 => k [.c (.bo r0)] [])
noncomputable def c64 {R : Type} (N : Nat) : Con R := conOf [.rd, .rd] a64 (u64 N)
noncomputable def g64 {R : Type} (N : Nat) : List (Nat × Con R) := [(85, c85 N)]
noncomputable def L64 {R : Type} (N : Nat) : List (Nat × LCon R) := []
theorem e64 {R : Type} (N : Nat) (d : AMs.D a64) (k : List Val → List Val → Option R) : evF Try.prog (gam (g64 N)) N (L64 N) Try.f64 (encAs a64 d (canAs a64 0)) k = u64 N d k := by kernel_rfl
theorem s64 {R : Type} (N : Nat) : Snd Try.prog 64 (c64 N : Con R) :=
  snd_eq (Γ := g64 N) (allG ⟨s85 N, trivial⟩) mixed Try.func64 (c := (Try.f64.body.get rfl)) rfl (by kernel_rfl) (by kernel_rfl) (Λ := L64 N) (qs := []) (by kernel_rfl) trivial (e64 N)
/-- laws.eqPlan -/
noncomputable def laws_eqPlan {R : Type} (N : Nat) (a : DPlan) (b : DPlan) (k : Bool → Option R) : Option R :=
  laws_eqSchema N a.1 b.1 fun r =>
    cond (!r)
      (k false)
      (cond (!(decide (a.2.1 = b.2.1)))
        (k false)
        (cond (!(decide (a.2.2.1 = b.2.2.1)))
          (k false)
          (cond (!(decide (a.2.2.2 = b.2.2.2)))
            (k false)
            (k true))))
abbrev a31 : List AM := [.a (.pr (.ro 77 YShape) (.pr (.int .i64) (.pr (.int .i64) (.int .i64)))), .a (.pr (.ro 77 YShape) (.pr (.int .i64) (.pr (.int .i64) (.int .i64))))]
noncomputable def u31 {R : Type} (N : Nat) (d : AMs.D a31) (k : List Val → List Val → Option R) : Option R := laws_eqPlan N d.1 d.2.1 (fun r0 => k [.c (.bo r0)] [])
noncomputable def c31 {R : Type} (N : Nat) : Con R := conOf [.rd, .rd] a31 (u31 N)
noncomputable def g31 {R : Type} (N : Nat) : List (Nat × Con R) := [(64, c64 N)]
noncomputable def L31 {R : Type} (N : Nat) : List (Nat × LCon R) := []
theorem e31 {R : Type} (N : Nat) (d : AMs.D a31) (k : List Val → List Val → Option R) : evF Try.prog (gam (g31 N)) N (L31 N) Try.f31 (encAs a31 d (canAs a31 0)) k = u31 N d k := by kernel_rfl
theorem s31 {R : Type} (N : Nat) : Snd Try.prog 31 (c31 N : Con R) :=
  snd_eq (Γ := g31 N) (allG ⟨s64 N, trivial⟩) mixed Try.func31 (c := (Try.f31.body.get rfl)) rfl (by kernel_rfl) (by kernel_rfl) (Λ := L31 N) (qs := []) (by kernel_rfl) trivial (e31 N)
/-- laws.eqIntS, the loop 58 -/
noncomputable def laws_eqIntS_l0 {R : Type} (N : Nat) : Nat → List Int → List Int → Int → (Bool → Option R) → Option R → Option R
  | 0, _, _, _, _, _ => none
  | n + 1, a1, b1, i, x0_, x1_ =>
    cond (decide (i < (a1.length : Int)))
      (cond (idxE a1.length i)
        (cond (idxE b1.length i)
          (cond (!(decide ((a1.getD i.toNat 0) = (b1.getD i.toNat 0))))
            (x0_ false)
            (laws_eqIntS_l0 N n a1 b1 (w64 (i + 1)) x0_ x1_))
          none)
        none)
      x1_
/-- laws.eqIntS -/
noncomputable def laws_eqIntS {R : Type} (N : Nat) (a : List Int) (b : List Int) (k : Bool → Option R) : Option R :=
  cond (!(decide ((a.length : Int) = (b.length : Int))))
    (k false)
    (laws_eqIntS_l0 N N a b 0
      (fun v =>
        k v)
      (k true))
abbrev a32 : List AM := [.v (.ro 3 (.int .i64)), .v (.ro 3 (.int .i64))]
noncomputable def u32 {R : Type} (N : Nat) (d : AMs.D a32) (k : List Val → List Val → Option R) : Option R := laws_eqIntS N d.1 d.2.1 (fun r0 => k [.c (.bo r0)] [])
noncomputable def c32 {R : Type} (N : Nat) : Con R := conOf [.rd, .rd] a32 (u32 N)
noncomputable def g32 {R : Type} (N : Nat) : List (Nat × Con R) := []
abbrev h32_58 : Sh := ⟨[(0, .c (.ro 0 3 (.int .i64))), (1, .c (.ro 1 3 (.int .i64))), (5, .c (.nu .i64))], [], 0, []⟩
noncomputable def l32_58 {R : Type} (N : Nat) : LCon R := lconOf [] h32_58 fun n d K => laws_eqIntS_l0 N n d.1.1 d.1.2.1 d.1.2.2.1 (fun y0 => K .ret ⟨[(4, .c (.bo y0))], [], 0, []⟩) (K (.exit 0) ⟨[], [], 0, []⟩)
noncomputable def L32 {R : Type} (N : Nat) : List (Nat × LCon R) := [(58, l32_58 N)]
theorem q32_58 {R : Type} (N : Nat) : LSpec Try.prog (gam (g32 N)) N (L32 N) 16 (subC (Try.f32.body.get rfl) [true, true, false, true, false, false]) 58 35 [(0, 0)] (l32_58 N : LCon R) :=
  lspec_of (fun d K => rfl) (fun n d K => by kernel_rfl)
theorem e32 {R : Type} (N : Nat) (d : AMs.D a32) (k : List Val → List Val → Option R) : evF Try.prog (gam (g32 N)) N (L32 N) Try.f32 (encAs a32 d (canAs a32 0)) k = u32 N d k := by kernel_rfl
theorem s32 {R : Type} (N : Nat) : Snd Try.prog 32 (c32 N : Con R) :=
  snd_eq (Γ := g32 N) (allG trivial) mixed Try.func32 (c := (Try.f32.body.get rfl)) rfl (by kernel_rfl) (by kernel_rfl) (Λ := L32 N) (qs := [⟨58, subC (Try.f32.body.get rfl) [true, true, false, true, false, false], 35, [(0, 0)]⟩]) (by kernel_rfl) ⟨lsome rfl (q32_58 N), trivial⟩ (e32 N)
/-- laws.eqSink -/
noncomputable def laws_eqSink {R : Type} (N : Nat) (a : DSink) (b : DSink) (k : Bool → Option R) : Option R :=
  cond (!decide (a.1 = b.1))
    (k false)
    (laws_eqIntS N a.2.1 b.2.1 fun r =>
      cond (!r)
        (k false)
        (cond (!(decide (a.2.2.1 = b.2.2.1)))
          (k false)
          (cond (!(decide (a.2.2.2 = b.2.2.2)))
            (k false)
            (k true))))
abbrev a57 : List AM := [.a (.pr .str (.pr (.ro 3 (.int .i64)) (.pr (.int .i64) (.int .i64)))), .a (.pr .str (.pr (.ro 3 (.int .i64)) (.pr (.int .i64) (.int .i64))))]
noncomputable def u57 {R : Type} (N : Nat) (d : AMs.D a57) (k : List Val → List Val → Option R) : Option R := laws_eqSink N d.1 d.2.1 (fun r0 => k [.c (.bo r0)] [])
noncomputable def c57 {R : Type} (N : Nat) : Con R := conOf [.rd, .rd] a57 (u57 N)
noncomputable def g57 {R : Type} (N : Nat) : List (Nat × Con R) := [(32, c32 N)]
noncomputable def L57 {R : Type} (N : Nat) : List (Nat × LCon R) := []
theorem e57 {R : Type} (N : Nat) (d : AMs.D a57) (k : List Val → List Val → Option R) : evF Try.prog (gam (g57 N)) N (L57 N) Try.f57 (encAs a57 d (canAs a57 0)) k = u57 N d k := by kernel_rfl
theorem s57 {R : Type} (N : Nat) : Snd Try.prog 57 (c57 N : Con R) :=
  snd_eq (Γ := g57 N) (allG ⟨s32 N, trivial⟩) mixed Try.func57 (c := (Try.f57.body.get rfl)) rfl (by kernel_rfl) (by kernel_rfl) (Λ := L57 N) (qs := []) (by kernel_rfl) trivial (e57 N)
/-- laws.eqEvent -/
noncomputable def laws_eqEvent {R : Type} (N : Nat) (a : DEvent) (b : DEvent) (k : Bool → Option R) : Option R :=
  cond (!(decide (a.1 = b.1)))
    (k false)
    (cond (!(decide (a.2.1 = b.2.1)))
      (k false)
      (cond (!(decide (a.2.2.1 = b.2.2.1)))
        (k false)
        (cond (!(decide (a.2.2.2.1 = b.2.2.2.1)))
          (k false)
          (cond (!decide (a.2.2.2.2.1 = b.2.2.2.2.1))
            (k false)
            (cond (!(decide (a.2.2.2.2.2.1 = b.2.2.2.2.2.1)))
              (k false)
              (cond (!(decide (a.2.2.2.2.2.2 = b.2.2.2.2.2.2)))
                (k false)
                (k true)))))))
abbrev a81 : List AM := [.a (.pr (.int .i64) (.pr (.int .i64) (.pr (.int .u64) (.pr (.int .i64) (.pr .str (.pr (.int .i64) (.int .i64))))))), .a (.pr (.int .i64) (.pr (.int .i64) (.pr (.int .u64) (.pr (.int .i64) (.pr .str (.pr (.int .i64) (.int .i64)))))))]
noncomputable def u81 {R : Type} (N : Nat) (d : AMs.D a81) (k : List Val → List Val → Option R) : Option R := laws_eqEvent N d.1 d.2.1 (fun r0 => k [.c (.bo r0)] [])
noncomputable def c81 {R : Type} (N : Nat) : Con R := conOf [.rd, .rd] a81 (u81 N)
noncomputable def g81 {R : Type} (N : Nat) : List (Nat × Con R) := []
noncomputable def L81 {R : Type} (N : Nat) : List (Nat × LCon R) := []
theorem e81 {R : Type} (N : Nat) (d : AMs.D a81) (k : List Val → List Val → Option R) : evF Try.prog (gam (g81 N)) N (L81 N) Try.f81 (encAs a81 d (canAs a81 0)) k = u81 N d k := by kernel_rfl
theorem s81 {R : Type} (N : Nat) : Snd Try.prog 81 (c81 N : Con R) :=
  snd_eq (Γ := g81 N) (allG trivial) mixed Try.func81 (c := (Try.f81.body.get rfl)) rfl (by kernel_rfl) (by kernel_rfl) (Λ := L81 N) (qs := []) (by kernel_rfl) trivial (e81 N)
/-- laws.eqEventS, the loop 58 -/
noncomputable def laws_eqEventS_l0 {R : Type} (N : Nat) : Nat → List DEvent → List DEvent → Int → (Bool → Option R) → Option R → Option R
  | 0, _, _, _, _, _ => none
  | n + 1, a1, b1, i, x0_, x1_ =>
    cond (decide (i < (a1.length : Int)))
      (cond (idxE a1.length i)
        (cond (idxE b1.length i)
          (laws_eqEvent N (a1.getD i.toNat YEvent.z) (b1.getD i.toNat YEvent.z) fun r =>
            cond (!r)
              (x0_ false)
              (laws_eqEventS_l0 N n a1 b1 (w64 (i + 1)) x0_ x1_))
          none)
        none)
      x1_
/-- laws.eqEventS -/
noncomputable def laws_eqEventS {R : Type} (N : Nat) (a : List DEvent) (b : List DEvent) (k : Bool → Option R) : Option R :=
  cond (!(decide ((a.length : Int) = (b.length : Int))))
    (k false)
    (laws_eqEventS_l0 N N a b 0
      (fun v =>
        k v)
      (k true))
abbrev a58 : List AM := [.v (.ro 117 YEvent), .v (.ro 117 YEvent)]
noncomputable def u58 {R : Type} (N : Nat) (d : AMs.D a58) (k : List Val → List Val → Option R) : Option R := laws_eqEventS N d.1 d.2.1 (fun r0 => k [.c (.bo r0)] [])
noncomputable def c58 {R : Type} (N : Nat) : Con R := conOf [.rd, .rd] a58 (u58 N)
noncomputable def g58 {R : Type} (N : Nat) : List (Nat × Con R) := [(81, c81 N)]
abbrev h58_58 : Sh := ⟨[(0, .c (.ro 0 117 YEvent)), (1, .c (.ro 1 117 YEvent)), (5, .c (.nu .i64))], [], 0, []⟩
noncomputable def l58_58 {R : Type} (N : Nat) : LCon R := lconOf [] h58_58 fun n d K => laws_eqEventS_l0 N n d.1.1 d.1.2.1 d.1.2.2.1 (fun y0 => K .ret ⟨[(4, .c (.bo y0))], [], 0, []⟩) (K (.exit 0) ⟨[], [], 0, []⟩)
noncomputable def L58 {R : Type} (N : Nat) : List (Nat × LCon R) := [(58, l58_58 N)]
theorem q58_58 {R : Type} (N : Nat) : LSpec Try.prog (gam (g58 N)) N (L58 N) 16 (subC (Try.f58.body.get rfl) [true, true, false, true, false, false]) 58 35 [(0, 0)] (l58_58 N : LCon R) :=
  lspec_of (fun d K => rfl) (fun n d K => by kernel_rfl)
theorem e58 {R : Type} (N : Nat) (d : AMs.D a58) (k : List Val → List Val → Option R) : evF Try.prog (gam (g58 N)) N (L58 N) Try.f58 (encAs a58 d (canAs a58 0)) k = u58 N d k := by kernel_rfl
theorem s58 {R : Type} (N : Nat) : Snd Try.prog 58 (c58 N : Con R) :=
  snd_eq (Γ := g58 N) (allG ⟨s81 N, trivial⟩) mixed Try.func58 (c := (Try.f58.body.get rfl)) rfl (by kernel_rfl) (by kernel_rfl) (Λ := L58 N) (qs := [⟨58, subC (Try.f58.body.get rfl) [true, true, false, true, false, false], 35, [(0, 0)]⟩]) (by kernel_rfl) ⟨lsome rfl (q58_58 N), trivial⟩ (e58 N)
/-- laws.eqEncoder -/
noncomputable def laws_eqEncoder {R : Type} (N : Nat) (a : DEncoder) (b : DEncoder) (k : Bool → Option R) : Option R :=
  laws_eqPlan N a.1 b.1 fun r =>
    cond (!r)
      (k false)
      (laws_eqSink N a.2.1 b.2.1 fun r1 =>
        cond (!r1)
          (k false)
          (laws_eqEventS N a.2.2.1 b.2.2.1 fun r2 =>
            cond (!r2)
              (k false)
              (cond (!(decide (a.2.2.2.1 = b.2.2.2.1)))
                (k false)
                (cond (!(decide (a.2.2.2.2.1 = b.2.2.2.2.1)))
                  (k false)
                  (cond (!(decide (a.2.2.2.2.2 = b.2.2.2.2.2)))
                    (k false)
                    (k true))))))
abbrev a25 : List AM := [.a (.pr (.pr (.ro 77 YShape) (.pr (.int .i64) (.pr (.int .i64) (.int .i64)))) (.pr (.pr .str (.pr (.ro 3 (.int .i64)) (.pr (.int .i64) (.int .i64)))) (.pr (.ro 117 YEvent) (.pr (.int .i64) (.pr (.int .i64) (.int .i64)))))), .a (.pr (.pr (.ro 77 YShape) (.pr (.int .i64) (.pr (.int .i64) (.int .i64)))) (.pr (.pr .str (.pr (.ro 3 (.int .i64)) (.pr (.int .i64) (.int .i64)))) (.pr (.ro 117 YEvent) (.pr (.int .i64) (.pr (.int .i64) (.int .i64))))))]
noncomputable def u25 {R : Type} (N : Nat) (d : AMs.D a25) (k : List Val → List Val → Option R) : Option R := laws_eqEncoder N d.1 d.2.1 (fun r0 => k [.c (.bo r0)] [])
noncomputable def c25 {R : Type} (N : Nat) : Con R := conOf [.rd, .rd] a25 (u25 N)
noncomputable def g25 {R : Type} (N : Nat) : List (Nat × Con R) := [(31, c31 N), (57, c57 N), (58, c58 N)]
noncomputable def L25 {R : Type} (N : Nat) : List (Nat × LCon R) := []
theorem e25 {R : Type} (N : Nat) (d : AMs.D a25) (k : List Val → List Val → Option R) : evF Try.prog (gam (g25 N)) N (L25 N) Try.f25 (encAs a25 d (canAs a25 0)) k = u25 N d k := by kernel_rfl
theorem s25 {R : Type} (N : Nat) : Snd Try.prog 25 (c25 N : Con R) :=
  snd_eq (Γ := g25 N) (allG ⟨s31 N, s57 N, s58 N, trivial⟩) mixed Try.func25 (c := (Try.f25.body.get rfl)) rfl (by kernel_rfl) (by kernel_rfl) (Λ := L25 N) (qs := []) (by kernel_rfl) trivial (e25 N)
/-- laws.FnExactEncOk -/
noncomputable def laws_FnExactEncOk {R : Type} (N : Nat) (aE : DlEncoder) (k : Bool → Option R) : Option R :=
  laws_szEncoder N aE 1048576 fun r =>
    cond (decide (r < 0))
      (k true)
      (laws_toEncoder N aE fun r1 =>
        spec_EncOk N r1 fun r2 =>
          laws_toEncoder N aE fun r3 =>
            impl_EncOk N r3 fun r4 =>
              cond (!(r4 == r2))
                (k false)
                (laws_toEncoder N aE fun r5 =>
                  laws_eqEncoder N r3 r5 fun r6 =>
                    cond (!r6)
                      (k false)
                      (k true)))
abbrev a5 : List AM := [.a (.pr (.pr (.ro 133 YlShape) (.pr (.int .i64) (.pr (.int .i64) (.int .i64)))) (.pr (.pr .str (.pr (.ro 3 (.int .i64)) (.pr (.int .i64) (.int .i64)))) (.pr (.ro 115 YEvent) (.pr (.int .i64) (.pr (.int .i64) (.int .i64))))))]
noncomputable def u5 {R : Type} (N : Nat) (d : AMs.D a5) (k : List Val → List Val → Option R) : Option R := laws_FnExactEncOk N d.1 (fun r0 => k [.c (.bo r0)] [])
noncomputable def c5 {R : Type} (N : Nat) : Con R := conOf [.rd] a5 (u5 N)
noncomputable def g5 {R : Type} (N : Nat) : List (Nat × Con R) := [(21, c21 N), (23, c23 N), (22, c22 N), (24, c24 N), (25, c25 N)]
noncomputable def L5 {R : Type} (N : Nat) : List (Nat × LCon R) := []
theorem e5 {R : Type} (N : Nat) (d : AMs.D a5) (k : List Val → List Val → Option R) : evF Try.prog (gam (g5 N)) N (L5 N) Try.f5 (encAs a5 d (canAs a5 0)) k = u5 N d k := by kernel_rfl
theorem s5 {R : Type} (N : Nat) : Snd Try.prog 5 (c5 N : Con R) :=
  snd_eq (Γ := g5 N) (allG ⟨s21 N, s23 N, s22 N, s24 N, s25 N, trivial⟩) mixed Try.func5 (c := (Try.f5.body.get rfl)) rfl (by kernel_rfl) (by kernel_rfl) (Λ := L5 N) (qs := []) (by kernel_rfl) trivial (e5 N)
end Go.Proofs.YthpklbpdchckkaaT
