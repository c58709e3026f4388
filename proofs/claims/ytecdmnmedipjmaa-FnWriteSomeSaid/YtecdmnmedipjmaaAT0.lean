/- Typed twins of the program's functions, and that they answer as the functions do. It states nothing by itself. -/
import Derived.Test.YtecdmnmedipjmaaAT
namespace Go.Proofs.YtecdmnmedipjmaaT
open Go.Proofs Go.Proofs.YtecdmnmedipjmaaEv
set_option maxRecDepth 100000
set_option linter.unusedVariables false
/-- laws.big -/
noncomputable def laws_big {R : Type} (N : Nat) (code : List Int) (k : Bool → Option R) : Option R :=
  k (decide (1048576 < (code.length : Int)))
abbrev a37 : List AM := [.v (.ro 5 (.int .u8))]
noncomputable def u37 {R : Type} (N : Nat) (d : AMs.D a37) (k : List Val → List Val → Option R) : Option R := laws_big N d.1 (fun r0 => k [.c (.bo r0)] [])
noncomputable def c37 {R : Type} (N : Nat) : Con R := conOf [.rd] a37 (u37 N)
noncomputable def g37 {R : Type} (N : Nat) : List (Nat × Con R) := []
noncomputable def L37 {R : Type} (N : Nat) : List (Nat × LCon R) := []
theorem e37 {R : Type} (N : Nat) (d : AMs.D a37) (k : List Val → List Val → Option R) : evF Try.prog (gam (g37 N)) N (L37 N) Try.f37 (encAs a37 d (canAs a37 0)) k = u37 N d k := by kernel_rfl
theorem s37 {R : Type} (N : Nat) : Snd Try.prog 37 (c37 N : Con R) :=
  snd_eq (Γ := g37 N) (allG trivial) mixed Try.func37 (c := (Try.f37.body.get rfl)) rfl (by kernel_rfl) (by kernel_rfl) (Λ := L37 N) (qs := []) (by kernel_rfl) trivial (e37 N)
/-- spec.l1New, the loop 58 -/
noncomputable def spec_l1New_l0 {R : Type} (N : Nat) : Nat → List Int → Int → Int → (List Int → Int → Option R) → Option R
  | 0, _, _, _, _ => none
  | n + 1, code1, h, i, x0_ =>
    cond (decide (i < (code1.length : Int)))
      (cond (decide (i < 4000))
        (cond (idxE code1.length i)
          (spec_l1New_l0 N n code1 (ibits .and .i64 (w64 ((w64 ((w64 (h * 131)) + (w64 (code1.getD i.toNat 0)))) + 7)) 1073741823) (w64 (i + 1)) x0_)
          none)
        (x0_ code1 h))
      (x0_ code1 h)
/-- spec.l1New -/
noncomputable def spec_l1New {R : Type} (N : Nat) (code : List Int) (k : Dl1Cur → Option R) : Option R :=
  spec_l1New_l0 N N code (w64 (28433 + (code.length : Int))) 0
    (fun code2 h1 =>
      k (code2, 0, h1))
abbrev a65 : List AM := [.v (.ro 5 (.int .u8))]
noncomputable def u65 {R : Type} (N : Nat) (d : AMs.D a65) (k : List Val → List Val → Option R) : Option R := spec_l1New N d.1 (fun r0 => k [.bx 94 [.ro 0 (.int .u8) 5 r0.1, .nu .i64 r0.2.1, .nu .i64 r0.2.2]] [])
noncomputable def c65 {R : Type} (N : Nat) : Con R := conOf [.rd] a65 (u65 N)
noncomputable def g65 {R : Type} (N : Nat) : List (Nat × Con R) := []
abbrev h65_58 : Sh := ⟨[(0, .c (.ro 0 5 (.int .u8))), (3, .c (.nu .i64)), (4, .c (.nu .i64))], [], 0, []⟩
noncomputable def l65_58 {R : Type} (N : Nat) : LCon R := lconOf [] h65_58 fun n d K => spec_l1New_l0 N n d.1.1 d.1.2.1 d.1.2.2.1 (fun y0 y1 => K (.exit 0) ⟨[(0, .c (.ro 0 (.int .u8) 5 y0)), (3, .c (.nu .i64 y1))], [], 0, []⟩)
noncomputable def L65 {R : Type} (N : Nat) : List (Nat × LCon R) := [(58, l65_58 N)]
theorem q65_58 {R : Type} (N : Nat) : LSpec Try.prog (gam (g65 N)) N (L65 N) 4 (subC (Try.f65.body.get rfl) [true, true, false, true, false, false]) 58 25 [(0, 9)] (l65_58 N : LCon R) :=
  lspec_of (fun d K => rfl) (fun n d K => by kernel_rfl)
theorem e65 {R : Type} (N : Nat) (d : AMs.D a65) (k : List Val → List Val → Option R) : evF Try.prog (gam (g65 N)) N (L65 N) Try.f65 (encAs a65 d (canAs a65 0)) k = u65 N d k := by kernel_rfl
theorem s65 {R : Type} (N : Nat) : Snd Try.prog 65 (c65 N : Con R) :=
  snd_eq (Γ := g65 N) (allG trivial) mixed Try.func65 (c := (Try.f65.body.get rfl)) rfl (by kernel_rfl) (by kernel_rfl) (Λ := L65 N) (qs := [⟨58, subC (Try.f65.body.get rfl) [true, true, false, true, false, false], 25, [(0, 9)]⟩]) (by kernel_rfl) ⟨lsome rfl (q65_58 N), trivial⟩ (e65 N)
/-- spec.l1Byte -/
noncomputable def spec_l1Byte {R : Type} (N : Nat) (c : Dl1Cur) (k : Int → Dl1Cur → Option R) : Option R :=
  let v : Int := ibits .xor .i64 (ishr .i64 (w64 ((w64 (c.2.2 * 6364136223846793005)) + 1442695040888963407)) 33) (ishr .i64 (w64 ((w64 (c.2.2 * 6364136223846793005)) + 1442695040888963407)) 45)
  cond (decide (c.2.1 < (c.1.length : Int)))
    (cond (idxE c.1.length c.2.1)
      (k (ibits .and .i64 (w64 ((ibits .and .i64 v 255) + (w64 (c.1.getD c.2.1.toNat 0)))) 255) (c.1, w64 (c.2.1 + 1), w64 ((w64 (c.2.2 * 6364136223846793005)) + 1442695040888963407)))
      none)
    (k (ibits .and .i64 v 255) (c.1, c.2.1, w64 ((w64 (c.2.2 * 6364136223846793005)) + 1442695040888963407)))
abbrev a83 : List AM := [.p 94 (.pr (.ro 5 (.int .u8)) (.pr (.int .i64) (.int .i64)))]
noncomputable def u83 {R : Type} (N : Nat) (d : AMs.D a83) (k : List Val → List Val → Option R) : Option R := spec_l1Byte N d.1 (fun r0 o0 => k [.c (.nu .i64 r0)] [.bx 94 [.ro 0 (.int .u8) 5 o0.1, .nu .i64 o0.2.1, .nu .i64 o0.2.2]])
noncomputable def c83 {R : Type} (N : Nat) : Con R := conOf [.rd] a83 (u83 N)
noncomputable def g83 {R : Type} (N : Nat) : List (Nat × Con R) := []
noncomputable def L83 {R : Type} (N : Nat) : List (Nat × LCon R) := []
theorem e83 {R : Type} (N : Nat) (d : AMs.D a83) (k : List Val → List Val → Option R) : evF Try.prog (gam (g83 N)) N (L83 N) Try.f83 (encAs a83 d (canAs a83 0)) k = u83 N d k := by kernel_rfl
theorem s83 {R : Type} (N : Nat) : Snd Try.prog 83 (c83 N : Con R) :=
  snd_eq (Γ := g83 N) (allG trivial) mixed Try.func83 (c := (Try.f83.body.get rfl)) rfl (by kernel_rfl) (by kernel_rfl) (Λ := L83 N) (qs := []) (by kernel_rfl) trivial (e83 N)
/-- spec.l1Below -/
noncomputable def spec_l1Below {R : Type} (N : Nat) (c : Dl1Cur) (n_ : Int) (k : Int → Dl1Cur → Option R) : Option R :=
  cond (decide (n_ ≤ 0))
    (k 0 c)
    (cond (decide (n_ ≤ 256))
      (spec_l1Byte N c fun r o =>
        cond (!decide (n_ = 0))
          (k (r.tmod n_) o)
          none)
      (spec_l1Byte N c fun r1 o1 =>
        spec_l1Byte N o1 fun r2 o2 =>
          spec_l1Byte N o2 fun r3 o3 =>
            spec_l1Byte N o3 fun r4 o4 =>
              cond (!decide (n_ = 0))
                (k ((w64 ((w64 ((w64 ((w64 (r1 * 16777216)) + (w64 (r2 * 65536)))) + (w64 (r3 * 256)))) + r4)).tmod n_) o4)
                none))
abbrev a73 : List AM := [.p 94 (.pr (.ro 5 (.int .u8)) (.pr (.int .i64) (.int .i64))), .v (.int .i64)]
noncomputable def u73 {R : Type} (N : Nat) (d : AMs.D a73) (k : List Val → List Val → Option R) : Option R := spec_l1Below N d.1 d.2.1 (fun r0 o0 => k [.c (.nu .i64 r0)] [.bx 94 [.ro 0 (.int .u8) 5 o0.1, .nu .i64 o0.2.1, .nu .i64 o0.2.2]])
noncomputable def c73 {R : Type} (N : Nat) : Con R := conOf [.rd, .rd] a73 (u73 N)
noncomputable def g73 {R : Type} (N : Nat) : List (Nat × Con R) := [(83, c83 N)]
noncomputable def L73 {R : Type} (N : Nat) : List (Nat × LCon R) := []
theorem e73 {R : Type} (N : Nat) (d : AMs.D a73) (k : List Val → List Val → Option R) : evF Try.prog (gam (g73 N)) N (L73 N) Try.f73 (encAs a73 d (canAs a73 0)) k = u73 N d k := by kernel_rfl
theorem s73 {R : Type} (N : Nat) : Snd Try.prog 73 (c73 N : Con R) :=
  snd_eq (Γ := g73 N) (allG ⟨s83 N, trivial⟩) mixed Try.func73 (c := (Try.f73.body.get rfl)) rfl (by kernel_rfl) (by kernel_rfl) (Λ := L73 N) (qs := []) (by kernel_rfl) trivial (e73 N)
/-- spec.l1PickInt -/
noncomputable def spec_l1PickInt {R : Type} (N : Nat) (c : Dl1Cur) (list : List Int) (k : Int → Dl1Cur → Option R) : Option R :=
  spec_l1Below N c (list.length : Int) fun r o =>
    cond (idxE list.length r)
      (k (list.getD r.toNat 0) o)
      none
abbrev a67 : List AM := [.p 94 (.pr (.ro 5 (.int .u8)) (.pr (.int .i64) (.int .i64))), .v (.ro 3 (.int .i64))]
noncomputable def u67 {R : Type} (N : Nat) (d : AMs.D a67) (k : List Val → List Val → Option R) : Option R := spec_l1PickInt N d.1 d.2.1 (fun r0 o0 => k [.c (.nu .i64 r0)] [.bx 94 [.ro 0 (.int .u8) 5 o0.1, .nu .i64 o0.2.1, .nu .i64 o0.2.2]])
noncomputable def c67 {R : Type} (N : Nat) : Con R := conOf [.rd, .rd] a67 (u67 N)
noncomputable def g67 {R : Type} (N : Nat) : List (Nat × Con R) := [(73, c73 N)]
noncomputable def L67 {R : Type} (N : Nat) : List (Nat × LCon R) := []
theorem e67 {R : Type} (N : Nat) (d : AMs.D a67) (k : List Val → List Val → Option R) : evF Try.prog (gam (g67 N)) N (L67 N) Try.f67 (encAs a67 d (canAs a67 0)) k = u67 N d k := by kernel_rfl
theorem s67 {R : Type} (N : Nat) : Snd Try.prog 67 (c67 N : Con R) :=
  snd_eq (Γ := g67 N) (allG ⟨s73 N, trivial⟩) mixed Try.func67 (c := (Try.f67.body.get rfl)) rfl (by kernel_rfl) (by kernel_rfl) (Λ := L67 N) (qs := []) (by kernel_rfl) trivial (e67 N)
/-- spec.l24Script, the loop 122 -/
noncomputable def spec_l24Script_l0 {R : Type} (N : Nat) : Nat → Int → Int → List Int → Int → Int → List Int → (List Int → List Int → Int → Int → Option R) → Option R
  | 0, _, _, _, _, _, _, _ => none
  | n + 1, n_, i, b, b1, b2, xs, x0_ =>
    cond (decide (i < n_))
      (spec_l1PickInt N (b, b1, b2) [0, 1, 2, 5, 16, 17, (-1), 9223372036854775807, (-9223372036854775808)] fun r1 o1 =>
        cond (decide ((xs.length + 1) * 8 ≤ 140737488355328))
          (spec_l24Script_l0 N n n_ (w64 (i + 1)) o1.1 o1.2.1 o1.2.2 (xs ++ [r1]) x0_)
          none)
      (x0_ xs b b1 b2)
/-- spec.l24Script -/
noncomputable def spec_l24Script {R : Type} (N : Nat) (c : Dl1Cur) (k : List Int → Dl1Cur → Option R) : Option R :=
  spec_l1Below N c 7 fun r o =>
    spec_l24Script_l0 N N r 0 o.1 o.2.1 o.2.2 []
      (fun xs1 b3 b4 b5 =>
        k xs1 (b3, b4, b5))
abbrev a66 : List AM := [.p 94 (.pr (.ro 5 (.int .u8)) (.pr (.int .i64) (.int .i64)))]
noncomputable def u66 {R : Type} (N : Nat) (d : AMs.D a66) (k : List Val → List Val → Option R) : Option R := spec_l24Script N d.1 (fun r0 o0 => k [.c (.own (.int .i64) 3 r0)] [.bx 94 [.ro 0 (.int .u8) 5 o0.1, .nu .i64 o0.2.1, .nu .i64 o0.2.2]])
noncomputable def c66 {R : Type} (N : Nat) : Con R := conOf [.rd] a66 (u66 N)
noncomputable def g66 {R : Type} (N : Nat) : List (Nat × Con R) := [(73, c73 N), (67, c67 N)]
abbrev h66_122 : Sh := ⟨[(0, .c (.ptr 0 0)), (3, .c (.slw 1)), (4, .c (.nu .i64)), (5, .c (.nu .i64))], [(0, .box 94 [.ro 0 5 (.int .u8), .nu .i64, .nu .i64]), (1, .rows (.int .i64) 3)], 2, [.c (.ptr 0 0)]⟩
noncomputable def l66_122 {R : Type} (N : Nat) : LCon R := lconOf [] h66_122 fun n d K => spec_l24Script_l0 N n d.1.2.2.1 d.1.2.2.2.1 d.2.1.1.1 d.2.1.1.2.1 d.2.1.1.2.2.1 d.2.1.2.1 (fun y0 y1 y2 y3 => K (.exit 0) ⟨[(3, .c (.slw 0))], [(0, some (.rows (.int .i64) 3 y0)), (1, some (.box 94 [.ro 0 (.int .u8) 5 y1, .nu .i64 y2, .nu .i64 y3]))], 2, [.c (.ptr 1 0)]⟩)
noncomputable def L66 {R : Type} (N : Nat) : List (Nat × LCon R) := [(122, l66_122 N)]
theorem q66_122 {R : Type} (N : Nat) : LSpec Try.prog (gam (g66 N)) N (L66 N) 4 (subC (Try.f66.body.get rfl) [true, true, true, false, true, false, false]) 122 57 [(0, 8)] (l66_122 N : LCon R) :=
  lspec_of (fun d K => rfl) (fun n d K => by kernel_rfl)
theorem e66 {R : Type} (N : Nat) (d : AMs.D a66) (k : List Val → List Val → Option R) : evF Try.prog (gam (g66 N)) N (L66 N) Try.f66 (encAs a66 d (canAs a66 0)) k = u66 N d k := by kernel_rfl
theorem s66 {R : Type} (N : Nat) : Snd Try.prog 66 (c66 N : Con R) :=
  snd_eq (Γ := g66 N) (allG ⟨s73 N, s67 N, trivial⟩) mixed Try.func66 (c := (Try.f66.body.get rfl)) rfl (by kernel_rfl) (by kernel_rfl) (Λ := L66 N) (qs := [⟨122, subC (Try.f66.body.get rfl) [true, true, true, false, true, false, false], 57, [(0, 8)]⟩]) (by kernel_rfl) ⟨lsome rfl (q66_122 N), trivial⟩ (e66 N)
/-- spec.DrawCallsFor -/
noncomputable def spec_DrawCallsFor {R : Type} (N : Nat) (code : List Int) (k : List Int → Int → Option R) : Option R :=
  spec_l1New N code fun r =>
    spec_l24Script N r fun r1 o =>
      spec_l1PickInt N o [0, 1, 5, 16, 17, 40, 4000, 4001, (-1)] fun r2 o1 =>
        k r1 r2
abbrev a38 : List AM := [.v (.ro 5 (.int .u8))]
noncomputable def u38 {R : Type} (N : Nat) (d : AMs.D a38) (k : List Val → List Val → Option R) : Option R := spec_DrawCallsFor N d.1 (fun r0 r1 => k [.c (.own (.int .i64) 3 r0), .c (.nu .i64 r1)] [])
noncomputable def c38 {R : Type} (N : Nat) : Con R := conOf [.rd] a38 (u38 N)
noncomputable def g38 {R : Type} (N : Nat) : List (Nat × Con R) := [(65, c65 N), (66, c66 N), (67, c67 N)]
noncomputable def L38 {R : Type} (N : Nat) : List (Nat × LCon R) := []
theorem e38 {R : Type} (N : Nat) (d : AMs.D a38) (k : List Val → List Val → Option R) : evF Try.prog (gam (g38 N)) N (L38 N) Try.f38 (encAs a38 d (canAs a38 0)) k = u38 N d k := by kernel_rfl
theorem s38 {R : Type} (N : Nat) : Snd Try.prog 38 (c38 N : Con R) :=
  snd_eq (Γ := g38 N) (allG ⟨s65 N, s66 N, s67 N, trivial⟩) mixed Try.func38 (c := (Try.f38.body.get rfl)) rfl (by kernel_rfl) (by kernel_rfl) (Λ := L38 N) (qs := []) (by kernel_rfl) trivial (e38 N)
/-- impl.within -/
noncomputable def impl_within {R : Type} (N : Nat) (n_ : Int) (low : Int) (high : Int) (k : Bool → Option R) : Option R :=
  cond (decide (low ≤ n_))
    (k (decide (n_ ≤ high)))
    (k false)
abbrev a55 : List AM := [.v (.int .i64), .v (.int .i64), .v (.int .i64)]
noncomputable def u55 {R : Type} (N : Nat) (d : AMs.D a55) (k : List Val → List Val → Option R) : Option R := impl_within N d.1 d.2.1 d.2.2.1 (fun r0 => k [.c (.bo r0)] [])
noncomputable def c55 {R : Type} (N : Nat) : Con R := conOf [.rd, .rd, .rd] a55 (u55 N)
noncomputable def g55 {R : Type} (N : Nat) : List (Nat × Con R) := []
noncomputable def L55 {R : Type} (N : Nat) : List (Nat × LCon R) := []
theorem e55 {R : Type} (N : Nat) (d : AMs.D a55) (k : List Val → List Val → Option R) : evF Try.prog (gam (g55 N)) N (L55 N) Try.f55 (encAs a55 d (canAs a55 0)) k = u55 N d k := by kernel_rfl
theorem s55 {R : Type} (N : Nat) : Snd Try.prog 55 (c55 N : Con R) :=
  snd_eq (Γ := g55 N) (allG trivial) mixed Try.func55 (c := (Try.f55.body.get rfl)) rfl (by kernel_rfl) (by kernel_rfl) (Λ := L55 N) (qs := []) (by kernel_rfl) trivial (e55 N)
/-- impl.SinkOk -/
noncomputable def impl_SinkOk {R : Type} (N : Nat) (k_ : DSink) (k : Bool → Option R) : Option R :=
  cond (decide ((k_.1.size : Int) ≤ 4000))
    (cond (decide ((k_.2.1.length : Int) ≤ 200))
      (impl_within N k_.2.2.1 0 (k_.2.1.length : Int) fun r =>
        cond r
          (impl_within N k_.2.2.2 0 1000000 fun r1 =>
            k r1)
          (k false))
      (k false))
    (k false)
abbrev a23 : List AM := [.a (.pr .str (.pr (.ro 3 (.int .i64)) (.pr (.int .i64) (.int .i64))))]
noncomputable def u23 {R : Type} (N : Nat) (d : AMs.D a23) (k : List Val → List Val → Option R) : Option R := impl_SinkOk N d.1 (fun r0 => k [.c (.bo r0)] [])
noncomputable def c23 {R : Type} (N : Nat) : Con R := conOf [.rd] a23 (u23 N)
noncomputable def g23 {R : Type} (N : Nat) : List (Nat × Con R) := [(55, c55 N)]
noncomputable def L23 {R : Type} (N : Nat) : List (Nat × LCon R) := []
theorem e23 {R : Type} (N : Nat) (d : AMs.D a23) (k : List Val → List Val → Option R) : evF Try.prog (gam (g23 N)) N (L23 N) Try.f23 (encAs a23 d (canAs a23 0)) k = u23 N d k := by kernel_rfl
theorem s23 {R : Type} (N : Nat) : Snd Try.prog 23 (c23 N : Con R) :=
  snd_eq (Γ := g23 N) (allG ⟨s55 N, trivial⟩) mixed Try.func23 (c := (Try.f23.body.get rfl)) rfl (by kernel_rfl) (by kernel_rfl) (Λ := L23 N) (qs := []) (by kernel_rfl) trivial (e23 N)
/-- slices.Clone[[]int,int] -/
noncomputable def slices_Clone_int_int {R : Type} (N : Nat) (s : List Int) (k : List Int → Option R) : Option R :=
  cond (decide ((0 + s.length) * 8 ≤ 140737488355328))
    (k s)
    none
abbrev a82 : List AM := [.v (.ro 3 (.int .i64))]
noncomputable def c82 {R : Type} (N : Nat) : Con R := conOf [.rd] a82 fun d k => cond ((fun s => decide ((0 + s.length) * 8 ≤ 140737488355328)) d.1) (k ((fun r0 => [.c (.own (.int .i64) 3 r0)]) d.1) []) none
noncomputable def g82 {R : Type} (N : Nat) : List (Nat × Con R) := []
noncomputable def L82 {R : Type} (N : Nat) : List (Nat × LCon R) := []
theorem s82 {R : Type} (N : Nat) : Snd Try.prog 82 (c82 N : Con R) :=
  snd_split (N := N) (e := 3) (t := (.int .i64)) (good := fun s => decide ((0 + s.length) * 8 ≤ 140737488355328)) (res := fun r0 => [.c (.own (.int .i64) 3 r0)]) (Γ := g82 N) (allG trivial) mixed Try.func82 (c := (Try.f82.body.get rfl)) rfl (by kernel_rfl) (by kernel_rfl) (Λ := L82 N) (qs := []) (by kernel_rfl) trivial (fun k => by kernel_rfl) (fun xs k => by kernel_rfl)
/-- impl.copySink -/
noncomputable def impl_copySink {R : Type} (N : Nat) (k_ : DSink) (k : DSink → Option R) : Option R :=
  slices_Clone_int_int N k_.2.1 fun r =>
    k (k_.1, r, k_.2.2)
abbrev a68 : List AM := [.a (.pr .str (.pr (.ro 3 (.int .i64)) (.pr (.int .i64) (.int .i64))))]
noncomputable def u68 {R : Type} (N : Nat) (d : AMs.D a68) (k : List Val → List Val → Option R) : Option R := impl_copySink N d.1 (fun r0 => k [.agg [.sr r0.1, .own (.int .i64) 3 r0.2.1, .nu .i64 r0.2.2.1, .nu .i64 r0.2.2.2]] [])
noncomputable def c68 {R : Type} (N : Nat) : Con R := conOf [.rd] a68 (u68 N)
noncomputable def g68 {R : Type} (N : Nat) : List (Nat × Con R) := [(82, c82 N)]
noncomputable def L68 {R : Type} (N : Nat) : List (Nat × LCon R) := []
theorem e68 {R : Type} (N : Nat) (d : AMs.D a68) (k : List Val → List Val → Option R) : evF Try.prog (gam (g68 N)) N (L68 N) Try.f68 (encAs a68 d (canAs a68 0)) k = u68 N d k := by kernel_rfl
theorem s68 {R : Type} (N : Nat) : Snd Try.prog 68 (c68 N : Con R) :=
  snd_eq (Γ := g68 N) (allG ⟨s82 N, trivial⟩) mixed Try.func68 (c := (Try.f68.body.get rfl)) rfl (by kernel_rfl) (by kernel_rfl) (Λ := L68 N) (qs := []) (by kernel_rfl) trivial (e68 N)
/-- (impl.Sink).fits -/
noncomputable def impl_Sink_fits {R : Type} (N : Nat) (k_ : DSink) (s : ByteArray) (k : Bool → Option R) : Option R :=
  impl_SinkOk N k_ fun r =>
    cond r
      (k (decide ((s.size : Int) ≤ (w64 (4000 - (k_.1.size : Int))))))
      (k false)
abbrev a69 : List AM := [.a (.pr .str (.pr (.ro 3 (.int .i64)) (.pr (.int .i64) (.int .i64)))), .v .str]
noncomputable def u69 {R : Type} (N : Nat) (d : AMs.D a69) (k : List Val → List Val → Option R) : Option R := impl_Sink_fits N d.1 d.2.1 (fun r0 => k [.c (.bo r0)] [])
noncomputable def c69 {R : Type} (N : Nat) : Con R := conOf [.rd, .rd] a69 (u69 N)
noncomputable def g69 {R : Type} (N : Nat) : List (Nat × Con R) := [(23, c23 N)]
noncomputable def L69 {R : Type} (N : Nat) : List (Nat × LCon R) := []
theorem e69 {R : Type} (N : Nat) (d : AMs.D a69) (k : List Val → List Val → Option R) : evF Try.prog (gam (g69 N)) N (L69 N) Try.f69 (encAs a69 d (canAs a69 0)) k = u69 N d k := by kernel_rfl
theorem s69 {R : Type} (N : Nat) : Snd Try.prog 69 (c69 N : Con R) :=
  snd_eq (Γ := g69 N) (allG ⟨s23 N, trivial⟩) mixed Try.func69 (c := (Try.f69.body.get rfl)) rfl (by kernel_rfl) (by kernel_rfl) (Λ := L69 N) (qs := []) (by kernel_rfl) trivial (e69 N)
/-- (*impl.Sink).write -/
noncomputable def impl_Sink_write {R : Type} (N : Nat) (k_ : DSink) (s : ByteArray) (k : Int → DSink → Option R) : Option R :=
  cond (decide (k_.2.2.1 < (k_.2.1.length : Int)))
    (cond (idxE k_.2.1.length k_.2.2.1)
      (cond (decide (0 ≤ imax (imin (imin (k_.2.1.getD k_.2.2.1.toNat 0) 16) (s.size : Int)) 0 ∧ imax (imin (imin (k_.2.1.getD k_.2.2.1.toNat 0) 16) (s.size : Int)) 0 ≤ (s.size : Int)))
        (cond (decide (k_.1.size + (s.extract 0 ((imax (imin (imin (k_.2.1.getD k_.2.2.1.toNat 0) 16) (s.size : Int)) 0).toNat)).size ≤ 1152921504606846976))
          (k (imax (imin (imin (k_.2.1.getD k_.2.2.1.toNat 0) 16) (s.size : Int)) 0) (k_.1 ++ (s.extract 0 ((imax (imin (imin (k_.2.1.getD k_.2.2.1.toNat 0) 16) (s.size : Int)) 0).toNat)), k_.2.1, w64 (k_.2.2.1 + 1), imin (w64 (k_.2.2.2 + 1)) 1000000))
          none)
        none)
      none)
    (cond (decide (0 ≤ imax (imin 16 (s.size : Int)) 0 ∧ imax (imin 16 (s.size : Int)) 0 ≤ (s.size : Int)))
      (cond (decide (k_.1.size + (s.extract 0 ((imax (imin 16 (s.size : Int)) 0).toNat)).size ≤ 1152921504606846976))
        (k (imax (imin 16 (s.size : Int)) 0) (k_.1 ++ (s.extract 0 ((imax (imin 16 (s.size : Int)) 0).toNat)), k_.2.1, k_.2.2.1, imin (w64 (k_.2.2.2 + 1)) 1000000))
        none)
      none)
abbrev a70 : List AM := [.p 34 (.pr .str (.pr (.ob 3 (.int .i64)) (.pr (.int .i64) (.int .i64)))), .v .str]
noncomputable def u70 {R : Type} (N : Nat) (d : AMs.D a70) (k : List Val → List Val → Option R) : Option R := impl_Sink_write N d.1 d.2.1 (fun r0 o0 => k [.c (.nu .i64 r0)] [.bx 34 [.sr o0.1, .own (.int .i64) 3 o0.2.1, .nu .i64 o0.2.2.1, .nu .i64 o0.2.2.2]])
noncomputable def c70 {R : Type} (N : Nat) : Con R := conOf [.rd, .rd] a70 (u70 N)
noncomputable def g70 {R : Type} (N : Nat) : List (Nat × Con R) := []
noncomputable def L70 {R : Type} (N : Nat) : List (Nat × LCon R) := []
theorem e70 {R : Type} (N : Nat) (d : AMs.D a70) (k : List Val → List Val → Option R) : evF Try.prog (gam (g70 N)) N (L70 N) Try.f70 (encAs a70 d (canAs a70 0)) k = u70 N d k := by kernel_rfl
theorem s70 {R : Type} (N : Nat) : Snd Try.prog 70 (c70 N : Con R) :=
  snd_eq (Γ := g70 N) (allG trivial) mixed Try.func70 (c := (Try.f70.body.get rfl)) rfl (by kernel_rfl) (by kernel_rfl) (Λ := L70 N) (qs := []) (by kernel_rfl) trivial (e70 N)
/-- impl.WriteAll, the loop 60 -/
noncomputable def impl_WriteAll_l0 {R : Type} (N : Nat) : Nat → ByteArray → ByteArray → Int → Int → ByteArray → Int → Int → List Int → (ByteArray → Int → Int → ByteArray → Int → Int → List Int → Option R) → Option R
  | 0, _, _, _, _, _, _, _, _, _ => none
  | n + 1, s1, b, b1, b2, b3, b4, b5, xs, x0_ =>
    cond (!decide (s1 = ByteArray.empty))
      (impl_Sink_write N (b3, xs, b4, b5) s1 fun r2 o =>
        cond (decide (0 ≤ r2 ∧ r2 ≤ (s1.size : Int)))
          (impl_WriteAll_l0 N n (s1.extract r2.toNat s1.size) b b1 b2 o.1 o.2.2.1 o.2.2.2 o.2.1 x0_)
          none)
      (x0_ b b1 b2 b3 b4 b5 xs)
/-- impl.WriteAll -/
noncomputable def impl_WriteAll {R : Type} (N : Nat) (k_ : DSink) (s : ByteArray) (k : DSink → Option R) : Option R :=
  impl_copySink N k_ fun r =>
    impl_Sink_fits N k_ s fun r1 =>
      cond (!r1)
        (k r)
        (impl_WriteAll_l0 N N s ByteArray.empty 0 0 r.1 r.2.2.1 r.2.2.2 r.2.1
          (fun b6 b7 b8 b9 b10 b11 xs1 =>
            k (b9, xs1, b10, b11)))
abbrev a39 : List AM := [.a (.pr .str (.pr (.ro 3 (.int .i64)) (.pr (.int .i64) (.int .i64)))), .v .str]
noncomputable def u39 {R : Type} (N : Nat) (d : AMs.D a39) (k : List Val → List Val → Option R) : Option R := impl_WriteAll N d.1 d.2.1 (fun r0 => k [.agg [.sr r0.1, .own (.int .i64) 3 r0.2.1, .nu .i64 r0.2.2.1, .nu .i64 r0.2.2.2]] [])
noncomputable def c39 {R : Type} (N : Nat) : Con R := conOf [.rd, .rd] a39 (u39 N)
noncomputable def g39 {R : Type} (N : Nat) : List (Nat × Con R) := [(68, c68 N), (69, c69 N), (70, c70 N)]
abbrev h39_60 : Sh := ⟨[(1, .c .sr), (4, .c (.ptr 0 0)), (5, .c (.ptr 1 0))], [(0, .box 34 [.sr, .nil, .nu .i64, .nu .i64]), (1, .box 34 [.sr, .slw 2, .nu .i64, .nu .i64]), (2, .rows (.int .i64) 3)], 3, []⟩
noncomputable def l39_60 {R : Type} (N : Nat) : LCon R := lconOf [] h39_60 fun n d K => impl_WriteAll_l0 N n d.1.1 d.2.1.1.1 d.2.1.1.2.2.1 d.2.1.1.2.2.2.1 d.2.1.2.1.1 d.2.1.2.1.2.2.1 d.2.1.2.1.2.2.2.1 d.2.1.2.2.1 (fun y0 y1 y2 y3 y4 y5 y6 => K (.exit 0) ⟨[(4, .c (.ptr 0 0)), (5, .c (.ptr 1 0))], [(0, some (.box 34 [.sr y0, .nil, .nu .i64 y1, .nu .i64 y2])), (1, some (.box 34 [.sr y3, .slw 2, .nu .i64 y4, .nu .i64 y5])), (2, some (.rows (.int .i64) 3 y6))], 3, []⟩)
noncomputable def L39 {R : Type} (N : Nat) : List (Nat × LCon R) := [(60, l39_60 N)]
theorem q39_60 {R : Type} (N : Nat) : LSpec Try.prog (gam (g39 N)) N (L39 N) 16 (subC (Try.f39.body.get rfl) [true, true, true, false, false, false]) 60 50 [(0, 48)] (l39_60 N : LCon R) :=
  lspec_of (fun d K => rfl) (fun n d K => by kernel_rfl)
theorem e39 {R : Type} (N : Nat) (d : AMs.D a39) (k : List Val → List Val → Option R) : evF Try.prog (gam (g39 N)) N (L39 N) Try.f39 (encAs a39 d (canAs a39 0)) k = u39 N d k := by kernel_rfl
theorem s39 {R : Type} (N : Nat) : Snd Try.prog 39 (c39 N : Con R) :=
  snd_eq (Γ := g39 N) (allG ⟨s68 N, s69 N, s70 N, trivial⟩) mixed Try.func39 (c := (Try.f39.body.get rfl)) rfl (by kernel_rfl) (by kernel_rfl) (Λ := L39 N) (qs := [⟨60, subC (Try.f39.body.get rfl) [true, true, true, false, false, false], 50, [(0, 48)]⟩]) (by kernel_rfl) ⟨lsome rfl (q39_60 N), trivial⟩ (e39 N)
/-- impl.CallsFor -/
noncomputable def impl_CallsFor {R : Type} (N : Nat) (script : List Int) (n_ : Int) (k : Int → Option R) : Option R :=
  impl_SinkOk N (ByteArray.empty, script, 0, 0) fun r =>
    cond (!r)
      (k 0)
      (impl_within N n_ 0 4000 fun r1 =>
        cond (!r1)
          (k 0)
          (cond (decide (0 ≤ n_ ∧ n_ ≤ n_ ∧ n_ ≤ 4611686018427387904 ∧ (1 : Int) * n_ ≤ 140737488355328))
            (impl_WriteAll N (ByteArray.empty, script, 0, 0) (ofBytes (List.replicate n_.toNat 0)) fun r2 =>
              k r2.2.2.2)
            none))
abbrev a35 : List AM := [.v (.ro 3 (.int .i64)), .v (.int .i64)]
noncomputable def u35 {R : Type} (N : Nat) (d : AMs.D a35) (k : List Val → List Val → Option R) : Option R := impl_CallsFor N d.1 d.2.1 (fun r0 => k [.c (.nu .i64 r0)] [])
noncomputable def c35 {R : Type} (N : Nat) : Con R := conOf [.rd, .rd] a35 (u35 N)
noncomputable def g35 {R : Type} (N : Nat) : List (Nat × Con R) := [(23, c23 N), (55, c55 N), (39, c39 N)]
noncomputable def L35 {R : Type} (N : Nat) : List (Nat × LCon R) := []
theorem e35 {R : Type} (N : Nat) (d : AMs.D a35) (k : List Val → List Val → Option R) : evF Try.prog (gam (g35 N)) N (L35 N) Try.f35 (encAs a35 d (canAs a35 0)) k = u35 N d k := by kernel_rfl
theorem s35 {R : Type} (N : Nat) : Snd Try.prog 35 (c35 N : Con R) :=
  snd_eq (Γ := g35 N) (allG ⟨s23 N, s55 N, s39 N, trivial⟩) mixed Try.func35 (c := (Try.f35.body.get rfl)) rfl (by kernel_rfl) (by kernel_rfl) (Λ := L35 N) (qs := []) (by kernel_rfl) trivial (e35 N)
/-- spec.l1In -/
noncomputable def spec_l1In {R : Type} (N : Nat) (x : Int) (lo : Int) (hi : Int) (k : Bool → Option R) : Option R :=
  cond (decide (lo ≤ x))
    (k (decide (x ≤ hi)))
    (k false)
abbrev a53 : List AM := [.v (.int .i64), .v (.int .i64), .v (.int .i64)]
noncomputable def u53 {R : Type} (N : Nat) (d : AMs.D a53) (k : List Val → List Val → Option R) : Option R := spec_l1In N d.1 d.2.1 d.2.2.1 (fun r0 => k [.c (.bo r0)] [])
noncomputable def c53 {R : Type} (N : Nat) : Con R := conOf [.rd, .rd, .rd] a53 (u53 N)
noncomputable def g53 {R : Type} (N : Nat) : List (Nat × Con R) := []
noncomputable def L53 {R : Type} (N : Nat) : List (Nat × LCon R) := []
theorem e53 {R : Type} (N : Nat) (d : AMs.D a53) (k : List Val → List Val → Option R) : evF Try.prog (gam (g53 N)) N (L53 N) Try.f53 (encAs a53 d (canAs a53 0)) k = u53 N d k := by kernel_rfl
theorem s53 {R : Type} (N : Nat) : Snd Try.prog 53 (c53 N : Con R) :=
  snd_eq (Γ := g53 N) (allG trivial) mixed Try.func53 (c := (Try.f53.body.get rfl)) rfl (by kernel_rfl) (by kernel_rfl) (Λ := L53 N) (qs := []) (by kernel_rfl) trivial (e53 N)
/-- spec.SinkOk -/
noncomputable def spec_SinkOk {R : Type} (N : Nat) (k_ : DSink) (k : Bool → Option R) : Option R :=
  cond (decide ((k_.1.size : Int) ≤ 4000))
    (cond (decide ((k_.2.1.length : Int) ≤ 200))
      (spec_l1In N k_.2.2.1 0 (k_.2.1.length : Int) fun r =>
        cond r
          (spec_l1In N k_.2.2.2 0 1000000 fun r1 =>
            k r1)
          (k false))
      (k false))
    (k false)
abbrev a21 : List AM := [.a (.pr .str (.pr (.ro 3 (.int .i64)) (.pr (.int .i64) (.int .i64))))]
noncomputable def u21 {R : Type} (N : Nat) (d : AMs.D a21) (k : List Val → List Val → Option R) : Option R := spec_SinkOk N d.1 (fun r0 => k [.c (.bo r0)] [])
noncomputable def c21 {R : Type} (N : Nat) : Con R := conOf [.rd] a21 (u21 N)
noncomputable def g21 {R : Type} (N : Nat) : List (Nat × Con R) := [(53, c53 N)]
noncomputable def L21 {R : Type} (N : Nat) : List (Nat × LCon R) := []
theorem e21 {R : Type} (N : Nat) (d : AMs.D a21) (k : List Val → List Val → Option R) : evF Try.prog (gam (g21 N)) N (L21 N) Try.f21 (encAs a21 d (canAs a21 0)) k = u21 N d k := by kernel_rfl
theorem s21 {R : Type} (N : Nat) : Snd Try.prog 21 (c21 N : Con R) :=
  snd_eq (Γ := g21 N) (allG ⟨s53 N, trivial⟩) mixed Try.func21 (c := (Try.f21.body.get rfl)) rfl (by kernel_rfl) (by kernel_rfl) (Λ := L21 N) (qs := []) (by kernel_rfl) trivial (e21 N)
/-- spec.l24Zeros -/
noncomputable def spec_l24Zeros {R : Type} (N : Nat) (n_ : Int) (k : ByteArray → Option R) : Option R :=
  cond (decide (0 ≤ n_ ∧ n_ ≤ n_ ∧ n_ ≤ 4611686018427387904 ∧ (1 : Int) * n_ ≤ 140737488355328))
    (k (ofBytes (List.replicate n_.toNat 0)))
    none
abbrev a64 : List AM := [.v (.int .i64)]
noncomputable def u64 {R : Type} (N : Nat) (d : AMs.D a64) (k : List Val → List Val → Option R) : Option R := spec_l24Zeros N d.1 (fun r0 => k [.c (.sr r0)] [])
noncomputable def c64 {R : Type} (N : Nat) : Con R := conOf [.rd] a64 (u64 N)
noncomputable def g64 {R : Type} (N : Nat) : List (Nat × Con R) := []
noncomputable def L64 {R : Type} (N : Nat) : List (Nat × LCon R) := []
theorem e64 {R : Type} (N : Nat) (d : AMs.D a64) (k : List Val → List Val → Option R) : evF Try.prog (gam (g64 N)) N (L64 N) Try.f64 (encAs a64 d (canAs a64 0)) k = u64 N d k := by kernel_rfl
theorem s64 {R : Type} (N : Nat) : Snd Try.prog 64 (c64 N : Con R) :=
  snd_eq (Γ := g64 N) (allG trivial) mixed Try.func64 (c := (Try.f64.body.get rfl)) rfl (by kernel_rfl) (by kernel_rfl) (Λ := L64 N) (qs := []) (by kernel_rfl) trivial (e64 N)
/-- spec.l24Copy -/
noncomputable def spec_l24Copy {R : Type} (N : Nat) (k_ : DSink) (k : DSink → Option R) : Option R :=
  cond (decide ((0 + k_.2.1.length) * 8 ≤ 140737488355328))
    (k k_)
    none
abbrev a74 : List AM := [.a (.pr .str (.pr (.ro 3 (.int .i64)) (.pr (.int .i64) (.int .i64))))]
noncomputable def u74 {R : Type} (N : Nat) (d : AMs.D a74) (k : List Val → List Val → Option R) : Option R := spec_l24Copy N d.1 (fun r0 => k [.agg [.sr r0.1, .own (.int .i64) 3 r0.2.1, .nu .i64 r0.2.2.1, .nu .i64 r0.2.2.2]] [])
noncomputable def c74 {R : Type} (N : Nat) : Con R := conOf [.rd] a74 (u74 N)
noncomputable def g74 {R : Type} (N : Nat) : List (Nat × Con R) := []
noncomputable def L74 {R : Type} (N : Nat) : List (Nat × LCon R) := []
theorem e74 {R : Type} (N : Nat) (d : AMs.D a74) (k : List Val → List Val → Option R) : evF Try.prog (gam (g74 N)) N (L74 N) Try.f74 (encAs a74 d (canAs a74 0)) k = u74 N d k := by kernel_rfl
theorem s74 {R : Type} (N : Nat) : Snd Try.prog 74 (c74 N : Con R) :=
  snd_eq (Γ := g74 N) (allG trivial) mixed Try.func74 (c := (Try.f74.body.get rfl)) rfl (by kernel_rfl) (by kernel_rfl) (Λ := L74 N) (qs := []) (by kernel_rfl) trivial (e74 N)
/-- spec.l1Min -/
noncomputable def spec_l1Min {R : Type} (N : Nat) (a : Int) (b : Int) (k : Int → Option R) : Option R :=
  cond (decide (a < b))
    (k a)
    (k b)
abbrev a84 : List AM := [.v (.int .i64), .v (.int .i64)]
noncomputable def u84 {R : Type} (N : Nat) (d : AMs.D a84) (k : List Val → List Val → Option R) : Option R := spec_l1Min N d.1 d.2.1 (fun r0 => k [.c (.nu .i64 r0)] [])
noncomputable def c84 {R : Type} (N : Nat) : Con R := conOf [.rd, .rd] a84 (u84 N)
noncomputable def g84 {R : Type} (N : Nat) : List (Nat × Con R) := []
noncomputable def L84 {R : Type} (N : Nat) : List (Nat × LCon R) := []
theorem e84 {R : Type} (N : Nat) (d : AMs.D a84) (k : List Val → List Val → Option R) : evF Try.prog (gam (g84 N)) N (L84 N) Try.f84 (encAs a84 d (canAs a84 0)) k = u84 N d k := by kernel_rfl
theorem s84 {R : Type} (N : Nat) : Snd Try.prog 84 (c84 N : Con R) :=
  snd_eq (Γ := g84 N) (allG trivial) mixed Try.func84 (c := (Try.f84.body.get rfl)) rfl (by kernel_rfl) (by kernel_rfl) (Λ := L84 N) (qs := []) (by kernel_rfl) trivial (e84 N)
/-- spec.l1Max -/
noncomputable def spec_l1Max {R : Type} (N : Nat) (a : Int) (b : Int) (k : Int → Option R) : Option R :=
  cond (decide (b < a))
    (k a)
    (k b)
abbrev a63 : List AM := [.v (.int .i64), .v (.int .i64)]
noncomputable def u63 {R : Type} (N : Nat) (d : AMs.D a63) (k : List Val → List Val → Option R) : Option R := spec_l1Max N d.1 d.2.1 (fun r0 => k [.c (.nu .i64 r0)] [])
noncomputable def c63 {R : Type} (N : Nat) : Con R := conOf [.rd, .rd] a63 (u63 N)
noncomputable def g63 {R : Type} (N : Nat) : List (Nat × Con R) := []
noncomputable def L63 {R : Type} (N : Nat) : List (Nat × LCon R) := []
theorem e63 {R : Type} (N : Nat) (d : AMs.D a63) (k : List Val → List Val → Option R) : evF Try.prog (gam (g63 N)) N (L63 N) Try.f63 (encAs a63 d (canAs a63 0)) k = u63 N d k := by kernel_rfl
theorem s63 {R : Type} (N : Nat) : Snd Try.prog 63 (c63 N : Con R) :=
  snd_eq (Γ := g63 N) (allG trivial) mixed Try.func63 (c := (Try.f63.body.get rfl)) rfl (by kernel_rfl) (by kernel_rfl) (Λ := L63 N) (qs := []) (by kernel_rfl) trivial (e63 N)
/-- spec.l24Some -/
noncomputable def spec_l24Some {R : Type} (N : Nat) (k_ : DSink) (s : ByteArray) (k : DSink → Int → Option R) : Option R :=
  cond (decide (k_.2.2.1 < (k_.2.1.length : Int)))
    (cond (idxE k_.2.1.length k_.2.2.1)
      (spec_l1Min N 16 (s.size : Int) fun r =>
        spec_l1Min N (k_.2.1.getD k_.2.2.1.toNat 0) r fun r1 =>
          spec_l1Max N 0 r1 fun r2 =>
            spec_l1Min N 1000000 (w64 (k_.2.2.2 + 1)) fun r3 =>
              cond (decide (0 ≤ r2 ∧ r2 ≤ (s.size : Int)))
                (cond (decide (k_.1.size + (s.extract 0 r2.toNat).size ≤ 1152921504606846976))
                  (k (k_.1 ++ (s.extract 0 r2.toNat), k_.2.1, w64 (k_.2.2.1 + 1), r3) r2)
                  none)
                none)
      none)
    (spec_l1Min N 16 (s.size : Int) fun r4 =>
      spec_l1Min N 16 r4 fun r5 =>
        spec_l1Max N 0 r5 fun r6 =>
          spec_l1Min N 1000000 (w64 (k_.2.2.2 + 1)) fun r7 =>
            cond (decide (0 ≤ r6 ∧ r6 ≤ (s.size : Int)))
              (cond (decide (k_.1.size + (s.extract 0 r6.toNat).size ≤ 1152921504606846976))
                (k (k_.1 ++ (s.extract 0 r6.toNat), k_.2.1, k_.2.2.1, r7) r6)
                none)
              none)
abbrev a75 : List AM := [.a (.pr .str (.pr (.mv 3 (.int .i64)) (.pr (.int .i64) (.int .i64)))), .v .str]
noncomputable def u75 {R : Type} (N : Nat) (d : AMs.D a75) (k : List Val → List Val → Option R) : Option R := spec_l24Some N d.1 d.2.1 (fun r0 r1 => k [.agg [.sr r0.1, .own (.int .i64) 3 r0.2.1, .nu .i64 r0.2.2.1, .nu .i64 r0.2.2.2], .c (.nu .i64 r1)] [])
noncomputable def c75 {R : Type} (N : Nat) : Con R := conOf [.mv, .rd] a75 (u75 N)
noncomputable def g75 {R : Type} (N : Nat) : List (Nat × Con R) := [(84, c84 N), (63, c63 N)]
noncomputable def L75 {R : Type} (N : Nat) : List (Nat × LCon R) := []
theorem e75 {R : Type} (N : Nat) (d : AMs.D a75) (k : List Val → List Val → Option R) : evF Try.prog (gam (g75 N)) N (L75 N) Try.f75 (encAs a75 d (canAs a75 0)) k = u75 N d k := by kernel_rfl
theorem s75 {R : Type} (N : Nat) : Snd Try.prog 75 (c75 N : Con R) :=
  snd_eq (Γ := g75 N) (allG ⟨s84 N, s63 N, trivial⟩) mixed Try.func75 (c := (Try.f75.body.get rfl)) rfl (by kernel_rfl) (by kernel_rfl) (Λ := L75 N) (qs := []) (by kernel_rfl) trivial (e75 N)
/-- spec.WriteAll, the loop 60 -/
noncomputable def spec_WriteAll_l0 {R : Type} (N : Nat) : Nat → ByteArray → ByteArray → Int → Int → ByteArray → Int → Int → List Int → (ByteArray → Int → Int → ByteArray → Int → Int → List Int → Option R) → Option R
  | 0, _, _, _, _, _, _, _, _, _ => none
  | n + 1, s1, b, b1, b2, b3, b4, b5, xs, x0_ =>
    cond (!decide (s1 = ByteArray.empty))
      (spec_l24Some N (b3, xs, b4, b5) s1 fun r2 r3 =>
        cond (decide (0 ≤ r3 ∧ r3 ≤ (s1.size : Int)))
          (spec_WriteAll_l0 N n (s1.extract r3.toNat s1.size) b b1 b2 r2.1 r2.2.2.1 r2.2.2.2 r2.2.1 x0_)
          none)
      (x0_ b b1 b2 b3 b4 b5 xs)
/-- spec.WriteAll -/
noncomputable def spec_WriteAll {R : Type} (N : Nat) (k_ : DSink) (s : ByteArray) (k : DSink → Option R) : Option R :=
  spec_l24Copy N k_ fun r =>
    spec_SinkOk N k_ fun r1 =>
      cond (!r1)
        (k r)
        (cond (decide (4000 < (w64 ((k_.1.size : Int) + (s.size : Int)))))
          (k r)
          (spec_WriteAll_l0 N N s ByteArray.empty 0 0 r.1 r.2.2.1 r.2.2.2 r.2.1
            (fun b6 b7 b8 b9 b10 b11 xs1 =>
              k (b9, xs1, b10, b11))))
abbrev a41 : List AM := [.a (.pr .str (.pr (.ro 3 (.int .i64)) (.pr (.int .i64) (.int .i64)))), .v .str]
noncomputable def u41 {R : Type} (N : Nat) (d : AMs.D a41) (k : List Val → List Val → Option R) : Option R := spec_WriteAll N d.1 d.2.1 (fun r0 => k [.agg [.sr r0.1, .own (.int .i64) 3 r0.2.1, .nu .i64 r0.2.2.1, .nu .i64 r0.2.2.2]] [])
noncomputable def c41 {R : Type} (N : Nat) : Con R := conOf [.rd, .rd] a41 (u41 N)
noncomputable def g41 {R : Type} (N : Nat) : List (Nat × Con R) := [(74, c74 N), (21, c21 N), (75, c75 N)]
abbrev h41_60 : Sh := ⟨[(1, .c .sr), (4, .c (.ptr 0 0)), (5, .c (.ptr 1 0))], [(0, .box 34 [.sr, .nil, .nu .i64, .nu .i64]), (1, .box 34 [.sr, .slw 2, .nu .i64, .nu .i64]), (2, .rows (.int .i64) 3)], 3, []⟩
noncomputable def l41_60 {R : Type} (N : Nat) : LCon R := lconOf [] h41_60 fun n d K => spec_WriteAll_l0 N n d.1.1 d.2.1.1.1 d.2.1.1.2.2.1 d.2.1.1.2.2.2.1 d.2.1.2.1.1 d.2.1.2.1.2.2.1 d.2.1.2.1.2.2.2.1 d.2.1.2.2.1 (fun y0 y1 y2 y3 y4 y5 y6 => K (.exit 0) ⟨[(4, .c (.ptr 0 0)), (5, .c (.ptr 1 0))], [(0, some (.box 34 [.sr y0, .nil, .nu .i64 y1, .nu .i64 y2])), (1, some (.box 34 [.sr y3, .slw 2, .nu .i64 y4, .nu .i64 y5])), (2, some (.rows (.int .i64) 3 y6))], 3, []⟩)
noncomputable def L41 {R : Type} (N : Nat) : List (Nat × LCon R) := [(60, l41_60 N)]
theorem q41_60 {R : Type} (N : Nat) : LSpec Try.prog (gam (g41 N)) N (L41 N) 16 (subC (Try.f41.body.get rfl) [true, true, true, false, false, false]) 60 50 [(0, 48)] (l41_60 N : LCon R) :=
  lspec_of (fun d K => rfl) (fun n d K => by kernel_rfl)
theorem e41 {R : Type} (N : Nat) (d : AMs.D a41) (k : List Val → List Val → Option R) : evF Try.prog (gam (g41 N)) N (L41 N) Try.f41 (encAs a41 d (canAs a41 0)) k = u41 N d k := by kernel_rfl
theorem s41 {R : Type} (N : Nat) : Snd Try.prog 41 (c41 N : Con R) :=
  snd_eq (Γ := g41 N) (allG ⟨s74 N, s21 N, s75 N, trivial⟩) mixed Try.func41 (c := (Try.f41.body.get rfl)) rfl (by kernel_rfl) (by kernel_rfl) (Λ := L41 N) (qs := [⟨60, subC (Try.f41.body.get rfl) [true, true, true, false, false, false], 50, [(0, 48)]⟩]) (by kernel_rfl) ⟨lsome rfl (q41_60 N), trivial⟩ (e41 N)
/-- spec.CallsFor -/
noncomputable def spec_CallsFor {R : Type} (N : Nat) (script : List Int) (n_ : Int) (k : Int → Option R) : Option R :=
  spec_SinkOk N (ByteArray.empty, script, 0, 0) fun r =>
    cond (!r)
      (k 0)
      (spec_l1In N n_ 0 4000 fun r1 =>
        cond (!r1)
          (k 0)
          (spec_l24Zeros N n_ fun r2 =>
            spec_WriteAll N (ByteArray.empty, script, 0, 0) r2 fun r3 =>
              k r3.2.2.2))
abbrev a33 : List AM := [.v (.ro 3 (.int .i64)), .v (.int .i64)]
noncomputable def u33 {R : Type} (N : Nat) (d : AMs.D a33) (k : List Val → List Val → Option R) : Option R := spec_CallsFor N d.1 d.2.1 (fun r0 => k [.c (.nu .i64 r0)] [])
noncomputable def c33 {R : Type} (N : Nat) : Con R := conOf [.rd, .rd] a33 (u33 N)
noncomputable def g33 {R : Type} (N : Nat) : List (Nat × Con R) := [(21, c21 N), (53, c53 N), (64, c64 N), (41, c41 N)]
noncomputable def L33 {R : Type} (N : Nat) : List (Nat × LCon R) := []
theorem e33 {R : Type} (N : Nat) (d : AMs.D a33) (k : List Val → List Val → Option R) : evF Try.prog (gam (g33 N)) N (L33 N) Try.f33 (encAs a33 d (canAs a33 0)) k = u33 N d k := by kernel_rfl
theorem s33 {R : Type} (N : Nat) : Snd Try.prog 33 (c33 N : Con R) :=
  snd_eq (Γ := g33 N) (allG ⟨s21 N, s53 N, s64 N, s41 N, trivial⟩) mixed Try.func33 (c := (Try.f33.body.get rfl)) rfl (by kernel_rfl) (by kernel_rfl) (Λ := L33 N) (qs := []) (by kernel_rfl) trivial (e33 N)
/-- laws.FnCalls, the loop 2042 -/
noncomputable def laws_FnCalls_l0 {R : Type} (N : Nat) : Nat → Int → Int → ByteArray → Int → List Int → (Int → Int → ByteArray → List Int → Option R) → Option R
  | 0, _, _, _, _, _, _ => none
  | n + 1, n_, m, s, i, xs, x0_ =>
    cond (decide (i < n_))
      (cond (decide (i < 40))
        (cond (decide (0 ≤ i.tmod 3 ∧ i.tmod 3 ≤ w64 ((i.tmod 3) + 1) ∧ w64 ((i.tmod 3) + 1) ≤ ((bs [120, 121, 122]).size : Int)))
          (cond (decide (s.size + ((bs [120, 121, 122]).extract ((i.tmod 3).toNat) ((w64 ((i.tmod 3) + 1)).toNat)).size ≤ 1152921504606846976))
            (laws_FnCalls_l0 N n n_ m (s ++ ((bs [120, 121, 122]).extract ((i.tmod 3).toNat) ((w64 ((i.tmod 3) + 1)).toNat))) (w64 (i + 1)) xs x0_)
            none)
          none)
        (x0_ n_ m s xs))
      (x0_ n_ m s xs)
/-- laws.FnCalls -/
noncomputable def laws_FnCalls {R : Type} (N : Nat) (code : List Int) (k : Bool → Option R) : Option R :=
  laws_big N code fun r =>
    cond r
      (k true)
      (spec_DrawCallsFor N code fun r1 r2 =>
        impl_CallsFor N r1 r2 fun r3 =>
          spec_CallsFor N r1 r2 fun r4 =>
            cond (!(decide (r3 = r4)))
              (k false)
              (cond (decide (r2 < 0))
                (k (decide (r3 = 0)))
                (cond (decide (4000 < r2))
                  (k (decide (r3 = 0)))
                  (laws_FnCalls_l0 N N r2 r3 ByteArray.empty 0 r1
                    (fun n_1 m1 s1 xs1 =>
                      cond (decide (40 < n_1))
                        (k true)
                        (impl_WriteAll N (ByteArray.empty, xs1, 0, 0) s1 fun r5 =>
                          k (decide (r5.2.2.2 = m1))))))))
abbrev a8 : List AM := [.v (.ro 5 (.int .u8))]
noncomputable def u8 {R : Type} (N : Nat) (d : AMs.D a8) (k : List Val → List Val → Option R) : Option R := laws_FnCalls N d.1 (fun r0 => k [.c (.bo r0)] [])
noncomputable def c8 {R : Type} (N : Nat) : Con R := conOf [.rd] a8 (u8 N)
noncomputable def g8 {R : Type} (N : Nat) : List (Nat × Con R) := [(37, c37 N), (38, c38 N), (35, c35 N), (33, c33 N), (39, c39 N)]
abbrev h8_2042 : Sh := ⟨[(3, .c (.slw 0)), (4, .c (.nu .i64)), (5, .c (.nu .i64)), (6, .c .sr), (7, .c (.nu .i64))], [(0, .rows (.int .i64) 3)], 1, []⟩
noncomputable def l8_2042 {R : Type} (N : Nat) : LCon R := lconOf [] h8_2042 fun n d K => laws_FnCalls_l0 N n d.1.2.1 d.1.2.2.1 d.1.2.2.2.1 d.1.2.2.2.2.1 d.2.1.1 (fun y0 y1 y2 y3 => K (.exit 0) ⟨[(3, .c (.slw 0)), (4, .c (.nu .i64 y0)), (5, .c (.nu .i64 y1)), (6, .c (.sr y2))], [(0, some (.rows (.int .i64) 3 y3))], 1, []⟩)
noncomputable def L8 {R : Type} (N : Nat) : List (Nat × LCon R) := [(2042, l8_2042 N)]
theorem q8_2042 {R : Type} (N : Nat) : LSpec Try.prog (gam (g8 N)) N (L8 N) 4 (subC (Try.f8.body.get rfl) [true, true, true, true, true, true, true, false, true, false, false]) 2042 248 [(0, 120)] (l8_2042 N : LCon R) :=
  lspec_of (fun d K => rfl) (fun n d K => by kernel_rfl)
theorem e8 {R : Type} (N : Nat) (d : AMs.D a8) (k : List Val → List Val → Option R) : evF Try.prog (gam (g8 N)) N (L8 N) Try.f8 (encAs a8 d (canAs a8 0)) k = u8 N d k := by kernel_rfl
theorem s8 {R : Type} (N : Nat) : Snd Try.prog 8 (c8 N : Con R) :=
  snd_eq (Γ := g8 N) (allG ⟨s37 N, s38 N, s35 N, s33 N, s39 N, trivial⟩) mixed Try.func8 (c := (Try.f8.body.get rfl)) rfl (by kernel_rfl) (by kernel_rfl) (Λ := L8 N) (qs := [⟨2042, subC (Try.f8.body.get rfl) [true, true, true, true, true, true, true, false, true, false, false], 248, [(0, 120)]⟩]) (by kernel_rfl) ⟨lsome rfl (q8_2042 N), trivial⟩ (e8 N)
/-- laws.toIntS, the loop 58 -/
noncomputable def laws_toIntS_l0 {R : Type} (N : Nat) : Nat → List Int → Int → List Int → (List Int → Option R) → Option R
  | 0, _, _, _, _ => none
  | n + 1, a1, i, xs, x0_ =>
    cond (decide (i < (a1.length : Int)))
      (cond (idxE a1.length i)
        (cond (idxE xs.length i)
          (laws_toIntS_l0 N n a1 (w64 (i + 1)) (xs.set i.toNat (a1.getD i.toNat 0)) x0_)
          none)
        none)
      (x0_ xs)
/-- laws.toIntS -/
noncomputable def laws_toIntS {R : Type} (N : Nat) (a : List Int) (k : List Int → Option R) : Option R :=
  cond (decide (0 ≤ (a.length : Int) ∧ (a.length : Int) ≤ (a.length : Int) ∧ (a.length : Int) ≤ 4611686018427387904 ∧ (8 : Int) * (a.length : Int) ≤ 140737488355328))
    (laws_toIntS_l0 N N a 0 (List.replicate ((a.length : Int).toNat) 0)
      (fun xs1 =>
        k xs1))
    none
abbrev a34 : List AM := [.v (.ro 3 (.int .i64))]
noncomputable def u34 {R : Type} (N : Nat) (d : AMs.D a34) (k : List Val → List Val → Option R) : Option R := laws_toIntS N d.1 (fun r0 => k [.c (.own (.int .i64) 3 r0)] [])
noncomputable def c34 {R : Type} (N : Nat) : Con R := conOf [.rd] a34 (u34 N)
noncomputable def g34 {R : Type} (N : Nat) : List (Nat × Con R) := []
abbrev h34_58 : Sh := ⟨[(0, .c (.ro 0 3 (.int .i64))), (3, .c (.slw 0)), (4, .c (.nu .i64))], [(0, .rows (.int .i64) 3)], 1, []⟩
noncomputable def l34_58 {R : Type} (N : Nat) : LCon R := lconOf [] h34_58 fun n d K => laws_toIntS_l0 N n d.1.1 d.1.2.2.1 d.2.1.1 (fun y0 => K (.exit 0) ⟨[(3, .c (.slw 0))], [(0, some (.rows (.int .i64) 3 y0))], 1, []⟩)
noncomputable def L34 {R : Type} (N : Nat) : List (Nat × LCon R) := [(58, l34_58 N)]
theorem q34_58 {R : Type} (N : Nat) : LSpec Try.prog (gam (g34 N)) N (L34 N) 4 (subC (Try.f34.body.get rfl) [true, true, false, true, false, false]) 58 25 [(0, 8)] (l34_58 N : LCon R) :=
  lspec_of (fun d K => rfl) (fun n d K => by kernel_rfl)
theorem e34 {R : Type} (N : Nat) (d : AMs.D a34) (k : List Val → List Val → Option R) : evF Try.prog (gam (g34 N)) N (L34 N) Try.f34 (encAs a34 d (canAs a34 0)) k = u34 N d k := by kernel_rfl
theorem s34 {R : Type} (N : Nat) : Snd Try.prog 34 (c34 N : Con R) :=
  snd_eq (Γ := g34 N) (allG trivial) mixed Try.func34 (c := (Try.f34.body.get rfl)) rfl (by kernel_rfl) (by kernel_rfl) (Λ := L34 N) (qs := [⟨58, subC (Try.f34.body.get rfl) [true, true, false, true, false, false], 25, [(0, 8)]⟩]) (by kernel_rfl) ⟨lsome rfl (q34_58 N), trivial⟩ (e34 N)
/-- laws.eqIntS, the loop 58 -/
noncomputable def laws_eqIntS_l0 {R : Type} (N : Nat) : Nat → List Int → List Int → Int → (Bool → Option R) → Option R → Option R
  | 0, _, _, _, _, _ => none
  | n + 1, a1, b1, i, x0_, x1_ =>
    cond (decide (i < (a1.length : Int)))
      (cond (idxE a1.length i)
        (cond (idxE b1.length i)
          (cond (!(decide ((a1.getD i.toNat 0) = (b1.getD i.toNat 0))))
            (x0_ false)
            (laws_eqIntS_l0 N n a1 b1 (w64 (i + 1)) x0_ x1_))
          none)
        none)
      x1_
/-- laws.eqIntS -/
noncomputable def laws_eqIntS {R : Type} (N : Nat) (a : List Int) (b : List Int) (k : Bool → Option R) : Option R :=
  cond (!(decide ((a.length : Int) = (b.length : Int))))
    (k false)
    (laws_eqIntS_l0 N N a b 0
      (fun v =>
        k v)
      (k true))
abbrev a36 : List AM := [.v (.ro 3 (.int .i64)), .v (.ro 3 (.int .i64))]
noncomputable def u36 {R : Type} (N : Nat) (d : AMs.D a36) (k : List Val → List Val → Option R) : Option R := laws_eqIntS N d.1 d.2.1 (fun r0 => k [.c (.bo r0)] [])
noncomputable def c36 {R : Type} (N : Nat) : Con R := conOf [.rd, .rd] a36 (u36 N)
noncomputable def g36 {R : Type} (N : Nat) : List (Nat × Con R) := []
abbrev h36_58 : Sh := ⟨[(0, .c (.ro 0 3 (.int .i64))), (1, .c (.ro 1 3 (.int .i64))), (5, .c (.nu .i64))], [], 0, []⟩
noncomputable def l36_58 {R : Type} (N : Nat) : LCon R := lconOf [] h36_58 fun n d K => laws_eqIntS_l0 N n d.1.1 d.1.2.1 d.1.2.2.1 (fun y0 => K .ret ⟨[(4, .c (.bo y0))], [], 0, []⟩) (K (.exit 0) ⟨[], [], 0, []⟩)
noncomputable def L36 {R : Type} (N : Nat) : List (Nat × LCon R) := [(58, l36_58 N)]
theorem q36_58 {R : Type} (N : Nat) : LSpec Try.prog (gam (g36 N)) N (L36 N) 16 (subC (Try.f36.body.get rfl) [true, true, false, true, false, false]) 58 35 [(0, 0)] (l36_58 N : LCon R) :=
  lspec_of (fun d K => rfl) (fun n d K => by kernel_rfl)
theorem e36 {R : Type} (N : Nat) (d : AMs.D a36) (k : List Val → List Val → Option R) : evF Try.prog (gam (g36 N)) N (L36 N) Try.f36 (encAs a36 d (canAs a36 0)) k = u36 N d k := by kernel_rfl
theorem s36 {R : Type} (N : Nat) : Snd Try.prog 36 (c36 N : Con R) :=
  snd_eq (Γ := g36 N) (allG trivial) mixed Try.func36 (c := (Try.f36.body.get rfl)) rfl (by kernel_rfl) (by kernel_rfl) (Λ := L36 N) (qs := [⟨58, subC (Try.f36.body.get rfl) [true, true, false, true, false, false], 35, [(0, 0)]⟩]) (by kernel_rfl) ⟨lsome rfl (q36_58 N), trivial⟩ (e36 N)
/-- laws.FnExactCallsFor -/
noncomputable def laws_FnExactCallsFor {R : Type} (N : Nat) (aScript : List Int) (aN : Int) (k : Bool → Option R) : Option R :=
  cond (decide (1048576 < (aScript.length : Int)))
    (k true)
    (laws_toIntS N aScript fun r =>
      spec_CallsFor N r aN fun r1 =>
        laws_toIntS N aScript fun r2 =>
          impl_CallsFor N r2 aN fun r3 =>
            cond (!(decide (r3 = r1)))
              (k false)
              (laws_toIntS N aScript fun r4 =>
                laws_eqIntS N r2 r4 fun r5 =>
                  cond (!r5)
                    (k false)
                    (k true)))
abbrev a7 : List AM := [.v (.ro 3 (.int .i64)), .v (.int .i64)]
noncomputable def u7 {R : Type} (N : Nat) (d : AMs.D a7) (k : List Val → List Val → Option R) : Option R := laws_FnExactCallsFor N d.1 d.2.1 (fun r0 => k [.c (.bo r0)] [])
noncomputable def c7 {R : Type} (N : Nat) : Con R := conOf [.rd, .rd] a7 (u7 N)
noncomputable def g7 {R : Type} (N : Nat) : List (Nat × Con R) := [(34, c34 N), (33, c33 N), (35, c35 N), (36, c36 N)]
noncomputable def L7 {R : Type} (N : Nat) : List (Nat × LCon R) := []
theorem e7 {R : Type} (N : Nat) (d : AMs.D a7) (k : List Val → List Val → Option R) : evF Try.prog (gam (g7 N)) N (L7 N) Try.f7 (encAs a7 d (canAs a7 0)) k = u7 N d k := by kernel_rfl
theorem s7 {R : Type} (N : Nat) : Snd Try.prog 7 (c7 N : Con R) :=
  snd_eq (Γ := g7 N) (allG ⟨s34 N, s33 N, s35 N, s36 N, trivial⟩) mixed Try.func7 (c := (Try.f7.body.get rfl)) rfl (by kernel_rfl) (by kernel_rfl) (Λ := L7 N) (qs := []) (by kernel_rfl) trivial (e7 N)
/-- laws.szEvent -/
noncomputable def laws_szEvent {R : Type} (N : Nat) (a : DEvent) (left : Int) (k : Int → Option R) : Option R :=
  cond (decide ((w64 (left - (a.2.2.2.2.1.size : Int))) < 0))
    (k (-1))
    (k (w64 (left - (a.2.2.2.2.1.size : Int))))
abbrev a58 : List AM := [.a (.pr (.int .i64) (.pr (.int .i64) (.pr (.int .u64) (.pr (.int .i64) (.pr .str (.pr (.int .i64) (.int .i64))))))), .v (.int .i64)]
noncomputable def u58 {R : Type} (N : Nat) (d : AMs.D a58) (k : List Val → List Val → Option R) : Option R := laws_szEvent N d.1 d.2.1 (fun r0 => k [.c (.nu .i64 r0)] [])
noncomputable def c58 {R : Type} (N : Nat) : Con R := conOf [.rd, .rd] a58 (u58 N)
noncomputable def g58 {R : Type} (N : Nat) : List (Nat × Con R) := []
noncomputable def L58 {R : Type} (N : Nat) : List (Nat × LCon R) := []
theorem e58 {R : Type} (N : Nat) (d : AMs.D a58) (k : List Val → List Val → Option R) : evF Try.prog (gam (g58 N)) N (L58 N) Try.f58 (encAs a58 d (canAs a58 0)) k = u58 N d k := by kernel_rfl
theorem s58 {R : Type} (N : Nat) : Snd Try.prog 58 (c58 N : Con R) :=
  snd_eq (Γ := g58 N) (allG trivial) mixed Try.func58 (c := (Try.f58.body.get rfl)) rfl (by kernel_rfl) (by kernel_rfl) (Λ := L58 N) (qs := []) (by kernel_rfl) trivial (e58 N)
/-- laws.szEventS, the loop 122 -/
noncomputable def laws_szEventS_l0 {R : Type} (N : Nat) : Nat → List DEvent → Int → Int → (Int → Option R) → (Int → Option R) → Option R
  | 0, _, _, _, _, _ => none
  | n + 1, a1, left1, i, x0_, x1_ =>
    cond (decide (i < (a1.length : Int)))
      (cond (idxE a1.length i)
        (laws_szEvent N (a1.getD i.toNat YEvent.z) left1 fun r =>
          cond (decide (r < 0))
            (x0_ (-1))
            (laws_szEventS_l0 N n a1 r (w64 (i + 1)) x0_ x1_))
        none)
      (x1_ left1)
/-- laws.szEventS -/
noncomputable def laws_szEventS {R : Type} (N : Nat) (a : List DEvent) (left : Int) (k : Int → Option R) : Option R :=
  cond (decide ((w64 (left - (a.length : Int))) < 0))
    (k (-1))
    (laws_szEventS_l0 N N a (w64 (left - (a.length : Int))) 0
      (fun v =>
        k v)
      (fun left2 =>
        k left2))
abbrev a25 : List AM := [.v (.ro 75 YEvent), .v (.int .i64)]
noncomputable def u25 {R : Type} (N : Nat) (d : AMs.D a25) (k : List Val → List Val → Option R) : Option R := laws_szEventS N d.1 d.2.1 (fun r0 => k [.c (.nu .i64 r0)] [])
noncomputable def c25 {R : Type} (N : Nat) : Con R := conOf [.rd, .rd] a25 (u25 N)
noncomputable def g25 {R : Type} (N : Nat) : List (Nat × Con R) := [(58, c58 N)]
abbrev h25_122 : Sh := ⟨[(0, .c (.ro 0 75 YEvent)), (1, .c (.nu .i64)), (5, .c (.nu .i64))], [], 0, []⟩
noncomputable def l25_122 {R : Type} (N : Nat) : LCon R := lconOf [] h25_122 fun n d K => laws_szEventS_l0 N n d.1.1 d.1.2.1 d.1.2.2.1 (fun y0 => K .ret ⟨[(4, .c (.nu .i64 y0))], [], 0, []⟩) (fun y0 => K (.exit 0) ⟨[(1, .c (.nu .i64 y0))], [], 0, []⟩)
noncomputable def L25 {R : Type} (N : Nat) : List (Nat × LCon R) := [(122, l25_122 N)]
theorem q25_122 {R : Type} (N : Nat) : LSpec Try.prog (gam (g25 N)) N (L25 N) 16 (subC (Try.f25.body.get rfl) [true, true, true, false, true, false, false]) 122 35 [(0, 2)] (l25_122 N : LCon R) :=
  lspec_of (fun d K => rfl) (fun n d K => by kernel_rfl)
theorem e25 {R : Type} (N : Nat) (d : AMs.D a25) (k : List Val → List Val → Option R) : evF Try.prog (gam (g25 N)) N (L25 N) Try.f25 (encAs a25 d (canAs a25 0)) k = u25 N d k := by kernel_rfl
theorem s25 {R : Type} (N : Nat) : Snd Try.prog 25 (c25 N : Con R) :=
  snd_eq (Γ := g25 N) (allG ⟨s58 N, trivial⟩) mixed Try.func25 (c := (Try.f25.body.get rfl)) rfl (by kernel_rfl) (by kernel_rfl) (Λ := L25 N) (qs := [⟨122, subC (Try.f25.body.get rfl) [true, true, true, false, true, false, false], 35, [(0, 2)]⟩]) (by kernel_rfl) ⟨lsome rfl (q25_122 N), trivial⟩ (e25 N)
/-- laws.toEvent -/
noncomputable def laws_toEvent {R : Type} (N : Nat) (a : DEvent) (k : DEvent → Option R) : Option R :=
  k a
abbrev a60 : List AM := [.a (.pr (.int .i64) (.pr (.int .i64) (.pr (.int .u64) (.pr (.int .i64) (.pr .str (.pr (.int .i64) (.int .i64)))))))]
noncomputable def u60 {R : Type} (N : Nat) (d : AMs.D a60) (k : List Val → List Val → Option R) : Option R := laws_toEvent N d.1 (fun r0 => k [.agg [.nu .i64 r0.1, .nu .i64 r0.2.1, .nu .u64 r0.2.2.1, .nu .i64 r0.2.2.2.1, .sr r0.2.2.2.2.1, .nu .i64 r0.2.2.2.2.2.1, .nu .i64 r0.2.2.2.2.2.2]] [])
noncomputable def c60 {R : Type} (N : Nat) : Con R := conOf [.rd] a60 (u60 N)
noncomputable def g60 {R : Type} (N : Nat) : List (Nat × Con R) := []
noncomputable def L60 {R : Type} (N : Nat) : List (Nat × LCon R) := []
theorem e60 {R : Type} (N : Nat) (d : AMs.D a60) (k : List Val → List Val → Option R) : evF Try.prog (gam (g60 N)) N (L60 N) Try.f60 (encAs a60 d (canAs a60 0)) k = u60 N d k := by kernel_rfl
theorem s60 {R : Type} (N : Nat) : Snd Try.prog 60 (c60 N : Con R) :=
  snd_eq (Γ := g60 N) (allG trivial) mixed Try.func60 (c := (Try.f60.body.get rfl)) rfl (by kernel_rfl) (by kernel_rfl) (Λ := L60 N) (qs := []) (by kernel_rfl) trivial (e60 N)
/-- laws.toEventS, the loop 58 -/
noncomputable def laws_toEventS_l0 {R : Type} (N : Nat) : Nat → List DEvent → Int → List DEvent → (List DEvent → Option R) → Option R
  | 0, _, _, _, _ => none
  | n + 1, a1, i, xs, x0_ =>
    cond (decide (i < (a1.length : Int)))
      (cond (idxE a1.length i)
        (laws_toEvent N (a1.getD i.toNat YEvent.z) fun r =>
          cond (idxE xs.length i)
            (laws_toEventS_l0 N n a1 (w64 (i + 1)) (xs.set i.toNat r) x0_)
            none)
        none)
      (x0_ xs)
/-- laws.toEventS -/
noncomputable def laws_toEventS {R : Type} (N : Nat) (a : List DEvent) (k : List DEvent → Option R) : Option R :=
  cond (decide (0 ≤ (a.length : Int) ∧ (a.length : Int) ≤ (a.length : Int) ∧ (a.length : Int) ≤ 4611686018427387904 ∧ (64 : Int) * (a.length : Int) ≤ 140737488355328))
    (laws_toEventS_l0 N N a 0 (List.replicate ((a.length : Int).toNat) (0, 0, 0, 0, ByteArray.empty, 0, 0))
      (fun xs1 =>
        k xs1))
    none
abbrev a27 : List AM := [.v (.ro 75 YEvent)]
noncomputable def u27 {R : Type} (N : Nat) (d : AMs.D a27) (k : List Val → List Val → Option R) : Option R := laws_toEventS N d.1 (fun r0 => k [.c (.own YEvent 42 r0)] [])
noncomputable def c27 {R : Type} (N : Nat) : Con R := conOf [.rd] a27 (u27 N)
noncomputable def g27 {R : Type} (N : Nat) : List (Nat × Con R) := [(60, c60 N)]
abbrev h27_58 : Sh := ⟨[(0, .c (.ro 0 75 YEvent)), (3, .c (.slw 0)), (4, .c (.nu .i64))], [(0, .rows YEvent 42)], 1, []⟩
noncomputable def l27_58 {R : Type} (N : Nat) : LCon R := lconOf [] h27_58 fun n d K => laws_toEventS_l0 N n d.1.1 d.1.2.2.1 d.2.1.1 (fun y0 => K (.exit 0) ⟨[(3, .c (.slw 0))], [(0, some (.rows YEvent 42 y0))], 1, []⟩)
noncomputable def L27 {R : Type} (N : Nat) : List (Nat × LCon R) := [(58, l27_58 N)]
theorem q27_58 {R : Type} (N : Nat) : LSpec Try.prog (gam (g27 N)) N (L27 N) 4 (subC (Try.f27.body.get rfl) [true, true, false, true, false, false]) 58 25 [(0, 8)] (l27_58 N : LCon R) :=
  lspec_of (fun d K => rfl) (fun n d K => by kernel_rfl)
theorem e27 {R : Type} (N : Nat) (d : AMs.D a27) (k : List Val → List Val → Option R) : evF Try.prog (gam (g27 N)) N (L27 N) Try.f27 (encAs a27 d (canAs a27 0)) k = u27 N d k := by kernel_rfl
theorem s27 {R : Type} (N : Nat) : Snd Try.prog 27 (c27 N : Con R) :=
  snd_eq (Γ := g27 N) (allG ⟨s60 N, trivial⟩) mixed Try.func27 (c := (Try.f27.body.get rfl)) rfl (by kernel_rfl) (by kernel_rfl) (Λ := L27 N) (qs := [⟨58, subC (Try.f27.body.get rfl) [true, true, false, true, false, false], 25, [(0, 8)]⟩]) (by kernel_rfl) ⟨lsome rfl (q27_58 N), trivial⟩ (e27 N)
/-- spec.Terminal -/
noncomputable def spec_Terminal {R : Type} (N : Nat) (e : DEvent) (k : Bool → Option R) : Option R :=
  cond (decide (e.1 = 9))
    (k true)
    (k (decide (e.1 = 10)))
abbrev a59 : List AM := [.a (.pr (.int .i64) (.pr (.int .i64) (.pr (.int .u64) (.pr (.int .i64) (.pr .str (.pr (.int .i64) (.int .i64)))))))]
noncomputable def u59 {R : Type} (N : Nat) (d : AMs.D a59) (k : List Val → List Val → Option R) : Option R := spec_Terminal N d.1 (fun r0 => k [.c (.bo r0)] [])
noncomputable def c59 {R : Type} (N : Nat) : Con R := conOf [.rd] a59 (u59 N)
noncomputable def g59 {R : Type} (N : Nat) : List (Nat × Con R) := []
noncomputable def L59 {R : Type} (N : Nat) : List (Nat × LCon R) := []
theorem e59 {R : Type} (N : Nat) (d : AMs.D a59) (k : List Val → List Val → Option R) : evF Try.prog (gam (g59 N)) N (L59 N) Try.f59 (encAs a59 d (canAs a59 0)) k = u59 N d k := by kernel_rfl
theorem s59 {R : Type} (N : Nat) : Snd Try.prog 59 (c59 N : Con R) :=
  snd_eq (Γ := g59 N) (allG trivial) mixed Try.func59 (c := (Try.f59.body.get rfl)) rfl (by kernel_rfl) (by kernel_rfl) (Λ := L59 N) (qs := []) (by kernel_rfl) trivial (e59 N)
/-- spec.EndOf, the loop 26 -/
noncomputable def spec_EndOf_l0 {R : Type} (N : Nat) : Nat → List DEvent → Int → Int → Int → Int → Int → ByteArray → Int → Int → (Int → Int → Int → Int → ByteArray → Int → Int → Option R) → (Int → Int → Int → Int → ByteArray → Int → Int → Option R) → Option R
  | 0, _, _, _, _, _, _, _, _, _, _, _ => none
  | n + 1, list1, i, b, b1, b2, b3, b4, b5, b6, x0_, x1_ =>
    cond (decide (i < (list1.length : Int)))
      (cond (idxE list1.length i)
        (spec_Terminal N (list1.getD i.toNat YEvent.z) fun r =>
          cond r
            (cond (idxE list1.length i)
              (x0_ ((list1.getD i.toNat YEvent.z).1) (((list1.getD i.toNat YEvent.z).2).1) ((((list1.getD i.toNat YEvent.z).2).2).1) (((((list1.getD i.toNat YEvent.z).2).2).2).1) ((((((list1.getD i.toNat YEvent.z).2).2).2).2).1) (((((((list1.getD i.toNat YEvent.z).2).2).2).2).2).1) (((((((list1.getD i.toNat YEvent.z).2).2).2).2).2).2))
              none)
            (spec_EndOf_l0 N n list1 (w64 (i + 1)) b b1 b2 b3 b4 b5 b6 x0_ x1_))
        none)
      (x1_ b b1 b2 b3 b4 b5 b6)
/-- spec.EndOf -/
noncomputable def spec_EndOf {R : Type} (N : Nat) (list : List DEvent) (k : DEvent → Option R) : Option R :=
  spec_EndOf_l0 N N list 0 0 0 0 0 ByteArray.empty 0 0
    (fun b7 b8 b9 b10 b11 b12 b13 =>
      k (b7, b8, b9, b10, b11, b12, b13))
    (fun b14 b15 b16 b17 b18 b19 b20 =>
      k (0, 0, 0, 0, ByteArray.empty, 0, 0))
abbrev a26 : List AM := [.v (.ro 42 YEvent)]
noncomputable def u26 {R : Type} (N : Nat) (d : AMs.D a26) (k : List Val → List Val → Option R) : Option R := spec_EndOf N d.1 (fun r0 => k [.agg [.nu .i64 r0.1, .nu .i64 r0.2.1, .nu .u64 r0.2.2.1, .nu .i64 r0.2.2.2.1, .sr r0.2.2.2.2.1, .nu .i64 r0.2.2.2.2.2.1, .nu .i64 r0.2.2.2.2.2.2]] [])
noncomputable def c26 {R : Type} (N : Nat) : Con R := conOf [.rd] a26 (u26 N)
noncomputable def g26 {R : Type} (N : Nat) : List (Nat × Con R) := [(59, c59 N)]
abbrev h26_26 : Sh := ⟨[(0, .c (.ro 0 42 YEvent)), (2, .c (.ptr 0 0)), (3, .c (.nu .i64))], [(0, .box 42 [.nu .i64, .nu .i64, .nu .u64, .nu .i64, .sr, .nu .i64, .nu .i64])], 1, []⟩
noncomputable def l26_26 {R : Type} (N : Nat) : LCon R := lconOf [] h26_26 fun n d K => spec_EndOf_l0 N n d.1.1 d.1.2.2.1 d.2.1.1.1 d.2.1.1.2.1 d.2.1.1.2.2.1 d.2.1.1.2.2.2.1 d.2.1.1.2.2.2.2.1 d.2.1.1.2.2.2.2.2.1 d.2.1.1.2.2.2.2.2.2.1 (fun y0 y1 y2 y3 y4 y5 y6 => K .ret ⟨[(2, .c (.ptr 0 0))], [(0, some (.box 42 [.nu .i64 y0, .nu .i64 y1, .nu .u64 y2, .nu .i64 y3, .sr y4, .nu .i64 y5, .nu .i64 y6]))], 1, []⟩) (fun y0 y1 y2 y3 y4 y5 y6 => K (.exit 0) ⟨[(2, .c (.ptr 0 0))], [(0, some (.box 42 [.nu .i64 y0, .nu .i64 y1, .nu .u64 y2, .nu .i64 y3, .sr y4, .nu .i64 y5, .nu .i64 y6]))], 1, []⟩)
noncomputable def L26 {R : Type} (N : Nat) : List (Nat × LCon R) := [(26, l26_26 N)]
theorem q26_26 {R : Type} (N : Nat) : LSpec Try.prog (gam (g26 N)) N (L26 N) 4 (subC (Try.f26.body.get rfl) [true, false, true, false, false]) 26 13 [(0, 4)] (l26_26 N : LCon R) :=
  lspec_of (fun d K => rfl) (fun n d K => by kernel_rfl)
theorem e26 {R : Type} (N : Nat) (d : AMs.D a26) (k : List Val → List Val → Option R) : evF Try.prog (gam (g26 N)) N (L26 N) Try.f26 (encAs a26 d (canAs a26 0)) k = u26 N d k := by kernel_rfl
theorem s26 {R : Type} (N : Nat) : Snd Try.prog 26 (c26 N : Con R) :=
  snd_eq (Γ := g26 N) (allG ⟨s59 N, trivial⟩) mixed Try.func26 (c := (Try.f26.body.get rfl)) rfl (by kernel_rfl) (by kernel_rfl) (Λ := L26 N) (qs := [⟨26, subC (Try.f26.body.get rfl) [true, false, true, false, false], 13, [(0, 4)]⟩]) (by kernel_rfl) ⟨lsome rfl (q26_26 N), trivial⟩ (e26 N)
/-- impl.Terminal -/
noncomputable def impl_Terminal {R : Type} (N : Nat) (e : DEvent) (k : Bool → Option R) : Option R :=
  cond (decide (e.1 = 9))
    (k true)
    (k (decide (e.1 = 10)))
abbrev a62 : List AM := [.a (.pr (.int .i64) (.pr (.int .i64) (.pr (.int .u64) (.pr (.int .i64) (.pr .str (.pr (.int .i64) (.int .i64)))))))]
noncomputable def u62 {R : Type} (N : Nat) (d : AMs.D a62) (k : List Val → List Val → Option R) : Option R := impl_Terminal N d.1 (fun r0 => k [.c (.bo r0)] [])
noncomputable def c62 {R : Type} (N : Nat) : Con R := conOf [.rd] a62 (u62 N)
noncomputable def g62 {R : Type} (N : Nat) : List (Nat × Con R) := []
noncomputable def L62 {R : Type} (N : Nat) : List (Nat × LCon R) := []
theorem e62 {R : Type} (N : Nat) (d : AMs.D a62) (k : List Val → List Val → Option R) : evF Try.prog (gam (g62 N)) N (L62 N) Try.f62 (encAs a62 d (canAs a62 0)) k = u62 N d k := by kernel_rfl
theorem s62 {R : Type} (N : Nat) : Snd Try.prog 62 (c62 N : Con R) :=
  snd_eq (Γ := g62 N) (allG trivial) mixed Try.func62 (c := (Try.f62.body.get rfl)) rfl (by kernel_rfl) (by kernel_rfl) (Λ := L62 N) (qs := []) (by kernel_rfl) trivial (e62 N)
/-- slices.IndexFunc[[]impl.Event,impl.Event], the loop 26 -/
noncomputable def slices_IndexFunc_impl_Event_impl_Event_Terminal_l0 {R : Type} (N : Nat) : Nat → List DEvent → Int → Int → (Int → Option R) → Option R → Option R
  | 0, _, _, _, _, _ => none
  | n + 1, s1, v, v1, x0_, x1_ =>
    cond (decide (v1 < v))
      (cond (idxE s1.length v1)
        (impl_Terminal N (s1.getD v1.toNat YEvent.z) fun r =>
          cond r
            (x0_ v1)
            (slices_IndexFunc_impl_Event_impl_Event_Terminal_l0 N n s1 v (w64 (v1 + 1)) x0_ x1_))
        none)
      x1_
/-- slices.IndexFunc[[]impl.Event,impl.Event] -/
noncomputable def slices_IndexFunc_impl_Event_impl_Event_Terminal {R : Type} (N : Nat) (s : List DEvent) (k : Int → Option R) : Option R :=
  slices_IndexFunc_impl_Event_impl_Event_Terminal_l0 N N s (s.length : Int) 0
    (fun v2 =>
      k v2)
    (k (-1))
abbrev a61v62 : List AM := [.v (.ro 42 YEvent), .f 62]
noncomputable def u61v62 {R : Type} (N : Nat) (d : AMs.D a61v62) (k : List Val → List Val → Option R) : Option R := slices_IndexFunc_impl_Event_impl_Event_Terminal N d.1 (fun r0 => k [.c (.nu .i64 r0)] [])
noncomputable def c61v62 {R : Type} (N : Nat) : Con R := conOf [.rd, .rd] a61v62 (u61v62 N)
noncomputable def g61v62 {R : Type} (N : Nat) : List (Nat × Con R) := [(62, c62 N)]
abbrev h61v62_26 : Sh := ⟨[(0, .c (.ro 0 42 YEvent)), (1, .c (.fn 62 [])), (7, .c (.nu .i64)), (8, .c (.nu .i64))], [], 0, []⟩
noncomputable def l61v62_26 {R : Type} (N : Nat) : LCon R := lconOf [] h61v62_26 fun n d K => slices_IndexFunc_impl_Event_impl_Event_Terminal_l0 N n d.1.1 d.1.2.2.1 d.1.2.2.2.1 (fun y0 => K .ret ⟨[(4, .c (.nu .i64 y0))], [], 0, []⟩) (K (.exit 0) ⟨[], [], 0, []⟩)
noncomputable def L61v62 {R : Type} (N : Nat) : List (Nat × LCon R) := [(26, l61v62_26 N)]
theorem q61v62_26 {R : Type} (N : Nat) : LSpec Try.prog (gam (g61v62 N)) N (L61v62 N) 16 (subC (Try.f61.body.get rfl) [true, false, true, false, false]) 26 387 [(0, 0)] (l61v62_26 N : LCon R) :=
  lspec_of (fun d K => rfl) (fun n d K => by kernel_rfl)
theorem e61v62 {R : Type} (N : Nat) (d : AMs.D a61v62) (k : List Val → List Val → Option R) : evF Try.prog (gam (g61v62 N)) N (L61v62 N) Try.f61 (encAs a61v62 d (canAs a61v62 0)) k = u61v62 N d k := by kernel_rfl
theorem s61v62 {R : Type} (N : Nat) : Snd Try.prog 61 (c61v62 N : Con R) :=
  snd_eq (Γ := g61v62 N) (allG ⟨s62 N, trivial⟩) mixed Try.func61 (c := (Try.f61.body.get rfl)) rfl (by kernel_rfl) (by kernel_rfl) (Λ := L61v62 N) (qs := [⟨26, subC (Try.f61.body.get rfl) [true, false, true, false, false], 387, [(0, 0)]⟩]) (by kernel_rfl) ⟨lsome rfl (q61v62_26 N), trivial⟩ (e61v62 N)
/-- impl.EndOf -/
noncomputable def impl_EndOf {R : Type} (N : Nat) (list : List DEvent) (k : DEvent → Option R) : Option R :=
  slices_IndexFunc_impl_Event_impl_Event_Terminal N list fun r =>
    cond (decide (r < 0))
      (k (0, 0, 0, 0, ByteArray.empty, 0, 0))
      (cond (idxE list.length r)
        (k (list.getD r.toNat YEvent.z))
        none)
abbrev a28 : List AM := [.v (.ro 42 YEvent)]
noncomputable def u28 {R : Type} (N : Nat) (d : AMs.D a28) (k : List Val → List Val → Option R) : Option R := impl_EndOf N d.1 (fun r0 => k [.agg [.nu .i64 r0.1, .nu .i64 r0.2.1, .nu .u64 r0.2.2.1, .nu .i64 r0.2.2.2.1, .sr r0.2.2.2.2.1, .nu .i64 r0.2.2.2.2.2.1, .nu .i64 r0.2.2.2.2.2.2]] [])
noncomputable def c28 {R : Type} (N : Nat) : Con R := conOf [.rd] a28 (u28 N)
noncomputable def g28 {R : Type} (N : Nat) : List (Nat × Con R) := [(61, c61v62 N)]
noncomputable def L28 {R : Type} (N : Nat) : List (Nat × LCon R) := []
theorem e28 {R : Type} (N : Nat) (d : AMs.D a28) (k : List Val → List Val → Option R) : evF Try.prog (gam (g28 N)) N (L28 N) Try.f28 (encAs a28 d (canAs a28 0)) k = u28 N d k := by kernel_rfl
theorem s28 {R : Type} (N : Nat) : Snd Try.prog 28 (c28 N : Con R) :=
  snd_eq (Γ := g28 N) (allG ⟨s61v62 N, trivial⟩) mixed Try.func28 (c := (Try.f28.body.get rfl)) rfl (by kernel_rfl) (by kernel_rfl) (Λ := L28 N) (qs := []) (by kernel_rfl) trivial (e28 N)
/-- laws.eqEvent -/
noncomputable def laws_eqEvent {R : Type} (N : Nat) (a : DEvent) (b : DEvent) (k : Bool → Option R) : Option R :=
  cond (!(decide (a.1 = b.1)))
    (k false)
    (cond (!(decide (a.2.1 = b.2.1)))
      (k false)
      (cond (!(decide (a.2.2.1 = b.2.2.1)))
        (k false)
        (cond (!(decide (a.2.2.2.1 = b.2.2.2.1)))
          (k false)
          (cond (!decide (a.2.2.2.2.1 = b.2.2.2.2.1))
            (k false)
            (cond (!(decide (a.2.2.2.2.2.1 = b.2.2.2.2.2.1)))
              (k false)
              (cond (!(decide (a.2.2.2.2.2.2 = b.2.2.2.2.2.2)))
                (k false)
                (k true)))))))
abbrev a29 : List AM := [.a (.pr (.int .i64) (.pr (.int .i64) (.pr (.int .u64) (.pr (.int .i64) (.pr .str (.pr (.int .i64) (.int .i64))))))), .a (.pr (.int .i64) (.pr (.int .i64) (.pr (.int .u64) (.pr (.int .i64) (.pr .str (.pr (.int .i64) (.int .i64)))))))]
noncomputable def u29 {R : Type} (N : Nat) (d : AMs.D a29) (k : List Val → List Val → Option R) : Option R := laws_eqEvent N d.1 d.2.1 (fun r0 => k [.c (.bo r0)] [])
noncomputable def c29 {R : Type} (N : Nat) : Con R := conOf [.rd, .rd] a29 (u29 N)
noncomputable def g29 {R : Type} (N : Nat) : List (Nat × Con R) := []
noncomputable def L29 {R : Type} (N : Nat) : List (Nat × LCon R) := []
theorem e29 {R : Type} (N : Nat) (d : AMs.D a29) (k : List Val → List Val → Option R) : evF Try.prog (gam (g29 N)) N (L29 N) Try.f29 (encAs a29 d (canAs a29 0)) k = u29 N d k := by kernel_rfl
theorem s29 {R : Type} (N : Nat) : Snd Try.prog 29 (c29 N : Con R) :=
  snd_eq (Γ := g29 N) (allG trivial) mixed Try.func29 (c := (Try.f29.body.get rfl)) rfl (by kernel_rfl) (by kernel_rfl) (Λ := L29 N) (qs := []) (by kernel_rfl) trivial (e29 N)
/-- laws.eqEventS, the loop 58 -/
noncomputable def laws_eqEventS_l0 {R : Type} (N : Nat) : Nat → List DEvent → List DEvent → Int → (Bool → Option R) → Option R → Option R
  | 0, _, _, _, _, _ => none
  | n + 1, a1, b1, i, x0_, x1_ =>
    cond (decide (i < (a1.length : Int)))
      (cond (idxE a1.length i)
        (cond (idxE b1.length i)
          (laws_eqEvent N (a1.getD i.toNat YEvent.z) (b1.getD i.toNat YEvent.z) fun r =>
            cond (!r)
              (x0_ false)
              (laws_eqEventS_l0 N n a1 b1 (w64 (i + 1)) x0_ x1_))
          none)
        none)
      x1_
/-- laws.eqEventS -/
noncomputable def laws_eqEventS {R : Type} (N : Nat) (a : List DEvent) (b : List DEvent) (k : Bool → Option R) : Option R :=
  cond (!(decide ((a.length : Int) = (b.length : Int))))
    (k false)
    (laws_eqEventS_l0 N N a b 0
      (fun v =>
        k v)
      (k true))
abbrev a30 : List AM := [.v (.ro 42 YEvent), .v (.ro 42 YEvent)]
noncomputable def u30 {R : Type} (N : Nat) (d : AMs.D a30) (k : List Val → List Val → Option R) : Option R := laws_eqEventS N d.1 d.2.1 (fun r0 => k [.c (.bo r0)] [])
noncomputable def c30 {R : Type} (N : Nat) : Con R := conOf [.rd, .rd] a30 (u30 N)
noncomputable def g30 {R : Type} (N : Nat) : List (Nat × Con R) := [(29, c29 N)]
abbrev h30_58 : Sh := ⟨[(0, .c (.ro 0 42 YEvent)), (1, .c (.ro 1 42 YEvent)), (5, .c (.nu .i64))], [], 0, []⟩
noncomputable def l30_58 {R : Type} (N : Nat) : LCon R := lconOf [] h30_58 fun n d K => laws_eqEventS_l0 N n d.1.1 d.1.2.1 d.1.2.2.1 (fun y0 => K .ret ⟨[(4, .c (.bo y0))], [], 0, []⟩) (K (.exit 0) ⟨[], [], 0, []⟩)
noncomputable def L30 {R : Type} (N : Nat) : List (Nat × LCon R) := [(58, l30_58 N)]
theorem q30_58 {R : Type} (N : Nat) : LSpec Try.prog (gam (g30 N)) N (L30 N) 16 (subC (Try.f30.body.get rfl) [true, true, false, true, false, false]) 58 35 [(0, 0)] (l30_58 N : LCon R) :=
  lspec_of (fun d K => rfl) (fun n d K => by kernel_rfl)
theorem e30 {R : Type} (N : Nat) (d : AMs.D a30) (k : List Val → List Val → Option R) : evF Try.prog (gam (g30 N)) N (L30 N) Try.f30 (encAs a30 d (canAs a30 0)) k = u30 N d k := by kernel_rfl
theorem s30 {R : Type} (N : Nat) : Snd Try.prog 30 (c30 N : Con R) :=
  snd_eq (Γ := g30 N) (allG ⟨s29 N, trivial⟩) mixed Try.func30 (c := (Try.f30.body.get rfl)) rfl (by kernel_rfl) (by kernel_rfl) (Λ := L30 N) (qs := [⟨58, subC (Try.f30.body.get rfl) [true, true, false, true, false, false], 35, [(0, 0)]⟩]) (by kernel_rfl) ⟨lsome rfl (q30_58 N), trivial⟩ (e30 N)
/-- laws.FnExactEndOf -/
noncomputable def laws_FnExactEndOf {R : Type} (N : Nat) (aList : List DEvent) (k : Bool → Option R) : Option R :=
  laws_szEventS N aList 1048576 fun r =>
    cond (decide (r < 0))
      (k true)
      (laws_toEventS N aList fun r1 =>
        spec_EndOf N r1 fun r2 =>
          laws_toEventS N aList fun r3 =>
            impl_EndOf N r3 fun r4 =>
              laws_eqEvent N r4 r2 fun r5 =>
                cond (!r5)
                  (k false)
                  (laws_toEventS N aList fun r6 =>
                    laws_eqEventS N r3 r6 fun r7 =>
                      cond (!r7)
                        (k false)
                        (k true)))
abbrev a5 : List AM := [.v (.ro 75 YEvent)]
noncomputable def u5 {R : Type} (N : Nat) (d : AMs.D a5) (k : List Val → List Val → Option R) : Option R := laws_FnExactEndOf N d.1 (fun r0 => k [.c (.bo r0)] [])
noncomputable def c5 {R : Type} (N : Nat) : Con R := conOf [.rd] a5 (u5 N)
noncomputable def g5 {R : Type} (N : Nat) : List (Nat × Con R) := [(25, c25 N), (27, c27 N), (26, c26 N), (28, c28 N), (29, c29 N), (30, c30 N)]
noncomputable def L5 {R : Type} (N : Nat) : List (Nat × LCon R) := []
theorem e5 {R : Type} (N : Nat) (d : AMs.D a5) (k : List Val → List Val → Option R) : evF Try.prog (gam (g5 N)) N (L5 N) Try.f5 (encAs a5 d (canAs a5 0)) k = u5 N d k := by kernel_rfl
theorem s5 {R : Type} (N : Nat) : Snd Try.prog 5 (c5 N : Con R) :=
  snd_eq (Γ := g5 N) (allG ⟨s25 N, s27 N, s26 N, s28 N, s29 N, s30 N, trivial⟩) mixed Try.func5 (c := (Try.f5.body.get rfl)) rfl (by kernel_rfl) (by kernel_rfl) (Λ := L5 N) (qs := []) (by kernel_rfl) trivial (e5 N)
/-- spec.HighWater, the loop 122 -/
noncomputable def spec_HighWater_l0 {R : Type} (N : Nat) : Nat → List DEvent → Int → Int → Int → (Int → Option R) → Option R
  | 0, _, _, _, _, _ => none
  | n + 1, list1, n_, most, i, x0_ =>
    cond (decide (i < (list1.length : Int)))
      (cond (idxE list1.length i)
        (cond (decide (((list1.getD i.toNat YEvent.z).1) = 1))
          (spec_l1Max N most (w64 (n_ + 1)) fun r =>
            spec_HighWater_l0 N n list1 (w64 (n_ + 1)) r (w64 (i + 1)) x0_)
          (cond (decide (((list1.getD i.toNat YEvent.z).1) = 6))
            (spec_l1Max N most (w64 (n_ + 1)) fun r1 =>
              spec_HighWater_l0 N n list1 (w64 (n_ + 1)) r1 (w64 (i + 1)) x0_)
            (cond (decide (((list1.getD i.toNat YEvent.z).1) = 7))
              (spec_l1Max N 0 (w64 (n_ - 1)) fun r2 =>
                spec_l1Max N most r2 fun r3 =>
                  spec_HighWater_l0 N n list1 r2 r3 (w64 (i + 1)) x0_)
              (cond (decide (((list1.getD i.toNat YEvent.z).1) = 8))
                (spec_l1Max N 0 (w64 (n_ - 1)) fun r4 =>
                  spec_l1Max N most r4 fun r5 =>
                    spec_HighWater_l0 N n list1 r4 r5 (w64 (i + 1)) x0_)
                (spec_l1Max N most n_ fun r6 =>
                  spec_HighWater_l0 N n list1 n_ r6 (w64 (i + 1)) x0_)))))
        none)
      (x0_ most)
/-- spec.HighWater -/
noncomputable def spec_HighWater {R : Type} (N : Nat) (list : List DEvent) (k : Int → Option R) : Option R :=
  spec_HighWater_l0 N N list 0 0 0
    (fun most1 =>
      k most1)
abbrev a31 : List AM := [.v (.ro 42 YEvent)]
noncomputable def u31 {R : Type} (N : Nat) (d : AMs.D a31) (k : List Val → List Val → Option R) : Option R := spec_HighWater N d.1 (fun r0 => k [.c (.nu .i64 r0)] [])
noncomputable def c31 {R : Type} (N : Nat) : Con R := conOf [.rd] a31 (u31 N)
noncomputable def g31 {R : Type} (N : Nat) : List (Nat × Con R) := [(63, c63 N)]
abbrev h31_122 : Sh := ⟨[(0, .c (.ro 0 42 YEvent)), (3, .c (.nu .i64)), (4, .c (.nu .i64)), (5, .c (.nu .i64))], [], 0, []⟩
noncomputable def l31_122 {R : Type} (N : Nat) : LCon R := lconOf [] h31_122 fun n d K => spec_HighWater_l0 N n d.1.1 d.1.2.1 d.1.2.2.1 d.1.2.2.2.1 (fun y0 => K (.exit 0) ⟨[(4, .c (.nu .i64 y0))], [], 0, []⟩)
noncomputable def L31 {R : Type} (N : Nat) : List (Nat × LCon R) := [(122, l31_122 N)]
theorem q31_122 {R : Type} (N : Nat) : LSpec Try.prog (gam (g31 N)) N (L31 N) 4 (subC (Try.f31.body.get rfl) [true, true, true, false, true, false, false]) 122 57 [(0, 16)] (l31_122 N : LCon R) :=
  lspec_of (fun d K => rfl) (fun n d K => by kernel_rfl)
theorem e31 {R : Type} (N : Nat) (d : AMs.D a31) (k : List Val → List Val → Option R) : evF Try.prog (gam (g31 N)) N (L31 N) Try.f31 (encAs a31 d (canAs a31 0)) k = u31 N d k := by kernel_rfl
theorem s31 {R : Type} (N : Nat) : Snd Try.prog 31 (c31 N : Con R) :=
  snd_eq (Γ := g31 N) (allG ⟨s63 N, trivial⟩) mixed Try.func31 (c := (Try.f31.body.get rfl)) rfl (by kernel_rfl) (by kernel_rfl) (Λ := L31 N) (qs := [⟨122, subC (Try.f31.body.get rfl) [true, true, true, false, true, false, false], 57, [(0, 16)]⟩]) (by kernel_rfl) ⟨lsome rfl (q31_122 N), trivial⟩ (e31 N)
/-- impl.HighWater, the loop 58 -/
noncomputable def impl_HighWater_l0 {R : Type} (N : Nat) : Nat → Int → Int → List DEvent → Int → Int → (Int → Option R) → Option R
  | 0, _, _, _, _, _, _ => none
  | n + 1, open_, most, v, v1, v2, x0_ =>
    cond (decide (v2 < v1))
      (cond (idxE v.length v2)
        (cond (decide (((v.getD v2.toNat YEvent.z).1) = 1))
          (impl_HighWater_l0 N n (w64 (open_ + 1)) (imax most (w64 (open_ + 1))) v v1 (w64 (v2 + 1)) x0_)
          (cond (decide (((v.getD v2.toNat YEvent.z).1) = 6))
            (impl_HighWater_l0 N n (w64 (open_ + 1)) (imax most (w64 (open_ + 1))) v v1 (w64 (v2 + 1)) x0_)
            (cond (decide (((v.getD v2.toNat YEvent.z).1) = 8))
              (impl_HighWater_l0 N n (imax (w64 (open_ - 1)) 0) (imax most (imax (w64 (open_ - 1)) 0)) v v1 (w64 (v2 + 1)) x0_)
              (cond (decide (((v.getD v2.toNat YEvent.z).1) = 7))
                (impl_HighWater_l0 N n (imax (w64 (open_ - 1)) 0) (imax most (imax (w64 (open_ - 1)) 0)) v v1 (w64 (v2 + 1)) x0_)
                (impl_HighWater_l0 N n open_ (imax most open_) v v1 (w64 (v2 + 1)) x0_)))))
        none)
      (x0_ most)
/-- impl.HighWater -/
noncomputable def impl_HighWater {R : Type} (N : Nat) (list : List DEvent) (k : Int → Option R) : Option R :=
  impl_HighWater_l0 N N 0 0 list (list.length : Int) 0
    (fun most1 =>
      k most1)
abbrev a32 : List AM := [.v (.ro 42 YEvent)]
noncomputable def u32 {R : Type} (N : Nat) (d : AMs.D a32) (k : List Val → List Val → Option R) : Option R := impl_HighWater N d.1 (fun r0 => k [.c (.nu .i64 r0)] [])
noncomputable def c32 {R : Type} (N : Nat) : Con R := conOf [.rd] a32 (u32 N)
noncomputable def g32 {R : Type} (N : Nat) : List (Nat × Con R) := []
abbrev h32_58 : Sh := ⟨[(3, .c (.nu .i64)), (4, .c (.nu .i64)), (7, .c (.ro 0 42 YEvent)), (8, .c (.nu .i64)), (9, .c (.nu .i64))], [], 0, []⟩
noncomputable def l32_58 {R : Type} (N : Nat) : LCon R := lconOf [] h32_58 fun n d K => impl_HighWater_l0 N n d.1.1 d.1.2.1 d.1.2.2.1 d.1.2.2.2.1 d.1.2.2.2.2.1 (fun y0 => K (.exit 0) ⟨[(4, .c (.nu .i64 y0))], [], 0, []⟩)
noncomputable def L32 {R : Type} (N : Nat) : List (Nat × LCon R) := [(58, l32_58 N)]
theorem q32_58 {R : Type} (N : Nat) : LSpec Try.prog (gam (g32 N)) N (L32 N) 4 (subC (Try.f32.body.get rfl) [true, true, false, true, false, false]) 58 920 [(0, 16)] (l32_58 N : LCon R) :=
  lspec_of (fun d K => rfl) (fun n d K => by kernel_rfl)
theorem e32 {R : Type} (N : Nat) (d : AMs.D a32) (k : List Val → List Val → Option R) : evF Try.prog (gam (g32 N)) N (L32 N) Try.f32 (encAs a32 d (canAs a32 0)) k = u32 N d k := by kernel_rfl
theorem s32 {R : Type} (N : Nat) : Snd Try.prog 32 (c32 N : Con R) :=
  snd_eq (Γ := g32 N) (allG trivial) mixed Try.func32 (c := (Try.f32.body.get rfl)) rfl (by kernel_rfl) (by kernel_rfl) (Λ := L32 N) (qs := [⟨58, subC (Try.f32.body.get rfl) [true, true, false, true, false, false], 920, [(0, 16)]⟩]) (by kernel_rfl) ⟨lsome rfl (q32_58 N), trivial⟩ (e32 N)
/-- laws.FnExactHighWater -/
noncomputable def laws_FnExactHighWater {R : Type} (N : Nat) (aList : List DEvent) (k : Bool → Option R) : Option R :=
  laws_szEventS N aList 1048576 fun r =>
    cond (decide (r < 0))
      (k true)
      (laws_toEventS N aList fun r1 =>
        spec_HighWater N r1 fun r2 =>
          laws_toEventS N aList fun r3 =>
            impl_HighWater N r3 fun r4 =>
              cond (!(decide (r4 = r2)))
                (k false)
                (laws_toEventS N aList fun r5 =>
                  laws_eqEventS N r3 r5 fun r6 =>
                    cond (!r6)
                      (k false)
                      (k true)))
abbrev a6 : List AM := [.v (.ro 75 YEvent)]
noncomputable def u6 {R : Type} (N : Nat) (d : AMs.D a6) (k : List Val → List Val → Option R) : Option R := laws_FnExactHighWater N d.1 (fun r0 => k [.c (.bo r0)] [])
noncomputable def c6 {R : Type} (N : Nat) : Con R := conOf [.rd] a6 (u6 N)
noncomputable def g6 {R : Type} (N : Nat) : List (Nat × Con R) := [(25, c25 N), (27, c27 N), (31, c31 N), (32, c32 N), (30, c30 N)]
noncomputable def L6 {R : Type} (N : Nat) : List (Nat × LCon R) := []
theorem e6 {R : Type} (N : Nat) (d : AMs.D a6) (k : List Val → List Val → Option R) : evF Try.prog (gam (g6 N)) N (L6 N) Try.f6 (encAs a6 d (canAs a6 0)) k = u6 N d k := by kernel_rfl
theorem s6 {R : Type} (N : Nat) : Snd Try.prog 6 (c6 N : Con R) :=
  snd_eq (Γ := g6 N) (allG ⟨s25 N, s27 N, s31 N, s32 N, s30 N, trivial⟩) mixed Try.func6 (c := (Try.f6.body.get rfl)) rfl (by kernel_rfl) (by kernel_rfl) (Λ := L6 N) (qs := []) (by kernel_rfl) trivial (e6 N)
/-- spec.l26May -/
noncomputable def spec_l26May {R : Type} (N : Nat) (stack : List Int) (kind : Int) (k : Bool → Option R) : Option R :=
  cond (decide (0 < (stack.length : Int)))
    (cond (idxE stack.length (w64 ((stack.length : Int) - 1)))
      (cond (decide (kind = 1))
        (k (decide ((stack.getD ((w64 ((stack.length : Int) - 1)).toNat) 0) = 0)))
        (cond (decide (kind = 9))
          (k (decide ((stack.getD ((w64 ((stack.length : Int) - 1)).toNat) 0) = 0)))
          (cond (decide (kind = 4))
            (k (decide ((stack.getD ((w64 ((stack.length : Int) - 1)).toNat) 0) = 3)))
            (cond (decide (kind = 5))
              (k (decide ((stack.getD ((w64 ((stack.length : Int) - 1)).toNat) 0) = 3)))
              (cond (decide (kind = 7))
                (k (decide ((stack.getD ((w64 ((stack.length : Int) - 1)).toNat) 0) = 6)))
                (cond (decide (kind = 8))
                  (k (decide ((stack.getD ((w64 ((stack.length : Int) - 1)).toNat) 0) = 1)))
                  (cond (decide (kind = 2))
                    (cond (decide ((stack.getD ((w64 ((stack.length : Int) - 1)).toNat) 0) = 1))
                      (k true)
                      (k (decide ((stack.getD ((w64 ((stack.length : Int) - 1)).toNat) 0) = 6))))
                    (cond (decide (kind = 3))
                      (cond (decide ((stack.getD ((w64 ((stack.length : Int) - 1)).toNat) 0) = 1))
                        (k true)
                        (k (decide ((stack.getD ((w64 ((stack.length : Int) - 1)).toNat) 0) = 6))))
                      (cond (decide (kind = 6))
                        (cond (decide ((stack.getD ((w64 ((stack.length : Int) - 1)).toNat) 0) = 1))
                          (k true)
                          (k (decide ((stack.getD ((w64 ((stack.length : Int) - 1)).toNat) 0) = 6))))
                        (k (decide (kind = 10))))))))))))
      none)
    (cond (decide (kind = 1))
      (k true)
      (cond (decide (kind = 9))
        (k true)
        (cond (decide (kind = 4))
          (k false)
          (cond (decide (kind = 5))
            (k false)
            (cond (decide (kind = 7))
              (k false)
              (cond (decide (kind = 8))
                (k false)
                (cond (decide (kind = 2))
                  (k false)
                  (cond (decide (kind = 3))
                    (k false)
                    (cond (decide (kind = 6))
                      (k false)
                      (k (decide (kind = 10))))))))))))
abbrev a76 : List AM := [.v (.ro 3 (.int .i64)), .v (.int .i64)]
noncomputable def u76 {R : Type} (N : Nat) (d : AMs.D a76) (k : List Val → List Val → Option R) : Option R := spec_l26May N d.1 d.2.1 (fun r0 => k [.c (.bo r0)] [])
noncomputable def c76 {R : Type} (N : Nat) : Con R := conOf [.rd, .rd] a76 (u76 N)
noncomputable def g76 {R : Type} (N : Nat) : List (Nat × Con R) := []
noncomputable def L76 {R : Type} (N : Nat) : List (Nat × LCon R) := []
theorem e76 {R : Type} (N : Nat) (d : AMs.D a76) (k : List Val → List Val → Option R) : evF Try.prog (gam (g76 N)) N (L76 N) Try.f76 (encAs a76 d (canAs a76 0)) k = u76 N d k := by kernel_rfl
theorem s76 {R : Type} (N : Nat) : Snd Try.prog 76 (c76 N : Con R) :=
  snd_eq (Γ := g76 N) (allG trivial) mixed Try.func76 (c := (Try.f76.body.get rfl)) rfl (by kernel_rfl) (by kernel_rfl) (Λ := L76 N) (qs := []) (by kernel_rfl) trivial (e76 N)
/-- spec.Nested, the loop 58 -/
noncomputable def spec_Nested_l0 {R : Type} (N : Nat) : Nat → List DEvent → Int → List Int → (Bool → Option R) → Option R → Option R
  | 0, _, _, _, _, _ => none
  | n + 1, list2, i1, xs1, x0_, x1_ =>
    cond (decide (i1 < (list2.length : Int)))
      (cond (idxE list2.length i1)
        (spec_l26May N xs1 ((list2.getD i1.toNat YEvent.z).1) fun r2 =>
          cond (!r2)
            (x0_ false)
            (cond (decide (0 < i1))
              (cond (idxE list2.length (w64 (i1 - 1)))
                (spec_Terminal N (list2.getD ((w64 (i1 - 1)).toNat) YEvent.z) fun r3 =>
                  cond r3
                    (x0_ false)
                    (cond (decide (((list2.getD i1.toNat YEvent.z).1) = 1))
                      (cond (decide ((xs1.length + 1) * 8 ≤ 140737488355328))
                        (spec_Nested_l0 N n list2 (w64 (i1 + 1)) (xs1 ++ [(list2.getD i1.toNat YEvent.z).1]) x0_ x1_)
                        none)
                      (cond (decide (((list2.getD i1.toNat YEvent.z).1) = 3))
                        (cond (decide ((xs1.length + 1) * 8 ≤ 140737488355328))
                          (spec_Nested_l0 N n list2 (w64 (i1 + 1)) (xs1 ++ [(list2.getD i1.toNat YEvent.z).1]) x0_ x1_)
                          none)
                        (cond (decide (((list2.getD i1.toNat YEvent.z).1) = 6))
                          (cond (decide ((xs1.length + 1) * 8 ≤ 140737488355328))
                            (spec_Nested_l0 N n list2 (w64 (i1 + 1)) (xs1 ++ [(list2.getD i1.toNat YEvent.z).1]) x0_ x1_)
                            none)
                          (cond (decide (((list2.getD i1.toNat YEvent.z).1) = 8))
                            (cond (decide (0 ≤ w64 ((xs1.length : Int) - 1) ∧ w64 ((xs1.length : Int) - 1) ≤ (xs1.length : Int)))
                              (spec_Nested_l0 N n list2 (w64 (i1 + 1)) ((xs1.drop 0).take ((w64 ((xs1.length : Int) - 1)).toNat)) x0_ x1_)
                              none)
                            (cond (decide (((list2.getD i1.toNat YEvent.z).1) = 5))
                              (cond (decide (0 ≤ w64 ((xs1.length : Int) - 1) ∧ w64 ((xs1.length : Int) - 1) ≤ (xs1.length : Int)))
                                (spec_Nested_l0 N n list2 (w64 (i1 + 1)) ((xs1.drop 0).take ((w64 ((xs1.length : Int) - 1)).toNat)) x0_ x1_)
                                none)
                              (cond (decide (((list2.getD i1.toNat YEvent.z).1) = 7))
                                (cond (decide (0 ≤ w64 ((xs1.length : Int) - 1) ∧ w64 ((xs1.length : Int) - 1) ≤ (xs1.length : Int)))
                                  (spec_Nested_l0 N n list2 (w64 (i1 + 1)) ((xs1.drop 0).take ((w64 ((xs1.length : Int) - 1)).toNat)) x0_ x1_)
                                  none)
                                (spec_Nested_l0 N n list2 (w64 (i1 + 1)) xs1 x0_ x1_))))))))
                none)
              (cond (decide (((list2.getD i1.toNat YEvent.z).1) = 1))
                (cond (decide ((xs1.length + 1) * 8 ≤ 140737488355328))
                  (spec_Nested_l0 N n list2 (w64 (i1 + 1)) (xs1 ++ [(list2.getD i1.toNat YEvent.z).1]) x0_ x1_)
                  none)
                (cond (decide (((list2.getD i1.toNat YEvent.z).1) = 3))
                  (cond (decide ((xs1.length + 1) * 8 ≤ 140737488355328))
                    (spec_Nested_l0 N n list2 (w64 (i1 + 1)) (xs1 ++ [(list2.getD i1.toNat YEvent.z).1]) x0_ x1_)
                    none)
                  (cond (decide (((list2.getD i1.toNat YEvent.z).1) = 6))
                    (cond (decide ((xs1.length + 1) * 8 ≤ 140737488355328))
                      (spec_Nested_l0 N n list2 (w64 (i1 + 1)) (xs1 ++ [(list2.getD i1.toNat YEvent.z).1]) x0_ x1_)
                      none)
                    (cond (decide (((list2.getD i1.toNat YEvent.z).1) = 8))
                      (cond (decide (0 ≤ w64 ((xs1.length : Int) - 1) ∧ w64 ((xs1.length : Int) - 1) ≤ (xs1.length : Int)))
                        (spec_Nested_l0 N n list2 (w64 (i1 + 1)) ((xs1.drop 0).take ((w64 ((xs1.length : Int) - 1)).toNat)) x0_ x1_)
                        none)
                      (cond (decide (((list2.getD i1.toNat YEvent.z).1) = 5))
                        (cond (decide (0 ≤ w64 ((xs1.length : Int) - 1) ∧ w64 ((xs1.length : Int) - 1) ≤ (xs1.length : Int)))
                          (spec_Nested_l0 N n list2 (w64 (i1 + 1)) ((xs1.drop 0).take ((w64 ((xs1.length : Int) - 1)).toNat)) x0_ x1_)
                          none)
                        (cond (decide (((list2.getD i1.toNat YEvent.z).1) = 7))
                          (cond (decide (0 ≤ w64 ((xs1.length : Int) - 1) ∧ w64 ((xs1.length : Int) - 1) ≤ (xs1.length : Int)))
                            (spec_Nested_l0 N n list2 (w64 (i1 + 1)) ((xs1.drop 0).take ((w64 ((xs1.length : Int) - 1)).toNat)) x0_ x1_)
                            none)
                          (spec_Nested_l0 N n list2 (w64 (i1 + 1)) xs1 x0_ x1_)))))))))
        none)
      x1_
/-- spec.Nested -/
noncomputable def spec_Nested {R : Type} (N : Nat) (list : List DEvent) (k : Bool → Option R) : Option R :=
  spec_Nested_l0 N N list 0 []
    (fun v =>
      k v)
    (k true)
abbrev a45 : List AM := [.v (.ro 42 YEvent)]
noncomputable def u45 {R : Type} (N : Nat) (d : AMs.D a45) (k : List Val → List Val → Option R) : Option R := spec_Nested N d.1 (fun r0 => k [.c (.bo r0)] [])
noncomputable def c45 {R : Type} (N : Nat) : Con R := conOf [.rd] a45 (u45 N)
noncomputable def g45 {R : Type} (N : Nat) : List (Nat × Con R) := [(76, c76 N), (59, c59 N)]
abbrev h45_58 : Sh := ⟨[(0, .c (.ro 0 42 YEvent)), (3, .c (.slw 0)), (4, .c (.nu .i64))], [(0, .rows (.int .i64) 3)], 1, []⟩
noncomputable def l45_58 {R : Type} (N : Nat) : LCon R := lconOf [⟨.t 3, (.int .i64), 3⟩] h45_58 fun n d K => spec_Nested_l0 N n d.1.1 d.1.2.2.1 d.2.1.1 (fun y0 => K .ret ⟨[(2, .c (.bo y0))], [], 0, []⟩) (K (.exit 0) ⟨[], [], 0, []⟩)
noncomputable def L45 {R : Type} (N : Nat) : List (Nat × LCon R) := [(58, l45_58 N)]
theorem q45_58 {R : Type} (N : Nat) : LSpec Try.prog (gam (g45 N)) N (L45 N) 4 (subC (Try.f45.body.get rfl) [true, true, false, true, false, false]) 58 25 [(0, 0)] (l45_58 N : LCon R) :=
  lspec_of (fun d K => rfl) (fun n d K => by kernel_rfl)
theorem e45 {R : Type} (N : Nat) (d : AMs.D a45) (k : List Val → List Val → Option R) : evF Try.prog (gam (g45 N)) N (L45 N) Try.f45 (encAs a45 d (canAs a45 0)) k = u45 N d k := by kernel_rfl
theorem s45 {R : Type} (N : Nat) : Snd Try.prog 45 (c45 N : Con R) :=
  snd_eq (Γ := g45 N) (allG ⟨s76 N, s59 N, trivial⟩) mixed Try.func45 (c := (Try.f45.body.get rfl)) rfl (by kernel_rfl) (by kernel_rfl) (Λ := L45 N) (qs := [⟨58, subC (Try.f45.body.get rfl) [true, true, false, true, false, false], 25, [(0, 0)]⟩]) (by kernel_rfl) ⟨lsome rfl (q45_58 N), trivial⟩ (e45 N)
/-- impl.nest -/
noncomputable def impl_nest {R : Type} (N : Nat) (open_ : List Int) (e : DEvent) (k : List Int → Bool → Option R) : Option R :=
  cond (decide (0 < (open_.length : Int)))
    (cond (idxE open_.length (w64 ((open_.length : Int) - 1)))
      (cond (decide ((open_.getD ((w64 ((open_.length : Int) - 1)).toNat) 0) = 1))
        (cond (decide (e.1 = 1))
          (cond (decide ((open_.length + 1) * 8 ≤ 140737488355328))
            (k (open_ ++ [1]) (decide ((open_.getD ((w64 ((open_.length : Int) - 1)).toNat) 0) = 0)))
            none)
          (cond (decide (e.1 = 9))
            (k open_ (decide ((open_.getD ((w64 ((open_.length : Int) - 1)).toNat) 0) = 0)))
            (cond (decide (e.1 = 10))
              (k open_ true)
              (cond (decide (e.1 = 2))
                (k open_ true)
                (cond (decide (e.1 = 3))
                  (cond (decide ((open_.length + 1) * 8 ≤ 140737488355328))
                    (k (open_ ++ [e.1]) true)
                    none)
                  (cond (decide (e.1 = 6))
                    (cond (decide ((open_.length + 1) * 8 ≤ 140737488355328))
                      (k (open_ ++ [e.1]) true)
                      none)
                    (cond (decide (e.1 = 4))
                      (k open_ (decide ((open_.getD ((w64 ((open_.length : Int) - 1)).toNat) 0) = 3)))
                      (cond (decide (e.1 = 8))
                        (cond (!(decide ((open_.getD ((w64 ((open_.length : Int) - 1)).toNat) 0) = 1)))
                          (k open_ false)
                          (cond (decide (0 ≤ w64 ((open_.length : Int) - 1) ∧ w64 ((open_.length : Int) - 1) ≤ (open_.length : Int)))
                            (k ((open_.drop 0).take ((w64 ((open_.length : Int) - 1)).toNat)) true)
                            none))
                        (cond (decide (e.1 = 5))
                          (cond (!(decide ((open_.getD ((w64 ((open_.length : Int) - 1)).toNat) 0) = 3)))
                            (k open_ false)
                            (cond (decide (0 ≤ w64 ((open_.length : Int) - 1) ∧ w64 ((open_.length : Int) - 1) ≤ (open_.length : Int)))
                              (k ((open_.drop 0).take ((w64 ((open_.length : Int) - 1)).toNat)) true)
                              none))
                          (cond (decide (e.1 = 7))
                            (cond (!(decide ((open_.getD ((w64 ((open_.length : Int) - 1)).toNat) 0) = 6)))
                              (k open_ false)
                              (cond (decide (0 ≤ w64 ((open_.length : Int) - 1) ∧ w64 ((open_.length : Int) - 1) ≤ (open_.length : Int)))
                                (k ((open_.drop 0).take ((w64 ((open_.length : Int) - 1)).toNat)) true)
                                none))
                            (k open_ false)))))))))))
        (cond (decide (e.1 = 1))
          (cond (decide ((open_.length + 1) * 8 ≤ 140737488355328))
            (k (open_ ++ [1]) (decide ((open_.getD ((w64 ((open_.length : Int) - 1)).toNat) 0) = 0)))
            none)
          (cond (decide (e.1 = 9))
            (k open_ (decide ((open_.getD ((w64 ((open_.length : Int) - 1)).toNat) 0) = 0)))
            (cond (decide (e.1 = 10))
              (k open_ true)
              (cond (decide (e.1 = 2))
                (k open_ (decide ((open_.getD ((w64 ((open_.length : Int) - 1)).toNat) 0) = 6)))
                (cond (decide (e.1 = 3))
                  (cond (decide ((open_.length + 1) * 8 ≤ 140737488355328))
                    (k (open_ ++ [e.1]) (decide ((open_.getD ((w64 ((open_.length : Int) - 1)).toNat) 0) = 6)))
                    none)
                  (cond (decide (e.1 = 6))
                    (cond (decide ((open_.length + 1) * 8 ≤ 140737488355328))
                      (k (open_ ++ [e.1]) (decide ((open_.getD ((w64 ((open_.length : Int) - 1)).toNat) 0) = 6)))
                      none)
                    (cond (decide (e.1 = 4))
                      (k open_ (decide ((open_.getD ((w64 ((open_.length : Int) - 1)).toNat) 0) = 3)))
                      (cond (decide (e.1 = 8))
                        (cond (!(decide ((open_.getD ((w64 ((open_.length : Int) - 1)).toNat) 0) = 1)))
                          (k open_ false)
                          (cond (decide (0 ≤ w64 ((open_.length : Int) - 1) ∧ w64 ((open_.length : Int) - 1) ≤ (open_.length : Int)))
                            (k ((open_.drop 0).take ((w64 ((open_.length : Int) - 1)).toNat)) true)
                            none))
                        (cond (decide (e.1 = 5))
                          (cond (!(decide ((open_.getD ((w64 ((open_.length : Int) - 1)).toNat) 0) = 3)))
                            (k open_ false)
                            (cond (decide (0 ≤ w64 ((open_.length : Int) - 1) ∧ w64 ((open_.length : Int) - 1) ≤ (open_.length : Int)))
                              (k ((open_.drop 0).take ((w64 ((open_.length : Int) - 1)).toNat)) true)
                              none))
                          (cond (decide (e.1 = 7))
                            (cond (!(decide ((open_.getD ((w64 ((open_.length : Int) - 1)).toNat) 0) = 6)))
                              (k open_ false)
                              (cond (decide (0 ≤ w64 ((open_.length : Int) - 1) ∧ w64 ((open_.length : Int) - 1) ≤ (open_.length : Int)))
                                (k ((open_.drop 0).take ((w64 ((open_.length : Int) - 1)).toNat)) true)
                                none))
                            (k open_ false))))))))))))
      none)
    (cond (decide (e.1 = 1))
      (cond (decide ((open_.length + 1) * 8 ≤ 140737488355328))
        (k (open_ ++ [1]) true)
        none)
      (cond (decide (e.1 = 9))
        (k open_ true)
        (cond (decide (e.1 = 10))
          (k open_ true)
          (cond (decide (e.1 = 2))
            (k open_ false)
            (cond (decide (e.1 = 3))
              (cond (decide ((open_.length + 1) * 8 ≤ 140737488355328))
                (k (open_ ++ [e.1]) false)
                none)
              (cond (decide (e.1 = 6))
                (cond (decide ((open_.length + 1) * 8 ≤ 140737488355328))
                  (k (open_ ++ [e.1]) false)
                  none)
                (cond (decide (e.1 = 4))
                  (k open_ false)
                  (cond (decide (e.1 = 8))
                    (k open_ false)
                    (cond (decide (e.1 = 5))
                      (k open_ false)
                      (cond (decide (e.1 = 7))
                        (k open_ false)
                        (k open_ false)))))))))))
abbrev a77 : List AM := [.v (.mv 3 (.int .i64)), .a (.pr (.int .i64) (.pr (.int .i64) (.pr (.int .u64) (.pr (.int .i64) (.pr .str (.pr (.int .i64) (.int .i64)))))))]
noncomputable def u77 {R : Type} (N : Nat) (d : AMs.D a77) (k : List Val → List Val → Option R) : Option R := impl_nest N d.1 d.2.1 (fun r0 r1 => k [.c (.own (.int .i64) 3 r0), .c (.bo r1)] [])
noncomputable def c77 {R : Type} (N : Nat) : Con R := conOf [.mv, .rd] a77 (u77 N)
noncomputable def g77 {R : Type} (N : Nat) : List (Nat × Con R) := []
noncomputable def L77 {R : Type} (N : Nat) : List (Nat × LCon R) := []
theorem e77 {R : Type} (N : Nat) (d : AMs.D a77) (k : List Val → List Val → Option R) : evF Try.prog (gam (g77 N)) N (L77 N) Try.f77 (encAs a77 d (canAs a77 0)) k = u77 N d k := by kernel_rfl
theorem s77 {R : Type} (N : Nat) : Snd Try.prog 77 (c77 N : Con R) :=
  snd_eq (Γ := g77 N) (allG trivial) mixed Try.func77 (c := (Try.f77.body.get rfl)) rfl (by kernel_rfl) (by kernel_rfl) (Λ := L77 N) (qs := []) (by kernel_rfl) trivial (e77 N)
/-- impl.Nested, the loop 58 -/
noncomputable def impl_Nested_l0 {R : Type} (N : Nat) : Nat → List DEvent → List DEvent → Int → Int → List Int → (Bool → Option R) → Option R → Option R
  | 0, _, _, _, _, _, _, _ => none
  | n + 1, list1, v, v1, v2, xs, x0_, x1_ =>
    cond (decide (v2 < v1))
      (cond (idxE v.length v2)
        (impl_nest N xs (v.getD v2.toNat YEvent.z) fun r r1 =>
          cond (!r1)
            (x0_ false)
            (cond (decide (0 < v2))
              (cond (idxE list1.length (w64 (v2 - 1)))
                (impl_Terminal N (list1.getD ((w64 (v2 - 1)).toNat) YEvent.z) fun r2 =>
                  cond r2
                    (x0_ false)
                    (impl_Nested_l0 N n list1 v v1 (w64 (v2 + 1)) r x0_ x1_))
                none)
              (impl_Nested_l0 N n list1 v v1 (w64 (v2 + 1)) r x0_ x1_)))
        none)
      x1_
/-- impl.Nested -/
noncomputable def impl_Nested {R : Type} (N : Nat) (list : List DEvent) (k : Bool → Option R) : Option R :=
  impl_Nested_l0 N N list list (list.length : Int) 0 []
    (fun v3 =>
      k v3)
    (k true)
abbrev a46 : List AM := [.v (.ro 42 YEvent)]
noncomputable def u46 {R : Type} (N : Nat) (d : AMs.D a46) (k : List Val → List Val → Option R) : Option R := impl_Nested N d.1 (fun r0 => k [.c (.bo r0)] [])
noncomputable def c46 {R : Type} (N : Nat) : Con R := conOf [.rd] a46 (u46 N)
noncomputable def g46 {R : Type} (N : Nat) : List (Nat × Con R) := [(77, c77 N), (62, c62 N)]
abbrev h46_58 : Sh := ⟨[(0, .c (.ro 0 42 YEvent)), (3, .c (.slw 0)), (9, .c (.ro 0 42 YEvent)), (10, .c (.nu .i64)), (11, .c (.nu .i64))], [(0, .rows (.int .i64) 3)], 1, []⟩
noncomputable def l46_58 {R : Type} (N : Nat) : LCon R := lconOf [] h46_58 fun n d K => impl_Nested_l0 N n d.1.1 d.1.2.2.1 d.1.2.2.2.1 d.1.2.2.2.2.1 d.2.1.1 (fun y0 => K .ret ⟨[(2, .c (.bo y0))], [], 0, []⟩) (K (.exit 0) ⟨[], [], 0, []⟩)
noncomputable def L46 {R : Type} (N : Nat) : List (Nat × LCon R) := [(58, l46_58 N)]
theorem q46_58 {R : Type} (N : Nat) : LSpec Try.prog (gam (g46 N)) N (L46 N) 4 (subC (Try.f46.body.get rfl) [true, true, false, true, false, false]) 58 3593 [(0, 0)] (l46_58 N : LCon R) :=
  lspec_of (fun d K => rfl) (fun n d K => by kernel_rfl)
theorem e46 {R : Type} (N : Nat) (d : AMs.D a46) (k : List Val → List Val → Option R) : evF Try.prog (gam (g46 N)) N (L46 N) Try.f46 (encAs a46 d (canAs a46 0)) k = u46 N d k := by kernel_rfl
theorem s46 {R : Type} (N : Nat) : Snd Try.prog 46 (c46 N : Con R) :=
  snd_eq (Γ := g46 N) (allG ⟨s77 N, s62 N, trivial⟩) mixed Try.func46 (c := (Try.f46.body.get rfl)) rfl (by kernel_rfl) (by kernel_rfl) (Λ := L46 N) (qs := [⟨58, subC (Try.f46.body.get rfl) [true, true, false, true, false, false], 3593, [(0, 0)]⟩]) (by kernel_rfl) ⟨lsome rfl (q46_58 N), trivial⟩ (e46 N)
/-- laws.FnExactNested -/
noncomputable def laws_FnExactNested {R : Type} (N : Nat) (aList : List DEvent) (k : Bool → Option R) : Option R :=
  laws_szEventS N aList 1048576 fun r =>
    cond (decide (r < 0))
      (k true)
      (laws_toEventS N aList fun r1 =>
        spec_Nested N r1 fun r2 =>
          laws_toEventS N aList fun r3 =>
            impl_Nested N r3 fun r4 =>
              cond (!(r4 == r2))
                (k false)
                (laws_toEventS N aList fun r5 =>
                  laws_eqEventS N r3 r5 fun r6 =>
                    cond (!r6)
                      (k false)
                      (k true)))
abbrev a11 : List AM := [.v (.ro 75 YEvent)]
noncomputable def u11 {R : Type} (N : Nat) (d : AMs.D a11) (k : List Val → List Val → Option R) : Option R := laws_FnExactNested N d.1 (fun r0 => k [.c (.bo r0)] [])
noncomputable def c11 {R : Type} (N : Nat) : Con R := conOf [.rd] a11 (u11 N)
noncomputable def g11 {R : Type} (N : Nat) : List (Nat × Con R) := [(25, c25 N), (27, c27 N), (45, c45 N), (46, c46 N), (30, c30 N)]
noncomputable def L11 {R : Type} (N : Nat) : List (Nat × LCon R) := []
theorem e11 {R : Type} (N : Nat) (d : AMs.D a11) (k : List Val → List Val → Option R) : evF Try.prog (gam (g11 N)) N (L11 N) Try.f11 (encAs a11 d (canAs a11 0)) k = u11 N d k := by kernel_rfl
theorem s11 {R : Type} (N : Nat) : Snd Try.prog 11 (c11 N : Con R) :=
  snd_eq (Γ := g11 N) (allG ⟨s25 N, s27 N, s45 N, s46 N, s30 N, trivial⟩) mixed Try.func11 (c := (Try.f11.body.get rfl)) rfl (by kernel_rfl) (by kernel_rfl) (Λ := L11 N) (qs := []) (by kernel_rfl) trivial (e11 N)
/-- laws.szReadS -/
noncomputable def laws_szReadS {R : Type} (N : Nat) (a : List DRead) (left : Int) (k : Int → Option R) : Option R :=
  cond (decide ((w64 (left - (a.length : Int))) < 0))
    (k (-1))
    (k (w64 (left - (a.length : Int))))
abbrev a15 : List AM := [.v (.ro 72 YRead), .v (.int .i64)]
noncomputable def u15 {R : Type} (N : Nat) (d : AMs.D a15) (k : List Val → List Val → Option R) : Option R := laws_szReadS N d.1 d.2.1 (fun r0 => k [.c (.nu .i64 r0)] [])
noncomputable def c15 {R : Type} (N : Nat) : Con R := conOf [.rd, .rd] a15 (u15 N)
noncomputable def g15 {R : Type} (N : Nat) : List (Nat × Con R) := []
noncomputable def L15 {R : Type} (N : Nat) : List (Nat × LCon R) := []
theorem e15 {R : Type} (N : Nat) (d : AMs.D a15) (k : List Val → List Val → Option R) : evF Try.prog (gam (g15 N)) N (L15 N) Try.f15 (encAs a15 d (canAs a15 0)) k = u15 N d k := by kernel_rfl
theorem s15 {R : Type} (N : Nat) : Snd Try.prog 15 (c15 N : Con R) :=
  snd_eq (Γ := g15 N) (allG trivial) mixed Try.func15 (c := (Try.f15.body.get rfl)) rfl (by kernel_rfl) (by kernel_rfl) (Λ := L15 N) (qs := []) (by kernel_rfl) trivial (e15 N)
/-- laws.toRead -/
noncomputable def laws_toRead {R : Type} (N : Nat) (a : DRead) (k : DRead → Option R) : Option R :=
  k a
abbrev a54 : List AM := [.a (.pr (.int .i64) (.int .i64))]
noncomputable def u54 {R : Type} (N : Nat) (d : AMs.D a54) (k : List Val → List Val → Option R) : Option R := laws_toRead N d.1 (fun r0 => k [.agg [.nu .i64 r0.1, .nu .i64 r0.2]] [])
noncomputable def c54 {R : Type} (N : Nat) : Con R := conOf [.rd] a54 (u54 N)
noncomputable def g54 {R : Type} (N : Nat) : List (Nat × Con R) := []
noncomputable def L54 {R : Type} (N : Nat) : List (Nat × LCon R) := []
theorem e54 {R : Type} (N : Nat) (d : AMs.D a54) (k : List Val → List Val → Option R) : evF Try.prog (gam (g54 N)) N (L54 N) Try.f54 (encAs a54 d (canAs a54 0)) k = u54 N d k := by kernel_rfl
theorem s54 {R : Type} (N : Nat) : Snd Try.prog 54 (c54 N : Con R) :=
  snd_eq (Γ := g54 N) (allG trivial) mixed Try.func54 (c := (Try.f54.body.get rfl)) rfl (by kernel_rfl) (by kernel_rfl) (Λ := L54 N) (qs := []) (by kernel_rfl) trivial (e54 N)
/-- laws.toReadS, the loop 58 -/
noncomputable def laws_toReadS_l0 {R : Type} (N : Nat) : Nat → List DRead → Int → List DRead → (List DRead → Option R) → Option R
  | 0, _, _, _, _ => none
  | n + 1, a1, i, xs, x0_ =>
    cond (decide (i < (a1.length : Int)))
      (cond (idxE a1.length i)
        (laws_toRead N (a1.getD i.toNat YRead.z) fun r =>
          cond (idxE xs.length i)
            (laws_toReadS_l0 N n a1 (w64 (i + 1)) (xs.set i.toNat r) x0_)
            none)
        none)
      (x0_ xs)
/-- laws.toReadS -/
noncomputable def laws_toReadS {R : Type} (N : Nat) (a : List DRead) (k : List DRead → Option R) : Option R :=
  cond (decide (0 ≤ (a.length : Int) ∧ (a.length : Int) ≤ (a.length : Int) ∧ (a.length : Int) ≤ 4611686018427387904 ∧ (16 : Int) * (a.length : Int) ≤ 140737488355328))
    (laws_toReadS_l0 N N a 0 (List.replicate ((a.length : Int).toNat) (0, 0))
      (fun xs1 =>
        k xs1))
    none
abbrev a17 : List AM := [.v (.ro 72 YRead)]
noncomputable def u17 {R : Type} (N : Nat) (d : AMs.D a17) (k : List Val → List Val → Option R) : Option R := laws_toReadS N d.1 (fun r0 => k [.c (.own YRead 70 r0)] [])
noncomputable def c17 {R : Type} (N : Nat) : Con R := conOf [.rd] a17 (u17 N)
noncomputable def g17 {R : Type} (N : Nat) : List (Nat × Con R) := [(54, c54 N)]
abbrev h17_58 : Sh := ⟨[(0, .c (.ro 0 72 YRead)), (3, .c (.slw 0)), (4, .c (.nu .i64))], [(0, .rows YRead 70)], 1, []⟩
noncomputable def l17_58 {R : Type} (N : Nat) : LCon R := lconOf [] h17_58 fun n d K => laws_toReadS_l0 N n d.1.1 d.1.2.2.1 d.2.1.1 (fun y0 => K (.exit 0) ⟨[(3, .c (.slw 0))], [(0, some (.rows YRead 70 y0))], 1, []⟩)
noncomputable def L17 {R : Type} (N : Nat) : List (Nat × LCon R) := [(58, l17_58 N)]
theorem q17_58 {R : Type} (N : Nat) : LSpec Try.prog (gam (g17 N)) N (L17 N) 4 (subC (Try.f17.body.get rfl) [true, true, false, true, false, false]) 58 25 [(0, 8)] (l17_58 N : LCon R) :=
  lspec_of (fun d K => rfl) (fun n d K => by kernel_rfl)
theorem e17 {R : Type} (N : Nat) (d : AMs.D a17) (k : List Val → List Val → Option R) : evF Try.prog (gam (g17 N)) N (L17 N) Try.f17 (encAs a17 d (canAs a17 0)) k = u17 N d k := by kernel_rfl
theorem s17 {R : Type} (N : Nat) : Snd Try.prog 17 (c17 N : Con R) :=
  snd_eq (Γ := g17 N) (allG ⟨s54 N, trivial⟩) mixed Try.func17 (c := (Try.f17.body.get rfl)) rfl (by kernel_rfl) (by kernel_rfl) (Λ := L17 N) (qs := [⟨58, subC (Try.f17.body.get rfl) [true, true, false, true, false, false], 25, [(0, 8)]⟩]) (by kernel_rfl) ⟨lsome rfl (q17_58 N), trivial⟩ (e17 N)
/-- spec.ReadsMost -/
noncomputable def spec_ReadsMost {R : Type} (N : Nat) (n_ : Int) (script : List DRead) (k : Int → Option R) : Option R :=
  spec_l1In N n_ 0 4000 fun r =>
    cond (!r)
      (k 0)
      (k (w64 ((w64 ((script.length : Int) + (w64 (n_.tdiv 16)))) + 2)))
abbrev a16 : List AM := [.v (.int .i64), .v (.ro 70 YRead)]
noncomputable def u16 {R : Type} (N : Nat) (d : AMs.D a16) (k : List Val → List Val → Option R) : Option R := spec_ReadsMost N d.1 d.2.1 (fun r0 => k [.c (.nu .i64 r0)] [])
noncomputable def c16 {R : Type} (N : Nat) : Con R := conOf [.rd, .rd] a16 (u16 N)
noncomputable def g16 {R : Type} (N : Nat) : List (Nat × Con R) := [(53, c53 N)]
noncomputable def L16 {R : Type} (N : Nat) : List (Nat × LCon R) := []
theorem e16 {R : Type} (N : Nat) (d : AMs.D a16) (k : List Val → List Val → Option R) : evF Try.prog (gam (g16 N)) N (L16 N) Try.f16 (encAs a16 d (canAs a16 0)) k = u16 N d k := by kernel_rfl
theorem s16 {R : Type} (N : Nat) : Snd Try.prog 16 (c16 N : Con R) :=
  snd_eq (Γ := g16 N) (allG ⟨s53 N, trivial⟩) mixed Try.func16 (c := (Try.f16.body.get rfl)) rfl (by kernel_rfl) (by kernel_rfl) (Λ := L16 N) (qs := []) (by kernel_rfl) trivial (e16 N)
/-- impl.ReadsMost -/
noncomputable def impl_ReadsMost {R : Type} (N : Nat) (n_ : Int) (script : List DRead) (k : Int → Option R) : Option R :=
  impl_within N n_ 0 4000 fun r =>
    cond (!r)
      (k 0)
      (k (w64 ((w64 ((script.length : Int) + (w64 (n_.tdiv 16)))) + 2)))
abbrev a18 : List AM := [.v (.int .i64), .v (.ro 70 YRead)]
noncomputable def u18 {R : Type} (N : Nat) (d : AMs.D a18) (k : List Val → List Val → Option R) : Option R := impl_ReadsMost N d.1 d.2.1 (fun r0 => k [.c (.nu .i64 r0)] [])
noncomputable def c18 {R : Type} (N : Nat) : Con R := conOf [.rd, .rd] a18 (u18 N)
noncomputable def g18 {R : Type} (N : Nat) : List (Nat × Con R) := [(55, c55 N)]
noncomputable def L18 {R : Type} (N : Nat) : List (Nat × LCon R) := []
theorem e18 {R : Type} (N : Nat) (d : AMs.D a18) (k : List Val → List Val → Option R) : evF Try.prog (gam (g18 N)) N (L18 N) Try.f18 (encAs a18 d (canAs a18 0)) k = u18 N d k := by kernel_rfl
theorem s18 {R : Type} (N : Nat) : Snd Try.prog 18 (c18 N : Con R) :=
  snd_eq (Γ := g18 N) (allG ⟨s55 N, trivial⟩) mixed Try.func18 (c := (Try.f18.body.get rfl)) rfl (by kernel_rfl) (by kernel_rfl) (Λ := L18 N) (qs := []) (by kernel_rfl) trivial (e18 N)
/-- laws.eqRead -/
noncomputable def laws_eqRead {R : Type} (N : Nat) (a : DRead) (b : DRead) (k : Bool → Option R) : Option R :=
  cond (!(decide (a.1 = b.1)))
    (k false)
    (cond (!(decide (a.2 = b.2)))
      (k false)
      (k true))
abbrev a56 : List AM := [.a (.pr (.int .i64) (.int .i64)), .a (.pr (.int .i64) (.int .i64))]
noncomputable def u56 {R : Type} (N : Nat) (d : AMs.D a56) (k : List Val → List Val → Option R) : Option R := laws_eqRead N d.1 d.2.1 (fun r0 => k [.c (.bo r0)] [])
noncomputable def c56 {R : Type} (N : Nat) : Con R := conOf [.rd, .rd] a56 (u56 N)
noncomputable def g56 {R : Type} (N : Nat) : List (Nat × Con R) := []
noncomputable def L56 {R : Type} (N : Nat) : List (Nat × LCon R) := []
theorem e56 {R : Type} (N : Nat) (d : AMs.D a56) (k : List Val → List Val → Option R) : evF Try.prog (gam (g56 N)) N (L56 N) Try.f56 (encAs a56 d (canAs a56 0)) k = u56 N d k := by kernel_rfl
theorem s56 {R : Type} (N : Nat) : Snd Try.prog 56 (c56 N : Con R) :=
  snd_eq (Γ := g56 N) (allG trivial) mixed Try.func56 (c := (Try.f56.body.get rfl)) rfl (by kernel_rfl) (by kernel_rfl) (Λ := L56 N) (qs := []) (by kernel_rfl) trivial (e56 N)
/-- laws.eqReadS, the loop 58 -/
noncomputable def laws_eqReadS_l0 {R : Type} (N : Nat) : Nat → List DRead → List DRead → Int → (Bool → Option R) → Option R → Option R
  | 0, _, _, _, _, _ => none
  | n + 1, a1, b1, i, x0_, x1_ =>
    cond (decide (i < (a1.length : Int)))
      (cond (idxE a1.length i)
        (cond (idxE b1.length i)
          (laws_eqRead N (a1.getD i.toNat YRead.z) (b1.getD i.toNat YRead.z) fun r =>
            cond (!r)
              (x0_ false)
              (laws_eqReadS_l0 N n a1 b1 (w64 (i + 1)) x0_ x1_))
          none)
        none)
      x1_
/-- laws.eqReadS -/
noncomputable def laws_eqReadS {R : Type} (N : Nat) (a : List DRead) (b : List DRead) (k : Bool → Option R) : Option R :=
  cond (!(decide ((a.length : Int) = (b.length : Int))))
    (k false)
    (laws_eqReadS_l0 N N a b 0
      (fun v =>
        k v)
      (k true))
abbrev a19 : List AM := [.v (.ro 70 YRead), .v (.ro 70 YRead)]
noncomputable def u19 {R : Type} (N : Nat) (d : AMs.D a19) (k : List Val → List Val → Option R) : Option R := laws_eqReadS N d.1 d.2.1 (fun r0 => k [.c (.bo r0)] [])
noncomputable def c19 {R : Type} (N : Nat) : Con R := conOf [.rd, .rd] a19 (u19 N)
noncomputable def g19 {R : Type} (N : Nat) : List (Nat × Con R) := [(56, c56 N)]
abbrev h19_58 : Sh := ⟨[(0, .c (.ro 0 70 YRead)), (1, .c (.ro 1 70 YRead)), (5, .c (.nu .i64))], [], 0, []⟩
noncomputable def l19_58 {R : Type} (N : Nat) : LCon R := lconOf [] h19_58 fun n d K => laws_eqReadS_l0 N n d.1.1 d.1.2.1 d.1.2.2.1 (fun y0 => K .ret ⟨[(4, .c (.bo y0))], [], 0, []⟩) (K (.exit 0) ⟨[], [], 0, []⟩)
noncomputable def L19 {R : Type} (N : Nat) : List (Nat × LCon R) := [(58, l19_58 N)]
theorem q19_58 {R : Type} (N : Nat) : LSpec Try.prog (gam (g19 N)) N (L19 N) 16 (subC (Try.f19.body.get rfl) [true, true, false, true, false, false]) 58 35 [(0, 0)] (l19_58 N : LCon R) :=
  lspec_of (fun d K => rfl) (fun n d K => by kernel_rfl)
theorem e19 {R : Type} (N : Nat) (d : AMs.D a19) (k : List Val → List Val → Option R) : evF Try.prog (gam (g19 N)) N (L19 N) Try.f19 (encAs a19 d (canAs a19 0)) k = u19 N d k := by kernel_rfl
theorem s19 {R : Type} (N : Nat) : Snd Try.prog 19 (c19 N : Con R) :=
  snd_eq (Γ := g19 N) (allG ⟨s56 N, trivial⟩) mixed Try.func19 (c := (Try.f19.body.get rfl)) rfl (by kernel_rfl) (by kernel_rfl) (Λ := L19 N) (qs := [⟨58, subC (Try.f19.body.get rfl) [true, true, false, true, false, false], 35, [(0, 0)]⟩]) (by kernel_rfl) ⟨lsome rfl (q19_58 N), trivial⟩ (e19 N)
/-- laws.FnExactReadsMost -/
noncomputable def laws_FnExactReadsMost {R : Type} (N : Nat) (aN : Int) (aScript : List DRead) (k : Bool → Option R) : Option R :=
  laws_szReadS N aScript 1048576 fun r =>
    cond (decide (r < 0))
      (k true)
      (laws_toReadS N aScript fun r1 =>
        spec_ReadsMost N aN r1 fun r2 =>
          laws_toReadS N aScript fun r3 =>
            impl_ReadsMost N aN r3 fun r4 =>
              cond (!(decide (r4 = r2)))
                (k false)
                (laws_toReadS N aScript fun r5 =>
                  laws_eqReadS N r3 r5 fun r6 =>
                    cond (!r6)
                      (k false)
                      (k true)))
abbrev a3 : List AM := [.v (.int .i64), .v (.ro 72 YRead)]
noncomputable def u3 {R : Type} (N : Nat) (d : AMs.D a3) (k : List Val → List Val → Option R) : Option R := laws_FnExactReadsMost N d.1 d.2.1 (fun r0 => k [.c (.bo r0)] [])
noncomputable def c3 {R : Type} (N : Nat) : Con R := conOf [.rd, .rd] a3 (u3 N)
noncomputable def g3 {R : Type} (N : Nat) : List (Nat × Con R) := [(15, c15 N), (17, c17 N), (16, c16 N), (18, c18 N), (19, c19 N)]
noncomputable def L3 {R : Type} (N : Nat) : List (Nat × LCon R) := []
theorem e3 {R : Type} (N : Nat) (d : AMs.D a3) (k : List Val → List Val → Option R) : evF Try.prog (gam (g3 N)) N (L3 N) Try.f3 (encAs a3 d (canAs a3 0)) k = u3 N d k := by kernel_rfl
theorem s3 {R : Type} (N : Nat) : Snd Try.prog 3 (c3 N : Con R) :=
  snd_eq (Γ := g3 N) (allG ⟨s15 N, s17 N, s16 N, s18 N, s19 N, trivial⟩) mixed Try.func3 (c := (Try.f3.body.get rfl)) rfl (by kernel_rfl) (by kernel_rfl) (Λ := L3 N) (qs := []) (by kernel_rfl) trivial (e3 N)
/-- laws.szIntS -/
noncomputable def laws_szIntS {R : Type} (N : Nat) (a : List Int) (left : Int) (k : Int → Option R) : Option R :=
  cond (decide ((w64 (left - (a.length : Int))) < 0))
    (k (-1))
    (k (w64 (left - (a.length : Int))))
abbrev a57 : List AM := [.v (.ro 3 (.int .i64)), .v (.int .i64)]
noncomputable def u57 {R : Type} (N : Nat) (d : AMs.D a57) (k : List Val → List Val → Option R) : Option R := laws_szIntS N d.1 d.2.1 (fun r0 => k [.c (.nu .i64 r0)] [])
noncomputable def c57 {R : Type} (N : Nat) : Con R := conOf [.rd, .rd] a57 (u57 N)
noncomputable def g57 {R : Type} (N : Nat) : List (Nat × Con R) := []
noncomputable def L57 {R : Type} (N : Nat) : List (Nat × LCon R) := []
theorem e57 {R : Type} (N : Nat) (d : AMs.D a57) (k : List Val → List Val → Option R) : evF Try.prog (gam (g57 N)) N (L57 N) Try.f57 (encAs a57 d (canAs a57 0)) k = u57 N d k := by kernel_rfl
theorem s57 {R : Type} (N : Nat) : Snd Try.prog 57 (c57 N : Con R) :=
  snd_eq (Γ := g57 N) (allG trivial) mixed Try.func57 (c := (Try.f57.body.get rfl)) rfl (by kernel_rfl) (by kernel_rfl) (Λ := L57 N) (qs := []) (by kernel_rfl) trivial (e57 N)
/-- laws.szSink -/
noncomputable def laws_szSink {R : Type} (N : Nat) (a : DSink) (left : Int) (k : Int → Option R) : Option R :=
  cond (decide ((w64 (left - (a.1.size : Int))) < 0))
    (k (-1))
    (laws_szIntS N a.2.1 (w64 (left - (a.1.size : Int))) fun r =>
      cond (decide (r < 0))
        (k (-1))
        (k r))
abbrev a20 : List AM := [.a (.pr .str (.pr (.ro 3 (.int .i64)) (.pr (.int .i64) (.int .i64)))), .v (.int .i64)]
noncomputable def u20 {R : Type} (N : Nat) (d : AMs.D a20) (k : List Val → List Val → Option R) : Option R := laws_szSink N d.1 d.2.1 (fun r0 => k [.c (.nu .i64 r0)] [])
noncomputable def c20 {R : Type} (N : Nat) : Con R := conOf [.rd, .rd] a20 (u20 N)
noncomputable def g20 {R : Type} (N : Nat) : List (Nat × Con R) := [(57, c57 N)]
noncomputable def L20 {R : Type} (N : Nat) : List (Nat × LCon R) := []
theorem e20 {R : Type} (N : Nat) (d : AMs.D a20) (k : List Val → List Val → Option R) : evF Try.prog (gam (g20 N)) N (L20 N) Try.f20 (encAs a20 d (canAs a20 0)) k = u20 N d k := by kernel_rfl
theorem s20 {R : Type} (N : Nat) : Snd Try.prog 20 (c20 N : Con R) :=
  snd_eq (Γ := g20 N) (allG ⟨s57 N, trivial⟩) mixed Try.func20 (c := (Try.f20.body.get rfl)) rfl (by kernel_rfl) (by kernel_rfl) (Λ := L20 N) (qs := []) (by kernel_rfl) trivial (e20 N)
/-- laws.toSink -/
noncomputable def laws_toSink {R : Type} (N : Nat) (a : DSink) (k : DSink → Option R) : Option R :=
  laws_toIntS N a.2.1 fun r =>
    k (a.1, r, a.2.2)
abbrev a22 : List AM := [.a (.pr .str (.pr (.ro 3 (.int .i64)) (.pr (.int .i64) (.int .i64))))]
noncomputable def u22 {R : Type} (N : Nat) (d : AMs.D a22) (k : List Val → List Val → Option R) : Option R := laws_toSink N d.1 (fun r0 => k [.agg [.sr r0.1, .own (.int .i64) 3 r0.2.1, .nu .i64 r0.2.2.1, .nu .i64 r0.2.2.2]] [])
noncomputable def c22 {R : Type} (N : Nat) : Con R := conOf [.rd] a22 (u22 N)
noncomputable def g22 {R : Type} (N : Nat) : List (Nat × Con R) := [(34, c34 N)]
noncomputable def L22 {R : Type} (N : Nat) : List (Nat × LCon R) := []
theorem e22 {R : Type} (N : Nat) (d : AMs.D a22) (k : List Val → List Val → Option R) : evF Try.prog (gam (g22 N)) N (L22 N) Try.f22 (encAs a22 d (canAs a22 0)) k = u22 N d k := by kernel_rfl
theorem s22 {R : Type} (N : Nat) : Snd Try.prog 22 (c22 N : Con R) :=
  snd_eq (Γ := g22 N) (allG ⟨s34 N, trivial⟩) mixed Try.func22 (c := (Try.f22.body.get rfl)) rfl (by kernel_rfl) (by kernel_rfl) (Λ := L22 N) (qs := []) (by kernel_rfl) trivial (e22 N)
/-- laws.eqSink -/
noncomputable def laws_eqSink {R : Type} (N : Nat) (a : DSink) (b : DSink) (k : Bool → Option R) : Option R :=
  cond (!decide (a.1 = b.1))
    (k false)
    (laws_eqIntS N a.2.1 b.2.1 fun r =>
      cond (!r)
        (k false)
        (cond (!(decide (a.2.2.1 = b.2.2.1)))
          (k false)
          (cond (!(decide (a.2.2.2 = b.2.2.2)))
            (k false)
            (k true))))
abbrev a24 : List AM := [.a (.pr .str (.pr (.ro 3 (.int .i64)) (.pr (.int .i64) (.int .i64)))), .a (.pr .str (.pr (.ro 3 (.int .i64)) (.pr (.int .i64) (.int .i64))))]
noncomputable def u24 {R : Type} (N : Nat) (d : AMs.D a24) (k : List Val → List Val → Option R) : Option R := laws_eqSink N d.1 d.2.1 (fun r0 => k [.c (.bo r0)] [])
noncomputable def c24 {R : Type} (N : Nat) : Con R := conOf [.rd, .rd] a24 (u24 N)
noncomputable def g24 {R : Type} (N : Nat) : List (Nat × Con R) := [(36, c36 N)]
noncomputable def L24 {R : Type} (N : Nat) : List (Nat × LCon R) := []
theorem e24 {R : Type} (N : Nat) (d : AMs.D a24) (k : List Val → List Val → Option R) : evF Try.prog (gam (g24 N)) N (L24 N) Try.f24 (encAs a24 d (canAs a24 0)) k = u24 N d k := by kernel_rfl
theorem s24 {R : Type} (N : Nat) : Snd Try.prog 24 (c24 N : Con R) :=
  snd_eq (Γ := g24 N) (allG ⟨s36 N, trivial⟩) mixed Try.func24 (c := (Try.f24.body.get rfl)) rfl (by kernel_rfl) (by kernel_rfl) (Λ := L24 N) (qs := []) (by kernel_rfl) trivial (e24 N)
/-- laws.FnExactSinkOk -/
noncomputable def laws_FnExactSinkOk {R : Type} (N : Nat) (aK : DSink) (k : Bool → Option R) : Option R :=
  laws_szSink N aK 1048576 fun r =>
    cond (decide (r < 0))
      (k true)
      (laws_toSink N aK fun r1 =>
        spec_SinkOk N r1 fun r2 =>
          laws_toSink N aK fun r3 =>
            impl_SinkOk N r3 fun r4 =>
              cond (!(r4 == r2))
                (k false)
                (laws_toSink N aK fun r5 =>
                  laws_eqSink N r3 r5 fun r6 =>
                    cond (!r6)
                      (k false)
                      (k true)))
abbrev a4 : List AM := [.a (.pr .str (.pr (.ro 3 (.int .i64)) (.pr (.int .i64) (.int .i64))))]
noncomputable def u4 {R : Type} (N : Nat) (d : AMs.D a4) (k : List Val → List Val → Option R) : Option R := laws_FnExactSinkOk N d.1 (fun r0 => k [.c (.bo r0)] [])
noncomputable def c4 {R : Type} (N : Nat) : Con R := conOf [.rd] a4 (u4 N)
noncomputable def g4 {R : Type} (N : Nat) : List (Nat × Con R) := [(20, c20 N), (22, c22 N), (21, c21 N), (23, c23 N), (24, c24 N)]
noncomputable def L4 {R : Type} (N : Nat) : List (Nat × LCon R) := []
theorem e4 {R : Type} (N : Nat) (d : AMs.D a4) (k : List Val → List Val → Option R) : evF Try.prog (gam (g4 N)) N (L4 N) Try.f4 (encAs a4 d (canAs a4 0)) k = u4 N d k := by kernel_rfl
theorem s4 {R : Type} (N : Nat) : Snd Try.prog 4 (c4 N : Con R) :=
  snd_eq (Γ := g4 N) (allG ⟨s20 N, s22 N, s21 N, s23 N, s24 N, trivial⟩) mixed Try.func4 (c := (Try.f4.body.get rfl)) rfl (by kernel_rfl) (by kernel_rfl) (Λ := L4 N) (qs := []) (by kernel_rfl) trivial (e4 N)
/-- spec.Told, the loop 58 -/
noncomputable def spec_Told_l0 {R : Type} (N : Nat) : Nat → List DEvent → Int → List DEvent → (List DEvent → Option R) → Option R
  | 0, _, _, _, _ => none
  | n + 1, list1, i, xs, x0_ =>
    cond (decide (i < (list1.length : Int)))
      (cond (idxE list1.length i)
        (spec_Terminal N (list1.getD i.toNat YEvent.z) fun r =>
          cond (!r)
            (cond (idxE list1.length i)
              (cond (decide ((xs.length + 1) * 64 ≤ 140737488355328))
                (spec_Told_l0 N n list1 (w64 (i + 1)) (xs ++ [list1.getD i.toNat YEvent.z]) x0_)
                none)
              none)
            (x0_ xs))
        none)
      (x0_ xs)
/-- spec.Told -/
noncomputable def spec_Told {R : Type} (N : Nat) (list : List DEvent) (k : List DEvent → Option R) : Option R :=
  spec_Told_l0 N N list 0 []
    (fun xs1 =>
      k xs1)
abbrev a49 : List AM := [.v (.ro 42 YEvent)]
noncomputable def u49 {R : Type} (N : Nat) (d : AMs.D a49) (k : List Val → List Val → Option R) : Option R := spec_Told N d.1 (fun r0 => k [.c (.own YEvent 42 r0)] [])
noncomputable def c49 {R : Type} (N : Nat) : Con R := conOf [.rd] a49 (u49 N)
noncomputable def g49 {R : Type} (N : Nat) : List (Nat × Con R) := [(59, c59 N)]
abbrev h49_58 : Sh := ⟨[(0, .c (.ro 0 42 YEvent)), (3, .c (.slw 0)), (4, .c (.nu .i64))], [(0, .rows YEvent 42)], 1, []⟩
noncomputable def l49_58 {R : Type} (N : Nat) : LCon R := lconOf [] h49_58 fun n d K => spec_Told_l0 N n d.1.1 d.1.2.2.1 d.2.1.1 (fun y0 => K (.exit 0) ⟨[(3, .c (.slw 0))], [(0, some (.rows YEvent 42 y0))], 1, []⟩)
noncomputable def L49 {R : Type} (N : Nat) : List (Nat × LCon R) := [(58, l49_58 N)]
theorem q49_58 {R : Type} (N : Nat) : LSpec Try.prog (gam (g49 N)) N (L49 N) 4 (subC (Try.f49.body.get rfl) [true, true, false, true, false, false]) 58 25 [(0, 8)] (l49_58 N : LCon R) :=
  lspec_of (fun d K => rfl) (fun n d K => by kernel_rfl)
theorem e49 {R : Type} (N : Nat) (d : AMs.D a49) (k : List Val → List Val → Option R) : evF Try.prog (gam (g49 N)) N (L49 N) Try.f49 (encAs a49 d (canAs a49 0)) k = u49 N d k := by kernel_rfl
theorem s49 {R : Type} (N : Nat) : Snd Try.prog 49 (c49 N : Con R) :=
  snd_eq (Γ := g49 N) (allG ⟨s59 N, trivial⟩) mixed Try.func49 (c := (Try.f49.body.get rfl)) rfl (by kernel_rfl) (by kernel_rfl) (Λ := L49 N) (qs := [⟨58, subC (Try.f49.body.get rfl) [true, true, false, true, false, false], 25, [(0, 8)]⟩]) (by kernel_rfl) ⟨lsome rfl (q49_58 N), trivial⟩ (e49 N)
/-- slices.Clone[[]impl.Event,impl.Event] -/
noncomputable def slices_Clone_impl_Event_impl_Event {R : Type} (N : Nat) (s : List DEvent) (k : List DEvent → Option R) : Option R :=
  cond (decide ((0 + s.length) * 64 ≤ 140737488355328))
    (k s)
    none
abbrev a80 : List AM := [.v (.ro 42 YEvent)]
noncomputable def c80 {R : Type} (N : Nat) : Con R := conOf [.rd] a80 fun d k => cond ((fun s => decide ((0 + s.length) * 64 ≤ 140737488355328)) d.1) (k ((fun r0 => [.c (.own YEvent 42 r0)]) d.1) []) none
noncomputable def g80 {R : Type} (N : Nat) : List (Nat × Con R) := []
noncomputable def L80 {R : Type} (N : Nat) : List (Nat × LCon R) := []
theorem s80 {R : Type} (N : Nat) : Snd Try.prog 80 (c80 N : Con R) :=
  snd_split (N := N) (e := 42) (t := YEvent) (good := fun s => decide ((0 + s.length) * 64 ≤ 140737488355328)) (res := fun r0 => [.c (.own YEvent 42 r0)]) (Γ := g80 N) (allG trivial) mixed Try.func80 (c := (Try.f80.body.get rfl)) rfl (by kernel_rfl) (by kernel_rfl) (Λ := L80 N) (qs := []) (by kernel_rfl) trivial (fun k => by kernel_rfl) (fun xs k => by kernel_rfl)
/-- impl.Told -/
noncomputable def impl_Told {R : Type} (N : Nat) (list : List DEvent) (k : List DEvent → Option R) : Option R :=
  slices_IndexFunc_impl_Event_impl_Event_Terminal N list fun r =>
    cond (decide (r < 0))
      (cond (decide (0 ≤ (list.length : Int) ∧ (list.length : Int) ≤ (list.length : Int)))
        (slices_Clone_impl_Event_impl_Event N ((list.take ((list.length : Int).toNat)).drop 0) fun r1 =>
          k r1)
        none)
      (cond (decide (0 ≤ r ∧ r ≤ (list.length : Int)))
        (slices_Clone_impl_Event_impl_Event N ((list.take r.toNat).drop 0) fun r2 =>
          k r2)
        none)
abbrev a50 : List AM := [.v (.ro 42 YEvent)]
noncomputable def u50 {R : Type} (N : Nat) (d : AMs.D a50) (k : List Val → List Val → Option R) : Option R := impl_Told N d.1 (fun r0 => k [.c (.own YEvent 42 r0)] [])
noncomputable def c50 {R : Type} (N : Nat) : Con R := conOf [.rd] a50 (u50 N)
noncomputable def g50 {R : Type} (N : Nat) : List (Nat × Con R) := [(61, c61v62 N), (80, c80 N)]
noncomputable def L50 {R : Type} (N : Nat) : List (Nat × LCon R) := []
theorem e50 {R : Type} (N : Nat) (d : AMs.D a50) (k : List Val → List Val → Option R) : evF Try.prog (gam (g50 N)) N (L50 N) Try.f50 (encAs a50 d (canAs a50 0)) k = u50 N d k := by kernel_rfl
theorem s50 {R : Type} (N : Nat) : Snd Try.prog 50 (c50 N : Con R) :=
  snd_eq (Γ := g50 N) (allG ⟨s61v62 N, s80 N, trivial⟩) mixed Try.func50 (c := (Try.f50.body.get rfl)) rfl (by kernel_rfl) (by kernel_rfl) (Λ := L50 N) (qs := []) (by kernel_rfl) trivial (e50 N)
/-- laws.markText, the loop 60 -/
noncomputable def laws_markText_l0 {R : Type} (N : Nat) : Nat → Int → ByteArray → (ByteArray → Option R) → Option R
  | 0, _, _, _ => none
  | n + 1, k_1, out_, x0_ =>
    cond (decide (0 < k_1))
      (cond (decide ((ofBytes [wu8 (w64 (48 + (k_1.tmod 10)))]).size + out_.size ≤ 1152921504606846976))
        (laws_markText_l0 N n (w64 (k_1.tdiv 10)) ((ofBytes [wu8 (w64 (48 + (k_1.tmod 10)))]) ++ out_) x0_)
        none)
      (x0_ out_)
/-- laws.markText -/
noncomputable def laws_markText {R : Type} (N : Nat) (k_ : Int) (k : ByteArray → Option R) : Option R :=
  cond (decide (k_ ≤ 0))
    (k (bs [109, 48]))
    (laws_markText_l0 N N k_ ByteArray.empty
      (fun out_1 =>
        cond (decide ((bs [109]).size + out_1.size ≤ 1152921504606846976))
          (k ((bs [109]) ++ out_1))
          none))
abbrev a81 : List AM := [.v (.int .i64)]
noncomputable def u81 {R : Type} (N : Nat) (d : AMs.D a81) (k : List Val → List Val → Option R) : Option R := laws_markText N d.1 (fun r0 => k [.c (.sr r0)] [])
noncomputable def c81 {R : Type} (N : Nat) : Con R := conOf [.rd] a81 (u81 N)
noncomputable def g81 {R : Type} (N : Nat) : List (Nat × Con R) := []
abbrev h81_60 : Sh := ⟨[(0, .c (.nu .i64)), (3, .c .sr)], [], 0, []⟩
noncomputable def l81_60 {R : Type} (N : Nat) : LCon R := lconOf [] h81_60 fun n d K => laws_markText_l0 N n d.1.1 d.1.2.1 (fun y0 => K (.exit 0) ⟨[(3, .c (.sr y0))], [], 0, []⟩)
noncomputable def L81 {R : Type} (N : Nat) : List (Nat × LCon R) := [(60, l81_60 N)]
theorem q81_60 {R : Type} (N : Nat) : LSpec Try.prog (gam (g81 N)) N (L81 N) 4 (subC (Try.f81.body.get rfl) [true, true, true, false, false, false]) 60 9 [(0, 8)] (l81_60 N : LCon R) :=
  lspec_of (fun d K => rfl) (fun n d K => by kernel_rfl)
theorem e81 {R : Type} (N : Nat) (d : AMs.D a81) (k : List Val → List Val → Option R) : evF Try.prog (gam (g81 N)) N (L81 N) Try.f81 (encAs a81 d (canAs a81 0)) k = u81 N d k := by kernel_rfl
theorem s81 {R : Type} (N : Nat) : Snd Try.prog 81 (c81 N : Con R) :=
  snd_eq (Γ := g81 N) (allG trivial) mixed Try.func81 (c := (Try.f81.body.get rfl)) rfl (by kernel_rfl) (by kernel_rfl) (Λ := L81 N) (qs := [⟨60, subC (Try.f81.body.get rfl) [true, true, true, false, false, false], 9, [(0, 8)]⟩]) (by kernel_rfl) ⟨lsome rfl (q81_60 N), trivial⟩ (e81 N)
/-- laws.markEventS, the loop 26 -/
noncomputable def laws_markEventS_l0 {R : Type} (N : Nat) : Nat → Int → Int → List DEvent → (Int → List DEvent → Option R) → Option R
  | 0, _, _, _, _ => none
  | n + 1, k_1, i, xs, x0_ =>
    cond (decide (i < (xs.length : Int)))
      (cond (idxE xs.length i)
        (cond (idxE ((xs.set i.toNat (k_1, (xs.getD i.toNat YEvent.z).2)).length) i)
          (let xs1 : List DEvent := (xs.set i.toNat (k_1, (xs.getD i.toNat YEvent.z).2)).set i.toNat (((xs.set i.toNat (k_1, (xs.getD i.toNat YEvent.z).2)).getD i.toNat YEvent.z).1, w64 (k_1 + 1), (((xs.set i.toNat (k_1, (xs.getD i.toNat YEvent.z).2)).getD i.toNat YEvent.z).2).2)
          cond (idxE xs1.length i)
            (let xs2 : List DEvent := xs1.set i.toNat ((xs1.getD i.toNat YEvent.z).1, ((xs1.getD i.toNat YEvent.z).2).1, wu64 (w64 ((w64 (k_1 + 1)) + 1)), (((xs1.getD i.toNat YEvent.z).2).2).2)
            cond (idxE xs2.length i)
              (let xs3 : List DEvent := xs2.set i.toNat ((xs2.getD i.toNat YEvent.z).1, ((xs2.getD i.toNat YEvent.z).2).1, (((xs2.getD i.toNat YEvent.z).2).2).1, w64 ((w64 ((w64 (k_1 + 1)) + 1)) + 1), ((((xs2.getD i.toNat YEvent.z).2).2).2).2)
              laws_markText N (w64 ((w64 ((w64 ((w64 (k_1 + 1)) + 1)) + 1)) + 1)) fun r =>
                cond (idxE xs3.length i)
                  (let xs4 : List DEvent := xs3.set i.toNat ((xs3.getD i.toNat YEvent.z).1, ((xs3.getD i.toNat YEvent.z).2).1, (((xs3.getD i.toNat YEvent.z).2).2).1, ((((xs3.getD i.toNat YEvent.z).2).2).2).1, r, (((((xs3.getD i.toNat YEvent.z).2).2).2).2).2)
                  cond (idxE xs4.length i)
                    (let xs5 : List DEvent := xs4.set i.toNat ((xs4.getD i.toNat YEvent.z).1, ((xs4.getD i.toNat YEvent.z).2).1, (((xs4.getD i.toNat YEvent.z).2).2).1, ((((xs4.getD i.toNat YEvent.z).2).2).2).1, (((((xs4.getD i.toNat YEvent.z).2).2).2).2).1, w64 ((w64 ((w64 ((w64 ((w64 (k_1 + 1)) + 1)) + 1)) + 1)) + 1), ((((((xs4.getD i.toNat YEvent.z).2).2).2).2).2).2)
                    cond (idxE xs5.length i)
                      (let xs6 : List DEvent := xs5.set i.toNat ((xs5.getD i.toNat YEvent.z).1, ((xs5.getD i.toNat YEvent.z).2).1, (((xs5.getD i.toNat YEvent.z).2).2).1, ((((xs5.getD i.toNat YEvent.z).2).2).2).1, (((((xs5.getD i.toNat YEvent.z).2).2).2).2).1, ((((((xs5.getD i.toNat YEvent.z).2).2).2).2).2).1, w64 ((w64 ((w64 ((w64 ((w64 ((w64 (k_1 + 1)) + 1)) + 1)) + 1)) + 1)) + 1))
                      laws_markEventS_l0 N n (w64 ((w64 ((w64 ((w64 ((w64 ((w64 ((w64 (k_1 + 1)) + 1)) + 1)) + 1)) + 1)) + 1)) + 1)) (w64 (i + 1)) xs6 x0_)
                      none)
                    none)
                  none)
              none)
            none)
          none)
        none)
      (x0_ k_1 xs)
/-- laws.markEventS -/
noncomputable def laws_markEventS {R : Type} (N : Nat) (a : List DEvent) (k_ : Int) (k : Int → List DEvent → Option R) : Option R :=
  laws_markEventS_l0 N N k_ 0 a
    (fun k_2 xs7 =>
      k k_2 xs7)
abbrev a51 : List AM := [.v (.ow 42 YEvent), .v (.int .i64)]
noncomputable def u51 {R : Type} (N : Nat) (d : AMs.D a51) (k : List Val → List Val → Option R) : Option R := laws_markEventS N d.1 d.2.1 (fun r0 o0 => k [.c (.nu .i64 r0)] [.c (.own YEvent 42 o0)])
noncomputable def c51 {R : Type} (N : Nat) : Con R := conOf [.bk, .rd] a51 (u51 N)
noncomputable def g51 {R : Type} (N : Nat) : List (Nat × Con R) := [(81, c81 N)]
abbrev h51_26 : Sh := ⟨[(0, .c (.slw 0)), (1, .c (.nu .i64)), (5, .c (.nu .i64))], [(0, .rows YEvent 42)], 1, [.c (.slw 0)]⟩
noncomputable def l51_26 {R : Type} (N : Nat) : LCon R := lconOf [] h51_26 fun n d K => laws_markEventS_l0 N n d.1.2.1 d.1.2.2.1 d.2.1.1 (fun y0 y1 => K (.exit 0) ⟨[(1, .c (.nu .i64 y0))], [(0, some (.rows YEvent 42 y1))], 1, [.c (.slw 0)]⟩)
noncomputable def L51 {R : Type} (N : Nat) : List (Nat × LCon R) := [(26, l51_26 N)]
theorem q51_26 {R : Type} (N : Nat) : LSpec Try.prog (gam (g51 N)) N (L51 N) 16 (subC (Try.f51.body.get rfl) [true, false, true, false, false]) 26 35 [(0, 2)] (l51_26 N : LCon R) :=
  lspec_of (fun d K => rfl) (fun n d K => by kernel_rfl)
theorem e51 {R : Type} (N : Nat) (d : AMs.D a51) (k : List Val → List Val → Option R) : evF Try.prog (gam (g51 N)) N (L51 N) Try.f51 (encAs a51 d (canAs a51 0)) k = u51 N d k := by kernel_rfl
theorem s51 {R : Type} (N : Nat) : Snd Try.prog 51 (c51 N : Con R) :=
  snd_eq (Γ := g51 N) (allG ⟨s81 N, trivial⟩) mixed Try.func51 (c := (Try.f51.body.get rfl)) rfl (by kernel_rfl) (by kernel_rfl) (Λ := L51 N) (qs := [⟨26, subC (Try.f51.body.get rfl) [true, false, true, false, false], 35, [(0, 2)]⟩]) (by kernel_rfl) ⟨lsome rfl (q51_26 N), trivial⟩ (e51 N)
/-- laws.heldEventS, the loop 26 -/
noncomputable def laws_heldEventS_l0 {R : Type} (N : Nat) : Nat → List DEvent → Int → Int → (Int → Option R) → (Int → Option R) → Option R
  | 0, _, _, _, _, _ => none
  | n + 1, a1, k_1, i, x0_, x1_ =>
    cond (decide (i < (a1.length : Int)))
      (cond (idxE a1.length i)
        (cond (!(decide (((a1.getD i.toNat YEvent.z).1) = k_1)))
          (x0_ (-1))
          (cond (idxE a1.length i)
            (cond (!(decide ((((a1.getD i.toNat YEvent.z).2).1) = (w64 (k_1 + 1)))))
              (x0_ (-1))
              (cond (idxE a1.length i)
                (cond (!(decide (((((a1.getD i.toNat YEvent.z).2).2).1) = (wu64 (w64 ((w64 (k_1 + 1)) + 1))))))
                  (x0_ (-1))
                  (cond (idxE a1.length i)
                    (cond (!(decide ((((((a1.getD i.toNat YEvent.z).2).2).2).1) = (w64 ((w64 ((w64 (k_1 + 1)) + 1)) + 1)))))
                      (x0_ (-1))
                      (cond (idxE a1.length i)
                        (laws_markText N (w64 ((w64 ((w64 ((w64 (k_1 + 1)) + 1)) + 1)) + 1)) fun r =>
                          cond (!decide ((((((a1.getD i.toNat YEvent.z).2).2).2).2).1 = r))
                            (x0_ (-1))
                            (cond (idxE a1.length i)
                              (cond (!(decide ((((((((a1.getD i.toNat YEvent.z).2).2).2).2).2).1) = (w64 ((w64 ((w64 ((w64 ((w64 (k_1 + 1)) + 1)) + 1)) + 1)) + 1)))))
                                (x0_ (-1))
                                (cond (idxE a1.length i)
                                  (cond (!(decide ((((((((a1.getD i.toNat YEvent.z).2).2).2).2).2).2) = (w64 ((w64 ((w64 ((w64 ((w64 ((w64 (k_1 + 1)) + 1)) + 1)) + 1)) + 1)) + 1)))))
                                    (x0_ (-1))
                                    (laws_heldEventS_l0 N n a1 (w64 ((w64 ((w64 ((w64 ((w64 ((w64 ((w64 (k_1 + 1)) + 1)) + 1)) + 1)) + 1)) + 1)) + 1)) (w64 (i + 1)) x0_ x1_))
                                  none))
                              none))
                        none))
                    none))
                none))
            none))
        none)
      (x1_ k_1)
/-- laws.heldEventS -/
noncomputable def laws_heldEventS {R : Type} (N : Nat) (a : List DEvent) (k_ : Int) (k : Int → Option R) : Option R :=
  laws_heldEventS_l0 N N a k_ 0
    (fun v =>
      k v)
    (fun k_2 =>
      k k_2)
abbrev a52 : List AM := [.v (.ro 42 YEvent), .v (.int .i64)]
noncomputable def u52 {R : Type} (N : Nat) (d : AMs.D a52) (k : List Val → List Val → Option R) : Option R := laws_heldEventS N d.1 d.2.1 (fun r0 => k [.c (.nu .i64 r0)] [])
noncomputable def c52 {R : Type} (N : Nat) : Con R := conOf [.rd, .rd] a52 (u52 N)
noncomputable def g52 {R : Type} (N : Nat) : List (Nat × Con R) := [(81, c81 N)]
abbrev h52_26 : Sh := ⟨[(0, .c (.ro 0 42 YEvent)), (1, .c (.nu .i64)), (5, .c (.nu .i64))], [], 0, []⟩
noncomputable def l52_26 {R : Type} (N : Nat) : LCon R := lconOf [] h52_26 fun n d K => laws_heldEventS_l0 N n d.1.1 d.1.2.1 d.1.2.2.1 (fun y0 => K .ret ⟨[(4, .c (.nu .i64 y0))], [], 0, []⟩) (fun y0 => K (.exit 0) ⟨[(1, .c (.nu .i64 y0))], [], 0, []⟩)
noncomputable def L52 {R : Type} (N : Nat) : List (Nat × LCon R) := [(26, l52_26 N)]
theorem q52_26 {R : Type} (N : Nat) : LSpec Try.prog (gam (g52 N)) N (L52 N) 16 (subC (Try.f52.body.get rfl) [true, false, true, false, false]) 26 35 [(0, 2)] (l52_26 N : LCon R) :=
  lspec_of (fun d K => rfl) (fun n d K => by kernel_rfl)
theorem e52 {R : Type} (N : Nat) (d : AMs.D a52) (k : List Val → List Val → Option R) : evF Try.prog (gam (g52 N)) N (L52 N) Try.f52 (encAs a52 d (canAs a52 0)) k = u52 N d k := by kernel_rfl
theorem s52 {R : Type} (N : Nat) : Snd Try.prog 52 (c52 N : Con R) :=
  snd_eq (Γ := g52 N) (allG ⟨s81 N, trivial⟩) mixed Try.func52 (c := (Try.f52.body.get rfl)) rfl (by kernel_rfl) (by kernel_rfl) (Λ := L52 N) (qs := [⟨26, subC (Try.f52.body.get rfl) [true, false, true, false, false], 35, [(0, 2)]⟩]) (by kernel_rfl) ⟨lsome rfl (q52_26 N), trivial⟩ (e52 N)
/-- laws.FnExactTold -/
noncomputable def laws_FnExactTold {R : Type} (N : Nat) (aList : List DEvent) (k : Bool → Option R) : Option R :=
  laws_szEventS N aList 1048576 fun r =>
    cond (decide (r < 0))
      (k true)
      (laws_toEventS N aList fun r1 =>
        spec_Told N r1 fun r2 =>
          laws_toEventS N aList fun r3 =>
            impl_Told N r3 fun r4 =>
              laws_eqEventS N r4 r2 fun r5 =>
                cond (!r5)
                  (k false)
                  (laws_toEventS N aList fun r6 =>
                    laws_eqEventS N r3 r6 fun r7 =>
                      cond (!r7)
                        (k false)
                        (laws_markEventS N r3 1 fun r8 o =>
                          cond (decide (r8 < 0))
                            (k false)
                            (laws_eqEventS N r4 r2 fun r9 =>
                              cond (!r9)
                                (k false)
                                (laws_markEventS N r4 1 fun r10 o1 =>
                                  laws_heldEventS N o1 1 fun r11 =>
                                    cond (decide (r11 < 0))
                                      (k false)
                                      (cond (!(decide (r11 = r10)))
                                        (k false)
                                        (laws_toEventS N aList fun r12 =>
                                          impl_Told N r12 fun r13 =>
                                            laws_eqEventS N r13 r2 fun r14 =>
                                              cond (!r14)
                                                (k false)
                                                (laws_heldEventS N o1 1 fun r15 =>
                                                  cond (decide (r15 < 0))
                                                    (k false)
                                                    (cond (!(decide (r15 = r10)))
                                                      (k false)
                                                      (k true))))))))))
abbrev a14 : List AM := [.v (.ro 75 YEvent)]
noncomputable def u14 {R : Type} (N : Nat) (d : AMs.D a14) (k : List Val → List Val → Option R) : Option R := laws_FnExactTold N d.1 (fun r0 => k [.c (.bo r0)] [])
noncomputable def c14 {R : Type} (N : Nat) : Con R := conOf [.rd] a14 (u14 N)
noncomputable def g14 {R : Type} (N : Nat) : List (Nat × Con R) := [(25, c25 N), (27, c27 N), (49, c49 N), (50, c50 N), (30, c30 N), (51, c51 N), (52, c52 N)]
noncomputable def L14 {R : Type} (N : Nat) : List (Nat × LCon R) := []
theorem e14 {R : Type} (N : Nat) (d : AMs.D a14) (k : List Val → List Val → Option R) : evF Try.prog (gam (g14 N)) N (L14 N) Try.f14 (encAs a14 d (canAs a14 0)) k = u14 N d k := by kernel_rfl
theorem s14 {R : Type} (N : Nat) : Snd Try.prog 14 (c14 N : Con R) :=
  snd_eq (Γ := g14 N) (allG ⟨s25 N, s27 N, s49 N, s50 N, s30 N, s51 N, s52 N, trivial⟩) mixed Try.func14 (c := (Try.f14.body.get rfl)) rfl (by kernel_rfl) (by kernel_rfl) (Λ := L14 N) (qs := []) (by kernel_rfl) trivial (e14 N)
/-- laws.markIntS, the loop 26 -/
noncomputable def laws_markIntS_l0 {R : Type} (N : Nat) : Nat → Int → Int → List Int → (Int → List Int → Option R) → Option R
  | 0, _, _, _, _ => none
  | n + 1, k_1, i, xs, x0_ =>
    cond (decide (i < (xs.length : Int)))
      (cond (idxE xs.length i)
        (laws_markIntS_l0 N n (w64 (k_1 + 1)) (w64 (i + 1)) (xs.set i.toNat k_1) x0_)
        none)
      (x0_ k_1 xs)
/-- laws.markIntS -/
noncomputable def laws_markIntS {R : Type} (N : Nat) (a : List Int) (k_ : Int) (k : Int → List Int → Option R) : Option R :=
  laws_markIntS_l0 N N k_ 0 a
    (fun k_2 xs1 =>
      k k_2 xs1)
abbrev a78 : List AM := [.v (.ow 3 (.int .i64)), .v (.int .i64)]
noncomputable def u78 {R : Type} (N : Nat) (d : AMs.D a78) (k : List Val → List Val → Option R) : Option R := laws_markIntS N d.1 d.2.1 (fun r0 o0 => k [.c (.nu .i64 r0)] [.c (.own (.int .i64) 3 o0)])
noncomputable def c78 {R : Type} (N : Nat) : Con R := conOf [.bk, .rd] a78 (u78 N)
noncomputable def g78 {R : Type} (N : Nat) : List (Nat × Con R) := []
abbrev h78_26 : Sh := ⟨[(0, .c (.slw 0)), (1, .c (.nu .i64)), (5, .c (.nu .i64))], [(0, .rows (.int .i64) 3)], 1, [.c (.slw 0)]⟩
noncomputable def l78_26 {R : Type} (N : Nat) : LCon R := lconOf [] h78_26 fun n d K => laws_markIntS_l0 N n d.1.2.1 d.1.2.2.1 d.2.1.1 (fun y0 y1 => K (.exit 0) ⟨[(1, .c (.nu .i64 y0))], [(0, some (.rows (.int .i64) 3 y1))], 1, [.c (.slw 0)]⟩)
noncomputable def L78 {R : Type} (N : Nat) : List (Nat × LCon R) := [(26, l78_26 N)]
theorem q78_26 {R : Type} (N : Nat) : LSpec Try.prog (gam (g78 N)) N (L78 N) 16 (subC (Try.f78.body.get rfl) [true, false, true, false, false]) 26 35 [(0, 2)] (l78_26 N : LCon R) :=
  lspec_of (fun d K => rfl) (fun n d K => by kernel_rfl)
theorem e78 {R : Type} (N : Nat) (d : AMs.D a78) (k : List Val → List Val → Option R) : evF Try.prog (gam (g78 N)) N (L78 N) Try.f78 (encAs a78 d (canAs a78 0)) k = u78 N d k := by kernel_rfl
theorem s78 {R : Type} (N : Nat) : Snd Try.prog 78 (c78 N : Con R) :=
  snd_eq (Γ := g78 N) (allG trivial) mixed Try.func78 (c := (Try.f78.body.get rfl)) rfl (by kernel_rfl) (by kernel_rfl) (Λ := L78 N) (qs := [⟨26, subC (Try.f78.body.get rfl) [true, false, true, false, false], 35, [(0, 2)]⟩]) (by kernel_rfl) ⟨lsome rfl (q78_26 N), trivial⟩ (e78 N)
/-- laws.markSink -/
noncomputable def laws_markSink {R : Type} (N : Nat) (a : DSink) (k_ : Int) (k : Int → DSink → Option R) : Option R :=
  laws_markIntS N a.2.1 k_ fun r o =>
    k r (a.1, o, a.2.2)
abbrev a47 : List AM := [.a (.pr .str (.pr (.ow 3 (.int .i64)) (.pr (.int .i64) (.int .i64)))), .v (.int .i64)]
noncomputable def u47 {R : Type} (N : Nat) (d : AMs.D a47) (k : List Val → List Val → Option R) : Option R := laws_markSink N d.1 d.2.1 (fun r0 o0 => k [.c (.nu .i64 r0)] [.agg [.sr o0.1, .own (.int .i64) 3 o0.2.1, .nu .i64 o0.2.2.1, .nu .i64 o0.2.2.2]])
noncomputable def c47 {R : Type} (N : Nat) : Con R := conOf [.bk, .rd] a47 (u47 N)
noncomputable def g47 {R : Type} (N : Nat) : List (Nat × Con R) := [(78, c78 N)]
noncomputable def L47 {R : Type} (N : Nat) : List (Nat × LCon R) := []
theorem e47 {R : Type} (N : Nat) (d : AMs.D a47) (k : List Val → List Val → Option R) : evF Try.prog (gam (g47 N)) N (L47 N) Try.f47 (encAs a47 d (canAs a47 0)) k = u47 N d k := by kernel_rfl
theorem s47 {R : Type} (N : Nat) : Snd Try.prog 47 (c47 N : Con R) :=
  snd_eq (Γ := g47 N) (allG ⟨s78 N, trivial⟩) mixed Try.func47 (c := (Try.f47.body.get rfl)) rfl (by kernel_rfl) (by kernel_rfl) (Λ := L47 N) (qs := []) (by kernel_rfl) trivial (e47 N)
/-- laws.heldIntS, the loop 26 -/
noncomputable def laws_heldIntS_l0 {R : Type} (N : Nat) : Nat → List Int → Int → Int → (Int → Option R) → (Int → Option R) → Option R
  | 0, _, _, _, _, _ => none
  | n + 1, a1, k_1, i, x0_, x1_ =>
    cond (decide (i < (a1.length : Int)))
      (cond (idxE a1.length i)
        (cond (!(decide ((a1.getD i.toNat 0) = k_1)))
          (x0_ (-1))
          (laws_heldIntS_l0 N n a1 (w64 (k_1 + 1)) (w64 (i + 1)) x0_ x1_))
        none)
      (x1_ k_1)
/-- laws.heldIntS -/
noncomputable def laws_heldIntS {R : Type} (N : Nat) (a : List Int) (k_ : Int) (k : Int → Option R) : Option R :=
  laws_heldIntS_l0 N N a k_ 0
    (fun v =>
      k v)
    (fun k_2 =>
      k k_2)
abbrev a79 : List AM := [.v (.ro 3 (.int .i64)), .v (.int .i64)]
noncomputable def u79 {R : Type} (N : Nat) (d : AMs.D a79) (k : List Val → List Val → Option R) : Option R := laws_heldIntS N d.1 d.2.1 (fun r0 => k [.c (.nu .i64 r0)] [])
noncomputable def c79 {R : Type} (N : Nat) : Con R := conOf [.rd, .rd] a79 (u79 N)
noncomputable def g79 {R : Type} (N : Nat) : List (Nat × Con R) := []
abbrev h79_26 : Sh := ⟨[(0, .c (.ro 0 3 (.int .i64))), (1, .c (.nu .i64)), (5, .c (.nu .i64))], [], 0, []⟩
noncomputable def l79_26 {R : Type} (N : Nat) : LCon R := lconOf [] h79_26 fun n d K => laws_heldIntS_l0 N n d.1.1 d.1.2.1 d.1.2.2.1 (fun y0 => K .ret ⟨[(4, .c (.nu .i64 y0))], [], 0, []⟩) (fun y0 => K (.exit 0) ⟨[(1, .c (.nu .i64 y0))], [], 0, []⟩)
noncomputable def L79 {R : Type} (N : Nat) : List (Nat × LCon R) := [(26, l79_26 N)]
theorem q79_26 {R : Type} (N : Nat) : LSpec Try.prog (gam (g79 N)) N (L79 N) 16 (subC (Try.f79.body.get rfl) [true, false, true, false, false]) 26 35 [(0, 2)] (l79_26 N : LCon R) :=
  lspec_of (fun d K => rfl) (fun n d K => by kernel_rfl)
theorem e79 {R : Type} (N : Nat) (d : AMs.D a79) (k : List Val → List Val → Option R) : evF Try.prog (gam (g79 N)) N (L79 N) Try.f79 (encAs a79 d (canAs a79 0)) k = u79 N d k := by kernel_rfl
theorem s79 {R : Type} (N : Nat) : Snd Try.prog 79 (c79 N : Con R) :=
  snd_eq (Γ := g79 N) (allG trivial) mixed Try.func79 (c := (Try.f79.body.get rfl)) rfl (by kernel_rfl) (by kernel_rfl) (Λ := L79 N) (qs := [⟨26, subC (Try.f79.body.get rfl) [true, false, true, false, false], 35, [(0, 2)]⟩]) (by kernel_rfl) ⟨lsome rfl (q79_26 N), trivial⟩ (e79 N)
/-- laws.heldSink -/
noncomputable def laws_heldSink {R : Type} (N : Nat) (a : DSink) (k_ : Int) (k : Int → Option R) : Option R :=
  laws_heldIntS N a.2.1 k_ fun r =>
    cond (decide (r < 0))
      (k (-1))
      (k r)
abbrev a48 : List AM := [.a (.pr .str (.pr (.ro 3 (.int .i64)) (.pr (.int .i64) (.int .i64)))), .v (.int .i64)]
noncomputable def u48 {R : Type} (N : Nat) (d : AMs.D a48) (k : List Val → List Val → Option R) : Option R := laws_heldSink N d.1 d.2.1 (fun r0 => k [.c (.nu .i64 r0)] [])
noncomputable def c48 {R : Type} (N : Nat) : Con R := conOf [.rd, .rd] a48 (u48 N)
noncomputable def g48 {R : Type} (N : Nat) : List (Nat × Con R) := [(79, c79 N)]
noncomputable def L48 {R : Type} (N : Nat) : List (Nat × LCon R) := []
theorem e48 {R : Type} (N : Nat) (d : AMs.D a48) (k : List Val → List Val → Option R) : evF Try.prog (gam (g48 N)) N (L48 N) Try.f48 (encAs a48 d (canAs a48 0)) k = u48 N d k := by kernel_rfl
theorem s48 {R : Type} (N : Nat) : Snd Try.prog 48 (c48 N : Con R) :=
  snd_eq (Γ := g48 N) (allG ⟨s79 N, trivial⟩) mixed Try.func48 (c := (Try.f48.body.get rfl)) rfl (by kernel_rfl) (by kernel_rfl) (Λ := L48 N) (qs := []) (by kernel_rfl) trivial (e48 N)
/-- laws.FnExactWriteAll -/
noncomputable def laws_FnExactWriteAll {R : Type} (N : Nat) (aK : DSink) (aS : ByteArray) (k : Bool → Option R) : Option R :=
  cond (decide (1048576 < (aS.size : Int)))
    (k true)
    (laws_szSink N aK 1048576 fun r =>
      cond (decide (r < 0))
        (k true)
        (laws_toSink N aK fun r1 =>
          spec_WriteAll N r1 aS fun r2 =>
            laws_toSink N aK fun r3 =>
              impl_WriteAll N r3 aS fun r4 =>
                laws_eqSink N r4 r2 fun r5 =>
                  cond (!r5)
                    (k false)
                    (laws_toSink N aK fun r6 =>
                      laws_eqSink N r3 r6 fun r7 =>
                        cond (!r7)
                          (k false)
                          (laws_markSink N r3 1 fun r8 o =>
                            cond (decide (r8 < 0))
                              (k false)
                              (laws_eqSink N r4 r2 fun r9 =>
                                cond (!r9)
                                  (k false)
                                  (laws_markSink N r4 1 fun r10 o1 =>
                                    laws_heldSink N (r4.1, o1.2.1, r4.2.2) 1 fun r11 =>
                                      cond (decide (r11 < 0))
                                        (k false)
                                        (cond (!(decide (r11 = r10)))
                                          (k false)
                                          (laws_toSink N aK fun r12 =>
                                            impl_WriteAll N r12 aS fun r13 =>
                                              laws_eqSink N r13 r2 fun r14 =>
                                                cond (!r14)
                                                  (k false)
                                                  (laws_heldSink N (r4.1, o1.2.1, r4.2.2) 1 fun r15 =>
                                                    cond (decide (r15 < 0))
                                                      (k false)
                                                      (cond (!(decide (r15 = r10)))
                                                        (k false)
                                                        (k true)))))))))))
abbrev a13 : List AM := [.a (.pr .str (.pr (.ro 3 (.int .i64)) (.pr (.int .i64) (.int .i64)))), .v .str]
noncomputable def u13 {R : Type} (N : Nat) (d : AMs.D a13) (k : List Val → List Val → Option R) : Option R := laws_FnExactWriteAll N d.1 d.2.1 (fun r0 => k [.c (.bo r0)] [])
noncomputable def c13 {R : Type} (N : Nat) : Con R := conOf [.rd, .rd] a13 (u13 N)
noncomputable def g13 {R : Type} (N : Nat) : List (Nat × Con R) := [(20, c20 N), (22, c22 N), (41, c41 N), (39, c39 N), (24, c24 N), (47, c47 N), (48, c48 N)]
noncomputable def L13 {R : Type} (N : Nat) : List (Nat × LCon R) := []
theorem e13 {R : Type} (N : Nat) (d : AMs.D a13) (k : List Val → List Val → Option R) : evF Try.prog (gam (g13 N)) N (L13 N) Try.f13 (encAs a13 d (canAs a13 0)) k = u13 N d k := by kernel_rfl
theorem s13 {R : Type} (N : Nat) : Snd Try.prog 13 (c13 N : Con R) :=
  snd_eq (Γ := g13 N) (allG ⟨s20 N, s22 N, s41 N, s39 N, s24 N, s47 N, s48 N, trivial⟩) mixed Try.func13 (c := (Try.f13.body.get rfl)) rfl (by kernel_rfl) (by kernel_rfl) (Λ := L13 N) (qs := []) (by kernel_rfl) trivial (e13 N)
/-- spec.WriteSome -/
noncomputable def spec_WriteSome {R : Type} (N : Nat) (k_ : DSink) (s : ByteArray) (k : DSink → Int → Option R) : Option R :=
  spec_SinkOk N k_ fun r =>
    cond (!r)
      (spec_l24Copy N k_ fun r1 =>
        k r1 0)
      (cond (decide (s = ByteArray.empty))
        (spec_l24Copy N k_ fun r2 =>
          k r2 0)
        (cond (decide (4000 < (w64 ((k_.1.size : Int) + (s.size : Int)))))
          (spec_l24Copy N k_ fun r3 =>
            k r3 0)
          (spec_l24Copy N k_ fun r4 =>
            spec_l24Some N r4 s fun r5 r6 =>
              k r5 r6)))
abbrev a44 : List AM := [.a (.pr .str (.pr (.ro 3 (.int .i64)) (.pr (.int .i64) (.int .i64)))), .v .str]
noncomputable def u44 {R : Type} (N : Nat) (d : AMs.D a44) (k : List Val → List Val → Option R) : Option R := spec_WriteSome N d.1 d.2.1 (fun r0 r1 => k [.agg [.sr r0.1, .own (.int .i64) 3 r0.2.1, .nu .i64 r0.2.2.1, .nu .i64 r0.2.2.2], .c (.nu .i64 r1)] [])
noncomputable def c44 {R : Type} (N : Nat) : Con R := conOf [.rd, .rd] a44 (u44 N)
noncomputable def g44 {R : Type} (N : Nat) : List (Nat × Con R) := [(21, c21 N), (74, c74 N), (75, c75 N)]
noncomputable def L44 {R : Type} (N : Nat) : List (Nat × LCon R) := []
theorem e44 {R : Type} (N : Nat) (d : AMs.D a44) (k : List Val → List Val → Option R) : evF Try.prog (gam (g44 N)) N (L44 N) Try.f44 (encAs a44 d (canAs a44 0)) k = u44 N d k := by kernel_rfl
theorem s44 {R : Type} (N : Nat) : Snd Try.prog 44 (c44 N : Con R) :=
  snd_eq (Γ := g44 N) (allG ⟨s21 N, s74 N, s75 N, trivial⟩) mixed Try.func44 (c := (Try.f44.body.get rfl)) rfl (by kernel_rfl) (by kernel_rfl) (Λ := L44 N) (qs := []) (by kernel_rfl) trivial (e44 N)
/-- impl.WriteSome -/
noncomputable def impl_WriteSome {R : Type} (N : Nat) (k_ : DSink) (s : ByteArray) (k : DSink → Int → Option R) : Option R :=
  impl_copySink N k_ fun r =>
    cond (decide (s = ByteArray.empty))
      (k r 0)
      (impl_Sink_fits N k_ s fun r1 =>
        cond (!r1)
          (k r 0)
          (impl_Sink_write N r s fun r2 o =>
            k o r2))
abbrev a43 : List AM := [.a (.pr .str (.pr (.ro 3 (.int .i64)) (.pr (.int .i64) (.int .i64)))), .v .str]
noncomputable def u43 {R : Type} (N : Nat) (d : AMs.D a43) (k : List Val → List Val → Option R) : Option R := impl_WriteSome N d.1 d.2.1 (fun r0 r1 => k [.agg [.sr r0.1, .own (.int .i64) 3 r0.2.1, .nu .i64 r0.2.2.1, .nu .i64 r0.2.2.2], .c (.nu .i64 r1)] [])
noncomputable def c43 {R : Type} (N : Nat) : Con R := conOf [.rd, .rd] a43 (u43 N)
noncomputable def g43 {R : Type} (N : Nat) : List (Nat × Con R) := [(68, c68 N), (69, c69 N), (70, c70 N)]
noncomputable def L43 {R : Type} (N : Nat) : List (Nat × LCon R) := []
theorem e43 {R : Type} (N : Nat) (d : AMs.D a43) (k : List Val → List Val → Option R) : evF Try.prog (gam (g43 N)) N (L43 N) Try.f43 (encAs a43 d (canAs a43 0)) k = u43 N d k := by kernel_rfl
theorem s43 {R : Type} (N : Nat) : Snd Try.prog 43 (c43 N : Con R) :=
  snd_eq (Γ := g43 N) (allG ⟨s68 N, s69 N, s70 N, trivial⟩) mixed Try.func43 (c := (Try.f43.body.get rfl)) rfl (by kernel_rfl) (by kernel_rfl) (Λ := L43 N) (qs := []) (by kernel_rfl) trivial (e43 N)
/-- laws.FnExactWriteSome -/
noncomputable def laws_FnExactWriteSome {R : Type} (N : Nat) (aK : DSink) (aS : ByteArray) (k : Bool → Option R) : Option R :=
  cond (decide (1048576 < (aS.size : Int)))
    (k true)
    (laws_szSink N aK 1048576 fun r =>
      cond (decide (r < 0))
        (k true)
        (laws_toSink N aK fun r1 =>
          spec_WriteSome N r1 aS fun r2 r3 =>
            laws_toSink N aK fun r4 =>
              impl_WriteSome N r4 aS fun r5 r6 =>
                laws_eqSink N r5 r2 fun r7 =>
                  cond (!r7)
                    (k false)
                    (cond (!(decide (r6 = r3)))
                      (k false)
                      (laws_toSink N aK fun r8 =>
                        laws_eqSink N r4 r8 fun r9 =>
                          cond (!r9)
                            (k false)
                            (laws_markSink N r4 1 fun r10 o =>
                              cond (decide (r10 < 0))
                                (k false)
                                (laws_eqSink N r5 r2 fun r11 =>
                                  cond (!r11)
                                    (k false)
                                    (cond (!(decide (r6 = r3)))
                                      (k false)
                                      (laws_markSink N r5 1 fun r12 o1 =>
                                        laws_heldSink N (r5.1, o1.2.1, r5.2.2) 1 fun r13 =>
                                          cond (decide (r13 < 0))
                                            (k false)
                                            (cond (!(decide (r13 = r12)))
                                              (k false)
                                              (laws_toSink N aK fun r14 =>
                                                impl_WriteSome N r14 aS fun r15 r16 =>
                                                  laws_eqSink N r15 r2 fun r17 =>
                                                    cond (!r17)
                                                      (k false)
                                                      (cond (!(decide (r16 = r3)))
                                                        (k false)
                                                        (laws_heldSink N (r5.1, o1.2.1, r5.2.2) 1 fun r18 =>
                                                          cond (decide (r18 < 0))
                                                            (k false)
                                                            (cond (!(decide (r18 = r12)))
                                                              (k false)
                                                              (k true))))))))))))))
abbrev a12 : List AM := [.a (.pr .str (.pr (.ro 3 (.int .i64)) (.pr (.int .i64) (.int .i64)))), .v .str]
noncomputable def u12 {R : Type} (N : Nat) (d : AMs.D a12) (k : List Val → List Val → Option R) : Option R := laws_FnExactWriteSome N d.1 d.2.1 (fun r0 => k [.c (.bo r0)] [])
noncomputable def c12 {R : Type} (N : Nat) : Con R := conOf [.rd, .rd] a12 (u12 N)
noncomputable def g12 {R : Type} (N : Nat) : List (Nat × Con R) := [(20, c20 N), (22, c22 N), (44, c44 N), (43, c43 N), (24, c24 N), (47, c47 N), (48, c48 N)]
noncomputable def L12 {R : Type} (N : Nat) : List (Nat × LCon R) := []
theorem e12 {R : Type} (N : Nat) (d : AMs.D a12) (k : List Val → List Val → Option R) : evF Try.prog (gam (g12 N)) N (L12 N) Try.f12 (encAs a12 d (canAs a12 0)) k = u12 N d k := by kernel_rfl
theorem s12 {R : Type} (N : Nat) : Snd Try.prog 12 (c12 N : Con R) :=
  snd_eq (Γ := g12 N) (allG ⟨s20 N, s22 N, s44 N, s43 N, s24 N, s47 N, s48 N, trivial⟩) mixed Try.func12 (c := (Try.f12.body.get rfl)) rfl (by kernel_rfl) (by kernel_rfl) (Λ := L12 N) (qs := []) (by kernel_rfl) trivial (e12 N)
/-- spec.l1Bytes, the loop 58 -/
noncomputable def spec_l1Bytes_l0 {R : Type} (N : Nat) : Nat → Int → Int → List Int → Int → Int → List Int → (List Int → List Int → Int → Int → Option R) → Option R
  | 0, _, _, _, _, _, _, _ => none
  | n + 1, n_1, i, b, b1, b2, xs, x0_ =>
    cond (decide (i < n_1))
      (spec_l1Byte N (b, b1, b2) fun r o =>
        cond (decide ((xs.length + 1) * 1 ≤ 140737488355328))
          (spec_l1Bytes_l0 N n n_1 (w64 (i + 1)) o.1 o.2.1 o.2.2 (xs ++ [wu8 r]) x0_)
          none)
      (x0_ xs b b1 b2)
/-- spec.l1Bytes -/
noncomputable def spec_l1Bytes {R : Type} (N : Nat) (c : Dl1Cur) (n_ : Int) (k : List Int → Dl1Cur → Option R) : Option R :=
  spec_l1Bytes_l0 N N n_ 0 c.1 c.2.1 c.2.2 []
    (fun xs1 b3 b4 b5 =>
      k xs1 (b3, b4, b5))
abbrev a72 : List AM := [.p 94 (.pr (.ro 5 (.int .u8)) (.pr (.int .i64) (.int .i64))), .v (.int .i64)]
noncomputable def u72 {R : Type} (N : Nat) (d : AMs.D a72) (k : List Val → List Val → Option R) : Option R := spec_l1Bytes N d.1 d.2.1 (fun r0 o0 => k [.c (.own (.int .u8) 5 r0)] [.bx 94 [.ro 0 (.int .u8) 5 o0.1, .nu .i64 o0.2.1, .nu .i64 o0.2.2]])
noncomputable def c72 {R : Type} (N : Nat) : Con R := conOf [.rd, .rd] a72 (u72 N)
noncomputable def g72 {R : Type} (N : Nat) : List (Nat × Con R) := [(83, c83 N)]
abbrev h72_58 : Sh := ⟨[(0, .c (.ptr 0 0)), (1, .c (.nu .i64)), (5, .c (.slw 1)), (6, .c (.nu .i64))], [(0, .box 94 [.ro 0 5 (.int .u8), .nu .i64, .nu .i64]), (1, .rows (.int .u8) 5)], 2, [.c (.ptr 0 0)]⟩
noncomputable def l72_58 {R : Type} (N : Nat) : LCon R := lconOf [] h72_58 fun n d K => spec_l1Bytes_l0 N n d.1.2.1 d.1.2.2.2.1 d.2.1.1.1 d.2.1.1.2.1 d.2.1.1.2.2.1 d.2.1.2.1 (fun y0 y1 y2 y3 => K (.exit 0) ⟨[(5, .c (.slw 0))], [(0, some (.rows (.int .u8) 5 y0)), (1, some (.box 94 [.ro 0 (.int .u8) 5 y1, .nu .i64 y2, .nu .i64 y3]))], 2, [.c (.ptr 1 0)]⟩)
noncomputable def L72 {R : Type} (N : Nat) : List (Nat × LCon R) := [(58, l72_58 N)]
theorem q72_58 {R : Type} (N : Nat) : LSpec Try.prog (gam (g72 N)) N (L72 N) 16 (subC (Try.f72.body.get rfl) [true, true, false, true, false, false]) 58 99 [(0, 32)] (l72_58 N : LCon R) :=
  lspec_of (fun d K => rfl) (fun n d K => by kernel_rfl)
theorem e72 {R : Type} (N : Nat) (d : AMs.D a72) (k : List Val → List Val → Option R) : evF Try.prog (gam (g72 N)) N (L72 N) Try.f72 (encAs a72 d (canAs a72 0)) k = u72 N d k := by kernel_rfl
theorem s72 {R : Type} (N : Nat) : Snd Try.prog 72 (c72 N : Con R) :=
  snd_eq (Γ := g72 N) (allG ⟨s83 N, trivial⟩) mixed Try.func72 (c := (Try.f72.body.get rfl)) rfl (by kernel_rfl) (by kernel_rfl) (Λ := L72 N) (qs := [⟨58, subC (Try.f72.body.get rfl) [true, true, false, true, false, false], 99, [(0, 32)]⟩]) (by kernel_rfl) ⟨lsome rfl (q72_58 N), trivial⟩ (e72 N)
/-- spec.l24Bent -/
noncomputable def spec_l24Bent {R : Type} (N : Nat) (c : Dl1Cur) (k : DSink → Dl1Cur → Option R) : Option R :=
  spec_l24Script N c fun r o =>
    spec_l1Below N o 20 fun r1 o1 =>
      spec_l1Bytes N o1 r1 fun r2 o2 =>
        spec_WriteAll N (ByteArray.empty, r, 0, 0) (ofBytes r2) fun r3 =>
          spec_l1Below N o2 14 fun r4 o3 =>
            cond (decide (r4 = 0))
              (spec_l1PickInt N o3 [(-1), 0, (r3.2.1.length : Int), w64 ((r3.2.1.length : Int) + 1)] fun r5 o4 =>
                k (r3.1, r3.2.1, r5, r3.2.2.2) o4)
              (cond (decide (r4 = 1))
                (spec_l1PickInt N o3 [(-1), 0, 1000000, 1000001] fun r6 o5 =>
                  k (r3.1, r3.2.1, r3.2.2.1, r6) o5)
                (cond (decide (r4 = 2))
                  (spec_l1Below N o3 12 fun r7 o6 =>
                    spec_l24Zeros N (w64 (3990 + r7)) fun r8 =>
                      k (r8, r3.2) o6)
                  (k r3 o3)))
abbrev a71 : List AM := [.p 94 (.pr (.ro 5 (.int .u8)) (.pr (.int .i64) (.int .i64)))]
noncomputable def u71 {R : Type} (N : Nat) (d : AMs.D a71) (k : List Val → List Val → Option R) : Option R := spec_l24Bent N d.1 (fun r0 o0 => k [.agg [.sr r0.1, .own (.int .i64) 3 r0.2.1, .nu .i64 r0.2.2.1, .nu .i64 r0.2.2.2]] [.bx 94 [.ro 0 (.int .u8) 5 o0.1, .nu .i64 o0.2.1, .nu .i64 o0.2.2]])
noncomputable def c71 {R : Type} (N : Nat) : Con R := conOf [.rd] a71 (u71 N)
noncomputable def g71 {R : Type} (N : Nat) : List (Nat × Con R) := [(66, c66 N), (73, c73 N), (72, c72 N), (41, c41 N), (67, c67 N), (64, c64 N)]
noncomputable def L71 {R : Type} (N : Nat) : List (Nat × LCon R) := []
theorem e71 {R : Type} (N : Nat) (d : AMs.D a71) (k : List Val → List Val → Option R) : evF Try.prog (gam (g71 N)) N (L71 N) Try.f71 (encAs a71 d (canAs a71 0)) k = u71 N d k := by kernel_rfl
theorem s71 {R : Type} (N : Nat) : Snd Try.prog 71 (c71 N : Con R) :=
  snd_eq (Γ := g71 N) (allG ⟨s66 N, s73 N, s72 N, s41 N, s67 N, s64 N, trivial⟩) mixed Try.func71 (c := (Try.f71.body.get rfl)) rfl (by kernel_rfl) (by kernel_rfl) (Λ := L71 N) (qs := []) (by kernel_rfl) trivial (e71 N)
/-- spec.DrawWriteAll -/
noncomputable def spec_DrawWriteAll {R : Type} (N : Nat) (code : List Int) (k : DSink → ByteArray → Option R) : Option R :=
  spec_l1New N code fun r =>
    spec_l24Bent N r fun r1 o =>
      spec_l1Below N o 60 fun r2 o1 =>
        spec_l1Bytes N o1 r2 fun r3 o2 =>
          k r1 (ofBytes r3)
abbrev a40 : List AM := [.v (.ro 5 (.int .u8))]
noncomputable def u40 {R : Type} (N : Nat) (d : AMs.D a40) (k : List Val → List Val → Option R) : Option R := spec_DrawWriteAll N d.1 (fun r0 r1 => k [.agg [.sr r0.1, .own (.int .i64) 3 r0.2.1, .nu .i64 r0.2.2.1, .nu .i64 r0.2.2.2], .c (.sr r1)] [])
noncomputable def c40 {R : Type} (N : Nat) : Con R := conOf [.rd] a40 (u40 N)
noncomputable def g40 {R : Type} (N : Nat) : List (Nat × Con R) := [(65, c65 N), (71, c71 N), (73, c73 N), (72, c72 N)]
noncomputable def L40 {R : Type} (N : Nat) : List (Nat × LCon R) := []
theorem e40 {R : Type} (N : Nat) (d : AMs.D a40) (k : List Val → List Val → Option R) : evF Try.prog (gam (g40 N)) N (L40 N) Try.f40 (encAs a40 d (canAs a40 0)) k = u40 N d k := by kernel_rfl
theorem s40 {R : Type} (N : Nat) : Snd Try.prog 40 (c40 N : Con R) :=
  snd_eq (Γ := g40 N) (allG ⟨s65 N, s71 N, s73 N, s72 N, trivial⟩) mixed Try.func40 (c := (Try.f40.body.get rfl)) rfl (by kernel_rfl) (by kernel_rfl) (Λ := L40 N) (qs := []) (by kernel_rfl) trivial (e40 N)
/-- laws.FnSink -/
noncomputable def laws_FnSink {R : Type} (N : Nat) (code : List Int) (k : Bool → Option R) : Option R :=
  laws_big N code fun r =>
    cond r
      (k true)
      (spec_DrawWriteAll N code fun r1 r2 =>
        impl_WriteAll N r1 r2 fun r3 =>
          spec_WriteAll N r1 r2 fun r4 =>
            cond (!decide (r3.1 = r4.1))
              (k false)
              (cond (!(decide (r3.2.2.2 = r4.2.2.2)))
                (k false)
                (cond (!(decide (r3.2.2.1 = r4.2.2.1)))
                  (k false)
                  (impl_SinkOk N r1 fun r5 =>
                    spec_SinkOk N r1 fun r6 =>
                      cond (!(r5 == r6))
                        (k false)
                        (spec_SinkOk N r1 fun r7 =>
                          cond (!r7)
                            (cond (decide (r3.1 = r1.1))
                              (k (decide (r3.2.2.2 = r1.2.2.2)))
                              (k false))
                            (cond (decide (4000 < (w64 ((r1.1.size : Int) + (r2.size : Int)))))
                              (cond (decide (r3.1 = r1.1))
                                (k (decide (r3.2.2.2 = r1.2.2.2)))
                                (k false))
                              (cond (decide (r1.1.size + r2.size ≤ 1152921504606846976))
                                (cond (decide (r3.1 = r1.1 ++ r2))
                                  (k (decide ((w64 (r3.2.2.2 - r1.2.2.2)) ≤ (w64 ((w64 ((w64 ((r1.2.1.length : Int) - r1.2.2.1)) + (w64 ((r2.size : Int).tdiv 16)))) + 1)))))
                                  (k false))
                                none)))))))
abbrev a9 : List AM := [.v (.ro 5 (.int .u8))]
noncomputable def u9 {R : Type} (N : Nat) (d : AMs.D a9) (k : List Val → List Val → Option R) : Option R := laws_FnSink N d.1 (fun r0 => k [.c (.bo r0)] [])
noncomputable def c9 {R : Type} (N : Nat) : Con R := conOf [.rd] a9 (u9 N)
noncomputable def g9 {R : Type} (N : Nat) : List (Nat × Con R) := [(37, c37 N), (40, c40 N), (39, c39 N), (41, c41 N), (23, c23 N), (21, c21 N)]
noncomputable def L9 {R : Type} (N : Nat) : List (Nat × LCon R) := []
theorem e9 {R : Type} (N : Nat) (d : AMs.D a9) (k : List Val → List Val → Option R) : evF Try.prog (gam (g9 N)) N (L9 N) Try.f9 (encAs a9 d (canAs a9 0)) k = u9 N d k := by kernel_rfl
theorem s9 {R : Type} (N : Nat) : Snd Try.prog 9 (c9 N : Con R) :=
  snd_eq (Γ := g9 N) (allG ⟨s37 N, s40 N, s39 N, s41 N, s23 N, s21 N, trivial⟩) mixed Try.func9 (c := (Try.f9.body.get rfl)) rfl (by kernel_rfl) (by kernel_rfl) (Λ := L9 N) (qs := []) (by kernel_rfl) trivial (e9 N)
/-- spec.DrawWriteSome -/
noncomputable def spec_DrawWriteSome {R : Type} (N : Nat) (code : List Int) (k : DSink → ByteArray → Option R) : Option R :=
  spec_l1New N code fun r =>
    spec_l24Bent N r fun r1 o =>
      spec_l1Below N o 24 fun r2 o1 =>
        spec_l1Bytes N o1 r2 fun r3 o2 =>
          k r1 (ofBytes r3)
abbrev a42 : List AM := [.v (.ro 5 (.int .u8))]
noncomputable def u42 {R : Type} (N : Nat) (d : AMs.D a42) (k : List Val → List Val → Option R) : Option R := spec_DrawWriteSome N d.1 (fun r0 r1 => k [.agg [.sr r0.1, .own (.int .i64) 3 r0.2.1, .nu .i64 r0.2.2.1, .nu .i64 r0.2.2.2], .c (.sr r1)] [])
noncomputable def c42 {R : Type} (N : Nat) : Con R := conOf [.rd] a42 (u42 N)
noncomputable def g42 {R : Type} (N : Nat) : List (Nat × Con R) := [(65, c65 N), (71, c71 N), (73, c73 N), (72, c72 N)]
noncomputable def L42 {R : Type} (N : Nat) : List (Nat × LCon R) := []
theorem e42 {R : Type} (N : Nat) (d : AMs.D a42) (k : List Val → List Val → Option R) : evF Try.prog (gam (g42 N)) N (L42 N) Try.f42 (encAs a42 d (canAs a42 0)) k = u42 N d k := by kernel_rfl
theorem s42 {R : Type} (N : Nat) : Snd Try.prog 42 (c42 N : Con R) :=
  snd_eq (Γ := g42 N) (allG ⟨s65 N, s71 N, s73 N, s72 N, trivial⟩) mixed Try.func42 (c := (Try.f42.body.get rfl)) rfl (by kernel_rfl) (by kernel_rfl) (Λ := L42 N) (qs := []) (by kernel_rfl) trivial (e42 N)
/-- laws.FnWriteSome -/
noncomputable def laws_FnWriteSome {R : Type} (N : Nat) (code : List Int) (k : Bool → Option R) : Option R :=
  laws_big N code fun r =>
    cond r
      (k true)
      (spec_DrawWriteSome N code fun r1 r2 =>
        impl_WriteSome N r1 r2 fun r3 r4 =>
          spec_WriteSome N r1 r2 fun r5 r6 =>
            cond (!(decide (r4 = r6)))
              (k false)
              (cond (decide (r4 < 0))
                (k false)
                (cond (decide (16 < r4))
                  (k false)
                  (cond (decide ((r2.size : Int) < r4))
                    (k false)
                    (cond (decide (0 ≤ r4 ∧ r4 ≤ (r2.size : Int)))
                      (cond (decide (r1.1.size + (r2.extract 0 r4.toNat).size ≤ 1152921504606846976))
                        (cond (decide (r3.1 = r1.1 ++ (r2.extract 0 r4.toNat)))
                          (cond (decide (r3.2.2.2 = r1.2.2.2))
                            (cond (decide (r4 = 0))
                              (k true)
                              (cond (decide (r1.2.2.2 = 1000000))
                                (k true)
                                (k (decide (r3.2.2.2 = (w64 (r1.2.2.2 + 1)))))))
                            (k (decide (r3.2.2.2 = (w64 (r1.2.2.2 + 1))))))
                          (k false))
                        none)
                      none)))))
abbrev a10 : List AM := [.v (.ro 5 (.int .u8))]
noncomputable def u10 {R : Type} (N : Nat) (d : AMs.D a10) (k : List Val → List Val → Option R) : Option R := laws_FnWriteSome N d.1 (fun r0 => k [.c (.bo r0)] [])
noncomputable def c10 {R : Type} (N : Nat) : Con R := conOf [.rd] a10 (u10 N)
noncomputable def g10 {R : Type} (N : Nat) : List (Nat × Con R) := [(37, c37 N), (42, c42 N), (43, c43 N), (44, c44 N)]
noncomputable def L10 {R : Type} (N : Nat) : List (Nat × LCon R) := []
theorem e10 {R : Type} (N : Nat) (d : AMs.D a10) (k : List Val → List Val → Option R) : evF Try.prog (gam (g10 N)) N (L10 N) Try.f10 (encAs a10 d (canAs a10 0)) k = u10 N d k := by kernel_rfl
theorem s10 {R : Type} (N : Nat) : Snd Try.prog 10 (c10 N : Con R) :=
  snd_eq (Γ := g10 N) (allG ⟨s37 N, s42 N, s43 N, s44 N, trivial⟩) mixed Try.func10 (c := (Try.f10.body.get rfl)) rfl (by kernel_rfl) (by kernel_rfl) (Λ := L10 N) (qs := []) (by kernel_rfl) trivial (e10 N)
end Go.Proofs.YtecdmnmedipjmaaT
