/- Typed twins of the program's functions, and that they answer as the functions do. It states nothing by itself. -/
import Derived.Test.YthpklbpdchckkaaAPT
namespace Go.Proofs.YthpklbpdchckkaaT
open Go.Proofs Go.Proofs.YthpklbpdchckkaaEv
set_option maxRecDepth 100000
set_option linter.unusedVariables false
/-- laws.szReadS -/
noncomputable def laws_szReadS {R : Type} (N : Nat) (a : List DRead) (left : Int) (k : Int → Option R) : Option R :=
  cond (decide ((w64 (left - (a.length : Int))) < 0))
    (k (-1))
    (k (w64 (left - (a.length : Int))))
abbrev a12 : List AM := [.v (.ro 87 YRead), .v (.int .i64)]
noncomputable def u12 {R : Type} (N : Nat) (d : AMs.D a12) (k : List Val → List Val → Option R) : Option R := laws_szReadS N d.1 d.2.1 (fun r0 => k [.c (.nu .i64 r0)] [])
noncomputable def c12 {R : Type} (N : Nat) : Con R := conOf [.rd, .rd] a12 (u12 N)
noncomputable def g12 {R : Type} (N : Nat) : List (Nat × Con R) := []
noncomputable def L12 {R : Type} (N : Nat) : List (Nat × LCon R) := []
theorem e12 {R : Type} (N : Nat) (d : AMs.D a12) (k : List Val → List Val → Option R) : evF Try.prog (gam (g12 N)) N (L12 N) Try.f12 (encAs a12 d (canAs a12 0)) k = u12 N d k := by kernel_rfl
theorem s12 {R : Type} (N : Nat) : Snd Try.prog 12 (c12 N : Con R) :=
  snd_eq (Γ := g12 N) (allG trivial) mixed Try.func12 (c := (Try.f12.body.get rfl)) rfl (by kernel_rfl) (by kernel_rfl) (Λ := L12 N) (qs := []) (by kernel_rfl) trivial (e12 N)
/-- laws.toRead -/
noncomputable def laws_toRead {R : Type} (N : Nat) (a : DRead) (k : DRead → Option R) : Option R :=
  k a
abbrev a40 : List AM := [.a (.pr (.int .i64) (.int .i64))]
noncomputable def u40 {R : Type} (N : Nat) (d : AMs.D a40) (k : List Val → List Val → Option R) : Option R := laws_toRead N d.1 (fun r0 => k [.agg [.nu .i64 r0.1, .nu .i64 r0.2]] [])
noncomputable def c40 {R : Type} (N : Nat) : Con R := conOf [.rd] a40 (u40 N)
noncomputable def g40 {R : Type} (N : Nat) : List (Nat × Con R) := []
noncomputable def L40 {R : Type} (N : Nat) : List (Nat × LCon R) := []
theorem e40 {R : Type} (N : Nat) (d : AMs.D a40) (k : List Val → List Val → Option R) : evF Try.prog (gam (g40 N)) N (L40 N) Try.f40 (encAs a40 d (canAs a40 0)) k = u40 N d k := by kernel_rfl
theorem s40 {R : Type} (N : Nat) : Snd Try.prog 40 (c40 N : Con R) :=
  snd_eq (Γ := g40 N) (allG trivial) mixed Try.func40 (c := (Try.f40.body.get rfl)) rfl (by kernel_rfl) (by kernel_rfl) (Λ := L40 N) (qs := []) (by kernel_rfl) trivial (e40 N)
/-- laws.toReadS, the loop 58 -/
noncomputable def laws_toReadS_l0 {R : Type} (N : Nat) : Nat → List DRead → Int → List DRead → (List DRead → Option R) → Option R
  | 0, _, _, _, _ => none
  | n + 1, a1, i, xs, x0_ =>
    cond (decide (i < (a1.length : Int)))
      (cond (idxE a1.length i)
        (laws_toRead N (a1.getD i.toNat YRead.z) fun r =>
          cond (idxE xs.length i)
            (laws_toReadS_l0 N n a1 (w64 (i + 1)) (xs.set i.toNat r) x0_)
            none)
        none)
      (x0_ xs)
/-- laws.toReadS -/
noncomputable def laws_toReadS {R : Type} (N : Nat) (a : List DRead) (k : List DRead → Option R) : Option R :=
  cond (decide (0 ≤ (a.length : Int) ∧ (a.length : Int) ≤ (a.length : Int) ∧ (a.length : Int) ≤ 4611686018427387904 ∧ (16 : Int) * (a.length : Int) ≤ 140737488355328))
    (laws_toReadS_l0 N N a 0 (List.replicate ((a.length : Int).toNat) (0, 0))
      (fun xs1 =>
        k xs1))
    none
abbrev a14 : List AM := [.v (.ro 87 YRead)]
noncomputable def u14 {R : Type} (N : Nat) (d : AMs.D a14) (k : List Val → List Val → Option R) : Option R := laws_toReadS N d.1 (fun r0 => k [.c (.own YRead 85 r0)] [])
noncomputable def c14 {R : Type} (N : Nat) : Con R := conOf [.rd] a14 (u14 N)
noncomputable def g14 {R : Type} (N : Nat) : List (Nat × Con R) := [(40, c40 N)]
abbrev h14_58 : Sh := ⟨[(0, .c (.ro 0 87 YRead)), (3, .c (.slw 0)), (4, .c (.nu .i64))], [(0, .rows YRead 85)], 1, []⟩
noncomputable def l14_58 {R : Type} (N : Nat) : LCon R := lconOf [] false h14_58 fun n d K => laws_toReadS_l0 N n d.1.1 d.1.2.2.1 d.2.1.1 (fun y0 => K (.exit 0) ⟨[(3, .c (.slw 0))], [(0, some (.rows YRead 85 y0))], 1, []⟩)
noncomputable def L14 {R : Type} (N : Nat) : List (Nat × LCon R) := [(58, l14_58 N)]
theorem q14_58 {R : Type} (N : Nat) : LSpec Try.prog (gam (g14 N)) N (L14 N) 4 (subC (Try.f14.body.get rfl) [true, true, false, true, false, false]) 58 25 [(0, 8)] (l14_58 N : LCon R) :=
  lspec_of (fun d K => rfl) (fun n d K => by kernel_rfl)
theorem e14 {R : Type} (N : Nat) (d : AMs.D a14) (k : List Val → List Val → Option R) : evF Try.prog (gam (g14 N)) N (L14 N) Try.f14 (encAs a14 d (canAs a14 0)) k = u14 N d k := by kernel_rfl
theorem s14 {R : Type} (N : Nat) : Snd Try.prog 14 (c14 N : Con R) :=
  snd_eq (Γ := g14 N) (allG ⟨s40 N, trivial⟩) mixed Try.func14 (c := (Try.f14.body.get rfl)) rfl (by kernel_rfl) (by kernel_rfl) (Λ := L14 N) (qs := [⟨58, subC (Try.f14.body.get rfl) [true, true, false, true, false, false], 25, [(0, 8)]⟩]) (by kernel_rfl) ⟨lsome rfl (q14_58 N), trivial⟩ (e14 N)
/-- spec.l1In -/
noncomputable def spec_l1In {R : Type} (N : Nat) (x : Int) (lo : Int) (hi : Int) (k : Bool → Option R) : Option R :=
  cond (decide (lo ≤ x))
    (k (decide (x ≤ hi)))
    (k false)
abbrev a50 : List AM := [.v (.int .i64), .v (.int .i64), .v (.int .i64)]
noncomputable def u50 {R : Type} (N : Nat) (d : AMs.D a50) (k : List Val → List Val → Option R) : Option R := spec_l1In N d.1 d.2.1 d.2.2.1 (fun r0 => k [.c (.bo r0)] [])
noncomputable def c50 {R : Type} (N : Nat) : Con R := conOf [.rd, .rd, .rd] a50 (u50 N)
noncomputable def g50 {R : Type} (N : Nat) : List (Nat × Con R) := []
noncomputable def L50 {R : Type} (N : Nat) : List (Nat × LCon R) := []
theorem e50 {R : Type} (N : Nat) (d : AMs.D a50) (k : List Val → List Val → Option R) : evF Try.prog (gam (g50 N)) N (L50 N) Try.f50 (encAs a50 d (canAs a50 0)) k = u50 N d k := by kernel_rfl
theorem s50 {R : Type} (N : Nat) : Snd Try.prog 50 (c50 N : Con R) :=
  snd_eq (Γ := g50 N) (allG trivial) mixed Try.func50 (c := (Try.f50.body.get rfl)) rfl (by kernel_rfl) (by kernel_rfl) (Λ := L50 N) (qs := []) (by kernel_rfl) trivial (e50 N)
/-- spec.ReaderOk -/
noncomputable def spec_ReaderOk {R : Type} (N : Nat) (r : DReader) (k : Bool → Option R) : Option R :=
  cond (decide (4000 < (r.1.size : Int)))
    (k false)
    (spec_l1In N r.2.1 0 (r.1.size : Int) fun r1 =>
      cond (!r1)
        (k false)
        (cond (decide (200 < (r.2.2.1.length : Int)))
          (k false)
          (spec_l1In N r.2.2.2.1 0 (r.2.2.1.length : Int) fun r2 =>
            cond (!r2)
              (k false)
              (cond (decide (r.2.2.2.2 = 0))
                (k true)
                (cond (decide (r.2.2.2.2 = 1))
                  (k true)
                  (k (decide (20 ≤ r.2.2.2.2))))))))
abbrev a71 : List AM := [.a (.pr .str (.pr (.int .i64) (.pr (.ro 85 YRead) (.pr (.int .i64) (.int .i64)))))]
noncomputable def u71 {R : Type} (N : Nat) (d : AMs.D a71) (k : List Val → List Val → Option R) : Option R := spec_ReaderOk N d.1 (fun r0 => k [.c (.bo r0)] [])
noncomputable def c71 {R : Type} (N : Nat) : Con R := conOf [.rd] a71 (u71 N)
noncomputable def g71 {R : Type} (N : Nat) : List (Nat × Con R) := [(50, c50 N)]
noncomputable def L71 {R : Type} (N : Nat) : List (Nat × LCon R) := []
theorem e71 {R : Type} (N : Nat) (d : AMs.D a71) (k : List Val → List Val → Option R) : evF Try.prog (gam (g71 N)) N (L71 N) Try.f71 (encAs a71 d (canAs a71 0)) k = u71 N d k := by kernel_rfl
theorem s71 {R : Type} (N : Nat) : Snd Try.prog 71 (c71 N : Con R) :=
  snd_eq (Γ := g71 N) (allG ⟨s50 N, trivial⟩) mixed Try.func71 (c := (Try.f71.body.get rfl)) rfl (by kernel_rfl) (by kernel_rfl) (Λ := L71 N) (qs := []) (by kernel_rfl) trivial (e71 N)
/-- spec.ReaderNew -/
noncomputable def spec_ReaderNew {R : Type} (N : Nat) (data : ByteArray) (script : List DRead) (k : DReader → Bool → Option R) : Option R :=
  cond (decide ((0 + script.length) * 16 ≤ 140737488355328))
    (spec_ReaderOk N (data, 0, script, 0, 0) fun r =>
      cond (!r)
        (k (ByteArray.empty, 0, [], 0, 0) false)
        (k (data, 0, script, 0, 0) true))
    none
abbrev a38 : List AM := [.v .str, .v (.ro 85 YRead)]
noncomputable def u38 {R : Type} (N : Nat) (d : AMs.D a38) (k : List Val → List Val → Option R) : Option R := spec_ReaderNew N d.1 d.2.1 (fun r0 r1 => k [.agg [.sr r0.1, .nu .i64 r0.2.1, .own YRead 85 r0.2.2.1, .nu .i64 r0.2.2.2.1, .nu .i64 r0.2.2.2.2], .c (.bo r1)] [])
noncomputable def c38 {R : Type} (N : Nat) : Con R := conOf [.rd, .rd] a38 (u38 N)
noncomputable def g38 {R : Type} (N : Nat) : List (Nat × Con R) := [(71, c71 N)]
noncomputable def L38 {R : Type} (N : Nat) : List (Nat × LCon R) := []
theorem e38 {R : Type} (N : Nat) (d : AMs.D a38) (k : List Val → List Val → Option R) : evF Try.prog (gam (g38 N)) N (L38 N) Try.f38 (encAs a38 d (canAs a38 0)) k = u38 N d k := by kernel_rfl
theorem s38 {R : Type} (N : Nat) : Snd Try.prog 38 (c38 N : Con R) :=
  snd_eq (Γ := g38 N) (allG ⟨s71 N, trivial⟩) mixed Try.func38 (c := (Try.f38.body.get rfl)) rfl (by kernel_rfl) (by kernel_rfl) (Λ := L38 N) (qs := []) (by kernel_rfl) trivial (e38 N)
/-- spec.l19Copy -/
noncomputable def spec_l19Copy {R : Type} (N : Nat) (r : DReader) (k : DReader → Option R) : Option R :=
  cond (decide ((0 + r.2.2.1.length) * 16 ≤ 140737488355328))
    (k r)
    none
abbrev a89 : List AM := [.a (.pr .str (.pr (.int .i64) (.pr (.ro 85 YRead) (.pr (.int .i64) (.int .i64)))))]
noncomputable def u89 {R : Type} (N : Nat) (d : AMs.D a89) (k : List Val → List Val → Option R) : Option R := spec_l19Copy N d.1 (fun r0 => k [.agg [.sr r0.1, .nu .i64 r0.2.1, .own YRead 85 r0.2.2.1, .nu .i64 r0.2.2.2.1, .nu .i64 r0.2.2.2.2]] [])
noncomputable def c89 {R : Type} (N : Nat) : Con R := conOf [.rd] a89 (u89 N)
noncomputable def g89 {R : Type} (N : Nat) : List (Nat × Con R) := []
noncomputable def L89 {R : Type} (N : Nat) : List (Nat × LCon R) := []
theorem e89 {R : Type} (N : Nat) (d : AMs.D a89) (k : List Val → List Val → Option R) : evF Try.prog (gam (g89 N)) N (L89 N) Try.f89 (encAs a89 d (canAs a89 0)) k = u89 N d k := by kernel_rfl
theorem s89 {R : Type} (N : Nat) : Snd Try.prog 89 (c89 N : Con R) :=
  snd_eq (Γ := g89 N) (allG trivial) mixed Try.func89 (c := (Try.f89.body.get rfl)) rfl (by kernel_rfl) (by kernel_rfl) (Λ := L89 N) (qs := []) (by kernel_rfl) trivial (e89 N)
/-- spec.l1Min -/
noncomputable def spec_l1Min {R : Type} (N : Nat) (a : Int) (b : Int) (k : Int → Option R) : Option R :=
  cond (decide (a < b))
    (k a)
    (k b)
abbrev a91 : List AM := [.v (.int .i64), .v (.int .i64)]
noncomputable def u91 {R : Type} (N : Nat) (d : AMs.D a91) (k : List Val → List Val → Option R) : Option R := spec_l1Min N d.1 d.2.1 (fun r0 => k [.c (.nu .i64 r0)] [])
noncomputable def c91 {R : Type} (N : Nat) : Con R := conOf [.rd, .rd] a91 (u91 N)
noncomputable def g91 {R : Type} (N : Nat) : List (Nat × Con R) := []
noncomputable def L91 {R : Type} (N : Nat) : List (Nat × LCon R) := []
theorem e91 {R : Type} (N : Nat) (d : AMs.D a91) (k : List Val → List Val → Option R) : evF Try.prog (gam (g91 N)) N (L91 N) Try.f91 (encAs a91 d (canAs a91 0)) k = u91 N d k := by kernel_rfl
theorem s91 {R : Type} (N : Nat) : Snd Try.prog 91 (c91 N : Con R) :=
  snd_eq (Γ := g91 N) (allG trivial) mixed Try.func91 (c := (Try.f91.body.get rfl)) rfl (by kernel_rfl) (by kernel_rfl) (Λ := L91 N) (qs := []) (by kernel_rfl) trivial (e91 N)
/-- spec.l1Max -/
noncomputable def spec_l1Max {R : Type} (N : Nat) (a : Int) (b : Int) (k : Int → Option R) : Option R :=
  cond (decide (b < a))
    (k a)
    (k b)
abbrev a90 : List AM := [.v (.int .i64), .v (.int .i64)]
noncomputable def u90 {R : Type} (N : Nat) (d : AMs.D a90) (k : List Val → List Val → Option R) : Option R := spec_l1Max N d.1 d.2.1 (fun r0 => k [.c (.nu .i64 r0)] [])
noncomputable def c90 {R : Type} (N : Nat) : Con R := conOf [.rd, .rd] a90 (u90 N)
noncomputable def g90 {R : Type} (N : Nat) : List (Nat × Con R) := []
noncomputable def L90 {R : Type} (N : Nat) : List (Nat × LCon R) := []
theorem e90 {R : Type} (N : Nat) (d : AMs.D a90) (k : List Val → List Val → Option R) : evF Try.prog (gam (g90 N)) N (L90 N) Try.f90 (encAs a90 d (canAs a90 0)) k = u90 N d k := by kernel_rfl
theorem s90 {R : Type} (N : Nat) : Snd Try.prog 90 (c90 N : Con R) :=
  snd_eq (Γ := g90 N) (allG trivial) mixed Try.func90 (c := (Try.f90.body.get rfl)) rfl (by kernel_rfl) (by kernel_rfl) (Λ := L90 N) (qs := []) (by kernel_rfl) trivial (e90 N)
/-- spec.ReadSome -/
noncomputable def spec_ReadSome {R : Type} (N : Nat) (r : DReader) (room : Int) (k : DReader → ByteArray → Int → Option R) : Option R :=
  spec_l19Copy N r fun r1 =>
    spec_ReaderOk N r fun r2 =>
      cond (!r2)
        (k r1 ByteArray.empty 1)
        (cond (decide (room < 1))
          (k r1 ByteArray.empty 1)
          (cond (!(decide (r.2.2.2.2 = 0)))
            (k r1 ByteArray.empty r.2.2.2.2)
            (cond (decide (r.2.2.2.1 < (r.2.2.1.length : Int)))
              (cond (idxE r.2.2.1.length r.2.2.2.1)
                (spec_l1Min N room (w64 ((r.1.size : Int) - r.2.1)) fun r3 =>
                  spec_l1Min N ((r.2.2.1.getD r.2.2.2.1.toNat YRead.z).1) r3 fun r4 =>
                    spec_l1Max N 0 r4 fun r5 =>
                      cond (decide (20 ≤ ((r.2.2.1.getD r.2.2.2.1.toNat YRead.z).2)))
                        (cond (decide (0 ≤ r.2.1 ∧ r.2.1 ≤ w64 (r.2.1 + r5) ∧ w64 (r.2.1 + r5) ≤ (r.1.size : Int)))
                          (k (r1.1, w64 (r.2.1 + r5), r1.2.2.1, w64 (r.2.2.2.1 + 1), (r.2.2.1.getD r.2.2.2.1.toNat YRead.z).2) (r.1.extract r.2.1.toNat ((w64 (r.2.1 + r5)).toNat)) ((r.2.2.1.getD r.2.2.2.1.toNat YRead.z).2))
                          none)
                        (cond (decide (((r.2.2.1.getD r.2.2.2.1.toNat YRead.z).2) = 1))
                          (cond (decide ((w64 (r.2.1 + r5)) = (r.1.size : Int)))
                            (cond (decide (0 ≤ r.2.1 ∧ r.2.1 ≤ w64 (r.2.1 + r5) ∧ w64 (r.2.1 + r5) ≤ (r.1.size : Int)))
                              (k (r1.1, w64 (r.2.1 + r5), r1.2.2.1, w64 (r.2.2.2.1 + 1), (r.2.2.1.getD r.2.2.2.1.toNat YRead.z).2) (r.1.extract r.2.1.toNat ((w64 (r.2.1 + r5)).toNat)) ((r.2.2.1.getD r.2.2.2.1.toNat YRead.z).2))
                              none)
                            (cond (decide (0 ≤ r.2.1 ∧ r.2.1 ≤ w64 (r.2.1 + r5) ∧ w64 (r.2.1 + r5) ≤ (r.1.size : Int)))
                              (k (r1.1, w64 (r.2.1 + r5), r1.2.2.1, w64 (r.2.2.2.1 + 1), r1.2.2.2.2) (r.1.extract r.2.1.toNat ((w64 (r.2.1 + r5)).toNat)) r1.2.2.2.2)
                              none))
                          (cond (decide (0 ≤ r.2.1 ∧ r.2.1 ≤ w64 (r.2.1 + r5) ∧ w64 (r.2.1 + r5) ≤ (r.1.size : Int)))
                            (k (r1.1, w64 (r.2.1 + r5), r1.2.2.1, w64 (r.2.2.2.1 + 1), r1.2.2.2.2) (r.1.extract r.2.1.toNat ((w64 (r.2.1 + r5)).toNat)) r1.2.2.2.2)
                            none)))
                none)
              (spec_l1Min N room (w64 ((r.1.size : Int) - r.2.1)) fun r6 =>
                spec_l1Min N room r6 fun r7 =>
                  spec_l1Max N 0 r7 fun r8 =>
                    cond (decide ((w64 (r.2.1 + r8)) = (r.1.size : Int)))
                      (cond (decide (0 ≤ r.2.1 ∧ r.2.1 ≤ w64 (r.2.1 + r8) ∧ w64 (r.2.1 + r8) ≤ (r.1.size : Int)))
                        (k (r1.1, w64 (r.2.1 + r8), r1.2.2.1, r1.2.2.2.1, 1) (r.1.extract r.2.1.toNat ((w64 (r.2.1 + r8)).toNat)) 1)
                        none)
                      (cond (decide (0 ≤ r.2.1 ∧ r.2.1 ≤ w64 (r.2.1 + r8) ∧ w64 (r.2.1 + r8) ≤ (r.1.size : Int)))
                        (k (r1.1, w64 (r.2.1 + r8), r1.2.2) (r.1.extract r.2.1.toNat ((w64 (r.2.1 + r8)).toNat)) r1.2.2.2.2)
                        none)))))
abbrev a72 : List AM := [.a (.pr .str (.pr (.int .i64) (.pr (.ro 85 YRead) (.pr (.int .i64) (.int .i64))))), .v (.int .i64)]
noncomputable def u72 {R : Type} (N : Nat) (d : AMs.D a72) (k : List Val → List Val → Option R) : Option R := spec_ReadSome N d.1 d.2.1 (fun r0 r1 r2 => k [.agg [.sr r0.1, .nu .i64 r0.2.1, .own YRead 85 r0.2.2.1, .nu .i64 r0.2.2.2.1, .nu .i64 r0.2.2.2.2], .c (.sr r1), .c (.nu .i64 r2)] [])
noncomputable def c72 {R : Type} (N : Nat) : Con R := conOf [.rd, .rd] a72 (u72 N)
noncomputable def g72 {R : Type} (N : Nat) : List (Nat × Con R) := [(89, c89 N), (71, c71 N), (91, c91 N), (90, c90 N)]
noncomputable def L72 {R : Type} (N : Nat) : List (Nat × LCon R) := []
theorem e72 {R : Type} (N : Nat) (d : AMs.D a72) (k : List Val → List Val → Option R) : evF Try.prog (gam (g72 N)) N (L72 N) Try.f72 (encAs a72 d (canAs a72 0)) k = u72 N d k := by kernel_rfl
theorem s72 {R : Type} (N : Nat) : Snd Try.prog 72 (c72 N : Con R) :=
  snd_eq (Γ := g72 N) (allG ⟨s89 N, s71 N, s91 N, s90 N, trivial⟩) mixed Try.func72 (c := (Try.f72.body.get rfl)) rfl (by kernel_rfl) (by kernel_rfl) (Λ := L72 N) (qs := []) (by kernel_rfl) trivial (e72 N)
/-- spec.ReadAll, the loop 30 -/
noncomputable def spec_ReadAll_l0 {R : Type} (N : Nat) : Nat → Int → ByteArray → Int → Int → Int → List DRead → List ByteArray → (Int → List ByteArray → Option R) → Option R
  | 0, _, _, _, _, _, _, _, _ => none
  | n + 1, room2, b5, b6, b7, b8, xs1, xs2, x0_ =>
    spec_ReadSome N (b5, b6, xs1, b7, b8) room2 fun r8 r9 r10 =>
      cond (decide ((xs2.length + 1) * 16 ≤ 140737488355328))
        (cond (!(decide (r10 = 0)))
          (x0_ r10 (xs2 ++ [r9]))
          (spec_ReadAll_l0 N n room2 r8.1 r8.2.1 r8.2.2.2.1 r8.2.2.2.2 r8.2.2.1 (xs2 ++ [r9]) x0_))
        none
/-- spec.ReadAll -/
noncomputable def spec_ReadAll {R : Type} (N : Nat) (r : DReader) (room : Int) (k : List ByteArray → Int → Option R) : Option R :=
  spec_ReaderOk N r fun r1 =>
    cond (!r1)
      (k [] 1)
      (cond (decide (room < 1))
        (k [] 1)
        (spec_ReadSome N r room fun r5 r6 r7 =>
          cond (!(decide (r7 = 0)))
            (k [r6] r7)
            (spec_ReadAll_l0 N N room r5.1 r5.2.1 r5.2.2.2.1 r5.2.2.2.2 r5.2.2.1 [r6]
              (fun v xs3 =>
                k xs3 v))))
abbrev a39 : List AM := [.a (.pr .str (.pr (.int .i64) (.pr (.ro 85 YRead) (.pr (.int .i64) (.int .i64))))), .v (.int .i64)]
noncomputable def u39 {R : Type} (N : Nat) (d : AMs.D a39) (k : List Val → List Val → Option R) : Option R := spec_ReadAll N d.1 d.2.1 (fun r0 r1 => k [.c (.own .str 9 r0), .c (.nu .i64 r1)] [])
noncomputable def c39 {R : Type} (N : Nat) : Con R := conOf [.rd, .rd] a39 (u39 N)
noncomputable def g39 {R : Type} (N : Nat) : List (Nat × Con R) := [(71, c71 N), (72, c72 N)]
abbrev h39_30 : Sh := ⟨[(1, .c (.nu .i64)), (2, .c (.ptr 0 0)), (6, .c (.slw 2))], [(0, .box 79 [.sr, .nu .i64, .slw 1, .nu .i64, .nu .i64]), (1, .rows YRead 85), (2, .rows .str 9)], 3, []⟩
noncomputable def l39_30 {R : Type} (N : Nat) : LCon R := lconOf [] true h39_30 fun n d K => spec_ReadAll_l0 N n d.1.1 d.2.1.1.1 d.2.1.1.2.1 d.2.1.1.2.2.2.1 d.2.1.1.2.2.2.2.1 d.2.1.2.1 d.2.1.2.2.1 (fun y0 y1 => K .ret ⟨[(4, .c (.slw 0)), (5, .c (.nu .i64 y0))], [(0, some (.rows .str 9 y1))], 1, []⟩)
noncomputable def L39 {R : Type} (N : Nat) : List (Nat × LCon R) := [(30, l39_30 N)]
theorem q39_30 {R : Type} (N : Nat) : LSpec Try.prog (gam (g39 N)) N (L39 N) 48 (subC (Try.f39.body.get rfl) [true, true, true, false, false]) 30 70 [(0, 48)] (l39_30 N : LCon R) :=
  lspec_of (fun d K => rfl) (fun n d K => by kernel_rfl)
theorem e39 {R : Type} (N : Nat) (d : AMs.D a39) (k : List Val → List Val → Option R) : evF Try.prog (gam (g39 N)) N (L39 N) Try.f39 (encAs a39 d (canAs a39 0)) k = u39 N d k := by kernel_rfl
theorem s39 {R : Type} (N : Nat) : Snd Try.prog 39 (c39 N : Con R) :=
  snd_eq (Γ := g39 N) (allG ⟨s71 N, s72 N, trivial⟩) mixed Try.func39 (c := (Try.f39.body.get rfl)) rfl (by kernel_rfl) (by kernel_rfl) (Λ := L39 N) (qs := [⟨30, subC (Try.f39.body.get rfl) [true, true, true, false, false], 70, [(0, 48)]⟩]) (by kernel_rfl) ⟨lsome rfl (q39_30 N), trivial⟩ (e39 N)
/-- spec.Pieces -/
noncomputable def spec_Pieces {R : Type} (N : Nat) (data : ByteArray) (script : List DRead) (k : List ByteArray → Option R) : Option R :=
  spec_ReaderNew N data script fun r r1 =>
    cond (!r1)
      (k [])
      (spec_ReadAll N r 16 fun r2 r3 =>
        k r2)
abbrev a13 : List AM := [.v .str, .v (.ro 85 YRead)]
noncomputable def u13 {R : Type} (N : Nat) (d : AMs.D a13) (k : List Val → List Val → Option R) : Option R := spec_Pieces N d.1 d.2.1 (fun r0 => k [.c (.own .str 9 r0)] [])
noncomputable def c13 {R : Type} (N : Nat) : Con R := conOf [.rd, .rd] a13 (u13 N)
noncomputable def g13 {R : Type} (N : Nat) : List (Nat × Con R) := [(38, c38 N), (39, c39 N)]
noncomputable def L13 {R : Type} (N : Nat) : List (Nat × LCon R) := []
theorem e13 {R : Type} (N : Nat) (d : AMs.D a13) (k : List Val → List Val → Option R) : evF Try.prog (gam (g13 N)) N (L13 N) Try.f13 (encAs a13 d (canAs a13 0)) k = u13 N d k := by kernel_rfl
theorem s13 {R : Type} (N : Nat) : Snd Try.prog 13 (c13 N : Con R) :=
  snd_eq (Γ := g13 N) (allG ⟨s38 N, s39 N, trivial⟩) mixed Try.func13 (c := (Try.f13.body.get rfl)) rfl (by kernel_rfl) (by kernel_rfl) (Λ := L13 N) (qs := []) (by kernel_rfl) trivial (e13 N)
/-- slices.Clone[[]impl.Read,impl.Read] -/
noncomputable def slices_Clone_impl_Read_impl_Read {R : Type} (N : Nat) (s : List DRead) (k : List DRead → Option R) : Option R :=
  cond (decide ((0 + s.length) * 16 ≤ 140737488355328))
    (k s)
    none
abbrev a73 : List AM := [.v (.ro 85 YRead)]
noncomputable def c73 {R : Type} (N : Nat) : Con R := conOf [.rd] a73 fun d k => cond ((fun s => decide ((0 + s.length) * 16 ≤ 140737488355328)) d.1) (k ((fun r0 => [.c (.own YRead 85 r0)]) d.1) []) none
noncomputable def g73 {R : Type} (N : Nat) : List (Nat × Con R) := []
noncomputable def L73 {R : Type} (N : Nat) : List (Nat × LCon R) := []
theorem s73 {R : Type} (N : Nat) : Snd Try.prog 73 (c73 N : Con R) :=
  snd_split (N := N) (e := 85) (t := YRead) (good := fun s => decide ((0 + s.length) * 16 ≤ 140737488355328)) (res := fun r0 => [.c (.own YRead 85 r0)]) (Γ := g73 N) (allG trivial) mixed Try.func73 (c := (Try.f73.body.get rfl)) rfl (by kernel_rfl) (by kernel_rfl) (Λ := L73 N) (qs := []) (by kernel_rfl) trivial (fun k => by kernel_rfl) (fun xs k => by kernel_rfl)
/-- impl.within -/
noncomputable def impl_within {R : Type} (N : Nat) (n_ : Int) (low : Int) (high : Int) (k : Bool → Option R) : Option R :=
  cond (decide (low ≤ n_))
    (k (decide (n_ ≤ high)))
    (k false)
abbrev a56 : List AM := [.v (.int .i64), .v (.int .i64), .v (.int .i64)]
noncomputable def u56 {R : Type} (N : Nat) (d : AMs.D a56) (k : List Val → List Val → Option R) : Option R := impl_within N d.1 d.2.1 d.2.2.1 (fun r0 => k [.c (.bo r0)] [])
noncomputable def c56 {R : Type} (N : Nat) : Con R := conOf [.rd, .rd, .rd] a56 (u56 N)
noncomputable def g56 {R : Type} (N : Nat) : List (Nat × Con R) := []
noncomputable def L56 {R : Type} (N : Nat) : List (Nat × LCon R) := []
theorem e56 {R : Type} (N : Nat) (d : AMs.D a56) (k : List Val → List Val → Option R) : evF Try.prog (gam (g56 N)) N (L56 N) Try.f56 (encAs a56 d (canAs a56 0)) k = u56 N d k := by kernel_rfl
theorem s56 {R : Type} (N : Nat) : Snd Try.prog 56 (c56 N : Con R) :=
  snd_eq (Γ := g56 N) (allG trivial) mixed Try.func56 (c := (Try.f56.body.get rfl)) rfl (by kernel_rfl) (by kernel_rfl) (Λ := L56 N) (qs := []) (by kernel_rfl) trivial (e56 N)
/-- impl.ReaderOk -/
noncomputable def impl_ReaderOk {R : Type} (N : Nat) (r : DReader) (k : Bool → Option R) : Option R :=
  cond (decide ((r.1.size : Int) ≤ 4000))
    (impl_within N r.2.1 0 (r.1.size : Int) fun r1 =>
      cond r1
        (cond (decide ((r.2.2.1.length : Int) ≤ 200))
          (impl_within N r.2.2.2.1 0 (r.2.2.1.length : Int) fun r2 =>
            cond r2
              (cond (decide (r.2.2.2.2 = 0))
                (k true)
                (cond (decide (r.2.2.2.2 = 1))
                  (k true)
                  (k (decide (20 ≤ r.2.2.2.2)))))
              (k false))
          (k false))
        (k false))
    (k false)
abbrev a74 : List AM := [.a (.pr .str (.pr (.int .i64) (.pr (.ro 85 YRead) (.pr (.int .i64) (.int .i64)))))]
noncomputable def u74 {R : Type} (N : Nat) (d : AMs.D a74) (k : List Val → List Val → Option R) : Option R := impl_ReaderOk N d.1 (fun r0 => k [.c (.bo r0)] [])
noncomputable def c74 {R : Type} (N : Nat) : Con R := conOf [.rd] a74 (u74 N)
noncomputable def g74 {R : Type} (N : Nat) : List (Nat × Con R) := [(56, c56 N)]
noncomputable def L74 {R : Type} (N : Nat) : List (Nat × LCon R) := []
theorem e74 {R : Type} (N : Nat) (d : AMs.D a74) (k : List Val → List Val → Option R) : evF Try.prog (gam (g74 N)) N (L74 N) Try.f74 (encAs a74 d (canAs a74 0)) k = u74 N d k := by kernel_rfl
theorem s74 {R : Type} (N : Nat) : Snd Try.prog 74 (c74 N : Con R) :=
  snd_eq (Γ := g74 N) (allG ⟨s56 N, trivial⟩) mixed Try.func74 (c := (Try.f74.body.get rfl)) rfl (by kernel_rfl) (by kernel_rfl) (Λ := L74 N) (qs := []) (by kernel_rfl) trivial (e74 N)
/-- impl.ReaderNew -/
noncomputable def impl_ReaderNew {R : Type} (N : Nat) (data : ByteArray) (script : List DRead) (k : DReader → Bool → Option R) : Option R :=
  slices_Clone_impl_Read_impl_Read N script fun r =>
    impl_ReaderOk N (data, 0, r, 0, 0) fun r1 =>
      cond (!r1)
        (k (ByteArray.empty, 0, [], 0, 0) false)
        (k (data, 0, r, 0, 0) true)
abbrev a41 : List AM := [.v .str, .v (.ro 85 YRead)]
noncomputable def u41 {R : Type} (N : Nat) (d : AMs.D a41) (k : List Val → List Val → Option R) : Option R := impl_ReaderNew N d.1 d.2.1 (fun r0 r1 => k [.agg [.sr r0.1, .nu .i64 r0.2.1, .own YRead 85 r0.2.2.1, .nu .i64 r0.2.2.2.1, .nu .i64 r0.2.2.2.2], .c (.bo r1)] [])
noncomputable def c41 {R : Type} (N : Nat) : Con R := conOf [.rd, .rd] a41 (u41 N)
noncomputable def g41 {R : Type} (N : Nat) : List (Nat × Con R) := [(73, c73 N), (74, c74 N)]
noncomputable def L41 {R : Type} (N : Nat) : List (Nat × LCon R) := []
theorem e41 {R : Type} (N : Nat) (d : AMs.D a41) (k : List Val → List Val → Option R) : evF Try.prog (gam (g41 N)) N (L41 N) Try.f41 (encAs a41 d (canAs a41 0)) k = u41 N d k := by kernel_rfl
theorem s41 {R : Type} (N : Nat) : Snd Try.prog 41 (c41 N : Con R) :=
  snd_eq (Γ := g41 N) (allG ⟨s73 N, s74 N, trivial⟩) mixed Try.func41 (c := (Try.f41.body.get rfl)) rfl (by kernel_rfl) (by kernel_rfl) (Λ := L41 N) (qs := []) (by kernel_rfl) trivial (e41 N)
/-- impl.copyReader -/
noncomputable def impl_copyReader {R : Type} (N : Nat) (r : DReader) (k : DReader → Option R) : Option R :=
  slices_Clone_impl_Read_impl_Read N r.2.2.1 fun r1 =>
    k (r.1, r.2.1, r1, r.2.2.2)
abbrev a92 : List AM := [.a (.pr .str (.pr (.int .i64) (.pr (.ro 85 YRead) (.pr (.int .i64) (.int .i64)))))]
noncomputable def u92 {R : Type} (N : Nat) (d : AMs.D a92) (k : List Val → List Val → Option R) : Option R := impl_copyReader N d.1 (fun r0 => k [.agg [.sr r0.1, .nu .i64 r0.2.1, .own YRead 85 r0.2.2.1, .nu .i64 r0.2.2.2.1, .nu .i64 r0.2.2.2.2]] [])
noncomputable def c92 {R : Type} (N : Nat) : Con R := conOf [.rd] a92 (u92 N)
noncomputable def g92 {R : Type} (N : Nat) : List (Nat × Con R) := [(73, c73 N)]
noncomputable def L92 {R : Type} (N : Nat) : List (Nat × LCon R) := []
theorem e92 {R : Type} (N : Nat) (d : AMs.D a92) (k : List Val → List Val → Option R) : evF Try.prog (gam (g92 N)) N (L92 N) Try.f92 (encAs a92 d (canAs a92 0)) k = u92 N d k := by kernel_rfl
theorem s92 {R : Type} (N : Nat) : Snd Try.prog 92 (c92 N : Con R) :=
  snd_eq (Γ := g92 N) (allG ⟨s73 N, trivial⟩) mixed Try.func92 (c := (Try.f92.body.get rfl)) rfl (by kernel_rfl) (by kernel_rfl) (Λ := L92 N) (qs := []) (by kernel_rfl) trivial (e92 N)
/-- impl.ReadSome -/
noncomputable def impl_ReadSome {R : Type} (N : Nat) (r : DReader) (room : Int) (k : DReader → ByteArray → Int → Option R) : Option R :=
  impl_copyReader N r fun r1 =>
    impl_ReaderOk N r fun r2 =>
      cond (!r2)
        (k r1 ByteArray.empty 1)
        (cond (decide (room < 1))
          (k r1 ByteArray.empty 1)
          (cond (!(decide (r.2.2.2.2 = 0)))
            (k r1 ByteArray.empty r.2.2.2.2)
            (cond (decide (r.2.2.2.1 < (r.2.2.1.length : Int)))
              (cond (idxE r.2.2.1.length r.2.2.2.1)
                (cond (decide (20 ≤ ((r.2.2.1.getD r.2.2.2.1.toNat YRead.z).2)))
                  (cond (decide (0 ≤ r.2.1 ∧ r.2.1 ≤ w64 (r1.2.1 + (imax (imin (imin ((r.2.2.1.getD r.2.2.2.1.toNat YRead.z).1) room) (w64 ((r.1.size : Int) - r.2.1))) 0)) ∧ w64 (r1.2.1 + (imax (imin (imin ((r.2.2.1.getD r.2.2.2.1.toNat YRead.z).1) room) (w64 ((r.1.size : Int) - r.2.1))) 0)) ≤ (r.1.size : Int)))
                    (k (r1.1, w64 (r1.2.1 + (imax (imin (imin ((r.2.2.1.getD r.2.2.2.1.toNat YRead.z).1) room) (w64 ((r.1.size : Int) - r.2.1))) 0)), r1.2.2.1, w64 (r1.2.2.2.1 + 1), (r.2.2.1.getD r.2.2.2.1.toNat YRead.z).2) (r.1.extract r.2.1.toNat ((w64 (r1.2.1 + (imax (imin (imin ((r.2.2.1.getD r.2.2.2.1.toNat YRead.z).1) room) (w64 ((r.1.size : Int) - r.2.1))) 0))).toNat)) ((r.2.2.1.getD r.2.2.2.1.toNat YRead.z).2))
                    none)
                  (cond (decide (((r.2.2.1.getD r.2.2.2.1.toNat YRead.z).2) = 1))
                    (cond (decide ((w64 (r1.2.1 + (imax (imin (imin ((r.2.2.1.getD r.2.2.2.1.toNat YRead.z).1) room) (w64 ((r.1.size : Int) - r.2.1))) 0))) = (r.1.size : Int)))
                      (cond (decide (0 ≤ r.2.1 ∧ r.2.1 ≤ w64 (r1.2.1 + (imax (imin (imin ((r.2.2.1.getD r.2.2.2.1.toNat YRead.z).1) room) (w64 ((r.1.size : Int) - r.2.1))) 0)) ∧ w64 (r1.2.1 + (imax (imin (imin ((r.2.2.1.getD r.2.2.2.1.toNat YRead.z).1) room) (w64 ((r.1.size : Int) - r.2.1))) 0)) ≤ (r.1.size : Int)))
                        (k (r1.1, w64 (r1.2.1 + (imax (imin (imin ((r.2.2.1.getD r.2.2.2.1.toNat YRead.z).1) room) (w64 ((r.1.size : Int) - r.2.1))) 0)), r1.2.2.1, w64 (r1.2.2.2.1 + 1), 1) (r.1.extract r.2.1.toNat ((w64 (r1.2.1 + (imax (imin (imin ((r.2.2.1.getD r.2.2.2.1.toNat YRead.z).1) room) (w64 ((r.1.size : Int) - r.2.1))) 0))).toNat)) 1)
                        none)
                      (cond (decide (0 ≤ r.2.1 ∧ r.2.1 ≤ w64 (r1.2.1 + (imax (imin (imin ((r.2.2.1.getD r.2.2.2.1.toNat YRead.z).1) room) (w64 ((r.1.size : Int) - r.2.1))) 0)) ∧ w64 (r1.2.1 + (imax (imin (imin ((r.2.2.1.getD r.2.2.2.1.toNat YRead.z).1) room) (w64 ((r.1.size : Int) - r.2.1))) 0)) ≤ (r.1.size : Int)))
                        (k (r1.1, w64 (r1.2.1 + (imax (imin (imin ((r.2.2.1.getD r.2.2.2.1.toNat YRead.z).1) room) (w64 ((r.1.size : Int) - r.2.1))) 0)), r1.2.2.1, w64 (r1.2.2.2.1 + 1), r1.2.2.2.2) (r.1.extract r.2.1.toNat ((w64 (r1.2.1 + (imax (imin (imin ((r.2.2.1.getD r.2.2.2.1.toNat YRead.z).1) room) (w64 ((r.1.size : Int) - r.2.1))) 0))).toNat)) r1.2.2.2.2)
                        none))
                    (cond (decide (0 ≤ r.2.1 ∧ r.2.1 ≤ w64 (r1.2.1 + (imax (imin (imin ((r.2.2.1.getD r.2.2.2.1.toNat YRead.z).1) room) (w64 ((r.1.size : Int) - r.2.1))) 0)) ∧ w64 (r1.2.1 + (imax (imin (imin ((r.2.2.1.getD r.2.2.2.1.toNat YRead.z).1) room) (w64 ((r.1.size : Int) - r.2.1))) 0)) ≤ (r.1.size : Int)))
                      (k (r1.1, w64 (r1.2.1 + (imax (imin (imin ((r.2.2.1.getD r.2.2.2.1.toNat YRead.z).1) room) (w64 ((r.1.size : Int) - r.2.1))) 0)), r1.2.2.1, w64 (r1.2.2.2.1 + 1), r1.2.2.2.2) (r.1.extract r.2.1.toNat ((w64 (r1.2.1 + (imax (imin (imin ((r.2.2.1.getD r.2.2.2.1.toNat YRead.z).1) room) (w64 ((r.1.size : Int) - r.2.1))) 0))).toNat)) r1.2.2.2.2)
                      none)))
                none)
              (cond (decide ((w64 (r1.2.1 + (imax (imin (imin room room) (w64 ((r.1.size : Int) - r.2.1))) 0))) = (r.1.size : Int)))
                (cond (decide (0 ≤ r.2.1 ∧ r.2.1 ≤ w64 (r1.2.1 + (imax (imin (imin room room) (w64 ((r.1.size : Int) - r.2.1))) 0)) ∧ w64 (r1.2.1 + (imax (imin (imin room room) (w64 ((r.1.size : Int) - r.2.1))) 0)) ≤ (r.1.size : Int)))
                  (k (r1.1, w64 (r1.2.1 + (imax (imin (imin room room) (w64 ((r.1.size : Int) - r.2.1))) 0)), r1.2.2.1, r1.2.2.2.1, 1) (r.1.extract r.2.1.toNat ((w64 (r1.2.1 + (imax (imin (imin room room) (w64 ((r.1.size : Int) - r.2.1))) 0))).toNat)) 1)
                  none)
                (cond (decide (0 ≤ r.2.1 ∧ r.2.1 ≤ w64 (r1.2.1 + (imax (imin (imin room room) (w64 ((r.1.size : Int) - r.2.1))) 0)) ∧ w64 (r1.2.1 + (imax (imin (imin room room) (w64 ((r.1.size : Int) - r.2.1))) 0)) ≤ (r.1.size : Int)))
                  (k (r1.1, w64 (r1.2.1 + (imax (imin (imin room room) (w64 ((r.1.size : Int) - r.2.1))) 0)), r1.2.2) (r.1.extract r.2.1.toNat ((w64 (r1.2.1 + (imax (imin (imin room room) (w64 ((r.1.size : Int) - r.2.1))) 0))).toNat)) r1.2.2.2.2)
                  none)))))
abbrev a75 : List AM := [.a (.pr .str (.pr (.int .i64) (.pr (.ro 85 YRead) (.pr (.int .i64) (.int .i64))))), .v (.int .i64)]
noncomputable def u75 {R : Type} (N : Nat) (d : AMs.D a75) (k : List Val → List Val → Option R) : Option R := impl_ReadSome N d.1 d.2.1 (fun r0 r1 r2 => k [.agg [.sr r0.1, .nu .i64 r0.2.1, .own YRead 85 r0.2.2.1, .nu .i64 r0.2.2.2.1, .nu .i64 r0.2.2.2.2], .c (.sr r1), .c (.nu .i64 r2)] [])
noncomputable def c75 {R : Type} (N : Nat) : Con R := conOf [.rd, .rd] a75 (u75 N)
noncomputable def g75 {R : Type} (N : Nat) : List (Nat × Con R) := [(92, c92 N), (74, c74 N)]
noncomputable def L75 {R : Type} (N : Nat) : List (Nat × LCon R) := []
theorem e75 {R : Type} (N : Nat) (d : AMs.D a75) (k : List Val → List Val → Option R) : evF Try.prog (gam (g75 N)) N (L75 N) Try.f75 (encAs a75 d (canAs a75 0)) k = u75 N d k := by kernel_rfl
theorem s75 {R : Type} (N : Nat) : Snd Try.prog 75 (c75 N : Con R) :=
  snd_eq (Γ := g75 N) (allG ⟨s92 N, s74 N, trivial⟩) mixed Try.func75 (c := (Try.f75.body.get rfl)) rfl (by kernel_rfl) (by kernel_rfl) (Λ := L75 N) (qs := []) (by kernel_rfl) trivial (e75 N)
/-- impl.ReadAll, the loop 30 -/
noncomputable def impl_ReadAll_l0 {R : Type} (N : Nat) : Nat → Int → ByteArray → Int → Int → Int → List DRead → List ByteArray → (Int → List ByteArray → Option R) → Option R
  | 0, _, _, _, _, _, _, _, _ => none
  | n + 1, room2, b5, b6, b7, b8, xs1, xs2, x0_ =>
    impl_ReadSome N (b5, b6, xs1, b7, b8) room2 fun r8 r9 r10 =>
      cond (decide ((xs2.length + 1) * 16 ≤ 140737488355328))
        (cond (!(decide (r10 = 0)))
          (x0_ r10 (xs2 ++ [r9]))
          (impl_ReadAll_l0 N n room2 r8.1 r8.2.1 r8.2.2.2.1 r8.2.2.2.2 r8.2.2.1 (xs2 ++ [r9]) x0_))
        none
/-- impl.ReadAll -/
noncomputable def impl_ReadAll {R : Type} (N : Nat) (r : DReader) (room : Int) (k : List ByteArray → Int → Option R) : Option R :=
  impl_ReaderOk N r fun r1 =>
    cond (!r1)
      (k [] 1)
      (cond (decide (room < 1))
        (k [] 1)
        (impl_ReadSome N r room fun r5 r6 r7 =>
          cond (!(decide (r7 = 0)))
            (k [r6] r7)
            (impl_ReadAll_l0 N N room r5.1 r5.2.1 r5.2.2.2.1 r5.2.2.2.2 r5.2.2.1 [r6]
              (fun v xs3 =>
                k xs3 v))))
abbrev a42 : List AM := [.a (.pr .str (.pr (.int .i64) (.pr (.ro 85 YRead) (.pr (.int .i64) (.int .i64))))), .v (.int .i64)]
noncomputable def u42 {R : Type} (N : Nat) (d : AMs.D a42) (k : List Val → List Val → Option R) : Option R := impl_ReadAll N d.1 d.2.1 (fun r0 r1 => k [.c (.own .str 9 r0), .c (.nu .i64 r1)] [])
noncomputable def c42 {R : Type} (N : Nat) : Con R := conOf [.rd, .rd] a42 (u42 N)
noncomputable def g42 {R : Type} (N : Nat) : List (Nat × Con R) := [(74, c74 N), (75, c75 N)]
abbrev h42_30 : Sh := ⟨[(1, .c (.nu .i64)), (2, .c (.ptr 0 0)), (6, .c (.slw 2))], [(0, .box 79 [.sr, .nu .i64, .slw 1, .nu .i64, .nu .i64]), (1, .rows YRead 85), (2, .rows .str 9)], 3, []⟩
noncomputable def l42_30 {R : Type} (N : Nat) : LCon R := lconOf [] true h42_30 fun n d K => impl_ReadAll_l0 N n d.1.1 d.2.1.1.1 d.2.1.1.2.1 d.2.1.1.2.2.2.1 d.2.1.1.2.2.2.2.1 d.2.1.2.1 d.2.1.2.2.1 (fun y0 y1 => K .ret ⟨[(4, .c (.slw 0)), (5, .c (.nu .i64 y0))], [(0, some (.rows .str 9 y1))], 1, []⟩)
noncomputable def L42 {R : Type} (N : Nat) : List (Nat × LCon R) := [(30, l42_30 N)]
theorem q42_30 {R : Type} (N : Nat) : LSpec Try.prog (gam (g42 N)) N (L42 N) 48 (subC (Try.f42.body.get rfl) [true, true, true, false, false]) 30 70 [(0, 48)] (l42_30 N : LCon R) :=
  lspec_of (fun d K => rfl) (fun n d K => by kernel_rfl)
theorem e42 {R : Type} (N : Nat) (d : AMs.D a42) (k : List Val → List Val → Option R) : evF Try.prog (gam (g42 N)) N (L42 N) Try.f42 (encAs a42 d (canAs a42 0)) k = u42 N d k := by kernel_rfl
theorem s42 {R : Type} (N : Nat) : Snd Try.prog 42 (c42 N : Con R) :=
  snd_eq (Γ := g42 N) (allG ⟨s74 N, s75 N, trivial⟩) mixed Try.func42 (c := (Try.f42.body.get rfl)) rfl (by kernel_rfl) (by kernel_rfl) (Λ := L42 N) (qs := [⟨30, subC (Try.f42.body.get rfl) [true, true, true, false, false], 70, [(0, 48)]⟩]) (by kernel_rfl) ⟨lsome rfl (q42_30 N), trivial⟩ (e42 N)
/-- impl.Pieces -/
noncomputable def impl_Pieces {R : Type} (N : Nat) (data : ByteArray) (script : List DRead) (k : List ByteArray → Option R) : Option R :=
  impl_ReaderNew N data script fun r r1 =>
    cond (!r1)
      (k [])
      (impl_ReadAll N r 16 fun r2 r3 =>
        k r2)
abbrev a15 : List AM := [.v .str, .v (.ro 85 YRead)]
noncomputable def u15 {R : Type} (N : Nat) (d : AMs.D a15) (k : List Val → List Val → Option R) : Option R := impl_Pieces N d.1 d.2.1 (fun r0 => k [.c (.own .str 9 r0)] [])
noncomputable def c15 {R : Type} (N : Nat) : Con R := conOf [.rd, .rd] a15 (u15 N)
noncomputable def g15 {R : Type} (N : Nat) : List (Nat × Con R) := [(41, c41 N), (42, c42 N)]
noncomputable def L15 {R : Type} (N : Nat) : List (Nat × LCon R) := []
theorem e15 {R : Type} (N : Nat) (d : AMs.D a15) (k : List Val → List Val → Option R) : evF Try.prog (gam (g15 N)) N (L15 N) Try.f15 (encAs a15 d (canAs a15 0)) k = u15 N d k := by kernel_rfl
theorem s15 {R : Type} (N : Nat) : Snd Try.prog 15 (c15 N : Con R) :=
  snd_eq (Γ := g15 N) (allG ⟨s41 N, s42 N, trivial⟩) mixed Try.func15 (c := (Try.f15.body.get rfl)) rfl (by kernel_rfl) (by kernel_rfl) (Λ := L15 N) (qs := []) (by kernel_rfl) trivial (e15 N)
/-- laws.eqStringS, the loop 58 -/
noncomputable def laws_eqStringS_l0 {R : Type} (N : Nat) : Nat → List ByteArray → List ByteArray → Int → (Bool → Option R) → Option R → Option R
  | 0, _, _, _, _, _ => none
  | n + 1, a1, b1, i, x0_, x1_ =>
    cond (decide (i < (a1.length : Int)))
      (cond (idxE a1.length i)
        (cond (idxE b1.length i)
          (cond (!decide (a1.getD i.toNat ByteArray.empty = b1.getD i.toNat ByteArray.empty))
            (x0_ false)
            (laws_eqStringS_l0 N n a1 b1 (w64 (i + 1)) x0_ x1_))
          none)
        none)
      x1_
/-- laws.eqStringS -/
noncomputable def laws_eqStringS {R : Type} (N : Nat) (a : List ByteArray) (b : List ByteArray) (k : Bool → Option R) : Option R :=
  cond (!(decide ((a.length : Int) = (b.length : Int))))
    (k false)
    (laws_eqStringS_l0 N N a b 0
      (fun v =>
        k v)
      (k true))
abbrev a16 : List AM := [.v (.ro 9 .str), .v (.ro 9 .str)]
noncomputable def u16 {R : Type} (N : Nat) (d : AMs.D a16) (k : List Val → List Val → Option R) : Option R := laws_eqStringS N d.1 d.2.1 (fun r0 => k [.c (.bo r0)] [])
noncomputable def c16 {R : Type} (N : Nat) : Con R := conOf [.rd, .rd] a16 (u16 N)
noncomputable def g16 {R : Type} (N : Nat) : List (Nat × Con R) := []
abbrev h16_58 : Sh := ⟨[(0, .c (.ro 0 9 .str)), (1, .c (.ro 1 9 .str)), (5, .c (.nu .i64))], [], 0, []⟩
noncomputable def l16_58 {R : Type} (N : Nat) : LCon R := lconOf [] false h16_58 fun n d K => laws_eqStringS_l0 N n d.1.1 d.1.2.1 d.1.2.2.1 (fun y0 => K .ret ⟨[(4, .c (.bo y0))], [], 0, []⟩) (K (.exit 0) ⟨[], [], 0, []⟩)
noncomputable def L16 {R : Type} (N : Nat) : List (Nat × LCon R) := [(58, l16_58 N)]
theorem q16_58 {R : Type} (N : Nat) : LSpec Try.prog (gam (g16 N)) N (L16 N) 16 (subC (Try.f16.body.get rfl) [true, true, false, true, false, false]) 58 35 [(0, 0)] (l16_58 N : LCon R) :=
  lspec_of (fun d K => rfl) (fun n d K => by kernel_rfl)
theorem e16 {R : Type} (N : Nat) (d : AMs.D a16) (k : List Val → List Val → Option R) : evF Try.prog (gam (g16 N)) N (L16 N) Try.f16 (encAs a16 d (canAs a16 0)) k = u16 N d k := by kernel_rfl
theorem s16 {R : Type} (N : Nat) : Snd Try.prog 16 (c16 N : Con R) :=
  snd_eq (Γ := g16 N) (allG trivial) mixed Try.func16 (c := (Try.f16.body.get rfl)) rfl (by kernel_rfl) (by kernel_rfl) (Λ := L16 N) (qs := [⟨58, subC (Try.f16.body.get rfl) [true, true, false, true, false, false], 35, [(0, 0)]⟩]) (by kernel_rfl) ⟨lsome rfl (q16_58 N), trivial⟩ (e16 N)
/-- laws.eqRead -/
noncomputable def laws_eqRead {R : Type} (N : Nat) (a : DRead) (b : DRead) (k : Bool → Option R) : Option R :=
  cond (!(decide (a.1 = b.1)))
    (k false)
    (cond (!(decide (a.2 = b.2)))
      (k false)
      (k true))
abbrev a43 : List AM := [.a (.pr (.int .i64) (.int .i64)), .a (.pr (.int .i64) (.int .i64))]
noncomputable def u43 {R : Type} (N : Nat) (d : AMs.D a43) (k : List Val → List Val → Option R) : Option R := laws_eqRead N d.1 d.2.1 (fun r0 => k [.c (.bo r0)] [])
noncomputable def c43 {R : Type} (N : Nat) : Con R := conOf [.rd, .rd] a43 (u43 N)
noncomputable def g43 {R : Type} (N : Nat) : List (Nat × Con R) := []
noncomputable def L43 {R : Type} (N : Nat) : List (Nat × LCon R) := []
theorem e43 {R : Type} (N : Nat) (d : AMs.D a43) (k : List Val → List Val → Option R) : evF Try.prog (gam (g43 N)) N (L43 N) Try.f43 (encAs a43 d (canAs a43 0)) k = u43 N d k := by kernel_rfl
theorem s43 {R : Type} (N : Nat) : Snd Try.prog 43 (c43 N : Con R) :=
  snd_eq (Γ := g43 N) (allG trivial) mixed Try.func43 (c := (Try.f43.body.get rfl)) rfl (by kernel_rfl) (by kernel_rfl) (Λ := L43 N) (qs := []) (by kernel_rfl) trivial (e43 N)
/-- laws.eqReadS, the loop 58 -/
noncomputable def laws_eqReadS_l0 {R : Type} (N : Nat) : Nat → List DRead → List DRead → Int → (Bool → Option R) → Option R → Option R
  | 0, _, _, _, _, _ => none
  | n + 1, a1, b1, i, x0_, x1_ =>
    cond (decide (i < (a1.length : Int)))
      (cond (idxE a1.length i)
        (cond (idxE b1.length i)
          (laws_eqRead N (a1.getD i.toNat YRead.z) (b1.getD i.toNat YRead.z) fun r =>
            cond (!r)
              (x0_ false)
              (laws_eqReadS_l0 N n a1 b1 (w64 (i + 1)) x0_ x1_))
          none)
        none)
      x1_
/-- laws.eqReadS -/
noncomputable def laws_eqReadS {R : Type} (N : Nat) (a : List DRead) (b : List DRead) (k : Bool → Option R) : Option R :=
  cond (!(decide ((a.length : Int) = (b.length : Int))))
    (k false)
    (laws_eqReadS_l0 N N a b 0
      (fun v =>
        k v)
      (k true))
abbrev a17 : List AM := [.v (.ro 85 YRead), .v (.ro 85 YRead)]
noncomputable def u17 {R : Type} (N : Nat) (d : AMs.D a17) (k : List Val → List Val → Option R) : Option R := laws_eqReadS N d.1 d.2.1 (fun r0 => k [.c (.bo r0)] [])
noncomputable def c17 {R : Type} (N : Nat) : Con R := conOf [.rd, .rd] a17 (u17 N)
noncomputable def g17 {R : Type} (N : Nat) : List (Nat × Con R) := [(43, c43 N)]
abbrev h17_58 : Sh := ⟨[(0, .c (.ro 0 85 YRead)), (1, .c (.ro 1 85 YRead)), (5, .c (.nu .i64))], [], 0, []⟩
noncomputable def l17_58 {R : Type} (N : Nat) : LCon R := lconOf [] false h17_58 fun n d K => laws_eqReadS_l0 N n d.1.1 d.1.2.1 d.1.2.2.1 (fun y0 => K .ret ⟨[(4, .c (.bo y0))], [], 0, []⟩) (K (.exit 0) ⟨[], [], 0, []⟩)
noncomputable def L17 {R : Type} (N : Nat) : List (Nat × LCon R) := [(58, l17_58 N)]
theorem q17_58 {R : Type} (N : Nat) : LSpec Try.prog (gam (g17 N)) N (L17 N) 16 (subC (Try.f17.body.get rfl) [true, true, false, true, false, false]) 58 35 [(0, 0)] (l17_58 N : LCon R) :=
  lspec_of (fun d K => rfl) (fun n d K => by kernel_rfl)
theorem e17 {R : Type} (N : Nat) (d : AMs.D a17) (k : List Val → List Val → Option R) : evF Try.prog (gam (g17 N)) N (L17 N) Try.f17 (encAs a17 d (canAs a17 0)) k = u17 N d k := by kernel_rfl
theorem s17 {R : Type} (N : Nat) : Snd Try.prog 17 (c17 N : Con R) :=
  snd_eq (Γ := g17 N) (allG ⟨s43 N, trivial⟩) mixed Try.func17 (c := (Try.f17.body.get rfl)) rfl (by kernel_rfl) (by kernel_rfl) (Λ := L17 N) (qs := [⟨58, subC (Try.f17.body.get rfl) [true, true, false, true, false, false], 35, [(0, 0)]⟩]) (by kernel_rfl) ⟨lsome rfl (q17_58 N), trivial⟩ (e17 N)
/-- laws.markReadS, the loop 26 -/
noncomputable def laws_markReadS_l0 {R : Type} (N : Nat) : Nat → Int → Int → List DRead → (Int → List DRead → Option R) → Option R
  | 0, _, _, _, _ => none
  | n + 1, k_1, i, xs, x0_ =>
    cond (decide (i < (xs.length : Int)))
      (cond (idxE xs.length i)
        (cond (idxE ((xs.set i.toNat (k_1, (xs.getD i.toNat YRead.z).2)).length) i)
          (let xs1 : List DRead := (xs.set i.toNat (k_1, (xs.getD i.toNat YRead.z).2)).set i.toNat (((xs.set i.toNat (k_1, (xs.getD i.toNat YRead.z).2)).getD i.toNat YRead.z).1, w64 (k_1 + 1))
          laws_markReadS_l0 N n (w64 ((w64 (k_1 + 1)) + 1)) (w64 (i + 1)) xs1 x0_)
          none)
        none)
      (x0_ k_1 xs)
/-- laws.markReadS -/
noncomputable def laws_markReadS {R : Type} (N : Nat) (a : List DRead) (k_ : Int) (k : Int → List DRead → Option R) : Option R :=
  laws_markReadS_l0 N N k_ 0 a
    (fun k_2 xs2 =>
      k k_2 xs2)
abbrev a18 : List AM := [.v (.ow 85 YRead), .v (.int .i64)]
noncomputable def u18 {R : Type} (N : Nat) (d : AMs.D a18) (k : List Val → List Val → Option R) : Option R := laws_markReadS N d.1 d.2.1 (fun r0 o0 => k [.c (.nu .i64 r0)] [.c (.own YRead 85 o0)])
noncomputable def c18 {R : Type} (N : Nat) : Con R := conOf [.bk, .rd] a18 (u18 N)
noncomputable def g18 {R : Type} (N : Nat) : List (Nat × Con R) := []
abbrev h18_26 : Sh := ⟨[(0, .c (.slw 0)), (1, .c (.nu .i64)), (5, .c (.nu .i64))], [(0, .rows YRead 85)], 1, [.c (.slw 0)]⟩
noncomputable def l18_26 {R : Type} (N : Nat) : LCon R := lconOf [] false h18_26 fun n d K => laws_markReadS_l0 N n d.1.2.1 d.1.2.2.1 d.2.1.1 (fun y0 y1 => K (.exit 0) ⟨[(1, .c (.nu .i64 y0))], [(0, some (.rows YRead 85 y1))], 1, [.c (.slw 0)]⟩)
noncomputable def L18 {R : Type} (N : Nat) : List (Nat × LCon R) := [(26, l18_26 N)]
theorem q18_26 {R : Type} (N : Nat) : LSpec Try.prog (gam (g18 N)) N (L18 N) 16 (subC (Try.f18.body.get rfl) [true, false, true, false, false]) 26 35 [(0, 2)] (l18_26 N : LCon R) :=
  lspec_of (fun d K => rfl) (fun n d K => by kernel_rfl)
theorem e18 {R : Type} (N : Nat) (d : AMs.D a18) (k : List Val → List Val → Option R) : evF Try.prog (gam (g18 N)) N (L18 N) Try.f18 (encAs a18 d (canAs a18 0)) k = u18 N d k := by kernel_rfl
theorem s18 {R : Type} (N : Nat) : Snd Try.prog 18 (c18 N : Con R) :=
  snd_eq (Γ := g18 N) (allG trivial) mixed Try.func18 (c := (Try.f18.body.get rfl)) rfl (by kernel_rfl) (by kernel_rfl) (Λ := L18 N) (qs := [⟨26, subC (Try.f18.body.get rfl) [true, false, true, false, false], 35, [(0, 2)]⟩]) (by kernel_rfl) ⟨lsome rfl (q18_26 N), trivial⟩ (e18 N)
/-- laws.markText, the loop 60 -/
noncomputable def laws_markText_l0 {R : Type} (N : Nat) : Nat → Int → ByteArray → (ByteArray → Option R) → Option R
  | 0, _, _, _ => none
  | n + 1, k_1, out_, x0_ =>
    cond (decide (0 < k_1))
      (cond (decide ((ofBytes [wu8 (w64 (48 + (k_1.tmod 10)))]).size + out_.size ≤ 1152921504606846976))
        (laws_markText_l0 N n (w64 (k_1.tdiv 10)) ((ofBytes [wu8 (w64 (48 + (k_1.tmod 10)))]) ++ out_) x0_)
        none)
      (x0_ out_)
/-- laws.markText -/
noncomputable def laws_markText {R : Type} (N : Nat) (k_ : Int) (k : ByteArray → Option R) : Option R :=
  cond (decide (k_ ≤ 0))
    (k (bs [109, 48]))
    (laws_markText_l0 N N k_ ByteArray.empty
      (fun out_1 =>
        cond (decide ((bs [109]).size + out_1.size ≤ 1152921504606846976))
          (k ((bs [109]) ++ out_1))
          none))
abbrev a44 : List AM := [.v (.int .i64)]
noncomputable def u44 {R : Type} (N : Nat) (d : AMs.D a44) (k : List Val → List Val → Option R) : Option R := laws_markText N d.1 (fun r0 => k [.c (.sr r0)] [])
noncomputable def c44 {R : Type} (N : Nat) : Con R := conOf [.rd] a44 (u44 N)
noncomputable def g44 {R : Type} (N : Nat) : List (Nat × Con R) := []
abbrev h44_60 : Sh := ⟨[(0, .c (.nu .i64)), (3, .c .sr)], [], 0, []⟩
noncomputable def l44_60 {R : Type} (N : Nat) : LCon R := lconOf [] false h44_60 fun n d K => laws_markText_l0 N n d.1.1 d.1.2.1 (fun y0 => K (.exit 0) ⟨[(3, .c (.sr y0))], [], 0, []⟩)
noncomputable def L44 {R : Type} (N : Nat) : List (Nat × LCon R) := [(60, l44_60 N)]
theorem q44_60 {R : Type} (N : Nat) : LSpec Try.prog (gam (g44 N)) N (L44 N) 4 (subC (Try.f44.body.get rfl) [true, true, true, false, false, false]) 60 9 [(0, 8)] (l44_60 N : LCon R) :=
  lspec_of (fun d K => rfl) (fun n d K => by kernel_rfl)
theorem e44 {R : Type} (N : Nat) (d : AMs.D a44) (k : List Val → List Val → Option R) : evF Try.prog (gam (g44 N)) N (L44 N) Try.f44 (encAs a44 d (canAs a44 0)) k = u44 N d k := by kernel_rfl
theorem s44 {R : Type} (N : Nat) : Snd Try.prog 44 (c44 N : Con R) :=
  snd_eq (Γ := g44 N) (allG trivial) mixed Try.func44 (c := (Try.f44.body.get rfl)) rfl (by kernel_rfl) (by kernel_rfl) (Λ := L44 N) (qs := [⟨60, subC (Try.f44.body.get rfl) [true, true, true, false, false, false], 9, [(0, 8)]⟩]) (by kernel_rfl) ⟨lsome rfl (q44_60 N), trivial⟩ (e44 N)
/-- laws.markStringS, the loop 26 -/
noncomputable def laws_markStringS_l0 {R : Type} (N : Nat) : Nat → Int → Int → List ByteArray → (Int → List ByteArray → Option R) → Option R
  | 0, _, _, _, _ => none
  | n + 1, k_1, i, xs, x0_ =>
    cond (decide (i < (xs.length : Int)))
      (laws_markText N k_1 fun r =>
        cond (idxE xs.length i)
          (laws_markStringS_l0 N n (w64 (k_1 + 1)) (w64 (i + 1)) (xs.set i.toNat r) x0_)
          none)
      (x0_ k_1 xs)
/-- laws.markStringS -/
noncomputable def laws_markStringS {R : Type} (N : Nat) (a : List ByteArray) (k_ : Int) (k : Int → List ByteArray → Option R) : Option R :=
  laws_markStringS_l0 N N k_ 0 a
    (fun k_2 xs1 =>
      k k_2 xs1)
abbrev a19 : List AM := [.v (.ow 9 .str), .v (.int .i64)]
noncomputable def u19 {R : Type} (N : Nat) (d : AMs.D a19) (k : List Val → List Val → Option R) : Option R := laws_markStringS N d.1 d.2.1 (fun r0 o0 => k [.c (.nu .i64 r0)] [.c (.own .str 9 o0)])
noncomputable def c19 {R : Type} (N : Nat) : Con R := conOf [.bk, .rd] a19 (u19 N)
noncomputable def g19 {R : Type} (N : Nat) : List (Nat × Con R) := [(44, c44 N)]
abbrev h19_26 : Sh := ⟨[(0, .c (.slw 0)), (1, .c (.nu .i64)), (5, .c (.nu .i64))], [(0, .rows .str 9)], 1, [.c (.slw 0)]⟩
noncomputable def l19_26 {R : Type} (N : Nat) : LCon R := lconOf [] false h19_26 fun n d K => laws_markStringS_l0 N n d.1.2.1 d.1.2.2.1 d.2.1.1 (fun y0 y1 => K (.exit 0) ⟨[(1, .c (.nu .i64 y0))], [(0, some (.rows .str 9 y1))], 1, [.c (.slw 0)]⟩)
noncomputable def L19 {R : Type} (N : Nat) : List (Nat × LCon R) := [(26, l19_26 N)]
theorem q19_26 {R : Type} (N : Nat) : LSpec Try.prog (gam (g19 N)) N (L19 N) 16 (subC (Try.f19.body.get rfl) [true, false, true, false, false]) 26 35 [(0, 2)] (l19_26 N : LCon R) :=
  lspec_of (fun d K => rfl) (fun n d K => by kernel_rfl)
theorem e19 {R : Type} (N : Nat) (d : AMs.D a19) (k : List Val → List Val → Option R) : evF Try.prog (gam (g19 N)) N (L19 N) Try.f19 (encAs a19 d (canAs a19 0)) k = u19 N d k := by kernel_rfl
theorem s19 {R : Type} (N : Nat) : Snd Try.prog 19 (c19 N : Con R) :=
  snd_eq (Γ := g19 N) (allG ⟨s44 N, trivial⟩) mixed Try.func19 (c := (Try.f19.body.get rfl)) rfl (by kernel_rfl) (by kernel_rfl) (Λ := L19 N) (qs := [⟨26, subC (Try.f19.body.get rfl) [true, false, true, false, false], 35, [(0, 2)]⟩]) (by kernel_rfl) ⟨lsome rfl (q19_26 N), trivial⟩ (e19 N)
/-- laws.heldStringS, the loop 26 -/
noncomputable def laws_heldStringS_l0 {R : Type} (N : Nat) : Nat → List ByteArray → Int → Int → (Int → Option R) → (Int → Option R) → Option R
  | 0, _, _, _, _, _ => none
  | n + 1, a1, k_1, i, x0_, x1_ =>
    cond (decide (i < (a1.length : Int)))
      (cond (idxE a1.length i)
        (laws_markText N k_1 fun r =>
          cond (!decide (a1.getD i.toNat ByteArray.empty = r))
            (x0_ (-1))
            (laws_heldStringS_l0 N n a1 (w64 (k_1 + 1)) (w64 (i + 1)) x0_ x1_))
        none)
      (x1_ k_1)
/-- laws.heldStringS -/
noncomputable def laws_heldStringS {R : Type} (N : Nat) (a : List ByteArray) (k_ : Int) (k : Int → Option R) : Option R :=
  laws_heldStringS_l0 N N a k_ 0
    (fun v =>
      k v)
    (fun k_2 =>
      k k_2)
abbrev a20 : List AM := [.v (.ro 9 .str), .v (.int .i64)]
noncomputable def u20 {R : Type} (N : Nat) (d : AMs.D a20) (k : List Val → List Val → Option R) : Option R := laws_heldStringS N d.1 d.2.1 (fun r0 => k [.c (.nu .i64 r0)] [])
noncomputable def c20 {R : Type} (N : Nat) : Con R := conOf [.rd, .rd] a20 (u20 N)
noncomputable def g20 {R : Type} (N : Nat) : List (Nat × Con R) := [(44, c44 N)]
abbrev h20_26 : Sh := ⟨[(0, .c (.ro 0 9 .str)), (1, .c (.nu .i64)), (5, .c (.nu .i64))], [], 0, []⟩
noncomputable def l20_26 {R : Type} (N : Nat) : LCon R := lconOf [] false h20_26 fun n d K => laws_heldStringS_l0 N n d.1.1 d.1.2.1 d.1.2.2.1 (fun y0 => K .ret ⟨[(4, .c (.nu .i64 y0))], [], 0, []⟩) (fun y0 => K (.exit 0) ⟨[(1, .c (.nu .i64 y0))], [], 0, []⟩)
noncomputable def L20 {R : Type} (N : Nat) : List (Nat × LCon R) := [(26, l20_26 N)]
theorem q20_26 {R : Type} (N : Nat) : LSpec Try.prog (gam (g20 N)) N (L20 N) 16 (subC (Try.f20.body.get rfl) [true, false, true, false, false]) 26 35 [(0, 2)] (l20_26 N : LCon R) :=
  lspec_of (fun d K => rfl) (fun n d K => by kernel_rfl)
theorem e20 {R : Type} (N : Nat) (d : AMs.D a20) (k : List Val → List Val → Option R) : evF Try.prog (gam (g20 N)) N (L20 N) Try.f20 (encAs a20 d (canAs a20 0)) k = u20 N d k := by kernel_rfl
theorem s20 {R : Type} (N : Nat) : Snd Try.prog 20 (c20 N : Con R) :=
  snd_eq (Γ := g20 N) (allG ⟨s44 N, trivial⟩) mixed Try.func20 (c := (Try.f20.body.get rfl)) rfl (by kernel_rfl) (by kernel_rfl) (Λ := L20 N) (qs := [⟨26, subC (Try.f20.body.get rfl) [true, false, true, false, false], 35, [(0, 2)]⟩]) (by kernel_rfl) ⟨lsome rfl (q20_26 N), trivial⟩ (e20 N)
/-- laws.FnExactPieces -/
noncomputable def laws_FnExactPieces {R : Type} (N : Nat) (aData : ByteArray) (aScript : List DRead) (k : Bool → Option R) : Option R :=
  cond (decide (1048576 < (aData.size : Int)))
    (k true)
    (laws_szReadS N aScript 1048576 fun r =>
      cond (decide (r < 0))
        (k true)
        (laws_toReadS N aScript fun r1 =>
          spec_Pieces N aData r1 fun r2 =>
            laws_toReadS N aScript fun r3 =>
              impl_Pieces N aData r3 fun r4 =>
                laws_eqStringS N r4 r2 fun r5 =>
                  cond (!r5)
                    (k false)
                    (laws_toReadS N aScript fun r6 =>
                      laws_eqReadS N r3 r6 fun r7 =>
                        cond (!r7)
                          (k false)
                          (laws_markReadS N r3 1 fun r8 o =>
                            cond (decide (r8 < 0))
                              (k false)
                              (laws_eqStringS N r4 r2 fun r9 =>
                                cond (!r9)
                                  (k false)
                                  (laws_markStringS N r4 1 fun r10 o1 =>
                                    laws_heldStringS N o1 1 fun r11 =>
                                      cond (decide (r11 < 0))
                                        (k false)
                                        (cond (!(decide (r11 = r10)))
                                          (k false)
                                          (laws_toReadS N aScript fun r12 =>
                                            impl_Pieces N aData r12 fun r13 =>
                                              laws_eqStringS N r13 r2 fun r14 =>
                                                cond (!r14)
                                                  (k false)
                                                  (laws_heldStringS N o1 1 fun r15 =>
                                                    cond (decide (r15 < 0))
                                                      (k false)
                                                      (cond (!(decide (r15 = r10)))
                                                        (k false)
                                                        (k true)))))))))))
abbrev a4 : List AM := [.v .str, .v (.ro 87 YRead)]
noncomputable def u4 {R : Type} (N : Nat) (d : AMs.D a4) (k : List Val → List Val → Option R) : Option R := laws_FnExactPieces N d.1 d.2.1 (fun r0 => k [.c (.bo r0)] [])
noncomputable def c4 {R : Type} (N : Nat) : Con R := conOf [.rd, .rd] a4 (u4 N)
noncomputable def g4 {R : Type} (N : Nat) : List (Nat × Con R) := [(12, c12 N), (14, c14 N), (13, c13 N), (15, c15 N), (16, c16 N), (17, c17 N), (18, c18 N), (19, c19 N), (20, c20 N)]
noncomputable def L4 {R : Type} (N : Nat) : List (Nat × LCon R) := []
theorem e4 {R : Type} (N : Nat) (d : AMs.D a4) (k : List Val → List Val → Option R) : evF Try.prog (gam (g4 N)) N (L4 N) Try.f4 (encAs a4 d (canAs a4 0)) k = u4 N d k := by kernel_rfl
theorem s4 {R : Type} (N : Nat) : Snd Try.prog 4 (c4 N : Con R) :=
  snd_eq (Γ := g4 N) (allG ⟨s12 N, s14 N, s13 N, s15 N, s16 N, s17 N, s18 N, s19 N, s20 N, trivial⟩) mixed Try.func4 (c := (Try.f4.body.get rfl)) rfl (by kernel_rfl) (by kernel_rfl) (Λ := L4 N) (qs := []) (by kernel_rfl) trivial (e4 N)
end Go.Proofs.YthpklbpdchckkaaT
