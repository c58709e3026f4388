/- Typed twins of the program's functions, and that they answer as the functions do. It states nothing by itself. -/
import Derived.Test.YtecdmnmedipjmaaAT
namespace Go.Proofs.YtecdmnmedipjmaaT
open Go.Proofs Go.Proofs.YtecdmnmedipjmaaEv
set_option maxRecDepth 100000
set_option linter.unusedVariables false
/-- laws.szIntS -/
noncomputable def laws_szIntS {R : Type} (N : Nat) (a : List Int) (left : Int) (k : Int → Option R) : Option R :=
  cond (decide ((w64 (left - (a.length : Int))) < 0))
    (k (-1))
    (k (w64 (left - (a.length : Int))))
abbrev a57 : List AM := [.v (.ro 3 (.int .i64)), .v (.int .i64)]
noncomputable def u57 {R : Type} (N : Nat) (d : AMs.D a57) (k : List Val → List Val → Option R) : Option R := laws_szIntS N d.1 d.2.1 (fun r0 => k [.c (.nu .i64 r0)] [])
noncomputable def c57 {R : Type} (N : Nat) : Con R := conOf [.rd, .rd] a57 (u57 N)
noncomputable def g57 {R : Type} (N : Nat) : List (Nat × Con R) := []
noncomputable def L57 {R : Type} (N : Nat) : List (Nat × LCon R) := []
theorem e57 {R : Type} (N : Nat) (d : AMs.D a57) (k : List Val → List Val → Option R) : evF Try.prog (gam (g57 N)) N (L57 N) Try.f57 (encAs a57 d (canAs a57 0)) k = u57 N d k := by kernel_rfl
theorem s57 {R : Type} (N : Nat) : Snd Try.prog 57 (c57 N : Con R) :=
  snd_eq (Γ := g57 N) (allG trivial) mixed Try.func57 (c := (Try.f57.body.get rfl)) rfl (by kernel_rfl) (by kernel_rfl) (Λ := L57 N) (qs := []) (by kernel_rfl) trivial (e57 N)
/-- laws.szSink -/
noncomputable def laws_szSink {R : Type} (N : Nat) (a : YSink.D) (left : Int) (k : Int → Option R) : Option R :=
  cond (decide ((w64 (left - (a.1.size : Int))) < 0))
    (k (-1))
    (laws_szIntS N a.2.1 (w64 (left - (a.1.size : Int))) fun r =>
      cond (decide (r < 0))
        (k (-1))
        (k r))
abbrev a20 : List AM := [.a (.pr .str (.pr (.ro 3 (.int .i64)) (.pr (.int .i64) (.int .i64)))), .v (.int .i64)]
noncomputable def u20 {R : Type} (N : Nat) (d : AMs.D a20) (k : List Val → List Val → Option R) : Option R := laws_szSink N d.1 d.2.1 (fun r0 => k [.c (.nu .i64 r0)] [])
noncomputable def c20 {R : Type} (N : Nat) : Con R := conOf [.rd, .rd] a20 (u20 N)
noncomputable def g20 {R : Type} (N : Nat) : List (Nat × Con R) := [(57, c57 N)]
noncomputable def L20 {R : Type} (N : Nat) : List (Nat × LCon R) := []
theorem e20 {R : Type} (N : Nat) (d : AMs.D a20) (k : List Val → List Val → Option R) : evF Try.prog (gam (g20 N)) N (L20 N) Try.f20 (encAs a20 d (canAs a20 0)) k = u20 N d k := by kernel_rfl
theorem s20 {R : Type} (N : Nat) : Snd Try.prog 20 (c20 N : Con R) :=
  snd_eq (Γ := g20 N) (allG ⟨s57 N, trivial⟩) mixed Try.func20 (c := (Try.f20.body.get rfl)) rfl (by kernel_rfl) (by kernel_rfl) (Λ := L20 N) (qs := []) (by kernel_rfl) trivial (e20 N)
/-- laws.toIntS, the loop 58 -/
noncomputable def laws_toIntS_l0 {R : Type} (N : Nat) : Nat → List Int → Int → List Int → (List Int → Option R) → Option R
  | 0, _, _, _, _ => none
  | n + 1, a1, i, xs, x0_ =>
    cond (decide (i < (a1.length : Int)))
      (cond (idxE a1.length i)
        (cond (idxE xs.length i)
          (laws_toIntS_l0 N n a1 (w64 (i + 1)) (xs.set i.toNat (a1.getD i.toNat 0)) x0_)
          none)
        none)
      (x0_ xs)
/-- laws.toIntS -/
noncomputable def laws_toIntS {R : Type} (N : Nat) (a : List Int) (k : List Int → Option R) : Option R :=
  cond (decide (0 ≤ (a.length : Int) ∧ (a.length : Int) ≤ (a.length : Int) ∧ (a.length : Int) ≤ 4611686018427387904 ∧ (8 : Int) * (a.length : Int) ≤ 140737488355328))
    (laws_toIntS_l0 N N a 0 (List.replicate ((a.length : Int).toNat) 0)
      (fun xs1 =>
        k xs1))
    none
abbrev a34 : List AM := [.v (.ro 3 (.int .i64))]
noncomputable def u34 {R : Type} (N : Nat) (d : AMs.D a34) (k : List Val → List Val → Option R) : Option R := laws_toIntS N d.1 (fun r0 => k [.c (.own (.int .i64) 3 r0)] [])
noncomputable def c34 {R : Type} (N : Nat) : Con R := conOf [.rd] a34 (u34 N)
noncomputable def g34 {R : Type} (N : Nat) : List (Nat × Con R) := []
abbrev h34_58 : Sh := ⟨[(0, .c (.ro 0 3 (.int .i64))), (3, .c (.slw 0)), (4, .c (.nu .i64))], [(0, .rows (.int .i64) 3)], 1, []⟩
noncomputable def l34_58 {R : Type} (N : Nat) : LCon R := lconOf [] h34_58 fun n d K => laws_toIntS_l0 N n d.1.1 d.1.2.2.1 d.2.1.1 (fun y0 => K (.exit 0) ⟨[(3, .c (.slw 0))], [(0, some (.rows (.int .i64) 3 y0))], 1, []⟩)
noncomputable def L34 {R : Type} (N : Nat) : List (Nat × LCon R) := [(58, l34_58 N)]
theorem q34_58 {R : Type} (N : Nat) : LSpec Try.prog (gam (g34 N)) N (L34 N) 4 (subC (Try.f34.body.get rfl) [true, true, false, true, false, false]) 58 25 [(0, 8)] (l34_58 N : LCon R) :=
  lspec_of (fun d K => rfl) (fun n d K => by kernel_rfl)
theorem e34 {R : Type} (N : Nat) (d : AMs.D a34) (k : List Val → List Val → Option R) : evF Try.prog (gam (g34 N)) N (L34 N) Try.f34 (encAs a34 d (canAs a34 0)) k = u34 N d k := by kernel_rfl
theorem s34 {R : Type} (N : Nat) : Snd Try.prog 34 (c34 N : Con R) :=
  snd_eq (Γ := g34 N) (allG trivial) mixed Try.func34 (c := (Try.f34.body.get rfl)) rfl (by kernel_rfl) (by kernel_rfl) (Λ := L34 N) (qs := [⟨58, subC (Try.f34.body.get rfl) [true, true, false, true, false, false], 25, [(0, 8)]⟩]) (by kernel_rfl) ⟨lsome rfl (q34_58 N), trivial⟩ (e34 N)
/-- laws.toSink -/
noncomputable def laws_toSink {R : Type} (N : Nat) (a : YSink.D) (k : YSink.D → Option R) : Option R :=
  laws_toIntS N a.2.1 fun r =>
    k (a.1, r, a.2.2)
abbrev a22 : List AM := [.a (.pr .str (.pr (.ro 3 (.int .i64)) (.pr (.int .i64) (.int .i64))))]
noncomputable def u22 {R : Type} (N : Nat) (d : AMs.D a22) (k : List Val → List Val → Option R) : Option R := laws_toSink N d.1 (fun r0 => k [.agg [.sr r0.1, .own (.int .i64) 3 r0.2.1, .nu .i64 r0.2.2.1, .nu .i64 r0.2.2.2]] [])
noncomputable def c22 {R : Type} (N : Nat) : Con R := conOf [.rd] a22 (u22 N)
noncomputable def g22 {R : Type} (N : Nat) : List (Nat × Con R) := [(34, c34 N)]
noncomputable def L22 {R : Type} (N : Nat) : List (Nat × LCon R) := []
theorem e22 {R : Type} (N : Nat) (d : AMs.D a22) (k : List Val → List Val → Option R) : evF Try.prog (gam (g22 N)) N (L22 N) Try.f22 (encAs a22 d (canAs a22 0)) k = u22 N d k := by kernel_rfl
theorem s22 {R : Type} (N : Nat) : Snd Try.prog 22 (c22 N : Con R) :=
  snd_eq (Γ := g22 N) (allG ⟨s34 N, trivial⟩) mixed Try.func22 (c := (Try.f22.body.get rfl)) rfl (by kernel_rfl) (by kernel_rfl) (Λ := L22 N) (qs := []) (by kernel_rfl) trivial (e22 N)
/-- spec.l1In -/
noncomputable def spec_l1In {R : Type} (N : Nat) (x : Int) (lo : Int) (hi : Int) (k : Bool → Option R) : Option R :=
  cond (decide (lo ≤ x))
    (k (decide (x ≤ hi)))
    (k false)
abbrev a53 : List AM := [.v (.int .i64), .v (.int .i64), .v (.int .i64)]
noncomputable def u53 {R : Type} (N : Nat) (d : AMs.D a53) (k : List Val → List Val → Option R) : Option R := spec_l1In N d.1 d.2.1 d.2.2.1 (fun r0 => k [.c (.bo r0)] [])
noncomputable def c53 {R : Type} (N : Nat) : Con R := conOf [.rd, .rd, .rd] a53 (u53 N)
noncomputable def g53 {R : Type} (N : Nat) : List (Nat × Con R) := []
noncomputable def L53 {R : Type} (N : Nat) : List (Nat × LCon R) := []
theorem e53 {R : Type} (N : Nat) (d : AMs.D a53) (k : List Val → List Val → Option R) : evF Try.prog (gam (g53 N)) N (L53 N) Try.f53 (encAs a53 d (canAs a53 0)) k = u53 N d k := by kernel_rfl
theorem s53 {R : Type} (N : Nat) : Snd Try.prog 53 (c53 N : Con R) :=
  snd_eq (Γ := g53 N) (allG trivial) mixed Try.func53 (c := (Try.f53.body.get rfl)) rfl (by kernel_rfl) (by kernel_rfl) (Λ := L53 N) (qs := []) (by kernel_rfl) trivial (e53 N)
/-- spec.SinkOk -/
noncomputable def spec_SinkOk {R : Type} (N : Nat) (k_ : YSink.D) (k : Bool → Option R) : Option R :=
  cond (decide ((k_.1.size : Int) ≤ 4000))
    (cond (decide ((k_.2.1.length : Int) ≤ 200))
      (spec_l1In N k_.2.2.1 0 (k_.2.1.length : Int) fun r =>
        cond r
          (spec_l1In N k_.2.2.2 0 1000000 fun r1 =>
            k r1)
          (k false))
      (k false))
    (k false)
abbrev a21 : List AM := [.a (.pr .str (.pr (.ro 3 (.int .i64)) (.pr (.int .i64) (.int .i64))))]
noncomputable def u21 {R : Type} (N : Nat) (d : AMs.D a21) (k : List Val → List Val → Option R) : Option R := spec_SinkOk N d.1 (fun r0 => k [.c (.bo r0)] [])
noncomputable def c21 {R : Type} (N : Nat) : Con R := conOf [.rd] a21 (u21 N)
noncomputable def g21 {R : Type} (N : Nat) : List (Nat × Con R) := [(53, c53 N)]
noncomputable def L21 {R : Type} (N : Nat) : List (Nat × LCon R) := []
theorem e21 {R : Type} (N : Nat) (d : AMs.D a21) (k : List Val → List Val → Option R) : evF Try.prog (gam (g21 N)) N (L21 N) Try.f21 (encAs a21 d (canAs a21 0)) k = u21 N d k := by kernel_rfl
theorem s21 {R : Type} (N : Nat) : Snd Try.prog 21 (c21 N : Con R) :=
  snd_eq (Γ := g21 N) (allG ⟨s53 N, trivial⟩) mixed Try.func21 (c := (Try.f21.body.get rfl)) rfl (by kernel_rfl) (by kernel_rfl) (Λ := L21 N) (qs := []) (by kernel_rfl) trivial (e21 N)
/-- impl.within -/
noncomputable def impl_within {R : Type} (N : Nat) (n_ : Int) (low : Int) (high : Int) (k : Bool → Option R) : Option R :=
  cond (decide (low ≤ n_))
    (k (decide (n_ ≤ high)))
    (k false)
abbrev a55 : List AM := [.v (.int .i64), .v (.int .i64), .v (.int .i64)]
noncomputable def u55 {R : Type} (N : Nat) (d : AMs.D a55) (k : List Val → List Val → Option R) : Option R := impl_within N d.1 d.2.1 d.2.2.1 (fun r0 => k [.c (.bo r0)] [])
noncomputable def c55 {R : Type} (N : Nat) : Con R := conOf [.rd, .rd, .rd] a55 (u55 N)
noncomputable def g55 {R : Type} (N : Nat) : List (Nat × Con R) := []
noncomputable def L55 {R : Type} (N : Nat) : List (Nat × LCon R) := []
theorem e55 {R : Type} (N : Nat) (d : AMs.D a55) (k : List Val → List Val → Option R) : evF Try.prog (gam (g55 N)) N (L55 N) Try.f55 (encAs a55 d (canAs a55 0)) k = u55 N d k := by kernel_rfl
theorem s55 {R : Type} (N : Nat) : Snd Try.prog 55 (c55 N : Con R) :=
  snd_eq (Γ := g55 N) (allG trivial) mixed Try.func55 (c := (Try.f55.body.get rfl)) rfl (by kernel_rfl) (by kernel_rfl) (Λ := L55 N) (qs := []) (by kernel_rfl) trivial (e55 N)
/-- impl.SinkOk -/
noncomputable def impl_SinkOk {R : Type} (N : Nat) (k_ : YSink.D) (k : Bool → Option R) : Option R :=
  cond (decide ((k_.1.size : Int) ≤ 4000))
    (cond (decide ((k_.2.1.length : Int) ≤ 200))
      (impl_within N k_.2.2.1 0 (k_.2.1.length : Int) fun r =>
        cond r
          (impl_within N k_.2.2.2 0 1000000 fun r1 =>
            k r1)
          (k false))
      (k false))
    (k false)
abbrev a23 : List AM := [.a (.pr .str (.pr (.ro 3 (.int .i64)) (.pr (.int .i64) (.int .i64))))]
noncomputable def u23 {R : Type} (N : Nat) (d : AMs.D a23) (k : List Val → List Val → Option R) : Option R := impl_SinkOk N d.1 (fun r0 => k [.c (.bo r0)] [])
noncomputable def c23 {R : Type} (N : Nat) : Con R := conOf [.rd] a23 (u23 N)
noncomputable def g23 {R : Type} (N : Nat) : List (Nat × Con R) := [(55, c55 N)]
noncomputable def L23 {R : Type} (N : Nat) : List (Nat × LCon R) := []
theorem e23 {R : Type} (N : Nat) (d : AMs.D a23) (k : List Val → List Val → Option R) : evF Try.prog (gam (g23 N)) N (L23 N) Try.f23 (encAs a23 d (canAs a23 0)) k = u23 N d k := by kernel_rfl
theorem s23 {R : Type} (N : Nat) : Snd Try.prog 23 (c23 N : Con R) :=
  snd_eq (Γ := g23 N) (allG ⟨s55 N, trivial⟩) mixed Try.func23 (c := (Try.f23.body.get rfl)) rfl (by kernel_rfl) (by kernel_rfl) (Λ := L23 N) (qs := []) (by kernel_rfl) trivial (e23 N)
/-- laws.eqIntS, the loop 58 -/
noncomputable def laws_eqIntS_l0 {R : Type} (N : Nat) : Nat → List Int → List Int → Int → (Bool → Option R) → Option R → Option R
  | 0, _, _, _, _, _ => none
  | n + 1, a1, b1, i, x0_, x1_ =>
    cond (decide (i < (a1.length : Int)))
      (cond (idxE a1.length i)
        (cond (idxE b1.length i)
          (cond (!(decide ((a1.getD i.toNat 0) = (b1.getD i.toNat 0))))
            (x0_ false)
            (laws_eqIntS_l0 N n a1 b1 (w64 (i + 1)) x0_ x1_))
          none)
        none)
      x1_
/-- laws.eqIntS -/
noncomputable def laws_eqIntS {R : Type} (N : Nat) (a : List Int) (b : List Int) (k : Bool → Option R) : Option R :=
  cond (!(decide ((a.length : Int) = (b.length : Int))))
    (k false)
    (laws_eqIntS_l0 N N a b 0
      (fun v =>
        k v)
      (k true))
abbrev a36 : List AM := [.v (.ro 3 (.int .i64)), .v (.ro 3 (.int .i64))]
noncomputable def u36 {R : Type} (N : Nat) (d : AMs.D a36) (k : List Val → List Val → Option R) : Option R := laws_eqIntS N d.1 d.2.1 (fun r0 => k [.c (.bo r0)] [])
noncomputable def c36 {R : Type} (N : Nat) : Con R := conOf [.rd, .rd] a36 (u36 N)
noncomputable def g36 {R : Type} (N : Nat) : List (Nat × Con R) := []
abbrev h36_58 : Sh := ⟨[(0, .c (.ro 0 3 (.int .i64))), (1, .c (.ro 1 3 (.int .i64))), (5, .c (.nu .i64))], [], 0, []⟩
noncomputable def l36_58 {R : Type} (N : Nat) : LCon R := lconOf [] h36_58 fun n d K => laws_eqIntS_l0 N n d.1.1 d.1.2.1 d.1.2.2.1 (fun y0 => K .ret ⟨[(4, .c (.bo y0))], [], 0, []⟩) (K (.exit 0) ⟨[], [], 0, []⟩)
noncomputable def L36 {R : Type} (N : Nat) : List (Nat × LCon R) := [(58, l36_58 N)]
theorem q36_58 {R : Type} (N : Nat) : LSpec Try.prog (gam (g36 N)) N (L36 N) 16 (subC (Try.f36.body.get rfl) [true, true, false, true, false, false]) 58 35 [(0, 0)] (l36_58 N : LCon R) :=
  lspec_of (fun d K => rfl) (fun n d K => by kernel_rfl)
theorem e36 {R : Type} (N : Nat) (d : AMs.D a36) (k : List Val → List Val → Option R) : evF Try.prog (gam (g36 N)) N (L36 N) Try.f36 (encAs a36 d (canAs a36 0)) k = u36 N d k := by kernel_rfl
theorem s36 {R : Type} (N : Nat) : Snd Try.prog 36 (c36 N : Con R) :=
  snd_eq (Γ := g36 N) (allG trivial) mixed Try.func36 (c := (Try.f36.body.get rfl)) rfl (by kernel_rfl) (by kernel_rfl) (Λ := L36 N) (qs := [⟨58, subC (Try.f36.body.get rfl) [true, true, false, true, false, false], 35, [(0, 0)]⟩]) (by kernel_rfl) ⟨lsome rfl (q36_58 N), trivial⟩ (e36 N)
/-- laws.eqSink -/
noncomputable def laws_eqSink {R : Type} (N : Nat) (a : YSink.D) (b : YSink.D) (k : Bool → Option R) : Option R :=
  cond (!decide (a.1 = b.1))
    (k false)
    (laws_eqIntS N a.2.1 b.2.1 fun r =>
      cond (!r)
        (k false)
        (cond (!(decide (a.2.2.1 = b.2.2.1)))
          (k false)
          (cond (!(decide (a.2.2.2 = b.2.2.2)))
            (k false)
            (k true))))
abbrev a24 : List AM := [.a (.pr .str (.pr (.ro 3 (.int .i64)) (.pr (.int .i64) (.int .i64)))), .a (.pr .str (.pr (.ro 3 (.int .i64)) (.pr (.int .i64) (.int .i64))))]
noncomputable def u24 {R : Type} (N : Nat) (d : AMs.D a24) (k : List Val → List Val → Option R) : Option R := laws_eqSink N d.1 d.2.1 (fun r0 => k [.c (.bo r0)] [])
noncomputable def c24 {R : Type} (N : Nat) : Con R := conOf [.rd, .rd] a24 (u24 N)
noncomputable def g24 {R : Type} (N : Nat) : List (Nat × Con R) := [(36, c36 N)]
noncomputable def L24 {R : Type} (N : Nat) : List (Nat × LCon R) := []
theorem e24 {R : Type} (N : Nat) (d : AMs.D a24) (k : List Val → List Val → Option R) : evF Try.prog (gam (g24 N)) N (L24 N) Try.f24 (encAs a24 d (canAs a24 0)) k = u24 N d k := by kernel_rfl
theorem s24 {R : Type} (N : Nat) : Snd Try.prog 24 (c24 N : Con R) :=
  snd_eq (Γ := g24 N) (allG ⟨s36 N, trivial⟩) mixed Try.func24 (c := (Try.f24.body.get rfl)) rfl (by kernel_rfl) (by kernel_rfl) (Λ := L24 N) (qs := []) (by kernel_rfl) trivial (e24 N)
/-- laws.FnExactSinkOk -/
noncomputable def laws_FnExactSinkOk {R : Type} (N : Nat) (aK : YSink.D) (k : Bool → Option R) : Option R :=
  laws_szSink N aK 1048576 fun r =>
    cond (decide (r < 0))
      (k true)
      (laws_toSink N aK fun r1 =>
        spec_SinkOk N r1 fun r2 =>
          laws_toSink N aK fun r3 =>
            impl_SinkOk N r3 fun r4 =>
              cond (!(r4 == r2))
                (k false)
                (laws_toSink N aK fun r5 =>
                  laws_eqSink N r3 r5 fun r6 =>
                    cond (!r6)
                      (k false)
                      (k true)))
abbrev a4 : List AM := [.a (.pr .str (.pr (.ro 3 (.int .i64)) (.pr (.int .i64) (.int .i64))))]
noncomputable def u4 {R : Type} (N : Nat) (d : AMs.D a4) (k : List Val → List Val → Option R) : Option R := laws_FnExactSinkOk N d.1 (fun r0 => k [.c (.bo r0)] [])
noncomputable def c4 {R : Type} (N : Nat) : Con R := conOf [.rd] a4 (u4 N)
noncomputable def g4 {R : Type} (N : Nat) : List (Nat × Con R) := [(20, c20 N), (22, c22 N), (21, c21 N), (23, c23 N), (24, c24 N)]
noncomputable def L4 {R : Type} (N : Nat) : List (Nat × LCon R) := []
theorem e4 {R : Type} (N : Nat) (d : AMs.D a4) (k : List Val → List Val → Option R) : evF Try.prog (gam (g4 N)) N (L4 N) Try.f4 (encAs a4 d (canAs a4 0)) k = u4 N d k := by kernel_rfl
theorem s4 {R : Type} (N : Nat) : Snd Try.prog 4 (c4 N : Con R) :=
  snd_eq (Γ := g4 N) (allG ⟨s20 N, s22 N, s21 N, s23 N, s24 N, trivial⟩) mixed Try.func4 (c := (Try.f4.body.get rfl)) rfl (by kernel_rfl) (by kernel_rfl) (Λ := L4 N) (qs := []) (by kernel_rfl) trivial (e4 N)
/-- laws.szReadS -/
noncomputable def laws_szReadS {R : Type} (N : Nat) (a : List YRead.D) (left : Int) (k : Int → Option R) : Option R :=
  cond (decide ((w64 (left - (a.length : Int))) < 0))
    (k (-1))
    (k (w64 (left - (a.length : Int))))
abbrev a15 : List AM := [.v (.ro 72 YRead), .v (.int .i64)]
noncomputable def u15 {R : Type} (N : Nat) (d : AMs.D a15) (k : List Val → List Val → Option R) : Option R := laws_szReadS N d.1 d.2.1 (fun r0 => k [.c (.nu .i64 r0)] [])
noncomputable def c15 {R : Type} (N : Nat) : Con R := conOf [.rd, .rd] a15 (u15 N)
noncomputable def g15 {R : Type} (N : Nat) : List (Nat × Con R) := []
noncomputable def L15 {R : Type} (N : Nat) : List (Nat × LCon R) := []
theorem e15 {R : Type} (N : Nat) (d : AMs.D a15) (k : List Val → List Val → Option R) : evF Try.prog (gam (g15 N)) N (L15 N) Try.f15 (encAs a15 d (canAs a15 0)) k = u15 N d k := by kernel_rfl
theorem s15 {R : Type} (N : Nat) : Snd Try.prog 15 (c15 N : Con R) :=
  snd_eq (Γ := g15 N) (allG trivial) mixed Try.func15 (c := (Try.f15.body.get rfl)) rfl (by kernel_rfl) (by kernel_rfl) (Λ := L15 N) (qs := []) (by kernel_rfl) trivial (e15 N)
/-- laws.toRead -/
noncomputable def laws_toRead {R : Type} (N : Nat) (a : YRead.D) (k : YRead.D → Option R) : Option R :=
  k a
abbrev a54 : List AM := [.a (.pr (.int .i64) (.int .i64))]
noncomputable def u54 {R : Type} (N : Nat) (d : AMs.D a54) (k : List Val → List Val → Option R) : Option R := laws_toRead N d.1 (fun r0 => k [.agg [.nu .i64 r0.1, .nu .i64 r0.2]] [])
noncomputable def c54 {R : Type} (N : Nat) : Con R := conOf [.rd] a54 (u54 N)
noncomputable def g54 {R : Type} (N : Nat) : List (Nat × Con R) := []
noncomputable def L54 {R : Type} (N : Nat) : List (Nat × LCon R) := []
theorem e54 {R : Type} (N : Nat) (d : AMs.D a54) (k : List Val → List Val → Option R) : evF Try.prog (gam (g54 N)) N (L54 N) Try.f54 (encAs a54 d (canAs a54 0)) k = u54 N d k := by kernel_rfl
theorem s54 {R : Type} (N : Nat) : Snd Try.prog 54 (c54 N : Con R) :=
  snd_eq (Γ := g54 N) (allG trivial) mixed Try.func54 (c := (Try.f54.body.get rfl)) rfl (by kernel_rfl) (by kernel_rfl) (Λ := L54 N) (qs := []) (by kernel_rfl) trivial (e54 N)
/-- laws.toReadS, the loop 58 -/
noncomputable def laws_toReadS_l0 {R : Type} (N : Nat) : Nat → List YRead.D → Int → List YRead.D → (List YRead.D → Option R) → Option R
  | 0, _, _, _, _ => none
  | n + 1, a1, i, xs, x0_ =>
    cond (decide (i < (a1.length : Int)))
      (cond (idxE a1.length i)
        (laws_toRead N (a1.getD i.toNat YRead.z) fun r =>
          cond (idxE xs.length i)
            (laws_toReadS_l0 N n a1 (w64 (i + 1)) (xs.set i.toNat r) x0_)
            none)
        none)
      (x0_ xs)
/-- laws.toReadS -/
noncomputable def laws_toReadS {R : Type} (N : Nat) (a : List YRead.D) (k : List YRead.D → Option R) : Option R :=
  cond (decide (0 ≤ (a.length : Int) ∧ (a.length : Int) ≤ (a.length : Int) ∧ (a.length : Int) ≤ 4611686018427387904 ∧ (16 : Int) * (a.length : Int) ≤ 140737488355328))
    (laws_toReadS_l0 N N a 0 (List.replicate ((a.length : Int).toNat) (0, 0))
      (fun xs1 =>
        k xs1))
    none
abbrev a17 : List AM := [.v (.ro 72 YRead)]
noncomputable def u17 {R : Type} (N : Nat) (d : AMs.D a17) (k : List Val → List Val → Option R) : Option R := laws_toReadS N d.1 (fun r0 => k [.c (.own YRead 70 r0)] [])
noncomputable def c17 {R : Type} (N : Nat) : Con R := conOf [.rd] a17 (u17 N)
noncomputable def g17 {R : Type} (N : Nat) : List (Nat × Con R) := [(54, c54 N)]
abbrev h17_58 : Sh := ⟨[(0, .c (.ro 0 72 YRead)), (3, .c (.slw 0)), (4, .c (.nu .i64))], [(0, .rows YRead 70)], 1, []⟩
noncomputable def l17_58 {R : Type} (N : Nat) : LCon R := lconOf [] h17_58 fun n d K => laws_toReadS_l0 N n d.1.1 d.1.2.2.1 d.2.1.1 (fun y0 => K (.exit 0) ⟨[(3, .c (.slw 0))], [(0, some (.rows YRead 70 y0))], 1, []⟩)
noncomputable def L17 {R : Type} (N : Nat) : List (Nat × LCon R) := [(58, l17_58 N)]
theorem q17_58 {R : Type} (N : Nat) : LSpec Try.prog (gam (g17 N)) N (L17 N) 4 (subC (Try.f17.body.get rfl) [true, true, false, true, false, false]) 58 25 [(0, 8)] (l17_58 N : LCon R) :=
  lspec_of (fun d K => rfl) (fun n d K => by kernel_rfl)
theorem e17 {R : Type} (N : Nat) (d : AMs.D a17) (k : List Val → List Val → Option R) : evF Try.prog (gam (g17 N)) N (L17 N) Try.f17 (encAs a17 d (canAs a17 0)) k = u17 N d k := by kernel_rfl
theorem s17 {R : Type} (N : Nat) : Snd Try.prog 17 (c17 N : Con R) :=
  snd_eq (Γ := g17 N) (allG ⟨s54 N, trivial⟩) mixed Try.func17 (c := (Try.f17.body.get rfl)) rfl (by kernel_rfl) (by kernel_rfl) (Λ := L17 N) (qs := [⟨58, subC (Try.f17.body.get rfl) [true, true, false, true, false, false], 25, [(0, 8)]⟩]) (by kernel_rfl) ⟨lsome rfl (q17_58 N), trivial⟩ (e17 N)
/-- spec.ReadsMost -/
noncomputable def spec_ReadsMost {R : Type} (N : Nat) (n_ : Int) (script : List YRead.D) (k : Int → Option R) : Option R :=
  spec_l1In N n_ 0 4000 fun r =>
    cond (!r)
      (k 0)
      (k (w64 ((w64 ((script.length : Int) + (w64 (n_.tdiv 16)))) + 2)))
abbrev a16 : List AM := [.v (.int .i64), .v (.ro 70 YRead)]
noncomputable def u16 {R : Type} (N : Nat) (d : AMs.D a16) (k : List Val → List Val → Option R) : Option R := spec_ReadsMost N d.1 d.2.1 (fun r0 => k [.c (.nu .i64 r0)] [])
noncomputable def c16 {R : Type} (N : Nat) : Con R := conOf [.rd, .rd] a16 (u16 N)
noncomputable def g16 {R : Type} (N : Nat) : List (Nat × Con R) := [(53, c53 N)]
noncomputable def L16 {R : Type} (N : Nat) : List (Nat × LCon R) := []
theorem e16 {R : Type} (N : Nat) (d : AMs.D a16) (k : List Val → List Val → Option R) : evF Try.prog (gam (g16 N)) N (L16 N) Try.f16 (encAs a16 d (canAs a16 0)) k = u16 N d k := by kernel_rfl
theorem s16 {R : Type} (N : Nat) : Snd Try.prog 16 (c16 N : Con R) :=
  snd_eq (Γ := g16 N) (allG ⟨s53 N, trivial⟩) mixed Try.func16 (c := (Try.f16.body.get rfl)) rfl (by kernel_rfl) (by kernel_rfl) (Λ := L16 N) (qs := []) (by kernel_rfl) trivial (e16 N)
/-- impl.ReadsMost -/
noncomputable def impl_ReadsMost {R : Type} (N : Nat) (n_ : Int) (script : List YRead.D) (k : Int → Option R) : Option R :=
  impl_within N n_ 0 4000 fun r =>
    cond (!r)
      (k 0)
      (k (w64 ((w64 ((script.length : Int) + (w64 (n_.tdiv 16)))) + 2)))
abbrev a18 : List AM := [.v (.int .i64), .v (.ro 70 YRead)]
noncomputable def u18 {R : Type} (N : Nat) (d : AMs.D a18) (k : List Val → List Val → Option R) : Option R := impl_ReadsMost N d.1 d.2.1 (fun r0 => k [.c (.nu .i64 r0)] [])
noncomputable def c18 {R : Type} (N : Nat) : Con R := conOf [.rd, .rd] a18 (u18 N)
noncomputable def g18 {R : Type} (N : Nat) : List (Nat × Con R) := [(55, c55 N)]
noncomputable def L18 {R : Type} (N : Nat) : List (Nat × LCon R) := []
theorem e18 {R : Type} (N : Nat) (d : AMs.D a18) (k : List Val → List Val → Option R) : evF Try.prog (gam (g18 N)) N (L18 N) Try.f18 (encAs a18 d (canAs a18 0)) k = u18 N d k := by kernel_rfl
theorem s18 {R : Type} (N : Nat) : Snd Try.prog 18 (c18 N : Con R) :=
  snd_eq (Γ := g18 N) (allG ⟨s55 N, trivial⟩) mixed Try.func18 (c := (Try.f18.body.get rfl)) rfl (by kernel_rfl) (by kernel_rfl) (Λ := L18 N) (qs := []) (by kernel_rfl) trivial (e18 N)
/-- laws.eqRead -/
noncomputable def laws_eqRead {R : Type} (N : Nat) (a : YRead.D) (b : YRead.D) (k : Bool → Option R) : Option R :=
  cond (!(decide (a.1 = b.1)))
    (k false)
    (cond (!(decide (a.2 = b.2)))
      (k false)
      (k true))
abbrev a56 : List AM := [.a (.pr (.int .i64) (.int .i64)), .a (.pr (.int .i64) (.int .i64))]
noncomputable def u56 {R : Type} (N : Nat) (d : AMs.D a56) (k : List Val → List Val → Option R) : Option R := laws_eqRead N d.1 d.2.1 (fun r0 => k [.c (.bo r0)] [])
noncomputable def c56 {R : Type} (N : Nat) : Con R := conOf [.rd, .rd] a56 (u56 N)
noncomputable def g56 {R : Type} (N : Nat) : List (Nat × Con R) := []
noncomputable def L56 {R : Type} (N : Nat) : List (Nat × LCon R) := []
theorem e56 {R : Type} (N : Nat) (d : AMs.D a56) (k : List Val → List Val → Option R) : evF Try.prog (gam (g56 N)) N (L56 N) Try.f56 (encAs a56 d (canAs a56 0)) k = u56 N d k := by kernel_rfl
theorem s56 {R : Type} (N : Nat) : Snd Try.prog 56 (c56 N : Con R) :=
  snd_eq (Γ := g56 N) (allG trivial) mixed Try.func56 (c := (Try.f56.body.get rfl)) rfl (by kernel_rfl) (by kernel_rfl) (Λ := L56 N) (qs := []) (by kernel_rfl) trivial (e56 N)
/-- laws.eqReadS, the loop 58 -/
noncomputable def laws_eqReadS_l0 {R : Type} (N : Nat) : Nat → List YRead.D → List YRead.D → Int → (Bool → Option R) → Option R → Option R
  | 0, _, _, _, _, _ => none
  | n + 1, a1, b1, i, x0_, x1_ =>
    cond (decide (i < (a1.length : Int)))
      (cond (idxE a1.length i)
        (cond (idxE b1.length i)
          (laws_eqRead N (a1.getD i.toNat YRead.z) (b1.getD i.toNat YRead.z) fun r =>
            cond (!r)
              (x0_ false)
              (laws_eqReadS_l0 N n a1 b1 (w64 (i + 1)) x0_ x1_))
          none)
        none)
      x1_
/-- laws.eqReadS -/
noncomputable def laws_eqReadS {R : Type} (N : Nat) (a : List YRead.D) (b : List YRead.D) (k : Bool → Option R) : Option R :=
  cond (!(decide ((a.length : Int) = (b.length : Int))))
    (k false)
    (laws_eqReadS_l0 N N a b 0
      (fun v =>
        k v)
      (k true))
abbrev a19 : List AM := [.v (.ro 70 YRead), .v (.ro 70 YRead)]
noncomputable def u19 {R : Type} (N : Nat) (d : AMs.D a19) (k : List Val → List Val → Option R) : Option R := laws_eqReadS N d.1 d.2.1 (fun r0 => k [.c (.bo r0)] [])
noncomputable def c19 {R : Type} (N : Nat) : Con R := conOf [.rd, .rd] a19 (u19 N)
noncomputable def g19 {R : Type} (N : Nat) : List (Nat × Con R) := [(56, c56 N)]
abbrev h19_58 : Sh := ⟨[(0, .c (.ro 0 70 YRead)), (1, .c (.ro 1 70 YRead)), (5, .c (.nu .i64))], [], 0, []⟩
noncomputable def l19_58 {R : Type} (N : Nat) : LCon R := lconOf [] h19_58 fun n d K => laws_eqReadS_l0 N n d.1.1 d.1.2.1 d.1.2.2.1 (fun y0 => K .ret ⟨[(4, .c (.bo y0))], [], 0, []⟩) (K (.exit 0) ⟨[], [], 0, []⟩)
noncomputable def L19 {R : Type} (N : Nat) : List (Nat × LCon R) := [(58, l19_58 N)]
theorem q19_58 {R : Type} (N : Nat) : LSpec Try.prog (gam (g19 N)) N (L19 N) 16 (subC (Try.f19.body.get rfl) [true, true, false, true, false, false]) 58 35 [(0, 0)] (l19_58 N : LCon R) :=
  lspec_of (fun d K => rfl) (fun n d K => by kernel_rfl)
theorem e19 {R : Type} (N : Nat) (d : AMs.D a19) (k : List Val → List Val → Option R) : evF Try.prog (gam (g19 N)) N (L19 N) Try.f19 (encAs a19 d (canAs a19 0)) k = u19 N d k := by kernel_rfl
theorem s19 {R : Type} (N : Nat) : Snd Try.prog 19 (c19 N : Con R) :=
  snd_eq (Γ := g19 N) (allG ⟨s56 N, trivial⟩) mixed Try.func19 (c := (Try.f19.body.get rfl)) rfl (by kernel_rfl) (by kernel_rfl) (Λ := L19 N) (qs := [⟨58, subC (Try.f19.body.get rfl) [true, true, false, true, false, false], 35, [(0, 0)]⟩]) (by kernel_rfl) ⟨lsome rfl (q19_58 N), trivial⟩ (e19 N)
/-- laws.FnExactReadsMost -/
noncomputable def laws_FnExactReadsMost {R : Type} (N : Nat) (aN : Int) (aScript : List YRead.D) (k : Bool → Option R) : Option R :=
  laws_szReadS N aScript 1048576 fun r =>
    cond (decide (r < 0))
      (k true)
      (laws_toReadS N aScript fun r1 =>
        spec_ReadsMost N aN r1 fun r2 =>
          laws_toReadS N aScript fun r3 =>
            impl_ReadsMost N aN r3 fun r4 =>
              cond (!(decide (r4 = r2)))
                (k false)
                (laws_toReadS N aScript fun r5 =>
                  laws_eqReadS N r3 r5 fun r6 =>
                    cond (!r6)
                      (k false)
                      (k true)))
abbrev a3 : List AM := [.v (.int .i64), .v (.ro 72 YRead)]
noncomputable def u3 {R : Type} (N : Nat) (d : AMs.D a3) (k : List Val → List Val → Option R) : Option R := laws_FnExactReadsMost N d.1 d.2.1 (fun r0 => k [.c (.bo r0)] [])
noncomputable def c3 {R : Type} (N : Nat) : Con R := conOf [.rd, .rd] a3 (u3 N)
noncomputable def g3 {R : Type} (N : Nat) : List (Nat × Con R) := [(15, c15 N), (17, c17 N), (16, c16 N), (18, c18 N), (19, c19 N)]
noncomputable def L3 {R : Type} (N : Nat) : List (Nat × LCon R) := []
theorem e3 {R : Type} (N : Nat) (d : AMs.D a3) (k : List Val → List Val → Option R) : evF Try.prog (gam (g3 N)) N (L3 N) Try.f3 (encAs a3 d (canAs a3 0)) k = u3 N d k := by kernel_rfl
theorem s3 {R : Type} (N : Nat) : Snd Try.prog 3 (c3 N : Con R) :=
  snd_eq (Γ := g3 N) (allG ⟨s15 N, s17 N, s16 N, s18 N, s19 N, trivial⟩) mixed Try.func3 (c := (Try.f3.body.get rfl)) rfl (by kernel_rfl) (by kernel_rfl) (Λ := L3 N) (qs := []) (by kernel_rfl) trivial (e3 N)
/-- laws.szEvent -/
noncomputable def laws_szEvent {R : Type} (N : Nat) (a : YEvent.D) (left : Int) (k : Int → Option R) : Option R :=
  cond (decide ((w64 (left - (a.2.2.2.2.1.size : Int))) < 0))
    (k (-1))
    (k (w64 (left - (a.2.2.2.2.1.size : Int))))
abbrev a58 : List AM := [.a (.pr (.int .i64) (.pr (.int .i64) (.pr (.int .u64) (.pr (.int .i64) (.pr .str (.pr (.int .i64) (.int .i64))))))), .v (.int .i64)]
noncomputable def u58 {R : Type} (N : Nat) (d : AMs.D a58) (k : List Val → List Val → Option R) : Option R := laws_szEvent N d.1 d.2.1 (fun r0 => k [.c (.nu .i64 r0)] [])
noncomputable def c58 {R : Type} (N : Nat) : Con R := conOf [.rd, .rd] a58 (u58 N)
noncomputable def g58 {R : Type} (N : Nat) : List (Nat × Con R) := []
noncomputable def L58 {R : Type} (N : Nat) : List (Nat × LCon R) := []
theorem e58 {R : Type} (N : Nat) (d : AMs.D a58) (k : List Val → List Val → Option R) : evF Try.prog (gam (g58 N)) N (L58 N) Try.f58 (encAs a58 d (canAs a58 0)) k = u58 N d k := by kernel_rfl
theorem s58 {R : Type} (N : Nat) : Snd Try.prog 58 (c58 N : Con R) :=
  snd_eq (Γ := g58 N) (allG trivial) mixed Try.func58 (c := (Try.f58.body.get rfl)) rfl (by kernel_rfl) (by kernel_rfl) (Λ := L58 N) (qs := []) (by kernel_rfl) trivial (e58 N)
/-- laws.szEventS, the loop 122 -/
noncomputable def laws_szEventS_l0 {R : Type} (N : Nat) : Nat → List YEvent.D → Int → Int → (Int → Option R) → (Int → Option R) → Option R
  | 0, _, _, _, _, _ => none
  | n + 1, a1, left1, i, x0_, x1_ =>
    cond (decide (i < (a1.length : Int)))
      (cond (idxE a1.length i)
        (laws_szEvent N (a1.getD i.toNat YEvent.z) left1 fun r =>
          cond (decide (r < 0))
            (x0_ (-1))
            (laws_szEventS_l0 N n a1 r (w64 (i + 1)) x0_ x1_))
        none)
      (x1_ left1)
/-- laws.szEventS -/
noncomputable def laws_szEventS {R : Type} (N : Nat) (a : List YEvent.D) (left : Int) (k : Int → Option R) : Option R :=
  cond (decide ((w64 (left - (a.length : Int))) < 0))
    (k (-1))
    (laws_szEventS_l0 N N a (w64 (left - (a.length : Int))) 0
      (fun v =>
        k v)
      (fun left2 =>
        k left2))
abbrev a25 : List AM := [.v (.ro 75 YEvent), .v (.int .i64)]
noncomputable def u25 {R : Type} (N : Nat) (d : AMs.D a25) (k : List Val → List Val → Option R) : Option R := laws_szEventS N d.1 d.2.1 (fun r0 => k [.c (.nu .i64 r0)] [])
noncomputable def c25 {R : Type} (N : Nat) : Con R := conOf [.rd, .rd] a25 (u25 N)
noncomputable def g25 {R : Type} (N : Nat) : List (Nat × Con R) := [(58, c58 N)]
abbrev h25_122 : Sh := ⟨[(0, .c (.ro 0 75 YEvent)), (1, .c (.nu .i64)), (5, .c (.nu .i64))], [], 0, []⟩
noncomputable def l25_122 {R : Type} (N : Nat) : LCon R := lconOf [] h25_122 fun n d K => laws_szEventS_l0 N n d.1.1 d.1.2.1 d.1.2.2.1 (fun y0 => K .ret ⟨[(4, .c (.nu .i64 y0))], [], 0, []⟩) (fun y0 => K (.exit 0) ⟨[(1, .c (.nu .i64 y0))], [], 0, []⟩)
noncomputable def L25 {R : Type} (N : Nat) : List (Nat × LCon R) := [(122, l25_122 N)]
theorem q25_122 {R : Type} (N : Nat) : LSpec Try.prog (gam (g25 N)) N (L25 N) 16 (subC (Try.f25.body.get rfl) [true, true, true, false, true, false, false]) 122 35 [(0, 2)] (l25_122 N : LCon R) :=
  lspec_of (fun d K => rfl) (fun n d K => by kernel_rfl)
theorem e25 {R : Type} (N : Nat) (d : AMs.D a25) (k : List Val → List Val → Option R) : evF Try.prog (gam (g25 N)) N (L25 N) Try.f25 (encAs a25 d (canAs a25 0)) k = u25 N d k := by kernel_rfl
theorem s25 {R : Type} (N : Nat) : Snd Try.prog 25 (c25 N : Con R) :=
  snd_eq (Γ := g25 N) (allG ⟨s58 N, trivial⟩) mixed Try.func25 (c := (Try.f25.body.get rfl)) rfl (by kernel_rfl) (by kernel_rfl) (Λ := L25 N) (qs := [⟨122, subC (Try.f25.body.get rfl) [true, true, true, false, true, false, false], 35, [(0, 2)]⟩]) (by kernel_rfl) ⟨lsome rfl (q25_122 N), trivial⟩ (e25 N)
/-- laws.toEvent -/
noncomputable def laws_toEvent {R : Type} (N : Nat) (a : YEvent.D) (k : YEvent.D → Option R) : Option R :=
  k a
abbrev a60 : List AM := [.a (.pr (.int .i64) (.pr (.int .i64) (.pr (.int .u64) (.pr (.int .i64) (.pr .str (.pr (.int .i64) (.int .i64)))))))]
noncomputable def u60 {R : Type} (N : Nat) (d : AMs.D a60) (k : List Val → List Val → Option R) : Option R := laws_toEvent N d.1 (fun r0 => k [.agg [.nu .i64 r0.1, .nu .i64 r0.2.1, .nu .u64 r0.2.2.1, .nu .i64 r0.2.2.2.1, .sr r0.2.2.2.2.1, .nu .i64 r0.2.2.2.2.2.1, .nu .i64 r0.2.2.2.2.2.2]] [])
noncomputable def c60 {R : Type} (N : Nat) : Con R := conOf [.rd] a60 (u60 N)
noncomputable def g60 {R : Type} (N : Nat) : List (Nat × Con R) := []
noncomputable def L60 {R : Type} (N : Nat) : List (Nat × LCon R) := []
theorem e60 {R : Type} (N : Nat) (d : AMs.D a60) (k : List Val → List Val → Option R) : evF Try.prog (gam (g60 N)) N (L60 N) Try.f60 (encAs a60 d (canAs a60 0)) k = u60 N d k := by kernel_rfl
theorem s60 {R : Type} (N : Nat) : Snd Try.prog 60 (c60 N : Con R) :=
  snd_eq (Γ := g60 N) (allG trivial) mixed Try.func60 (c := (Try.f60.body.get rfl)) rfl (by kernel_rfl) (by kernel_rfl) (Λ := L60 N) (qs := []) (by kernel_rfl) trivial (e60 N)
/-- laws.toEventS, the loop 58 -/
noncomputable def laws_toEventS_l0 {R : Type} (N : Nat) : Nat → List YEvent.D → Int → List YEvent.D → (List YEvent.D → Option R) → Option R
  | 0, _, _, _, _ => none
  | n + 1, a1, i, xs, x0_ =>
    cond (decide (i < (a1.length : Int)))
      (cond (idxE a1.length i)
        (laws_toEvent N (a1.getD i.toNat YEvent.z) fun r =>
          cond (idxE xs.length i)
            (laws_toEventS_l0 N n a1 (w64 (i + 1)) (xs.set i.toNat r) x0_)
            none)
        none)
      (x0_ xs)
/-- laws.toEventS -/
noncomputable def laws_toEventS {R : Type} (N : Nat) (a : List YEvent.D) (k : List YEvent.D → Option R) : Option R :=
  cond (decide (0 ≤ (a.length : Int) ∧ (a.length : Int) ≤ (a.length : Int) ∧ (a.length : Int) ≤ 4611686018427387904 ∧ (64 : Int) * (a.length : Int) ≤ 140737488355328))
    (laws_toEventS_l0 N N a 0 (List.replicate ((a.length : Int).toNat) (0, 0, 0, 0, ByteArray.empty, 0, 0))
      (fun xs1 =>
        k xs1))
    none
abbrev a27 : List AM := [.v (.ro 75 YEvent)]
noncomputable def u27 {R : Type} (N : Nat) (d : AMs.D a27) (k : List Val → List Val → Option R) : Option R := laws_toEventS N d.1 (fun r0 => k [.c (.own YEvent 42 r0)] [])
noncomputable def c27 {R : Type} (N : Nat) : Con R := conOf [.rd] a27 (u27 N)
noncomputable def g27 {R : Type} (N : Nat) : List (Nat × Con R) := [(60, c60 N)]
abbrev h27_58 : Sh := ⟨[(0, .c (.ro 0 75 YEvent)), (3, .c (.slw 0)), (4, .c (.nu .i64))], [(0, .rows YEvent 42)], 1, []⟩
noncomputable def l27_58 {R : Type} (N : Nat) : LCon R := lconOf [] h27_58 fun n d K => laws_toEventS_l0 N n d.1.1 d.1.2.2.1 d.2.1.1 (fun y0 => K (.exit 0) ⟨[(3, .c (.slw 0))], [(0, some (.rows YEvent 42 y0))], 1, []⟩)
noncomputable def L27 {R : Type} (N : Nat) : List (Nat × LCon R) := [(58, l27_58 N)]
theorem q27_58 {R : Type} (N : Nat) : LSpec Try.prog (gam (g27 N)) N (L27 N) 4 (subC (Try.f27.body.get rfl) [true, true, false, true, false, false]) 58 25 [(0, 8)] (l27_58 N : LCon R) :=
  lspec_of (fun d K => rfl) (fun n d K => by kernel_rfl)
theorem e27 {R : Type} (N : Nat) (d : AMs.D a27) (k : List Val → List Val → Option R) : evF Try.prog (gam (g27 N)) N (L27 N) Try.f27 (encAs a27 d (canAs a27 0)) k = u27 N d k := by kernel_rfl
theorem s27 {R : Type} (N : Nat) : Snd Try.prog 27 (c27 N : Con R) :=
  snd_eq (Γ := g27 N) (allG ⟨s60 N, trivial⟩) mixed Try.func27 (c := (Try.f27.body.get rfl)) rfl (by kernel_rfl) (by kernel_rfl) (Λ := L27 N) (qs := [⟨58, subC (Try.f27.body.get rfl) [true, true, false, true, false, false], 25, [(0, 8)]⟩]) (by kernel_rfl) ⟨lsome rfl (q27_58 N), trivial⟩ (e27 N)
/-- spec.l1Max -/
noncomputable def spec_l1Max {R : Type} (N : Nat) (a : Int) (b : Int) (k : Int → Option R) : Option R :=
  cond (decide (b < a))
    (k a)
    (k b)
abbrev a63 : List AM := [.v (.int .i64), .v (.int .i64)]
noncomputable def u63 {R : Type} (N : Nat) (d : AMs.D a63) (k : List Val → List Val → Option R) : Option R := spec_l1Max N d.1 d.2.1 (fun r0 => k [.c (.nu .i64 r0)] [])
noncomputable def c63 {R : Type} (N : Nat) : Con R := conOf [.rd, .rd] a63 (u63 N)
noncomputable def g63 {R : Type} (N : Nat) : List (Nat × Con R) := []
noncomputable def L63 {R : Type} (N : Nat) : List (Nat × LCon R) := []
theorem e63 {R : Type} (N : Nat) (d : AMs.D a63) (k : List Val → List Val → Option R) : evF Try.prog (gam (g63 N)) N (L63 N) Try.f63 (encAs a63 d (canAs a63 0)) k = u63 N d k := by kernel_rfl
theorem s63 {R : Type} (N : Nat) : Snd Try.prog 63 (c63 N : Con R) :=
  snd_eq (Γ := g63 N) (allG trivial) mixed Try.func63 (c := (Try.f63.body.get rfl)) rfl (by kernel_rfl) (by kernel_rfl) (Λ := L63 N) (qs := []) (by kernel_rfl) trivial (e63 N)
/-- spec.HighWater, the loop 122 -/
noncomputable def spec_HighWater_l0 {R : Type} (N : Nat) : Nat → List YEvent.D → Int → Int → Int → (Int → Option R) → Option R
  | 0, _, _, _, _, _ => none
  | n + 1, list1, n_, most, i, x0_ =>
    cond (decide (i < (list1.length : Int)))
      (cond (idxE list1.length i)
        (cond (decide (((list1.getD i.toNat YEvent.z).1) = 1))
          (spec_l1Max N most (w64 (n_ + 1)) fun r =>
            spec_HighWater_l0 N n list1 (w64 (n_ + 1)) r (w64 (i + 1)) x0_)
          (cond (decide (((list1.getD i.toNat YEvent.z).1) = 6))
            (spec_l1Max N most (w64 (n_ + 1)) fun r1 =>
              spec_HighWater_l0 N n list1 (w64 (n_ + 1)) r1 (w64 (i + 1)) x0_)
            (cond (decide (((list1.getD i.toNat YEvent.z).1) = 7))
              (spec_l1Max N 0 (w64 (n_ - 1)) fun r2 =>
                spec_l1Max N most r2 fun r3 =>
                  spec_HighWater_l0 N n list1 r2 r3 (w64 (i + 1)) x0_)
              (cond (decide (((list1.getD i.toNat YEvent.z).1) = 8))
                (spec_l1Max N 0 (w64 (n_ - 1)) fun r4 =>
                  spec_l1Max N most r4 fun r5 =>
                    spec_HighWater_l0 N n list1 r4 r5 (w64 (i + 1)) x0_)
                (spec_l1Max N most n_ fun r6 =>
                  spec_HighWater_l0 N n list1 n_ r6 (w64 (i + 1)) x0_)))))
        none)
      (x0_ most)
/-- spec.HighWater -/
noncomputable def spec_HighWater {R : Type} (N : Nat) (list : List YEvent.D) (k : Int → Option R) : Option R :=
  spec_HighWater_l0 N N list 0 0 0
    (fun most1 =>
      k most1)
abbrev a31 : List AM := [.v (.ro 42 YEvent)]
noncomputable def u31 {R : Type} (N : Nat) (d : AMs.D a31) (k : List Val → List Val → Option R) : Option R := spec_HighWater N d.1 (fun r0 => k [.c (.nu .i64 r0)] [])
noncomputable def c31 {R : Type} (N : Nat) : Con R := conOf [.rd] a31 (u31 N)
noncomputable def g31 {R : Type} (N : Nat) : List (Nat × Con R) := [(63, c63 N)]
abbrev h31_122 : Sh := ⟨[(0, .c (.ro 0 42 YEvent)), (3, .c (.nu .i64)), (4, .c (.nu .i64)), (5, .c (.nu .i64))], [], 0, []⟩
noncomputable def l31_122 {R : Type} (N : Nat) : LCon R := lconOf [] h31_122 fun n d K => spec_HighWater_l0 N n d.1.1 d.1.2.1 d.1.2.2.1 d.1.2.2.2.1 (fun y0 => K (.exit 0) ⟨[(4, .c (.nu .i64 y0))], [], 0, []⟩)
noncomputable def L31 {R : Type} (N : Nat) : List (Nat × LCon R) := [(122, l31_122 N)]
theorem q31_122 {R : Type} (N : Nat) : LSpec Try.prog (gam (g31 N)) N (L31 N) 4 (subC (Try.f31.body.get rfl) [true, true, true, false, true, false, false]) 122 57 [(0, 16)] (l31_122 N : LCon R) :=
  lspec_of (fun d K => rfl) (fun n d K => by kernel_rfl)
theorem e31 {R : Type} (N : Nat) (d : AMs.D a31) (k : List Val → List Val → Option R) : evF Try.prog (gam (g31 N)) N (L31 N) Try.f31 (encAs a31 d (canAs a31 0)) k = u31 N d k := by kernel_rfl
theorem s31 {R : Type} (N : Nat) : Snd Try.prog 31 (c31 N : Con R) :=
  snd_eq (Γ := g31 N) (allG ⟨s63 N, trivial⟩) mixed Try.func31 (c := (Try.f31.body.get rfl)) rfl (by kernel_rfl) (by kernel_rfl) (Λ := L31 N) (qs := [⟨122, subC (Try.f31.body.get rfl) [true, true, true, false, true, false, false], 57, [(0, 16)]⟩]) (by kernel_rfl) ⟨lsome rfl (q31_122 N), trivial⟩ (e31 N)
/-- impl.HighWater, the loop 58 -/
noncomputable def impl_HighWater_l0 {R : Type} (N : Nat) : Nat → Int → Int → List YEvent.D → Int → Int → (Int → Option R) → Option R
  | 0, _, _, _, _, _, _ => none
  | n + 1, open_, most, v, v1, v2, x0_ =>
    cond (decide (v2 < v1))
      (cond (idxE v.length v2)
        (cond (decide (((v.getD v2.toNat YEvent.z).1) = 1))
          (impl_HighWater_l0 N n (w64 (open_ + 1)) (imax most (w64 (open_ + 1))) v v1 (w64 (v2 + 1)) x0_)
          (cond (decide (((v.getD v2.toNat YEvent.z).1) = 6))
            (impl_HighWater_l0 N n (w64 (open_ + 1)) (imax most (w64 (open_ + 1))) v v1 (w64 (v2 + 1)) x0_)
            (cond (decide (((v.getD v2.toNat YEvent.z).1) = 8))
              (impl_HighWater_l0 N n (imax (w64 (open_ - 1)) 0) (imax most (imax (w64 (open_ - 1)) 0)) v v1 (w64 (v2 + 1)) x0_)
              (cond (decide (((v.getD v2.toNat YEvent.z).1) = 7))
                (impl_HighWater_l0 N n (imax (w64 (open_ - 1)) 0) (imax most (imax (w64 (open_ - 1)) 0)) v v1 (w64 (v2 + 1)) x0_)
                (impl_HighWater_l0 N n open_ (imax most open_) v v1 (w64 (v2 + 1)) x0_)))))
        none)
      (x0_ most)
/-- impl.HighWater -/
noncomputable def impl_HighWater {R : Type} (N : Nat) (list : List YEvent.D) (k : Int → Option R) : Option R :=
  impl_HighWater_l0 N N 0 0 list (list.length : Int) 0
    (fun most1 =>
      k most1)
abbrev a32 : List AM := [.v (.ro 42 YEvent)]
noncomputable def u32 {R : Type} (N : Nat) (d : AMs.D a32) (k : List Val → List Val → Option R) : Option R := impl_HighWater N d.1 (fun r0 => k [.c (.nu .i64 r0)] [])
noncomputable def c32 {R : Type} (N : Nat) : Con R := conOf [.rd] a32 (u32 N)
noncomputable def g32 {R : Type} (N : Nat) : List (Nat × Con R) := []
abbrev h32_58 : Sh := ⟨[(3, .c (.nu .i64)), (4, .c (.nu .i64)), (7, .c (.ro 0 42 YEvent)), (8, .c (.nu .i64)), (9, .c (.nu .i64))], [], 0, []⟩
noncomputable def l32_58 {R : Type} (N : Nat) : LCon R := lconOf [] h32_58 fun n d K => impl_HighWater_l0 N n d.1.1 d.1.2.1 d.1.2.2.1 d.1.2.2.2.1 d.1.2.2.2.2.1 (fun y0 => K (.exit 0) ⟨[(4, .c (.nu .i64 y0))], [], 0, []⟩)
noncomputable def L32 {R : Type} (N : Nat) : List (Nat × LCon R) := [(58, l32_58 N)]
theorem q32_58 {R : Type} (N : Nat) : LSpec Try.prog (gam (g32 N)) N (L32 N) 4 (subC (Try.f32.body.get rfl) [true, true, false, true, false, false]) 58 920 [(0, 16)] (l32_58 N : LCon R) :=
  lspec_of (fun d K => rfl) (fun n d K => by kernel_rfl)
theorem e32 {R : Type} (N : Nat) (d : AMs.D a32) (k : List Val → List Val → Option R) : evF Try.prog (gam (g32 N)) N (L32 N) Try.f32 (encAs a32 d (canAs a32 0)) k = u32 N d k := by kernel_rfl
theorem s32 {R : Type} (N : Nat) : Snd Try.prog 32 (c32 N : Con R) :=
  snd_eq (Γ := g32 N) (allG trivial) mixed Try.func32 (c := (Try.f32.body.get rfl)) rfl (by kernel_rfl) (by kernel_rfl) (Λ := L32 N) (qs := [⟨58, subC (Try.f32.body.get rfl) [true, true, false, true, false, false], 920, [(0, 16)]⟩]) (by kernel_rfl) ⟨lsome rfl (q32_58 N), trivial⟩ (e32 N)
/-- laws.eqEvent -/
noncomputable def laws_eqEvent {R : Type} (N : Nat) (a : YEvent.D) (b : YEvent.D) (k : Bool → Option R) : Option R :=
  cond (!(decide (a.1 = b.1)))
    (k false)
    (cond (!(decide (a.2.1 = b.2.1)))
      (k false)
      (cond (!(decide (a.2.2.1 = b.2.2.1)))
        (k false)
        (cond (!(decide (a.2.2.2.1 = b.2.2.2.1)))
          (k false)
          (cond (!decide (a.2.2.2.2.1 = b.2.2.2.2.1))
            (k false)
            (cond (!(decide (a.2.2.2.2.2.1 = b.2.2.2.2.2.1)))
              (k false)
              (cond (!(decide (a.2.2.2.2.2.2 = b.2.2.2.2.2.2)))
                (k false)
                (k true)))))))
abbrev a29 : List AM := [.a (.pr (.int .i64) (.pr (.int .i64) (.pr (.int .u64) (.pr (.int .i64) (.pr .str (.pr (.int .i64) (.int .i64))))))), .a (.pr (.int .i64) (.pr (.int .i64) (.pr (.int .u64) (.pr (.int .i64) (.pr .str (.pr (.int .i64) (.int .i64)))))))]
noncomputable def u29 {R : Type} (N : Nat) (d : AMs.D a29) (k : List Val → List Val → Option R) : Option R := laws_eqEvent N d.1 d.2.1 (fun r0 => k [.c (.bo r0)] [])
noncomputable def c29 {R : Type} (N : Nat) : Con R := conOf [.rd, .rd] a29 (u29 N)
noncomputable def g29 {R : Type} (N : Nat) : List (Nat × Con R) := []
noncomputable def L29 {R : Type} (N : Nat) : List (Nat × LCon R) := []
theorem e29 {R : Type} (N : Nat) (d : AMs.D a29) (k : List Val → List Val → Option R) : evF Try.prog (gam (g29 N)) N (L29 N) Try.f29 (encAs a29 d (canAs a29 0)) k = u29 N d k := by kernel_rfl
theorem s29 {R : Type} (N : Nat) : Snd Try.prog 29 (c29 N : Con R) :=
  snd_eq (Γ := g29 N) (allG trivial) mixed Try.func29 (c := (Try.f29.body.get rfl)) rfl (by kernel_rfl) (by kernel_rfl) (Λ := L29 N) (qs := []) (by kernel_rfl) trivial (e29 N)
/-- laws.eqEventS, the loop 58 -/
noncomputable def laws_eqEventS_l0 {R : Type} (N : Nat) : Nat → List YEvent.D → List YEvent.D → Int → (Bool → Option R) → Option R → Option R
  | 0, _, _, _, _, _ => none
  | n + 1, a1, b1, i, x0_, x1_ =>
    cond (decide (i < (a1.length : Int)))
      (cond (idxE a1.length i)
        (cond (idxE b1.length i)
          (laws_eqEvent N (a1.getD i.toNat YEvent.z) (b1.getD i.toNat YEvent.z) fun r =>
            cond (!r)
              (x0_ false)
              (laws_eqEventS_l0 N n a1 b1 (w64 (i + 1)) x0_ x1_))
          none)
        none)
      x1_
/-- laws.eqEventS -/
noncomputable def laws_eqEventS {R : Type} (N : Nat) (a : List YEvent.D) (b : List YEvent.D) (k : Bool → Option R) : Option R :=
  cond (!(decide ((a.length : Int) = (b.length : Int))))
    (k false)
    (laws_eqEventS_l0 N N a b 0
      (fun v =>
        k v)
      (k true))
abbrev a30 : List AM := [.v (.ro 42 YEvent), .v (.ro 42 YEvent)]
noncomputable def u30 {R : Type} (N : Nat) (d : AMs.D a30) (k : List Val → List Val → Option R) : Option R := laws_eqEventS N d.1 d.2.1 (fun r0 => k [.c (.bo r0)] [])
noncomputable def c30 {R : Type} (N : Nat) : Con R := conOf [.rd, .rd] a30 (u30 N)
noncomputable def g30 {R : Type} (N : Nat) : List (Nat × Con R) := [(29, c29 N)]
abbrev h30_58 : Sh := ⟨[(0, .c (.ro 0 42 YEvent)), (1, .c (.ro 1 42 YEvent)), (5, .c (.nu .i64))], [], 0, []⟩
noncomputable def l30_58 {R : Type} (N : Nat) : LCon R := lconOf [] h30_58 fun n d K => laws_eqEventS_l0 N n d.1.1 d.1.2.1 d.1.2.2.1 (fun y0 => K .ret ⟨[(4, .c (.bo y0))], [], 0, []⟩) (K (.exit 0) ⟨[], [], 0, []⟩)
noncomputable def L30 {R : Type} (N : Nat) : List (Nat × LCon R) := [(58, l30_58 N)]
theorem q30_58 {R : Type} (N : Nat) : LSpec Try.prog (gam (g30 N)) N (L30 N) 16 (subC (Try.f30.body.get rfl) [true, true, false, true, false, false]) 58 35 [(0, 0)] (l30_58 N : LCon R) :=
  lspec_of (fun d K => rfl) (fun n d K => by kernel_rfl)
theorem e30 {R : Type} (N : Nat) (d : AMs.D a30) (k : List Val → List Val → Option R) : evF Try.prog (gam (g30 N)) N (L30 N) Try.f30 (encAs a30 d (canAs a30 0)) k = u30 N d k := by kernel_rfl
theorem s30 {R : Type} (N : Nat) : Snd Try.prog 30 (c30 N : Con R) :=
  snd_eq (Γ := g30 N) (allG ⟨s29 N, trivial⟩) mixed Try.func30 (c := (Try.f30.body.get rfl)) rfl (by kernel_rfl) (by kernel_rfl) (Λ := L30 N) (qs := [⟨58, subC (Try.f30.body.get rfl) [true, true, false, true, false, false], 35, [(0, 0)]⟩]) (by kernel_rfl) ⟨lsome rfl (q30_58 N), trivial⟩ (e30 N)
/-- laws.FnExactHighWater -/
noncomputable def laws_FnExactHighWater {R : Type} (N : Nat) (aList : List YEvent.D) (k : Bool → Option R) : Option R :=
  laws_szEventS N aList 1048576 fun r =>
    cond (decide (r < 0))
      (k true)
      (laws_toEventS N aList fun r1 =>
        spec_HighWater N r1 fun r2 =>
          laws_toEventS N aList fun r3 =>
            impl_HighWater N r3 fun r4 =>
              cond (!(decide (r4 = r2)))
                (k false)
                (laws_toEventS N aList fun r5 =>
                  laws_eqEventS N r3 r5 fun r6 =>
                    cond (!r6)
                      (k false)
                      (k true)))
abbrev a6 : List AM := [.v (.ro 75 YEvent)]
noncomputable def u6 {R : Type} (N : Nat) (d : AMs.D a6) (k : List Val → List Val → Option R) : Option R := laws_FnExactHighWater N d.1 (fun r0 => k [.c (.bo r0)] [])
noncomputable def c6 {R : Type} (N : Nat) : Con R := conOf [.rd] a6 (u6 N)
noncomputable def g6 {R : Type} (N : Nat) : List (Nat × Con R) := [(25, c25 N), (27, c27 N), (31, c31 N), (32, c32 N), (30, c30 N)]
noncomputable def L6 {R : Type} (N : Nat) : List (Nat × LCon R) := []
theorem e6 {R : Type} (N : Nat) (d : AMs.D a6) (k : List Val → List Val → Option R) : evF Try.prog (gam (g6 N)) N (L6 N) Try.f6 (encAs a6 d (canAs a6 0)) k = u6 N d k := by kernel_rfl
theorem s6 {R : Type} (N : Nat) : Snd Try.prog 6 (c6 N : Con R) :=
  snd_eq (Γ := g6 N) (allG ⟨s25 N, s27 N, s31 N, s32 N, s30 N, trivial⟩) mixed Try.func6 (c := (Try.f6.body.get rfl)) rfl (by kernel_rfl) (by kernel_rfl) (Λ := L6 N) (qs := []) (by kernel_rfl) trivial (e6 N)
end Go.Proofs.YtecdmnmedipjmaaT
