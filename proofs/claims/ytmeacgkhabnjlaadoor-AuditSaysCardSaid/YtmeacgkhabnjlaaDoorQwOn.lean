/-
  WALKS of how many bits are 1. Laid by a program of mine out of the operations, with the loops and results told by hand.
-/
import Derived.Test.YtmeacgkhabnjlaaDoorQwOc
import Derived.Test.YtmeacgkhabnjlaaDoorQwBa
namespace Go.Proofs.YtmeacgkhabnjlaaDoor
open Go Go.Qw
set_option maxRecDepth 10000
set_option linter.unusedSimpArgs false
set_option linter.unusedVariables false

theorem ones64_fn (x : Nat) (hx : x < 4096) : LiftsD Tryd.prog 60 [.u (.int .u64 (x : Int))] (.i ((popN x : Nat) : Int)) := by
  have p1 : x / 2 ^ 1 &&& 6148914691236517205 ≤ x := land_le_l (Nat.div_le_self _ _)
  have p2 : x &&& 6148914691236517205 ≤ x := land_le_l (Nat.le_refl _)
  obtain ⟨y1, hy1⟩ : ∃ y, y = (x / 2 ^ 1 &&& 6148914691236517205) + (x &&& 6148914691236517205) := ⟨_, rfl⟩
  have p3 : y1 / 2 ^ 2 &&& 3689348814741910323 ≤ y1 := land_le_l (Nat.div_le_self _ _)
  have p4 : y1 &&& 3689348814741910323 ≤ y1 := land_le_l (Nat.le_refl _)
  obtain ⟨y2, hy2⟩ : ∃ y, y = (y1 / 2 ^ 2 &&& 3689348814741910323) + (y1 &&& 3689348814741910323) := ⟨_, rfl⟩
  have p5 : y2 / 2 ^ 4 ≤ y2 := Nat.div_le_self _ _
  have p6 : (y2 / 2 ^ 4 + y2) &&& 1085102592571150095 ≤ 2 * y2 := land_le_l (by omega)
  obtain ⟨y3, hy3⟩ : ∃ y, y = (y2 / 2 ^ 4 + y2) &&& 1085102592571150095 := ⟨_, rfl⟩
  have p7 : y3 / 2 ^ 8 ≤ y3 := Nat.div_le_self _ _
  obtain ⟨y4, hy4⟩ : ∃ y, y = y3 + y3 / 2 ^ 8 := ⟨_, rfl⟩
  have p8 : y4 / 2 ^ 16 ≤ y4 := Nat.div_le_self _ _
  obtain ⟨y5, hy5⟩ : ∃ y, y = y4 + y4 / 2 ^ 16 := ⟨_, rfl⟩
  have p9 : y5 / 2 ^ 32 ≤ y5 := Nat.div_le_self _ _
  obtain ⟨y6, hy6⟩ : ∃ y, y = y5 + y5 / 2 ^ 32 := ⟨_, rfl⟩
  have hall := ones_all (x / 64) (by omega) (x % 64) (by omega)
  rw [show 64 * (x / 64) + x % 64 = x by omega, show ones1 x = y1 from hy1.symm, show ones2 y1 = y2 from hy2.symm, show ones3 y2 = y3 from hy3.symm, show ones4 y3 = y4 from hy4.symm, show ones5 y4 = y5 from hy5.symm, show ones6 y5 = y6 from hy6.symm, ← pop12_eq hx] at hall
  have q1 : (x / 2 ^ 1 &&& 6148914691236517205) + (x &&& 6148914691236517205) = y1 := hy1.symm
  refine LiftsD.of_body 35 [.tmp 2] Tryd.func60 rfl Tryd.ntmps60 (by kernel_rfl) rfl rfl fun w0 X0 => ?_
  refine AWPD.seq fun K1 hK1 => ?_
  -- region 0
  refine AWPD.keep [0] rfl ?_
  refine AWPD.region tabOK rfl ?_
  refine hK1 _ _ ?_
  clear hK1
  refine AWPD.seq fun K2 hK2 => ?_
  -- region 1
  refine AWPD.keep [0] rfl ?_
  refine AWPD.region tabOK rfl ?_
  refine Exists.intro _ (Exists.intro _ (And.intro (StepD.u64b (a := x) (b := 1) (c := x / 2 ^ 1) rfl rfl (run_shr (by omega))) (And.intro rfl (And.intro trivial ?_))))
  refine Exists.intro _ (Exists.intro _ (And.intro (StepD.u64b (a := (x / 2 ^ 1)) (b := 6148914691236517205) (c := (x / 2 ^ 1) &&& 6148914691236517205) rfl rfl (run_and (by omega) (by omega))) (And.intro rfl (And.intro trivial ?_))))
  refine Exists.intro _ (Exists.intro _ (And.intro (StepD.u64b (a := x) (b := 6148914691236517205) (c := x &&& 6148914691236517205) rfl rfl (run_and (by omega) (by omega))) (And.intro rfl (And.intro trivial ?_))))
  refine Exists.intro _ (Exists.intro _ (And.intro (StepD.u64b (a := (x / 2 ^ 1 &&& 6148914691236517205)) (b := (x &&& 6148914691236517205)) (c := (x / 2 ^ 1 &&& 6148914691236517205) + (x &&& 6148914691236517205)) rfl rfl (run_add (by omega))) (And.intro rfl (And.intro trivial ?_))))
  refine hK2 _ _ ?_
  clear hK2
  refine AWPD.seq fun K3 hK3 => ?_
  -- region 2
  rw [← hy1]
  refine AWPD.keep [0] rfl ?_
  refine AWPD.region tabOK rfl ?_
  refine Exists.intro _ (Exists.intro _ (And.intro (StepD.u64b (a := y1) (b := 2) (c := y1 / 2 ^ 2) rfl rfl (run_shr (by omega))) (And.intro rfl (And.intro trivial ?_))))
  refine Exists.intro _ (Exists.intro _ (And.intro (StepD.u64b (a := (y1 / 2 ^ 2)) (b := 3689348814741910323) (c := (y1 / 2 ^ 2) &&& 3689348814741910323) rfl rfl (run_and (by omega) (by omega))) (And.intro rfl (And.intro trivial ?_))))
  refine Exists.intro _ (Exists.intro _ (And.intro (StepD.u64b (a := y1) (b := 3689348814741910323) (c := y1 &&& 3689348814741910323) rfl rfl (run_and (by omega) (by omega))) (And.intro rfl (And.intro trivial ?_))))
  refine Exists.intro _ (Exists.intro _ (And.intro (StepD.u64b (a := (y1 / 2 ^ 2 &&& 3689348814741910323)) (b := (y1 &&& 3689348814741910323)) (c := (y1 / 2 ^ 2 &&& 3689348814741910323) + (y1 &&& 3689348814741910323)) rfl rfl (run_add (by omega))) (And.intro rfl (And.intro trivial ?_))))
  refine hK3 _ _ ?_
  clear hK3
  refine AWPD.seq fun K4 hK4 => ?_
  -- region 3
  rw [← hy2]
  refine AWPD.keep [0] rfl ?_
  refine AWPD.region tabOK rfl ?_
  refine Exists.intro _ (Exists.intro _ (And.intro (StepD.u64b (a := y2) (b := 4) (c := y2 / 2 ^ 4) rfl rfl (run_shr (by omega))) (And.intro rfl (And.intro trivial ?_))))
  refine Exists.intro _ (Exists.intro _ (And.intro (StepD.u64b (a := (y2 / 2 ^ 4)) (b := y2) (c := (y2 / 2 ^ 4) + y2) rfl rfl (run_add (by omega))) (And.intro rfl (And.intro trivial ?_))))
  refine Exists.intro _ (Exists.intro _ (And.intro (StepD.u64b (a := (y2 / 2 ^ 4 + y2)) (b := 1085102592571150095) (c := (y2 / 2 ^ 4 + y2) &&& 1085102592571150095) rfl rfl (run_and (by omega) (by omega))) (And.intro rfl (And.intro trivial ?_))))
  refine hK4 _ _ ?_
  clear hK4
  refine AWPD.seq fun K5 hK5 => ?_
  -- region 4
  rw [← hy3]
  refine AWPD.keep [0] rfl ?_
  refine AWPD.region tabOK rfl ?_
  refine Exists.intro _ (Exists.intro _ (And.intro (StepD.u64b (a := y3) (b := 8) (c := y3 / 2 ^ 8) rfl rfl (run_shr (by omega))) (And.intro rfl (And.intro trivial ?_))))
  refine Exists.intro _ (Exists.intro _ (And.intro (StepD.u64b (a := y3) (b := (y3 / 2 ^ 8)) (c := y3 + (y3 / 2 ^ 8)) rfl rfl (run_add (by omega))) (And.intro rfl (And.intro trivial ?_))))
  refine hK5 _ _ ?_
  clear hK5
  refine AWPD.seq fun K6 hK6 => ?_
  -- region 5
  rw [← hy4]
  refine AWPD.keep [0] rfl ?_
  refine AWPD.region tabOK rfl ?_
  refine Exists.intro _ (Exists.intro _ (And.intro (StepD.u64b (a := y4) (b := 16) (c := y4 / 2 ^ 16) rfl rfl (run_shr (by omega))) (And.intro rfl (And.intro trivial ?_))))
  refine Exists.intro _ (Exists.intro _ (And.intro (StepD.u64b (a := y4) (b := (y4 / 2 ^ 16)) (c := y4 + (y4 / 2 ^ 16)) rfl rfl (run_add (by omega))) (And.intro rfl (And.intro trivial ?_))))
  refine hK6 _ _ ?_
  clear hK6
  refine AWPD.seq fun K7 hK7 => ?_
  -- region 6
  rw [← hy5]
  refine AWPD.keep [0] rfl ?_
  refine AWPD.region tabOK rfl ?_
  refine Exists.intro _ (Exists.intro _ (And.intro (StepD.u64b (a := y5) (b := 32) (c := y5 / 2 ^ 32) rfl rfl (run_shr (by omega))) (And.intro rfl (And.intro trivial ?_))))
  refine Exists.intro _ (Exists.intro _ (And.intro (StepD.u64b (a := y5) (b := (y5 / 2 ^ 32)) (c := y5 + (y5 / 2 ^ 32)) rfl rfl (run_add (by omega))) (And.intro rfl (And.intro trivial ?_))))
  refine hK7 _ _ ?_
  clear hK7
  refine AWPD.seq fun K8 hK8 => ?_
  -- region 7
  rw [← hy6]
  refine AWPD.keep [0] rfl ?_
  refine AWPD.region tabOK rfl ?_
  refine Exists.intro _ (Exists.intro _ (And.intro (StepD.conv (k := .u64) (k' := .i64) (n := ((y6 : Nat) : Int)) (r := .i ((y6 : Nat) : Int)) (.u (.int .u64 ((y6 : Nat) : Int))) rfl rfl (Tryd.underlying94) (Tryd.underlying3) (by show AV.v (.int .i64 _) = _; rw [wrap_nat (by omega)])) (And.intro rfl (And.intro trivial ?_))))
  refine hK8 _ _ ?_
  clear hK8
  refine AWPD.ret (And.intro (.inl rfl) ?_)
  -- result 0
  refine RetD.one ?_
  refine fitI rfl ?_
  rw [bits_and (by omega) (by omega), Int.toNat_natCast]
  rw [← hall]
  rfl
theorem ones_fn (x : Nat) (hx : x < 4096) : LiftsD Tryd.prog 54 [.u (.int .u64 (x : Int))] (.i ((popN x : Nat) : Int)) := by
  refine LiftsD.of_body 8 [.tmp 2] Tryd.func54 rfl Tryd.ntmps54 (by kernel_rfl) rfl rfl fun w0 X0 => ?_
  refine AWPD.seq fun K1 hK1 => ?_
  -- region 0
  refine AWPD.keep [0] rfl ?_
  refine AWPD.region tabOK rfl ?_
  refine hK1 _ _ ?_
  clear hK1
  refine AWPD.seq fun K2 hK2 => ?_
  first | refine AWPD.condP rfl (fun h0 => ?_) (fun h0 => ?_) | refine AWPD.condN rfl (fun h0 => ?_) (fun h0 => ?_) | refine AWPD.condAP rfl (fun h0 => ?_) (fun h0 => ?_) | refine AWPD.condOP rfl (fun h0 => ?_) (fun h0 => ?_) | refine AWPD.condONN rfl (fun h0 => ?_) (fun h0 => ?_) | refine AWPD.condOPN rfl (fun h0 => ?_) (fun h0 => ?_) | refine AWPD.condA rfl (fun h0 => ?_) (fun h0 => ?_) | refine AWPD.condO rfl (fun h0 => ?_) (fun h0 => ?_) | refine AWPD.cond rfl (fun h0 => ?_) (fun h0 => ?_)
  · try dsimp only [Ty.T] at h0
    try simp only [castL_self] at h0
    try simp only [Int.toNat_natCast] at h0
    try simp only [Int.toNat_zero] at h0
    exact absurd h0 (by decide)
  · try dsimp only [Ty.T] at h0
    try simp only [castL_self] at h0
    try simp only [Int.toNat_natCast] at h0
    try simp only [Int.toNat_zero] at h0
    refine AWPD.skip ?_
    refine hK2 _ _ ?_
    clear hK2
    refine AWPD.seq fun K3 hK3 => ?_
    -- region 2
    refine AWPD.keep [0] rfl ?_
    refine AWPD.region tabOK rfl ?_
    refine Exists.intro _ (Exists.intro _ (And.intro (StepD.call (ones64_fn _ (by omega)) rfl rfl rfl) (And.intro rfl (And.intro trivial ?_))))
    refine hK3 _ _ ?_
    clear hK3
    refine AWPD.ret (And.intro (.inl rfl) ?_)
    -- result 0
    refine RetD.one ?_
    exact fitI rfl rfl
theorem coreMany_fn (a : Int) (ha : 0 ≤ a ∧ a ≤ 4095) : LiftsD Tryd.prog 50 [.i a] (.i ((popN a.toNat : Nat) : Int)) := by
  refine LiftsD.of_body 6 [.tmp 2] Tryd.func50 rfl Tryd.ntmps50 (by kernel_rfl) rfl rfl fun w0 X0 => ?_
  refine AWPD.seq fun K1 hK1 => ?_
  -- region 0
  refine AWPD.keep [0] rfl ?_
  refine AWPD.region tabOK rfl ?_
  refine hK1 _ _ ?_
  clear hK1
  refine AWPD.seq fun K2 hK2 => ?_
  -- region 1
  refine AWPD.keep [0] rfl ?_
  refine AWPD.region tabOK rfl ?_
  refine Exists.intro _ (Exists.intro _ (And.intro (StepD.conv (k := .i64) (k' := .u64) (n := a) (r := .u (.int .u64 ((a.toNat : Nat) : Int))) (.i a) rfl rfl (Tryd.underlying3) (Tryd.underlying78) (by show AV.v (.int .u64 _) = _; rw [show a = ((a.toNat : Nat) : Int) by omega, u64_nat (by omega)]; rfl)) (And.intro rfl (And.intro trivial ?_))))
  refine Exists.intro _ (Exists.intro _ (And.intro (StepD.call (ones_fn _ (by omega)) rfl rfl rfl) (And.intro rfl (And.intro trivial ?_))))
  refine hK2 _ _ ?_
  clear hK2
  refine AWPD.ret (And.intro (.inl rfl) ?_)
  -- result 0
  refine RetD.one ?_
  exact fitI rfl rfl
end Go.Proofs.YtmeacgkhabnjlaaDoor
