/-
  WALKS of how sure one is of an event, and of what two tell each other. Laid by a program of mine out of the operations, with the loops and results told by hand.
-/
import Derived.Test.YtkdihpajgmiolaaDoorQwAl
import Derived.Test.YtkdihpajgmiolaaDoorQwBi
import Derived.Test.YtkdihpajgmiolaaDoorQwEr
import Derived.Test.YtkdihpajgmiolaaDoorQwQ
namespace Go.Proofs.YtkdihpajgmiolaaDoor
open Go Go.Qw
set_option maxRecDepth 10000
set_option linter.unusedSimpArgs false
set_option linter.unusedVariables false
set_option linter.unusedSectionVars false


/-- A sum, member by member. -/
def sumK (f : Nat → Int) (L : List Nat) : Nat → Int
  | 0 => 0
  | k + 1 => sumK f L k + f (L.getD k 0)
def weighN (ws : List Int) (x : Nat) : Int := sumK (fun i => ws.getD i 0) (bitsL x) (bitsL x).length
theorem sumK_in {f : Nat → Int} {L : List Nat} {b : Int} (hb : 0 ≤ b) : ∀ k, (∀ i, i < k → 0 ≤ f (L.getD i 0) ∧ f (L.getD i 0) ≤ b) → 0 ≤ sumK f L k ∧ sumK f L k ≤ b * k
  | 0, _ => by simp [sumK]
  | k + 1, h => by
    have ih := sumK_in hb k fun i hi => h i (by omega)
    have h1 := h k (by omega)
    have e : b * ((k + 1 : Nat) : Int) = b * (k : Int) + b := by rw [Int.natCast_succ, Int.mul_add, Int.mul_one]
    rw [sumK, e]
    omega
theorem bit_lt {x n i : Nat} (hx : x < 2 ^ n) (h : x.testBit i = true) : i < n := by
  apply Nat.lt_of_not_le
  intro hle
  have h1 := Nat.ge_two_pow_of_testBit h
  have h2 : (2 : Nat) ^ n ≤ 2 ^ i := Nat.pow_le_pow_right (by decide) hle
  omega
theorem bitsL_lt {x n k : Nat} (hx : x < 2 ^ n) (hk : k < (bitsL x).length) : (bitsL x).getD k 0 < n := by
  have hm : (bitsL x).getD k 0 ∈ bitsL x := by simp only [List.getD, List.getElem?_eq_getElem hk, Option.getD_some]; exact List.getElem_mem hk
  exact bit_lt hx (mem_bitsL.1 hm).2
/-- Weights as they must be. -/
def Wts (ws : List Int) : Prop := ws.length ≤ 12 ∧ ∀ i, i < ws.length → 1 ≤ ws.getD i 0 ∧ ws.getD i 0 ≤ 50
theorem wts_sum {ws : List Int} (hw : Wts ws) {x : Nat} (hx : x < 2 ^ ws.length) {k : Nat} (hk : k ≤ (bitsL x).length) : 0 ≤ sumK (fun i => ws.getD i 0) (bitsL x) k ∧ sumK (fun i => ws.getD i 0) (bitsL x) k ≤ 3150 := by
  have h := sumK_in (f := fun i => ws.getD i 0) (L := bitsL x) (b := 50) (by omega) k fun i hi => by
    have := hw.2 _ (bitsL_lt hx (show i < (bitsL x).length by omega))
    exact ⟨by show 0 ≤ ws.getD ((bitsL x).getD i 0) 0; omega, this.2⟩
  have := bitsL_len x
  omega
theorem pow63 {ws : List Int} (hw : Wts ws) {x : Nat} (hx : x < 2 ^ ws.length) : x < 2 ^ 63 := Nat.lt_of_lt_of_le hx (Nat.pow_le_pow_right (by decide) (by have := hw.1; omega))

theorem weigh_fn (ws : List Int) (v : Int) (hw : Wts ws) (h0 : 0 ≤ v) (hx : v.toNat < 2 ^ ws.length) : LiftsG Tryd.prog tabG 71 [.sl .int ws, .i v] (.i (weighN ws v.toNat)) := by
  obtain ⟨x, rfl⟩ : ∃ x : Nat, v = (x : Int) := ⟨v.toNat, by omega⟩
  simp only [Int.toNat_natCast] at hx ⊢
  refine LiftsG.of_body 17 [.tmp 4] Tryd.func71 rfl Tryd.ntmps71 (by kernel_rfl) rfl rfl fun w0 X0 hG0 => ?_
  have hCR : CtxR tabG ⟨w0, X0, [], [], 17⟩ := CtxR.start tabG_stays rfl hG0
  refine AWPD.seq fun K1 hK1 => ?_
  -- region 0
  refine AWPD.keep [0, 1] rfl ?_
  refine AWPD.region tabOK rfl ?_
  refine hK1 _ _ ?_
  clear hK1
  refine AWPD.seq fun K2 hK2 => ?_
  -- region 1
  refine AWPD.keep [1, 2] rfl ?_
  refine AWPD.region tabOK rfl ?_
  repeat refine And.intro (by first | exact fun h => h | exact fun _ => rfl | (intro h; rw [h]; rfl) | omega | (intros; (try dsimp only [Ty.T, Ty.size]); (try simp only [castL_self, Int.toNat_natCast, Int.toNat_zero, Int.toNat_one, true_and, List.length_append, List.length_set, List.length_drop, List.length_take, List.length_replicate, List.length_cons, List.length_nil, Nat.zero_add, Nat.mul_one]); omega) | decide | (intros; simp_all; done) | (intros; simp_all; omega)) ?_
  refine hK2 _ _ ?_
  clear hK2
  refine AWPD.seq fun K3 hK3 => ?_
  refine AWPD.seq fun K4 hK4 => ?_
  -- region 2
  refine AWPD.keep [1, 2, 5] rfl ?_
  refine AWPD.region tabOK rfl ?_
  refine Exists.intro _ (Exists.intro _ (And.intro (StepD.callN (bitsC_fn x) rfl rfl (by first | exact rfl | exact row_free _ _ _)) (And.intro rfl (And.intro trivial ?_))))
  refine hK4 _ _ ?_
  clear hK4
  refine AWPD.block ?_
  -- RANGE 0 live [2, 5, 8]
  refine AWPD.rangeF hCR (bits1_seq (x) (pow63 hw hx)) bits1_enters rfl (σ := Nat) [2] (fun base => (5, .op 0 0) :: (8, .ob 1) :: base) (fun s => [.box 3 [.i (sumK (fun i => ws.getD i 0) (bitsL x) s)], bitsO x]) (fun k s => s = k) (0) [0, 1] 1 2 rfl rfl (rfl) (by decide) ⟨⟨rfl, rfl, rfl⟩, rfl, trivial⟩ (by repeat' first | exact True.intro | exact rfl | exact ⟨rfl, rfl⟩ | refine And.intro ?_ ?_) rfl (fun _ => rfl) (fun _ => rfl) (fun k0 s hk0 hI0 wr0 Xr0 Fr0 Vr0 hV0 hCR0 KA0 hKA0 => ?_) (fun s hI0 => ?_)
  · obtain ⟨x5_0, x6_1, rfl⟩ := lenV2 hV0
    clear hV0
    subst hI0
    have hi := bitsL_lt hx hk0
    have hwi := hw.2 _ hi
    have hsm := wts_sum hw hx (Nat.le_of_lt hk0)
    have hwl := hw.1
    -- region 3
    refine AWPD.keep [2, 5, 9] rfl ?_
    refine AWPD.region tabOK rfl ?_
    refine hKA0 _ _ ?_
    clear hKA0
    intro wb0 Xb0 Fb0 Vb0 hVb0 hCRb0
    obtain ⟨x7_0, x8_1, rfl⟩ := lenV2 hVb0
    clear hVb0
    refine AWPD.block ?_
    -- region 4
    refine AWPD.keep [2, 5, 6] rfl ?_
    refine AWPD.draw tabOK [6] rfl (by kernel_rfl) ?_
    repeat refine And.intro (by first | exact fun h => h | exact fun _ => rfl | (intro h; rw [h]; rfl) | omega | (intros; (try dsimp only [Ty.T, Ty.size]); (try simp only [castL_self, Int.toNat_natCast, Int.toNat_zero, Int.toNat_one, true_and, List.length_append, List.length_set, List.length_drop, List.length_take, List.length_replicate, List.length_cons, List.length_nil, Nat.zero_add, Nat.mul_one]); omega) | decide | (intros; simp_all; done) | (intros; simp_all; omega)) ?_
    refine ⟨s + 1, [0, 1], rfl, rfl, ⟨by decide, rfl⟩, ⟨⟨rfl, rfl, rfl⟩, rfl, trivial⟩⟩
  · have hdone0 := hI0
    subst hI0
    refine hK3 _ _ ?_
    clear hK3
    refine AWPD.seq fun K9 hK9 => ?_
    -- region 5
    refine AWPD.keep [5] rfl ?_
    refine AWPD.region tabOK rfl ?_
    repeat refine And.intro (by first | exact fun h => h | exact fun _ => rfl | (intro h; rw [h]; rfl) | omega | (intros; (try dsimp only [Ty.T, Ty.size]); (try simp only [castL_self, Int.toNat_natCast, Int.toNat_zero, Int.toNat_one, true_and, List.length_append, List.length_set, List.length_drop, List.length_take, List.length_replicate, List.length_cons, List.length_nil, Nat.zero_add, Nat.mul_one]); omega) | decide | (intros; simp_all; done) | (intros; simp_all; omega)) ?_
    refine hK9 _ _ ?_
    clear hK9
    refine AWPD.ret (And.intro (.inl rfl) ?_)
    -- result 0
    refine RetD.one ?_
    exact fitI rfl rfl

theorem weighN_in {ws : List Int} (hw : Wts ws) {x : Nat} (hx : x < 2 ^ ws.length) : 0 ≤ weighN ws x ∧ weighN ws x ≤ 3150 := wts_sum hw hx (Nat.le_refl _)
theorem sumK_ge {f : Nat → Int} {L : List Nat} : ∀ k, (∀ i, i < k → 1 ≤ f (L.getD i 0)) → (k : Int) ≤ sumK f L k
  | 0, _ => by simp [sumK]
  | k + 1, h => by
    have ih := sumK_ge k fun i hi => h i (by omega)
    have h1 := h k (by omega)
    rw [sumK]
    omega
theorem weighN_pos {ws : List Int} (hw : Wts ws) {x : Nat} (hx : x < 2 ^ ws.length) (h0 : x ≠ 0) : 1 ≤ weighN ws x := by
  have h := sumK_ge (f := fun i => ws.getD i 0) (L := bitsL x) (bitsL x).length fun i hi => (hw.2 _ (bitsL_lt hx hi)).1
  have e := bitsL_step (pow63 hw hx) h0
  have : 1 ≤ (bitsL x).length := by rw [e]; simp
  unfold weighN
  omega
theorem gcd_step {x y : Int} (hx : 0 ≤ x) (hy : 0 ≤ y) : Int.gcd y (x % y) = Int.gcd x y := by
  obtain ⟨m, rfl⟩ : ∃ m : Nat, x = (m : Int) := ⟨x.toNat, by omega⟩
  obtain ⟨n, rfl⟩ : ∃ n : Nat, y = (n : Int) := ⟨y.toNat, by omega⟩
  rw [← Int.natCast_emod, Int.gcd_natCast_natCast, Int.gcd_natCast_natCast, Nat.gcd_comm n, ← Nat.gcd_rec, Nat.gcd_comm]
/-- How sure one is in a class: so much of so much, cut down. -/
def sureV (ws : List Int) (c e : Nat) : Int × Int :=
  (weighN ws (c &&& e) / (Int.gcd (weighN ws (c &&& e)) (weighN ws c) : Nat), weighN ws c / (Int.gcd (weighN ws (c &&& e)) (weighN ws c) : Nat))
theorem pow_small {n : Nat} (h : n ≤ 12) : 2 ^ n ≤ 4096 := Nat.pow_le_pow_right (by decide) h
theorem sure_end {ws : List Int} {c e : Nat} {A x : Int} (hA : A = weighN ws (c &&& e)) (hx : 0 ≤ x) (hg : Int.gcd x 0 = Int.gcd A (weighN ws c)) : A / x = (sureV ws c e).1 ∧ weighN ws c / x = (sureV ws c e).2 := by
  obtain ⟨m, rfl⟩ : ∃ m : Nat, x = (m : Int) := ⟨x.toNat, by omega⟩
  have : Int.gcd (m : Int) 0 = m := by simp
  rw [this] at hg
  subst hA
  unfold sureV
  rw [← hg]
  exact ⟨rfl, rfl⟩

theorem sure_fn (ws : List Int) (c e : Int) (hw : Wts ws) (hc : 1 ≤ c ∧ c.toNat < 2 ^ ws.length) (he : 0 ≤ e ∧ e.toNat < 2 ^ ws.length) : LiftsG Tryd.prog tabG 67 [.sl .int ws, .i c, .i e] (.agg [.i (sureV ws c.toNat e.toNat).1, .i (sureV ws c.toNat e.toNat).2]) := by
  have hp := pow_small hw.1
  have hand := bits_and (a := c) (b := e) (by omega) (by omega)
  have hlt : c.toNat &&& e.toNat < 2 ^ ws.length := Nat.lt_of_le_of_lt Nat.and_le_left hc.2
  have hat : (bitsI .and c e).toNat = c.toNat &&& e.toNat := by rw [hand, Int.toNat_natCast]
  have hA := weighN_in hw (x := (bitsI .and c e).toNat) (by rw [hat]; exact hlt)
  have hB := weighN_in hw hc.2
  have hB1 := weighN_pos hw hc.2 (by omega)
  refine LiftsG.of_bodyW 34 [.cell 6 24] Tryd.func67 rfl Tryd.ntmps67 (by kernel_rfl) rfl rfl fun w0 X0 hG0 => ?_
  refine AWPD.seq fun K1 hK1 => ?_
  -- region 0
  refine AWPD.keep [0, 1, 2] rfl ?_
  refine AWPD.region tabOK rfl ?_
  refine hK1 _ _ ?_
  clear hK1
  refine AWPD.seq fun K2 hK2 => ?_
  -- region 1
  refine AWPD.keep [0, 1, 2, 6] rfl ?_
  refine AWPD.region tabOK rfl ?_
  refine Exists.intro _ (Exists.intro _ (And.intro (StepD.callG tabG_stays rfl hG0 (weigh_fn ws (bitsI .and c e) hw (by rw [hand]; omega) (by rw [hat]; exact hlt)) rfl rfl rfl) (And.intro rfl (And.intro trivial ?_))))
  refine Exists.intro _ (Exists.intro _ (And.intro (StepD.callG tabG_stays rfl hG0 (weigh_fn ws c hw (by omega) hc.2) rfl rfl rfl) (And.intro rfl (And.intro trivial ?_))))
  refine hK2 _ _ ?_
  clear hK2
  refine AWPD.seq fun K3 hK3 => ?_
  -- region 2
  refine AWPD.keep [6, 7, 8] rfl ?_
  refine AWPD.region tabOK rfl ?_
  refine hK3 _ _ ?_
  clear hK3
  refine AWPD.seq fun K4 hK4 => ?_
  refine AWPD.block ?_
  -- LOOP 0 live [6, 7, 8, 9, 10] changed [9, 10]
  refine AWPD.loopK (σ := Int × Int) [7, 8] (fun s base => (9, .i s.1) :: (10, .i s.2) :: (6, .op 0 0) :: base) (fun s => [.arr 24 .int [0, 0]]) (fun n s => n = s.2.toNat ∧ 0 ≤ s.1 ∧ 0 ≤ s.2 ∧ Int.gcd s.1 s.2 = Int.gcd (weighN ws (bitsI .and c e).toNat) (weighN ws c.toNat)) (weighN ws c.toNat).toNat (weighN ws (bitsI .and c e).toNat, weighN ws c.toNat) [0] rfl rfl (⟨rfl, hA.1, hB.1, rfl⟩) (by decide) ⟨⟨rfl, rfl, rfl⟩, trivial⟩ (by repeat' first | exact True.intro | exact rfl | exact ⟨rfl, rfl⟩ | refine And.intro ?_ ?_) fun n0 s hI0 => ?_
  obtain ⟨hn0, hx0, hy0, hgc⟩ := hI0
  refine AWPD.seq fun K5 hK5 => ?_
  refine AWPD.seq fun K6 hK6 => ?_
  -- region 3
  refine AWPD.keep [6, 7, 8, 9, 10] rfl ?_
  refine AWPD.region tabOK rfl ?_
  refine hK6 _ _ ?_
  clear hK6
  first | refine AWPD.condP rfl (fun h0 => ?_) (fun h0 => ?_) | refine AWPD.condN rfl (fun h0 => ?_) (fun h0 => ?_) | refine AWPD.condAP rfl (fun h0 => ?_) (fun h0 => ?_) | refine AWPD.condOP rfl (fun h0 => ?_) (fun h0 => ?_) | refine AWPD.condONN rfl (fun h0 => ?_) (fun h0 => ?_) | refine AWPD.condOPN rfl (fun h0 => ?_) (fun h0 => ?_) | refine AWPD.condA rfl (fun h0 => ?_) (fun h0 => ?_) | refine AWPD.condO rfl (fun h0 => ?_) (fun h0 => ?_) | refine AWPD.cond rfl (fun h0 => ?_) (fun h0 => ?_)
  · try dsimp only [Ty.T] at h0
    try simp only [castL_self] at h0
    try simp only [Int.toNat_natCast] at h0
    try simp only [Int.toNat_zero] at h0
    have hy1 : 0 < s.2 := by omega
    have hml := Int.emod_lt_of_pos s.1 hy1
    have hmn := Int.emod_nonneg s.1 (show s.2 ≠ 0 by omega)
    refine AWPD.skip ?_
    refine hK5 _ _ ?_
    clear hK5
    refine AWPD.block ?_
    -- region 4
    refine AWPD.keep [6, 7, 8, 9, 10] rfl ?_
    refine AWPD.draw tabOK [] rfl (by kernel_rfl) ?_
    repeat refine And.intro (by first | exact fun h => h | exact fun _ => rfl | (intro h; rw [h]; rfl) | omega | (intros; (try dsimp only [Ty.T, Ty.size]); (try simp only [castL_self, Int.toNat_natCast, Int.toNat_zero, Int.toNat_one, true_and, List.length_append, List.length_set, List.length_drop, List.length_take, List.length_replicate, List.length_cons, List.length_nil, Nat.zero_add, Nat.mul_one]); omega) | decide | (intros; simp_all; done) | (intros; simp_all; omega)) ?_
    refine ⟨(s.1 % s.2).toNat, (s.2, s.1 % s.2), [0], by omega, ⟨rfl, hy0, Int.emod_nonneg _ (by omega), (gcd_step hx0 hy0).trans hgc⟩, ⟨by decide, rfl⟩, ⟨⟨rfl, rfl, rfl⟩, trivial⟩, ?_⟩
    repeat' first | exact True.intro | exact rfl | exact ⟨rfl, rfl⟩ | refine And.intro ?_ ?_
  · try dsimp only [Ty.T] at h0
    try simp only [castL_self] at h0
    try simp only [Int.toNat_natCast] at h0
    try simp only [Int.toNat_zero] at h0
    have hy1 : s.2 = 0 := by simpa using h0
    rw [hy1] at hgc
    have hend := sure_end (ws := ws) (c := c.toNat) (e := e.toNat) (by rw [hat]) hx0 hgc
    have hxp : 0 < s.1 := by
      rcases Int.lt_or_le 0 s.1 with h | h
      · exact h
      · exfalso
        have hz : s.1 = 0 := by omega
        rw [hz] at hgc
        have hz2 : Int.gcd 0 0 = 0 := by decide
        rw [hz2] at hgc
        have := (Int.gcd_eq_zero_iff.1 hgc.symm).2
        omega
    refine AWPD.exit ?_
    refine hK4 _ _ ?_
    clear hK4
    refine AWPD.seq fun K7 hK7 => ?_
    -- region 5
    refine AWPD.keep [6, 7, 8, 9] rfl ?_
    refine AWPD.draw tabOK [7] rfl (by kernel_rfl) ?_
    repeat refine And.intro (by first | exact fun h => h | exact fun _ => rfl | (intro h; rw [h]; rfl) | omega | (intros; (try dsimp only [Ty.T, Ty.size]); (try simp only [castL_self, Int.toNat_natCast, Int.toNat_zero, Int.toNat_one, true_and, List.length_append, List.length_set, List.length_drop, List.length_take, List.length_replicate, List.length_cons, List.length_nil, Nat.zero_add, Nat.mul_one]); omega) | decide | (intros; simp_all; done) | (intros; simp_all; omega)) ?_
    refine hK7 _ _ ?_
    clear hK7
    refine AWPD.ret (And.intro (.inl rfl) ?_)
    -- result 0
    exact RetW.one ⟨0, _, [.i _, .i _], _, rfl, rfl, tabOK.agg (24, 2) (by decide), rfl, (by show DV.agg _ = DV.agg _; rw [hend.1, hend.2])⟩

/-- How sure one is in each of the first i worlds. -/
def sureP (p ws : List Int) (e i : Nat) : List (Int × Int) := (List.range i).map fun j => sureV ws (maskP p (p.getD j 0) p.length) e
theorem sureP_len (p ws : List Int) (e i : Nat) : (sureP p ws e i).length = i := by simp [sureP]
theorem sureP_next (p ws : List Int) (e i : Nat) : sureP p ws e i ++ [sureV ws (maskP p (p.getD i 0) p.length) e] = sureP p ws e (i + 1) := by simp [sureP, List.range_succ]
theorem sureP_get (p ws : List Int) (e : Nat) {i n : Nat} (h : i < n) : (sureP p ws e n).getD i (0, 0) = sureV ws (maskP p (p.getD i 0) p.length) e := by simp [sureP, List.getD, h]
theorem cls_at {p : List Int} (hp : partE p = 0) {i : Nat} (hi : i < p.length) : (clsL p).getD (p.getD i 0).toNat 0 = ((maskP p (p.getD i 0) p.length : Nat) : Int) := by
  have h := class_lt hp hi
  have := cls_get hp (k := (p.getD i 0).toNat) (by omega)
  rwa [show (((p.getD i 0).toNat : Nat) : Int) = p.getD i 0 by omega] at this
theorem mask_at {p : List Int} (hp : partE p = 0) {i : Nat} (hi : i < p.length) : 1 ≤ maskP p (p.getD i 0) p.length ∧ maskP p (p.getD i 0) p.length < 2 ^ p.length := by
  refine ⟨?_, maskP_lt _ _ _⟩
  have hb : (maskP p (p.getD i 0) p.length).testBit i = true := by rw [maskP_bit, decide_eq_true hi, decide_eq_true rfl]; rfl
  rcases Nat.eq_zero_or_pos (maskP p (p.getD i 0) p.length) with h0 | h0
  · rw [h0, Nat.zero_testBit] at hb; cases hb
  · exact h0
theorem cls_len {p : List Int} (hp : partE p = 0) : (clsL p).length = (nextP p p.length).toNat := by rw [clsL_ok hp, clsP_len]

theorem all_fn (p ws : List Int) (e : Int) (hp : partE p = 0) (hl : ws.length = p.length) (hw : Wts ws) (he : 0 ≤ e ∧ e.toNat < 2 ^ ws.length) : LiftsG Tryd.prog tabG 47 [.sl .int p, .sl .int ws, .i e] (.sl .two (sureP p ws e.toNat p.length)) := by
  have hcl := cls_len hp
  have h12 := hw.1
  refine LiftsG.of_body 35 [.tmp 6] Tryd.func47 rfl Tryd.ntmps47 (by kernel_rfl) rfl rfl fun w0 X0 hG0 => ?_
  refine AWPD.seq fun K1 hK1 => ?_
  -- region 0
  refine AWPD.keep [0, 1, 2] rfl ?_
  refine AWPD.region tabOK rfl ?_
  refine hK1 _ _ ?_
  clear hK1
  refine AWPD.seq fun K2 hK2 => ?_
  -- region 1
  refine AWPD.keep [0, 1, 2] rfl ?_
  refine AWPD.region tabOK rfl ?_
  refine Exists.intro _ (Exists.intro _ (And.intro (StepD.call (classes_fn _) rfl rfl rfl) (And.intro rfl (And.intro trivial ?_))))
  refine hK2 _ _ ?_
  clear hK2
  refine AWPD.seq fun K3 hK3 => ?_
  -- region 2
  refine AWPD.keep [0, 1, 2, 7] rfl ?_
  refine AWPD.region tabOK rfl ?_
  refine hK3 _ _ ?_
  clear hK3
  refine AWPD.seq fun K4 hK4 => ?_
  refine AWPD.seq fun K5 hK5 => ?_
  -- region 3
  refine AWPD.keep [0, 1, 2, 7, 9] rfl ?_
  refine AWPD.region tabOK rfl ?_
  refine hK5 _ _ ?_
  clear hK5
  refine AWPD.block ?_
  -- LOOP 0 live [1, 2, 7, 9, 17, 18, 19] changed [9, 19]
  refine AWPD.nilRow 9 24 .two rfl (by decide) ?_
  refine AWPD.loopK (σ := Nat) [1, 2, 7, 17, 18] (fun i base => (9, .ob 0) :: (19, .i (i : Int)) :: base) (fun i => [.row 24 .two (sureP p ws e.toNat i)]) (fun n i => n + i = p.length) (p.length) 0 [0] rfl rfl (by omega) (by decide) ⟨⟨rfl, rfl, rfl⟩, trivial⟩ (by repeat' first | exact True.intro | exact rfl | exact ⟨rfl, rfl⟩ | refine And.intro ?_ ?_) fun n0 i hI0 => ?_
  have hn0 := hI0
  have hsl := sureP_len p ws e.toNat i
  refine AWPD.seq fun K6 hK6 => ?_
  -- region 4
  refine AWPD.keep [1, 2, 7, 9, 17, 18, 19] rfl ?_
  refine AWPD.region tabOK rfl ?_
  refine hK6 _ _ ?_
  clear hK6
  refine AWPD.seq fun K7 hK7 => ?_
  first | refine AWPD.condP rfl (fun h0 => ?_) (fun h0 => ?_) | refine AWPD.condN rfl (fun h0 => ?_) (fun h0 => ?_) | refine AWPD.condAP rfl (fun h0 => ?_) (fun h0 => ?_) | refine AWPD.condOP rfl (fun h0 => ?_) (fun h0 => ?_) | refine AWPD.condONN rfl (fun h0 => ?_) (fun h0 => ?_) | refine AWPD.condOPN rfl (fun h0 => ?_) (fun h0 => ?_) | refine AWPD.condA rfl (fun h0 => ?_) (fun h0 => ?_) | refine AWPD.condO rfl (fun h0 => ?_) (fun h0 => ?_) | refine AWPD.cond rfl (fun h0 => ?_) (fun h0 => ?_)
  · try dsimp only [Ty.T] at h0
    try simp only [castL_self] at h0
    try simp only [Int.toNat_natCast] at h0
    try simp only [Int.toNat_zero] at h0
    have hlt := class_lt hp (j := i) (by omega)
    have hca := cls_at hp (i := i) (by omega)
    have hma := mask_at hp (i := i) (by omega)
    refine AWPD.skip ?_
    refine hK7 _ _ ?_
    clear hK7
    refine AWPD.seq fun K8 hK8 => ?_
    refine AWPD.block ?_
    refine AWPD.seq fun K9 hK9 => ?_
    -- region 5
    refine AWPD.keep [1, 2, 7, 9, 17, 18, 19] rfl ?_
    refine AWPD.region tabOK rfl ?_
    repeat refine And.intro (by first | exact fun h => h | exact fun _ => rfl | (intro h; rw [h]; rfl) | omega | (intros; (try dsimp only [Ty.T, Ty.size]); (try simp only [castL_self, Int.toNat_natCast, Int.toNat_zero, Int.toNat_one, true_and, List.length_append, List.length_set, List.length_drop, List.length_take, List.length_replicate, List.length_cons, List.length_nil, Nat.zero_add, Nat.mul_one]); omega) | decide | (intros; simp_all; done) | (intros; simp_all; omega)) ?_
    refine hK9 _ _ ?_
    clear hK9
    -- region 6
    refine AWPD.keep [1, 2, 7, 9, 11, 17, 18, 19] rfl ?_
    refine AWPD.region tabOK rfl ?_
    repeat refine And.intro (by first | exact fun h => h | exact fun _ => rfl | (intro h; rw [h]; rfl) | omega | (intros; (try dsimp only [Ty.T, Ty.size]); (try simp only [castL_self, Int.toNat_natCast, Int.toNat_zero, Int.toNat_one, true_and, List.length_append, List.length_set, List.length_drop, List.length_take, List.length_replicate, List.length_cons, List.length_nil, Nat.zero_add, Nat.mul_one]); omega) | decide | (intros; simp_all; done) | (intros; simp_all; omega)) ?_
    refine Exists.intro _ (Exists.intro _ (And.intro (StepD.callG tabG_stays rfl hG0 (sure_fn ws ((clsL p).getD (p.getD i 0).toNat 0) e hw (by rw [hca, Int.toNat_natCast, hl]; omega) he) rfl rfl rfl) (And.intro rfl (And.intro trivial ?_))))
    repeat refine And.intro (by first | exact fun h => h | exact fun _ => rfl | (intro h; rw [h]; rfl) | omega | (intros; (try dsimp only [Ty.T, Ty.size]); (try simp only [castL_self, Int.toNat_natCast, Int.toNat_zero, Int.toNat_one, true_and, List.length_append, List.length_set, List.length_drop, List.length_take, List.length_replicate, List.length_cons, List.length_nil, Nat.zero_add, Nat.mul_one]); omega) | decide | (intros; simp_all; done) | (intros; simp_all; omega)) ?_
    refine hK8 _ _ ?_
    clear hK8
    -- region 7
    refine AWPD.keep [1, 2, 7, 9, 17, 18, 19] rfl ?_
    refine AWPD.region tabOK rfl ?_
    repeat refine And.intro (by first | exact fun h => h | exact fun _ => rfl | (intro h; rw [h]; rfl) | omega | (intros; (try dsimp only [Ty.T, Ty.size]); (try simp only [castL_self, Int.toNat_natCast, Int.toNat_zero, Int.toNat_one, true_and, List.length_append, List.length_set, List.length_drop, List.length_take, List.length_replicate, List.length_cons, List.length_nil, Nat.zero_add, Nat.mul_one]); omega) | decide | (intros; simp_all; done) | (intros; simp_all; omega)) ?_
    refine ⟨n0 - 1, i + 1, [1], by omega, by omega, ⟨by decide, rfl⟩, ⟨⟨rfl, rfl, (by show sureP p ws e.toNat i ++ [((sureV ws ((clsL p).getD (p.getD i 0).toNat 0).toNat e.toNat).1, (sureV ws ((clsL p).getD (p.getD i 0).toNat 0).toNat e.toNat).2)] = _; rw [hca, Int.toNat_natCast]; exact sureP_next p ws e.toNat i)⟩, trivial⟩, ?_⟩
    repeat' first | exact True.intro | exact rfl | exact ⟨rfl, rfl⟩ | refine And.intro ?_ ?_
  · try dsimp only [Ty.T] at h0
    try simp only [castL_self] at h0
    try simp only [Int.toNat_natCast] at h0
    try simp only [Int.toNat_zero] at h0
    refine AWPD.exit ?_
    refine hK4 _ _ ?_
    clear hK4
    refine AWPD.seq fun K10 hK10 => ?_
    -- region 8
    refine AWPD.keep [9] rfl ?_
    refine AWPD.region tabOK rfl ?_
    refine hK10 _ _ ?_
    clear hK10
    refine AWPD.ret (And.intro (.inl rfl) ?_)
    -- result 0
    refine RetD.one ?_
    exact fitR rfl rfl (by rw [show p.length = i by omega])

def pairE (p q ws : List Int) (e w : Int) : Int := if sevE [p, q] e ≠ 0 then sevE [p, q] e else if ws.length ≠ p.length then 3 else
  if ∀ j ∈ List.range ws.length, 1 ≤ ws.getD j 0 ∧ ws.getD j 0 ≤ 50 then (if 0 ≤ w ∧ w ≤ (p.length : Int) - 1 then 0 else 1) else 1
structure Pair (p q ws : List Int) (e w : Int) : Prop where
  sev : Sev [p, q] e
  hp : partE p = 0
  hq : partE q = 0
  ql : q.length = p.length
  wl : ws.length = p.length
  wt : Wts ws
  em : 0 ≤ e ∧ e ≤ 4095 ∧ e.toNat < 2 ^ p.length
  wi : 0 ≤ w ∧ w ≤ (p.length : Int) - 1
theorem pair_of {p q ws : List Int} {e w : Int} (h : pairE p q ws e w = 0) : Pair p q ws e w := by
  unfold pairE at h
  split at h
  · rename_i h1; exact absurd h h1
  · rename_i h1
    split at h
    · cases h
    · rename_i h2
      split at h
      · rename_i h3
        split at h
        · rename_i h4
          have sv := sev_of (by simpa using h1)
          have hp : partE p = 0 := sv.good 0 (by simp)
          have hq : partE q = 0 := sv.good 1 (by simp)
          have ql : q.length = p.length := sv.len 1 (by simp)
          exact ⟨sv, hp, hq, ql, by omega, ⟨by have := (partE_good hp).1; omega, fun i hi => h3 i (List.mem_range.2 hi)⟩, sev_mask sv, h4⟩
        · cases h
      · cases h
theorem pair_zero {p q ws : List Int} {e w : Int} (h : Pair p q ws e w) : pairE p q ws e w = 0 := by
  have := sev_zero h.sev
  unfold pairE
  rw [if_neg (by omega), if_neg (by have := h.wl; omega), if_pos fun j hj => h.wt.2 j (List.mem_range.1 hj), if_pos h.wi]

theorem pair_fn (p q ws : List Int) (e w : Int) : LiftsD Tryd.prog 42 [.sl .int p, .sl .int q, .sl .int ws, .i e, .i w] (.er 66 (pairE p q ws e w)) := by
  refine LiftsD.of_body 46 [.tmp 10] Tryd.func42 rfl Tryd.ntmps42 (by kernel_rfl) rfl rfl fun w0 X0 => ?_
  refine AWPD.seq fun K1 hK1 => ?_
  -- region 0
  refine AWPD.keep [0, 1, 2, 3, 4] rfl ?_
  refine AWPD.region tabOK rfl ?_
  refine hK1 _ _ ?_
  clear hK1
  refine AWPD.seq fun K2 hK2 => ?_
  refine AWPD.seq fun K3 hK3 => ?_
  -- region 1
  refine AWPD.keep [0, 1, 2, 3, 4] rfl ?_
  refine AWPD.region tabOK rfl ?_
  refine Exists.intro _ (Exists.intro _ (And.intro (StepD.call (sev_fn [p, q] e) rfl rfl rfl) (And.intro rfl (And.intro trivial ?_))))
  refine hK3 _ _ ?_
  clear hK3
  refine AWPD.seq fun K4 hK4 => ?_
  -- region 2
  refine AWPD.keep [0, 2, 4, 11] rfl ?_
  refine AWPD.region tabOK rfl ?_
  refine hK4 _ _ ?_
  clear hK4
  first | refine AWPD.condP rfl (fun h0 => ?_) (fun h0 => ?_) | refine AWPD.condN rfl (fun h0 => ?_) (fun h0 => ?_) | refine AWPD.condAP rfl (fun h0 => ?_) (fun h0 => ?_) | refine AWPD.condOP rfl (fun h0 => ?_) (fun h0 => ?_) | refine AWPD.condONN rfl (fun h0 => ?_) (fun h0 => ?_) | refine AWPD.condOPN rfl (fun h0 => ?_) (fun h0 => ?_) | refine AWPD.condA rfl (fun h0 => ?_) (fun h0 => ?_) | refine AWPD.condO rfl (fun h0 => ?_) (fun h0 => ?_) | refine AWPD.cond rfl (fun h0 => ?_) (fun h0 => ?_)
  · try dsimp only [Ty.T] at h0
    try simp only [castL_self] at h0
    try simp only [Int.toNat_natCast] at h0
    try simp only [Int.toNat_zero] at h0
    refine AWPD.seq fun K5 hK5 => ?_
    -- region 3
    refine AWPD.keep [11] rfl ?_
    refine AWPD.region tabOK rfl ?_
    refine hK5 _ _ ?_
    clear hK5
    refine AWPD.ret (And.intro (.inl rfl) ?_)
    -- result 0
    refine RetD.one ?_
    exact fitE rfl (by unfold pairE; rw [if_pos h0])
  · try dsimp only [Ty.T] at h0
    try simp only [castL_self] at h0
    try simp only [Int.toNat_natCast] at h0
    try simp only [Int.toNat_zero] at h0
    have hs : sevE [p, q] e = 0 := by simpa using h0
    have h12 : p.length ≤ 12 := (partE_good ((sev_of hs).good 0 (by simp))).1
    refine AWPD.skip ?_
    refine hK2 _ _ ?_
    clear hK2
    refine AWPD.seq fun K6 hK6 => ?_
    refine AWPD.seq fun K7 hK7 => ?_
    -- region 4
    refine AWPD.keep [0, 2, 4] rfl ?_
    refine AWPD.region tabOK rfl ?_
    refine hK7 _ _ ?_
    clear hK7
    first | refine AWPD.condP rfl (fun h1 => ?_) (fun h1 => ?_) | refine AWPD.condN rfl (fun h1 => ?_) (fun h1 => ?_) | refine AWPD.condAP rfl (fun h1 => ?_) (fun h1 => ?_) | refine AWPD.condOP rfl (fun h1 => ?_) (fun h1 => ?_) | refine AWPD.condONN rfl (fun h1 => ?_) (fun h1 => ?_) | refine AWPD.condOPN rfl (fun h1 => ?_) (fun h1 => ?_) | refine AWPD.condA rfl (fun h1 => ?_) (fun h1 => ?_) | refine AWPD.condO rfl (fun h1 => ?_) (fun h1 => ?_) | refine AWPD.cond rfl (fun h1 => ?_) (fun h1 => ?_)
    · try dsimp only [Ty.T] at h1
      try simp only [castL_self] at h1
      try simp only [Int.toNat_natCast] at h1
      try simp only [Int.toNat_zero] at h1
      refine AWPD.seq fun K8 hK8 => ?_
      -- region 5
      refine AWPD.keep [] rfl ?_
      refine AWPD.region tabOK rfl ?_
      repeat refine And.intro (by first | exact fun h => h | exact fun _ => rfl | (intro h; rw [h]; rfl) | omega | (intros; (try dsimp only [Ty.T, Ty.size]); (try simp only [castL_self, Int.toNat_natCast, Int.toNat_zero, Int.toNat_one, true_and, List.length_append, List.length_set, List.length_drop, List.length_take, List.length_replicate, List.length_cons, List.length_nil, Nat.zero_add, Nat.mul_one]); omega) | decide | (intros; simp_all; done) | (intros; simp_all; omega)) ?_
      refine hK8 _ _ ?_
      clear hK8
      refine AWPD.ret (And.intro (.inl rfl) ?_)
      -- result 1
      refine RetD.one ?_
      exact fitE rfl (by unfold pairE; rw [if_neg h0, if_pos (by omega)])
    · try dsimp only [Ty.T] at h1
      try simp only [castL_self] at h1
      try simp only [Int.toNat_natCast] at h1
      try simp only [Int.toNat_zero] at h1
      refine AWPD.skip ?_
      refine hK6 _ _ ?_
      clear hK6
      refine AWPD.seq fun K9 hK9 => ?_
      refine AWPD.seq fun K10 hK10 => ?_
      -- region 6
      refine AWPD.keep [0, 2, 4] rfl ?_
      refine AWPD.region tabOK rfl ?_
      refine hK10 _ _ ?_
      clear hK10
      refine AWPD.block ?_
      -- LOOP 0 live [0, 4, 28, 29, 30] changed [30]
      refine AWPD.loopK (σ := Nat) [0, 4, 28, 29] (fun i base => (30, .i (i : Int)) :: base) (fun _ => []) (fun n i => n + i = ws.length ∧ ∀ j, j < i → 1 ≤ ws.getD j 0 ∧ ws.getD j 0 ≤ 50) (ws.length) 0 [] rfl rfl (⟨by omega, by intro j hj; omega⟩) (by decide) trivial (by repeat' first | exact True.intro | exact rfl | exact ⟨rfl, rfl⟩ | refine And.intro ?_ ?_) fun n0 i hI0 => ?_
      obtain ⟨hn0, hv0⟩ := hI0
      refine AWPD.seq fun K11 hK11 => ?_
      -- region 7
      refine AWPD.keep [0, 4, 28, 29, 30] rfl ?_
      refine AWPD.region tabOK rfl ?_
      refine hK11 _ _ ?_
      clear hK11
      refine AWPD.seq fun K12 hK12 => ?_
      first | refine AWPD.condP rfl (fun h2 => ?_) (fun h2 => ?_) | refine AWPD.condN rfl (fun h2 => ?_) (fun h2 => ?_) | refine AWPD.condAP rfl (fun h2 => ?_) (fun h2 => ?_) | refine AWPD.condOP rfl (fun h2 => ?_) (fun h2 => ?_) | refine AWPD.condONN rfl (fun h2 => ?_) (fun h2 => ?_) | refine AWPD.condOPN rfl (fun h2 => ?_) (fun h2 => ?_) | refine AWPD.condA rfl (fun h2 => ?_) (fun h2 => ?_) | refine AWPD.condO rfl (fun h2 => ?_) (fun h2 => ?_) | refine AWPD.cond rfl (fun h2 => ?_) (fun h2 => ?_)
      · try dsimp only [Ty.T] at h2
        try simp only [castL_self] at h2
        try simp only [Int.toNat_natCast] at h2
        try simp only [Int.toNat_zero] at h2
        refine AWPD.skip ?_
        refine hK12 _ _ ?_
        clear hK12
        refine AWPD.seq fun K13 hK13 => ?_
        refine AWPD.block ?_
        refine AWPD.seq fun K14 hK14 => ?_
        -- region 8
        refine AWPD.keep [0, 4, 28, 29, 30] rfl ?_
        refine AWPD.region tabOK rfl ?_
        repeat refine And.intro (by first | exact fun h => h | exact fun _ => rfl | (intro h; rw [h]; rfl) | omega | (intros; (try dsimp only [Ty.T, Ty.size]); (try simp only [castL_self, Int.toNat_natCast, Int.toNat_zero, Int.toNat_one, true_and, List.length_append, List.length_set, List.length_drop, List.length_take, List.length_replicate, List.length_cons, List.length_nil, Nat.zero_add, Nat.mul_one]); omega) | decide | (intros; simp_all; done) | (intros; simp_all; omega)) ?_
        refine hK14 _ _ ?_
        clear hK14
        refine AWPD.seq fun K15 hK15 => ?_
        -- region 9
        refine AWPD.keep [0, 4, 13, 28, 29, 30] rfl ?_
        refine AWPD.region tabOK rfl ?_
        refine Exists.intro _ (Exists.intro _ (And.intro (StepD.call (within_fn _ _ _) rfl rfl rfl) (And.intro rfl (And.intro trivial ?_))))
        refine hK15 _ _ ?_
        clear hK15
        first | refine AWPD.condP rfl (fun h3 => ?_) (fun h3 => ?_) | refine AWPD.condN rfl (fun h3 => ?_) (fun h3 => ?_) | refine AWPD.condAP rfl (fun h3 => ?_) (fun h3 => ?_) | refine AWPD.condOP rfl (fun h3 => ?_) (fun h3 => ?_) | refine AWPD.condONN rfl (fun h3 => ?_) (fun h3 => ?_) | refine AWPD.condOPN rfl (fun h3 => ?_) (fun h3 => ?_) | refine AWPD.condA rfl (fun h3 => ?_) (fun h3 => ?_) | refine AWPD.condO rfl (fun h3 => ?_) (fun h3 => ?_) | refine AWPD.cond rfl (fun h3 => ?_) (fun h3 => ?_)
        · try dsimp only [Ty.T] at h3
          try simp only [castL_self] at h3
          try simp only [Int.toNat_natCast] at h3
          try simp only [Int.toNat_zero] at h3
          refine AWPD.seq fun K16 hK16 => ?_
          -- region 10
          refine AWPD.keep [] rfl ?_
          refine AWPD.region tabOK rfl ?_
          repeat refine And.intro (by first | exact fun h => h | exact fun _ => rfl | (intro h; rw [h]; rfl) | omega | (intros; (try dsimp only [Ty.T, Ty.size]); (try simp only [castL_self, Int.toNat_natCast, Int.toNat_zero, Int.toNat_one, true_and, List.length_append, List.length_set, List.length_drop, List.length_take, List.length_replicate, List.length_cons, List.length_nil, Nat.zero_add, Nat.mul_one]); omega) | decide | (intros; simp_all; done) | (intros; simp_all; omega)) ?_
          refine hK16 _ _ ?_
          clear hK16
          refine AWPD.ret (And.intro (.inl rfl) ?_)
          -- result 2
          refine RetD.one ?_
          exact fitE rfl (by unfold pairE; rw [if_neg h0, if_neg (by omega), if_neg fun hh => absurd (hh i (List.mem_range.2 (by omega))) (by simpa using h3)])
        · try dsimp only [Ty.T] at h3
          try simp only [castL_self] at h3
          try simp only [Int.toNat_natCast] at h3
          try simp only [Int.toNat_zero] at h3
          refine AWPD.skip ?_
          refine hK13 _ _ ?_
          clear hK13
          -- region 11
          refine AWPD.keep [0, 4, 28, 29, 30] rfl ?_
          refine AWPD.region tabOK rfl ?_
          repeat refine And.intro (by first | exact fun h => h | exact fun _ => rfl | (intro h; rw [h]; rfl) | omega | (intros; (try dsimp only [Ty.T, Ty.size]); (try simp only [castL_self, Int.toNat_natCast, Int.toNat_zero, Int.toNat_one, true_and, List.length_append, List.length_set, List.length_drop, List.length_take, List.length_replicate, List.length_cons, List.length_nil, Nat.zero_add, Nat.mul_one]); omega) | decide | (intros; simp_all; done) | (intros; simp_all; omega)) ?_
          refine ⟨n0 - 1, i + 1, [], by omega, ⟨by omega, fun j hj => by
                rcases Nat.lt_or_ge j i with h | h
                · exact hv0 j h
                · rw [show j = i by omega]; simpa using h3⟩, ⟨by decide, rfl⟩, trivial, ?_⟩
          repeat' first | exact True.intro | exact rfl | exact ⟨rfl, rfl⟩ | refine And.intro ?_ ?_
      · try dsimp only [Ty.T] at h2
        try simp only [castL_self] at h2
        try simp only [Int.toNat_natCast] at h2
        try simp only [Int.toNat_zero] at h2
        refine AWPD.exit ?_
        refine hK9 _ _ ?_
        clear hK9
        refine AWPD.seq fun K17 hK17 => ?_
        refine AWPD.seq fun K18 hK18 => ?_
        -- region 12
        refine AWPD.keep [0, 4] rfl ?_
        refine AWPD.region tabOK rfl ?_
        repeat refine And.intro (by first | exact fun h => h | exact fun _ => rfl | (intro h; rw [h]; rfl) | omega | (intros; (try dsimp only [Ty.T, Ty.size]); (try simp only [castL_self, Int.toNat_natCast, Int.toNat_zero, Int.toNat_one, true_and, List.length_append, List.length_set, List.length_drop, List.length_take, List.length_replicate, List.length_cons, List.length_nil, Nat.zero_add, Nat.mul_one]); omega) | decide | (intros; simp_all; done) | (intros; simp_all; omega)) ?_
        refine Exists.intro _ (Exists.intro _ (And.intro (StepD.call (within_fn _ _ _) rfl rfl rfl) (And.intro rfl (And.intro trivial ?_))))
        refine hK18 _ _ ?_
        clear hK18
        first | refine AWPD.condP rfl (fun h4 => ?_) (fun h4 => ?_) | refine AWPD.condN rfl (fun h4 => ?_) (fun h4 => ?_) | refine AWPD.condAP rfl (fun h4 => ?_) (fun h4 => ?_) | refine AWPD.condOP rfl (fun h4 => ?_) (fun h4 => ?_) | refine AWPD.condONN rfl (fun h4 => ?_) (fun h4 => ?_) | refine AWPD.condOPN rfl (fun h4 => ?_) (fun h4 => ?_) | refine AWPD.condA rfl (fun h4 => ?_) (fun h4 => ?_) | refine AWPD.condO rfl (fun h4 => ?_) (fun h4 => ?_) | refine AWPD.cond rfl (fun h4 => ?_) (fun h4 => ?_)
        · try dsimp only [Ty.T] at h4
          try simp only [castL_self] at h4
          try simp only [Int.toNat_natCast] at h4
          try simp only [Int.toNat_zero] at h4
          refine AWPD.seq fun K19 hK19 => ?_
          -- region 13
          refine AWPD.keep [] rfl ?_
          refine AWPD.region tabOK rfl ?_
          repeat refine And.intro (by first | exact fun h => h | exact fun _ => rfl | (intro h; rw [h]; rfl) | omega | (intros; (try dsimp only [Ty.T, Ty.size]); (try simp only [castL_self, Int.toNat_natCast, Int.toNat_zero, Int.toNat_one, true_and, List.length_append, List.length_set, List.length_drop, List.length_take, List.length_replicate, List.length_cons, List.length_nil, Nat.zero_add, Nat.mul_one]); omega) | decide | (intros; simp_all; done) | (intros; simp_all; omega)) ?_
          refine hK19 _ _ ?_
          clear hK19
          refine AWPD.ret (And.intro (.inl rfl) ?_)
          -- result 3
          refine RetD.one ?_
          have hall : ∀ j ∈ List.range ws.length, 1 ≤ ws.getD j 0 ∧ ws.getD j 0 ≤ 50 := fun j hj => hv0 j (by have := List.mem_range.1 hj; omega)
          exact fitE rfl (by unfold pairE; rw [if_neg h0, if_neg (by omega), if_pos hall, if_neg (by simpa using h4)])
        · try dsimp only [Ty.T] at h4
          try simp only [castL_self] at h4
          try simp only [Int.toNat_natCast] at h4
          try simp only [Int.toNat_zero] at h4
          refine AWPD.skip ?_
          refine hK17 _ _ ?_
          clear hK17
          refine AWPD.seq fun K20 hK20 => ?_
          -- region 14
          refine AWPD.keep [] rfl ?_
          refine AWPD.region tabOK rfl ?_
          refine hK20 _ _ ?_
          clear hK20
          refine AWPD.ret (And.intro (.inl rfl) ?_)
          -- result 4
          refine RetD.one ?_
          have hall : ∀ j ∈ List.range ws.length, 1 ≤ ws.getD j 0 ∧ ws.getD j 0 ≤ 50 := fun j hj => hv0 j (by have := List.mem_range.1 hj; omega)
          exact fitE rfl (by unfold pairE; rw [if_neg h0, if_neg (by omega), if_pos hall, if_pos (by simpa using h4)])

def sureR (p q ws : List Int) (e w : Int) : Int × Int := if pairE p q ws e w = 0 then sureV ws (maskP p (p.getD w.toNat 0) p.length) e.toNat else (0, 0)

theorem sureR_fn (p q ws : List Int) (e w : Int) : LiftsG Tryd.prog tabG 11 [.sl .int p, .sl .int q, .sl .int ws, .i e, .i w] (.tup [.agg [.i (sureR p q ws e w).1, .i (sureR p q ws e w).2], .er 66 (pairE p q ws e w)]) := by
  refine LiftsG.of_bodyW 30 [.cell 10 24, .tmp 11] Tryd.func11 rfl Tryd.ntmps11 (by kernel_rfl) rfl rfl fun w0 X0 hG0 => ?_
  refine AWPD.seq fun K1 hK1 => ?_
  -- region 0
  refine AWPD.keep [0, 1, 2, 3, 4] rfl ?_
  refine AWPD.region tabOK rfl ?_
  refine hK1 _ _ ?_
  clear hK1
  refine AWPD.seq fun K2 hK2 => ?_
  refine AWPD.seq fun K3 hK3 => ?_
  -- region 1
  refine AWPD.keep [0, 1, 2, 3, 4, 10] rfl ?_
  refine AWPD.region tabOK rfl ?_
  refine Exists.intro _ (Exists.intro _ (And.intro (StepD.call (pair_fn p q ws e w) rfl rfl rfl) (And.intro rfl (And.intro trivial ?_))))
  refine hK3 _ _ ?_
  clear hK3
  refine AWPD.seq fun K4 hK4 => ?_
  -- region 2
  refine AWPD.keep [0, 2, 3, 4, 10, 12] rfl ?_
  refine AWPD.region tabOK rfl ?_
  refine hK4 _ _ ?_
  clear hK4
  first | refine AWPD.condP rfl (fun h0 => ?_) (fun h0 => ?_) | refine AWPD.condN rfl (fun h0 => ?_) (fun h0 => ?_) | refine AWPD.condAP rfl (fun h0 => ?_) (fun h0 => ?_) | refine AWPD.condOP rfl (fun h0 => ?_) (fun h0 => ?_) | refine AWPD.condONN rfl (fun h0 => ?_) (fun h0 => ?_) | refine AWPD.condOPN rfl (fun h0 => ?_) (fun h0 => ?_) | refine AWPD.condA rfl (fun h0 => ?_) (fun h0 => ?_) | refine AWPD.condO rfl (fun h0 => ?_) (fun h0 => ?_) | refine AWPD.cond rfl (fun h0 => ?_) (fun h0 => ?_)
  · try dsimp only [Ty.T] at h0
    try simp only [castL_self] at h0
    try simp only [Int.toNat_natCast] at h0
    try simp only [Int.toNat_zero] at h0
    refine AWPD.seq fun K5 hK5 => ?_
    -- region 3
    refine AWPD.keep [10, 12] rfl ?_
    refine AWPD.region tabOK rfl ?_
    repeat refine And.intro (by first | exact fun h => h | exact fun _ => rfl | (intro h; rw [h]; rfl) | omega | (intros; (try dsimp only [Ty.T, Ty.size]); (try simp only [castL_self, Int.toNat_natCast, Int.toNat_zero, Int.toNat_one, true_and, List.length_append, List.length_set, List.length_drop, List.length_take, List.length_replicate, List.length_cons, List.length_nil, Nat.zero_add, Nat.mul_one]); omega) | decide | (intros; simp_all; done) | (intros; simp_all; omega)) ?_
    refine hK5 _ _ ?_
    clear hK5
    refine AWPD.ret (And.intro (.inl rfl) ?_)
    -- result 0
    exact RetW.twoT ⟨0, _, [.i _, .i _], _, rfl, rfl, tabOK.agg (24, 2) (by decide), rfl, (by show DV.agg _ = DV.agg _; unfold sureR; rw [if_neg h0])⟩ (fitE rfl rfl)
  · try dsimp only [Ty.T] at h0
    try simp only [castL_self] at h0
    try simp only [Int.toNat_natCast] at h0
    try simp only [Int.toNat_zero] at h0
    have he : pairE p q ws e w = 0 := by simpa using h0
    have pr := pair_of he
    have h12 := pr.wt.1
    have hwl := pr.wl
    have hwi := pr.wi
    have hem := pr.em
    have hsl := sureP_len p ws e.toNat p.length
    have hsg := sureP_get p ws e.toNat (i := w.toNat) (n := p.length) (by omega)
    refine AWPD.skip ?_
    refine hK2 _ _ ?_
    clear hK2
    refine AWPD.seq fun K6 hK6 => ?_
    -- region 4
    refine AWPD.keep [0, 2, 3, 4, 10] rfl ?_
    refine AWPD.region tabOK rfl ?_
    refine Exists.intro _ (Exists.intro _ (And.intro (StepD.callG tabG_stays rfl hG0 (all_fn p ws e pr.hp pr.wl pr.wt ⟨hem.1, by rw [hwl]; exact hem.2.2⟩) rfl rfl rfl) (And.intro rfl (And.intro trivial ?_))))
    repeat refine And.intro (by first | exact fun h => h | exact fun _ => rfl | (intro h; rw [h]; rfl) | omega | (intros; (try dsimp only [Ty.T, Ty.size]); (try simp only [castL_self, Int.toNat_natCast, Int.toNat_zero, Int.toNat_one, true_and, List.length_append, List.length_set, List.length_drop, List.length_take, List.length_replicate, List.length_cons, List.length_nil, Nat.zero_add, Nat.mul_one]); omega) | decide | (intros; simp_all; done) | (intros; simp_all; omega)) ?_
    refine hK6 _ _ ?_
    clear hK6
    refine AWPD.ret (And.intro (.inl rfl) ?_)
    -- result 1
    exact RetW.twoT ⟨0, _, [.i _, .i _], _, rfl, rfl, tabOK.agg (24, 2) (by decide), rfl, (by show DV.agg _ = DV.agg _; unfold sureR; rw [if_pos he, ← hsg])⟩ (fitE rfl he.symm)

/-- Where both are as sure as there, of the first i worlds. -/
def sameM (p q ws : List Int) (e w : Nat) : Nat → Nat
  | 0 => 0
  | i + 1 => if (sureP p ws e p.length).getD i (0, 0) = (sureP p ws e p.length).getD w (0, 0) ∧ (sureP q ws e q.length).getD i (0, 0) = (sureP q ws e q.length).getD w (0, 0) then sameM p q ws e w i ||| 2 ^ i else sameM p q ws e w i
theorem sameM_lt (p q ws : List Int) (e w : Nat) : ∀ i, sameM p q ws e w i < 2 ^ i
  | 0 => by simp [sameM]
  | i + 1 => by
    have h := sameM_lt p q ws e w i
    have h2 : (2 : Nat) ^ i < 2 ^ (i + 1) := by rw [Nat.pow_succ]; have := Nat.two_pow_pos i; omega
    unfold sameM
    split
    · exact Nat.or_lt_two_pow (Nat.lt_trans h h2) h2
    · exact Nat.lt_trans h h2
theorem sameM_bit (p q ws : List Int) (e w j : Nat) : ∀ i, (sameM p q ws e w i).testBit j = (decide (j < i) && decide ((sureP p ws e p.length).getD j (0, 0) = (sureP p ws e p.length).getD w (0, 0) ∧ (sureP q ws e q.length).getD j (0, 0) = (sureP q ws e q.length).getD w (0, 0)))
  | 0 => by simp [sameM]
  | i + 1 => by
    have ih := sameM_bit p q ws e w j i
    unfold sameM
    by_cases hj : j = i
    · subst hj
      have h0 : (sameM p q ws e w j).testBit j = false := by rw [ih]; simp
      split
      · rename_i h; rw [Nat.testBit_or, Nat.testBit_two_pow_self, h0, decide_eq_true h]; simp
      · rename_i h; rw [h0, decide_eq_false h]; simp
    · have h1 : decide (j < i + 1) = decide (j < i) := decide_eq_decide.2 (by omega)
      split
      · rw [Nat.testBit_or, ih, Nat.testBit_two_pow_of_ne (by omega), h1]; simp
      · rw [ih, h1]
theorem sameM_small (p q ws : List Int) (e w : Nat) {i : Nat} (hi : i ≤ 12) : sameM p q ws e w i < 4096 := Nat.lt_of_lt_of_le (sameM_lt p q ws e w i) (pow_small hi)
theorem two_eq (x y : Int × Int) : ([x.1, x.2] : List Int) = [y.1, y.2] ↔ x = y := by
  constructor
  · intro h
    injection h with h1 h2
    injection h2 with h2
    exact Prod.ext h1 h2
  · rintro rfl; rfl
theorem same_cond {x y x' y' : Int × Int} : (bif decide (([x.1, x.2] : List Int) = [x'.1, x'.2]) then decide (([y.1, y.2] : List Int) = [y'.1, y'.2]) else false) = true ↔ x = x' ∧ y = y' := by
  simp only [Bool.cond_false_right, Bool.and_eq_true, decide_eq_true_eq, two_eq]
theorem same_not {x y x' y' : Int × Int} (h : (bif decide (([x.1, x.2] : List Int) = [x'.1, x'.2]) then decide (([y.1, y.2] : List Int) = [y'.1, y'.2]) else false) = false) : ¬(x = x' ∧ y = y') := fun hh => by rw [same_cond.2 hh] at h; cases h
theorem same_yes {p q ws : List Int} {e w i : Nat} (hi : i ≤ 12) (h : (sureP p ws e p.length).getD i (0, 0) = (sureP p ws e p.length).getD w (0, 0) ∧ (sureP q ws e q.length).getD i (0, 0) = (sureP q ws e q.length).getD w (0, 0)) :
    bitsI .or ((sameM p q ws e w i : Nat) : Int) (IntKind.i64.wrap (1 * 2 ^ (min (i : Int).toNat 64))) = ((sameM p q ws e w (i + 1) : Nat) : Int) :=
  (or_bit hi (sameM_small p q ws e w hi) _ rfl).trans (by rw [sameM, if_pos h])
theorem same_no {p q ws : List Int} {e w i : Nat} (h : ¬((sureP p ws e p.length).getD i (0, 0) = (sureP p ws e p.length).getD w (0, 0) ∧ (sureP q ws e q.length).getD i (0, 0) = (sureP q ws e q.length).getD w (0, 0))) :
    sameM p q ws e w i = sameM p q ws e w (i + 1) := by rw [sameM, if_neg h]
def knownR (p q ws : List Int) (e w : Int) : Bool := if pairE p q ws e w = 0 then (knowN (comR [p, q] 1) (sameM p q ws e.toNat w.toNat p.length)).testBit w.toNat else false

theorem knownR_fn (p q ws : List Int) (e w : Int) : LiftsG Tryd.prog tabG 13 [.sl .int p, .sl .int q, .sl .int ws, .i e, .i w] (.tup [.b (knownR p q ws e w), .er 66 (pairE p q ws e w)]) := by
  refine LiftsG.of_body 78 [.tmp 10, .tmp 11] Tryd.func13 rfl Tryd.ntmps13 (by kernel_rfl) rfl rfl fun w0 X0 hG0 => ?_
  refine AWPD.seq fun K1 hK1 => ?_
  -- region 0
  refine AWPD.keep [0, 1, 2, 3, 4] rfl ?_
  refine AWPD.region tabOK rfl ?_
  refine hK1 _ _ ?_
  clear hK1
  refine AWPD.seq fun K2 hK2 => ?_
  refine AWPD.seq fun K3 hK3 => ?_
  -- region 1
  refine AWPD.keep [0, 1, 2, 3, 4] rfl ?_
  refine AWPD.region tabOK rfl ?_
  refine Exists.intro _ (Exists.intro _ (And.intro (StepD.call (pair_fn p q ws e w) rfl rfl rfl) (And.intro rfl (And.intro trivial ?_))))
  refine hK3 _ _ ?_
  clear hK3
  refine AWPD.seq fun K4 hK4 => ?_
  -- region 2
  refine AWPD.keep [0, 1, 2, 3, 4, 12] rfl ?_
  refine AWPD.region tabOK rfl ?_
  refine hK4 _ _ ?_
  clear hK4
  first | refine AWPD.condP rfl (fun h0 => ?_) (fun h0 => ?_) | refine AWPD.condN rfl (fun h0 => ?_) (fun h0 => ?_) | refine AWPD.condAP rfl (fun h0 => ?_) (fun h0 => ?_) | refine AWPD.condOP rfl (fun h0 => ?_) (fun h0 => ?_) | refine AWPD.condONN rfl (fun h0 => ?_) (fun h0 => ?_) | refine AWPD.condOPN rfl (fun h0 => ?_) (fun h0 => ?_) | refine AWPD.condA rfl (fun h0 => ?_) (fun h0 => ?_) | refine AWPD.condO rfl (fun h0 => ?_) (fun h0 => ?_) | refine AWPD.cond rfl (fun h0 => ?_) (fun h0 => ?_)
  · try dsimp only [Ty.T] at h0
    try simp only [castL_self] at h0
    try simp only [Int.toNat_natCast] at h0
    try simp only [Int.toNat_zero] at h0
    refine AWPD.seq fun K5 hK5 => ?_
    -- region 3
    refine AWPD.keep [12] rfl ?_
    refine AWPD.region tabOK rfl ?_
    refine hK5 _ _ ?_
    clear hK5
    refine AWPD.ret (And.intro (.inl rfl) ?_)
    -- result 0
    exact ⟨fitB rfl (by unfold knownR; rw [if_neg h0]), fitE rfl rfl⟩
  · try dsimp only [Ty.T] at h0
    try simp only [castL_self] at h0
    try simp only [Int.toNat_natCast] at h0
    try simp only [Int.toNat_zero] at h0
    have he : pairE p q ws e w = 0 := by simpa using h0
    have pr := pair_of he
    have h12 := pr.wt.1
    have hwl := pr.wl
    have hql := pr.ql
    have hwi := pr.wi
    have hem := pr.em
    have hsl := sureP_len p ws e.toNat p.length
    have hsl2 := sureP_len q ws e.toNat q.length
    refine AWPD.skip ?_
    refine hK2 _ _ ?_
    clear hK2
    refine AWPD.seq fun K6 hK6 => ?_
    -- region 4
    refine AWPD.keep [0, 1, 2, 3, 4] rfl ?_
    refine AWPD.region tabOK rfl ?_
    refine Exists.intro _ (Exists.intro _ (And.intro (StepD.callG tabG_stays rfl hG0 (all_fn p ws e pr.hp pr.wl pr.wt ⟨hem.1, by rw [hwl]; exact hem.2.2⟩) rfl rfl rfl) (And.intro rfl (And.intro trivial ?_))))
    refine Exists.intro _ (Exists.intro _ (And.intro (StepD.callG tabG_stays rfl hG0 (all_fn q ws e pr.hq (by rw [pr.wl, pr.ql]) pr.wt ⟨hem.1, by rw [hwl]; exact hem.2.2⟩) rfl rfl rfl) (And.intro rfl (And.intro trivial ?_))))
    refine hK6 _ _ ?_
    clear hK6
    refine AWPD.seq fun K7 hK7 => ?_
    -- region 5
    refine AWPD.keep [0, 1, 4, 13, 14] rfl ?_
    refine AWPD.region tabOK rfl ?_
    refine hK7 _ _ ?_
    clear hK7
    refine AWPD.seq fun K8 hK8 => ?_
    refine AWPD.seq fun K9 hK9 => ?_
    -- region 6
    refine AWPD.keep [0, 1, 4, 13, 14, 15] rfl ?_
    refine AWPD.region tabOK rfl ?_
    refine hK9 _ _ ?_
    clear hK9
    refine AWPD.block ?_
    -- LOOP 0 live [0, 1, 4, 13, 14, 15, 37, 38] changed [15, 38]
    refine AWPD.loopK (σ := Nat) [0, 1, 4, 13, 14, 37] (fun i base => (15, .i ((sameM p q ws e.toNat w.toNat i : Nat) : Int)) :: (38, .i (i : Int)) :: base) (fun _ => []) (fun n i => n + i = p.length) (p.length) 0 [] rfl rfl (by omega) (by decide) trivial (by repeat' first | exact True.intro | exact rfl | exact ⟨rfl, rfl⟩ | refine And.intro ?_ ?_) fun n0 i hI0 => ?_
    have hn0 := hI0
    have hslt := sameM_lt p q ws e.toNat w.toNat i
    refine AWPD.seq fun K10 hK10 => ?_
    -- region 7
    refine AWPD.keep [0, 1, 4, 13, 14, 15, 37, 38] rfl ?_
    refine AWPD.region tabOK rfl ?_
    refine hK10 _ _ ?_
    clear hK10
    refine AWPD.seq fun K11 hK11 => ?_
    first | refine AWPD.condP rfl (fun h1 => ?_) (fun h1 => ?_) | refine AWPD.condN rfl (fun h1 => ?_) (fun h1 => ?_) | refine AWPD.condAP rfl (fun h1 => ?_) (fun h1 => ?_) | refine AWPD.condOP rfl (fun h1 => ?_) (fun h1 => ?_) | refine AWPD.condONN rfl (fun h1 => ?_) (fun h1 => ?_) | refine AWPD.condOPN rfl (fun h1 => ?_) (fun h1 => ?_) | refine AWPD.condA rfl (fun h1 => ?_) (fun h1 => ?_) | refine AWPD.condO rfl (fun h1 => ?_) (fun h1 => ?_) | refine AWPD.cond rfl (fun h1 => ?_) (fun h1 => ?_)
    · try dsimp only [Ty.T] at h1
      try simp only [castL_self] at h1
      try simp only [Int.toNat_natCast] at h1
      try simp only [Int.toNat_zero] at h1
      refine AWPD.skip ?_
      refine hK11 _ _ ?_
      clear hK11
      refine AWPD.seq fun K12 hK12 => ?_
      refine AWPD.block ?_
      refine AWPD.seq fun K13 hK13 => ?_
      -- region 8
      refine AWPD.keep [0, 1, 4, 13, 14, 15, 37, 38] rfl ?_
      refine AWPD.region tabOK rfl ?_
      refine hK13 _ _ ?_
      clear hK13
      refine AWPD.seq fun K14 hK14 => ?_
      -- region 9
      refine AWPD.keep [0, 1, 4, 13, 14, 15, 16, 37, 38] rfl ?_
      refine AWPD.draw tabOK [] rfl (by kernel_rfl) ?_
      repeat refine And.intro (by first | exact fun h => h | exact fun _ => rfl | (intro h; rw [h]; rfl) | omega | (intros; (try dsimp only [Ty.T, Ty.size]); (try simp only [castL_self, Int.toNat_natCast, Int.toNat_zero, Int.toNat_one, true_and, List.length_append, List.length_set, List.length_drop, List.length_take, List.length_replicate, List.length_cons, List.length_nil, Nat.zero_add, Nat.mul_one]); omega) | decide | (intros; simp_all; done) | (intros; simp_all; omega)) ?_
      refine hK14 _ _ ?_
      clear hK14
      first | refine AWPD.cond rfl (fun h2 => ?_) (fun h2 => ?_)
      · try dsimp only [Ty.T] at h2
        try simp only [castL_self] at h2
        try simp only [Int.toNat_natCast] at h2
        try simp only [Int.toNat_zero] at h2
        have hsy := same_cond.1 h2
        -- region 10
        refine AWPD.keep [0, 1, 4, 13, 14, 15, 16, 37, 38] rfl ?_
        refine AWPD.region tabOK rfl ?_
        repeat refine And.intro (by first | exact fun h => h | exact fun _ => rfl | (intro h; rw [h]; rfl) | omega | (intros; (try dsimp only [Ty.T, Ty.size]); (try simp only [castL_self, Int.toNat_natCast, Int.toNat_zero, Int.toNat_one, true_and, List.length_append, List.length_set, List.length_drop, List.length_take, List.length_replicate, List.length_cons, List.length_nil, Nat.zero_add, Nat.mul_one]); omega) | decide | (intros; simp_all; done) | (intros; simp_all; omega)) ?_
        refine hK12 _ _ ?_
        clear hK12
        -- region 11
        refine AWPD.keep [0, 1, 4, 13, 14, 15, 37, 38] rfl ?_
        refine AWPD.region tabOK rfl ?_
        repeat refine And.intro (by first | exact fun h => h | exact fun _ => rfl | (intro h; rw [h]; rfl) | omega | (intros; (try dsimp only [Ty.T, Ty.size]); (try simp only [castL_self, Int.toNat_natCast, Int.toNat_zero, Int.toNat_one, true_and, List.length_append, List.length_set, List.length_drop, List.length_take, List.length_replicate, List.length_cons, List.length_nil, Nat.zero_add, Nat.mul_one]); omega) | decide | (intros; simp_all; done) | (intros; simp_all; omega)) ?_
        refine ⟨n0 - 1, i + 1, [], by omega, by omega, ⟨by decide, rfl⟩, trivial, ?_⟩
        repeat' first | exact same_yes (by omega) hsy | exact congrArg (fun x : Nat => (x : Int)) (same_no hsn) | exact True.intro | exact rfl | exact ⟨rfl, rfl⟩ | refine And.intro ?_ ?_
      · try dsimp only [Ty.T] at h2
        try simp only [castL_self] at h2
        try simp only [Int.toNat_natCast] at h2
        try simp only [Int.toNat_zero] at h2
        have hsn := same_not h2
        refine AWPD.skip ?_
        refine hK12 _ _ ?_
        clear hK12
        -- region 11
        refine AWPD.keep [0, 1, 4, 13, 14, 15, 37, 38] rfl ?_
        refine AWPD.region tabOK rfl ?_
        repeat refine And.intro (by first | exact fun h => h | exact fun _ => rfl | (intro h; rw [h]; rfl) | omega | (intros; (try dsimp only [Ty.T, Ty.size]); (try simp only [castL_self, Int.toNat_natCast, Int.toNat_zero, Int.toNat_one, true_and, List.length_append, List.length_set, List.length_drop, List.length_take, List.length_replicate, List.length_cons, List.length_nil, Nat.zero_add, Nat.mul_one]); omega) | decide | (intros; simp_all; done) | (intros; simp_all; omega)) ?_
        refine ⟨n0 - 1, i + 1, [], by omega, by omega, ⟨by decide, rfl⟩, trivial, ?_⟩
        repeat' first | exact same_yes (by omega) hsy | exact congrArg (fun x : Nat => (x : Int)) (same_no hsn) | exact True.intro | exact rfl | exact ⟨rfl, rfl⟩ | refine And.intro ?_ ?_
    · try dsimp only [Ty.T] at h1
      try simp only [castL_self] at h1
      try simp only [Int.toNat_natCast] at h1
      try simp only [Int.toNat_zero] at h1
      refine AWPD.exit ?_
      refine hK8 _ _ ?_
      clear hK8
      refine AWPD.seq fun K15 hK15 => ?_
      -- region 12
      have hss : sameM p q ws e.toNat w.toNat i = sameM p q ws e.toNat w.toNat p.length := by rw [show i = p.length by omega]
      have svs : Sev [p, q] ((sameM p q ws e.toNat w.toNat i : Nat) : Int) := pr.sev.other (mask_of (p := p) (by rw [hss]; exact sameM_lt _ _ _ _ _ _))
      have hcv := comV_ok svs
      have hse := sev_zero svs
      have hcs := com_sub svs (sameM p q ws e.toNat w.toNat i)
      have hcl := subN_le hcs
      have hsm := sameM_small p q ws e.toNat w.toNat (i := i) (by omega)
      rw [Int.toNat_natCast] at hcv
      refine AWPD.keep [0, 1, 4, 15] rfl ?_
      refine AWPD.region tabOK rfl ?_
      refine Exists.intro _ (Exists.intro _ (And.intro (StepD.call (common_fn [p, q] _) rfl rfl rfl) (And.intro rfl (And.intro trivial ?_))))
      refine hK15 _ _ ?_
      clear hK15
      refine AWPD.seq fun K16 hK16 => ?_
      -- region 13
      refine AWPD.keep [4, 17, 18] rfl ?_
      refine AWPD.region tabOK rfl ?_
      refine Exists.intro _ (Exists.intro _ (And.intro (StepD.call (has_fn (comV [p, q] ((sameM p q ws e.toNat w.toNat i : Nat) : Int)) w (by rw [hcv]; omega) (by omega)) rfl rfl rfl) (And.intro rfl (And.intro trivial ?_))))
      refine hK16 _ _ ?_
      clear hK16
      refine AWPD.ret (And.intro (.inl rfl) ?_)
      -- result 1
      exact ⟨fitB rfl (by unfold knownR; rw [if_pos he, hcv, Int.toNat_natCast, hss]; rfl), fitE rfl (hse.trans he.symm)⟩
end Go.Proofs.YtkdihpajgmiolaaDoor
