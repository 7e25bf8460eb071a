/-
  WALKS of the laws AuditRank and AuditSame. Laid by a program of mine out of the operations, with the loops and results told by hand.
-/
import Derived.Test.YtmeacgkhabnjlaaDoorQwAv
namespace Go.Proofs.YtmeacgkhabnjlaaDoor
open Go Go.Qw
set_option maxRecDepth 10000
set_option linter.unusedSimpArgs false
set_option linter.unusedVariables false


theorem afact1 : tellV 3 [3, 6] 5 = true := by decide +kernel
theorem afact2 : tellE 3 [3, 6] 5 = 0 := by decide +kernel
theorem afact3 : tellV 3 [3, 6] 1 = false := by decide +kernel
theorem afact4 : tellE 3 [3, 6] 1 = 0 := by decide +kernel
theorem rankV_ok {z : Int} {asks : List Int} (h : askE z asks = 0) : rankV z asks = ((ofV asks).2 : Int) := by unfold rankV; rw [if_pos h]
theorem rankV_in {z : Int} {asks : List Int} (h : askE z asks = 0) : 0 ≤ rankV z asks ∧ rankV z asks ≤ z ∧ rankV z asks ≤ asks.length := by
  have g := ask_ok h
  have gz := g.n0
  have h1 := (g.a.bas asks.length (Nat.le_refl _)).le g.a.1
  have h2 := ofS_le asks asks.length
  rw [rankV_ok h]
  unfold ofV
  omega
/-- With one ask more. -/
theorem rank_more {z : Int} {asks : List Int} {s : Int} (h : askE z asks = 0) (ht : tellE z asks s = 0) (h2 : askE z (asks ++ [s]) = 0) : rankV z (asks ++ [s]) = if tellV z asks s = true then rankV z asks else rankV z asks + 1 := by
  rw [rankV_ok h2, rankV_ok h, ofV_rank]
  unfold tellV
  rw [decide_eq_true ht, Bool.true_and]
  by_cases hc : cutV (ofV asks).1 s.toNat = 0
  · rw [if_pos hc, if_pos (decide_eq_true hc)]
  · rw [if_neg hc, if_neg (by simpa using hc)]; simp
theorem ask_more {z : Int} {asks : List Int} {s : Int} (h : askE z asks = 0) (hm : maskB s z = true) (h2 : askE z (asks ++ [s]) ≠ 0) : 20 ≤ asks.length := by
  have g := ask_ok h
  refine Nat.le_of_not_lt fun hlt => h2 ?_
  have hall : ∀ j, j < asks.length → maskB (asks.getD j 0) z = true := fun j hj => by
    have := g.all j hj
    exact decide_eq_true (by omega)
  unfold askE
  rw [if_neg (fun hh => hh g.n0), if_neg (by simp; omega), if_pos]
  intro j hj
  rw [List.length_append, List.length_singleton] at hj
  by_cases he : j < asks.length
  · rw [List.getD, List.getElem?_append_left he]; exact hall j he
  · rw [show j = asks.length by omega]
    simpa [List.getD] using hm

theorem auditFact_fn  : LiftsD Tryd.prog 6 [] (.b true) := by
  refine LiftsD.of_body 28 [.tmp 0] Tryd.func6 rfl Tryd.ntmps6 (by kernel_rfl) rfl rfl fun w0 X0 => ?_
  refine AWPD.seq fun K1 hK1 => ?_
  -- region 0
  refine AWPD.keep [] rfl ?_
  refine AWPD.region tabOK rfl ?_
  refine hK1 _ _ ?_
  clear hK1
  refine AWPD.seq fun K2 hK2 => ?_
  -- region 1
  refine AWPD.keep [] rfl ?_
  refine AWPD.region tabOK rfl ?_
  refine Exists.intro _ (Exists.intro _ (And.intro (StepD.call (tells_fn _ _ _) rfl rfl rfl) (And.intro rfl (And.intro trivial ?_))))
  refine hK2 _ _ ?_
  clear hK2
  refine AWPD.seq fun K3 hK3 => ?_
  -- region 2
  refine AWPD.keep [1, 2] rfl ?_
  refine AWPD.region tabOK rfl ?_
  refine Exists.intro _ (Exists.intro _ (And.intro (StepD.call (tells_fn _ _ _) rfl rfl rfl) (And.intro rfl (And.intro trivial ?_))))
  refine hK3 _ _ ?_
  clear hK3
  refine AWPD.seq fun K4 hK4 => ?_
  -- region 3
  refine AWPD.keep [1, 2, 3, 4] rfl ?_
  refine AWPD.region tabOK rfl ?_
  repeat refine And.intro (by first | exact fun h => h | exact fun _ => rfl | (intro h; rw [h]; rfl) | omega | (intros; (try dsimp only [Ty.T, Ty.size]); (try simp only [castL_self, Int.toNat_natCast, Int.toNat_zero, Int.toNat_one, true_and, List.length_append, List.length_set, List.length_drop, List.length_take, List.length_replicate, List.length_cons, List.length_nil, Nat.zero_add, Nat.mul_one]); omega) | decide | (intros; simp_all; done) | (intros; simp_all; omega)) ?_
  refine hK4 _ _ ?_
  clear hK4
  refine AWPD.ret (And.intro (.inl rfl) ?_)
  -- result 0
  refine RetD.one ?_
  refine fitB rfl ?_
  rw [afact1, afact2, afact3, afact4]
  rfl

theorem par_eq {x y : Nat} : parB x = parB y ↔ popN x % 2 = popN y % 2 := by
  unfold parB
  rw [decide_eq_decide]
  omega
theorem ansL_get {asks : List Int} {b : Int} {j n : Nat} (h : j < n) : (ansL asks b n).getD j 0 = odV (asks.getD j 0) b := by simp [ansL, List.getD, h]
theorem ans_par {asks : List Int} {a b : Int} (h : ansL asks a asks.length = ansL asks b asks.length) {j : Nat} (hj : j < asks.length) : parB ((asks.getD j 0).toNat &&& a.toNat) = parB ((asks.getD j 0).toNat &&& b.toNat) := by
  have h1 := ansL_get (asks := asks) (b := a) hj
  have h2 := ansL_get (asks := asks) (b := b) hj
  rw [h, h2] at h1
  unfold odV at h1
  exact par_eq.2 (by omega)
theorem tells_odd {z : Int} {asks : List Int} {a b s : Int} (hs : tellV z asks s = true) (ha : tellE z asks a = 0) (hb : tellE z asks b = 0) (h : ansV z asks a = ansV z asks b) : popN (s.toNat &&& a.toNat) % 2 = popN (s.toNat &&& b.toNat) % 2 := by
  unfold ansV at h
  rw [if_pos ha, if_pos hb] at h
  unfold tellV at hs
  have hc : cutV (ofV asks).1 s.toNat = 0 := by
    simp only [Bool.and_eq_true, decide_eq_true_eq] at hs
    exact hs.2
  exact par_eq.1 (tells_same (fun j hj => ans_par h hj) hc)
theorem ansV_len (z : Int) {asks : List Int} (hl : asks.length ≤ 20) (b : Int) : (ansV z asks b).length ≤ 20 := by
  unfold ansV
  split
  · rw [ansL_len]; exact hl
  · simp
theorem tell_in {z : Int} {asks : List Int} {s : Int} (h : tellE z asks s = 0) : 0 ≤ s ∧ s ≤ 4095 := by
  obtain ⟨he, hm⟩ := tell_ok h
  have g := (ask_ok he).n0
  have := mask_in hm
  have := pow12 (n := z.toNat) (by omega)
  omega

end Go.Proofs.YtmeacgkhabnjlaaDoor
