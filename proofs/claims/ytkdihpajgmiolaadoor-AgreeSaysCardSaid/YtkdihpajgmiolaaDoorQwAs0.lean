/-
  WALKS of the document's answers on two that tell each other; and the plain law behind them.
-/
import Derived.Test.YtkdihpajgmiolaaDoorQwAl4
import Derived.Test.YtkdihpajgmiolaaDoorQwTb
import Derived.Test.YtkdihpajgmiolaaDoorQwR4
namespace Go.Proofs.YtkdihpajgmiolaaDoor
open Go Go.Qw
set_option maxRecDepth 10000
set_option linter.unusedSimpArgs false
set_option linter.unusedVariables false
set_option linter.unusedSectionVars false
set_option maxHeartbeats 2000000

/-! ### A fault, going on where there is none yet -/

def seqE (b : Int) (f : Nat → Int) (i : Nat) : Int := if b ≠ 0 then b else fE f i
theorem seqE_zero (b : Int) (f : Nat → Int) : b = seqE b f 0 := by unfold seqE; split <;> simp_all [fE]
theorem seqE_next {b : Int} {f : Nat → Int} {i : Nat} (h : seqE b f i = 0) : f i = seqE b f (i + 1) := by
  unfold seqE at h ⊢
  split at h
  · rename_i h1; exact absurd h h1
  · rename_i h1; rw [if_neg h1, fE, if_neg (by omega)]
theorem fE_on {f : Nat → Int} {i : Nat} (h : fE f i ≠ 0) : ∀ {n : Nat}, i ≤ n → fE f n = fE f i
  | 0, hn => by rw [show i = 0 by omega]
  | n + 1, hn => by
    by_cases hin : i = n + 1
    · rw [hin]
    · rw [fE, fE_on h (n := n) (by omega), if_pos h]
theorem seqE_end {b : Int} {f : Nat → Int} {i n : Nat} (hi : i ≤ n) (h : i = n ∨ seqE b f i ≠ 0) : seqE b f i = seqE b f n := by
  rcases h with h | h
  · rw [h]
  · unfold seqE at h ⊢
    by_cases hb : b ≠ 0
    · rw [if_pos hb, if_pos hb]
    · rw [if_neg hb] at h
      rw [if_neg hb, if_neg hb, fE_on h hi]
def badW (ws : List Int) (i : Nat) : Int := if 1 ≤ ws.getD i 0 ∧ ws.getD i 0 ≤ 50 then 0 else 1
theorem badW_all {ws : List Int} : fE (badW ws) ws.length = if ∀ j ∈ List.range ws.length, 1 ≤ ws.getD j 0 ∧ ws.getD j 0 ≤ 50 then 0 else 1 := by
  by_cases h : ∀ j ∈ List.range ws.length, 1 ≤ ws.getD j 0 ∧ ws.getD j 0 ≤ 50
  · rw [if_pos h]
    exact fE_zero fun i hi => by unfold badW; rw [if_pos (h i (List.mem_range.2 hi))]
  · rw [if_neg h]
    by_cases hz : fE (badW ws) ws.length = 0
    · exact absurd (fun i hi => by
        have := fE_of hz i (List.mem_range.1 hi)
        unfold badW at this
        split at this
        · assumption
        · cases this) h
    · have : ∀ n, fE (badW ws) n = 0 ∨ fE (badW ws) n = 1 := by
        intro n
        induction n with
        | zero => exact .inl rfl
        | succ n ih =>
          rw [fE]
          split
          · exact ih
          · unfold badW; split <;> simp
      rcases this ws.length with h1 | h1
      · exact absurd h1 hz
      · exact h1
def pairB (p q ws : List Int) (e : Int) : Int := if sevE [p, q] e = 0 ∧ ws.length ≠ p.length then 3 else sevE [p, q] e
def pairS (p q ws : List Int) (e : Int) : Int := seqE (pairB p q ws e) (badW ws) ws.length
theorem pairB_zero {p q ws : List Int} {e : Int} {g : Nat → Int} {i : Nat} (h : seqE (pairB p q ws e) g i = 0) : sevE [p, q] e = 0 ∧ ws.length = p.length := by
  unfold seqE pairB at h
  by_cases hz : sevE [p, q] e = 0
  · refine ⟨hz, ?_⟩
    by_cases hl : ws.length = p.length
    · exact hl
    · simp [hz, hl] at h
  · rw [if_pos (by rw [if_neg (fun hh => hz hh.1)]; exact hz), if_neg (fun hh => hz hh.1)] at h; exact absurd h hz
theorem pair_seq (p q ws : List Int) (e w : Int) : (if pairS p q ws e = 0 ∧ ¬(0 ≤ w ∧ w ≤ (p.length : Int) - 1) then 1 else pairS p q ws e) = pairE p q ws e w := by
  by_cases h1 : sevE [p, q] e = 0
  · by_cases h2 : ws.length = p.length
    · have hb : pairB p q ws e = 0 := by unfold pairB; rw [if_neg (fun h => h.2 h2), h1]
      have hs : pairS p q ws e = if ∀ j ∈ List.range ws.length, 1 ≤ ws.getD j 0 ∧ ws.getD j 0 ≤ 50 then 0 else 1 := by
        unfold pairS seqE
        rw [if_neg (by rw [hb]; decide), badW_all]
      have hE : pairE p q ws e w = if ∀ j ∈ List.range ws.length, 1 ≤ ws.getD j 0 ∧ ws.getD j 0 ≤ 50 then (if 0 ≤ w ∧ w ≤ (p.length : Int) - 1 then 0 else 1) else 1 := by
        unfold pairE
        rw [if_neg (fun h => h h1), if_neg (fun h => h h2)]
      rw [hE, hs]
      by_cases h3 : ∀ j ∈ List.range ws.length, 1 ≤ ws.getD j 0 ∧ ws.getD j 0 ≤ 50
      · rw [if_pos h3, if_pos h3]
        by_cases h4 : 0 ≤ w ∧ w ≤ (p.length : Int) - 1
        · rw [if_neg (fun h => h.2 h4), if_pos h4]
        · rw [if_pos ⟨rfl, h4⟩, if_neg h4]
      · rw [if_neg h3, if_neg h3, if_neg (fun h => by have := h.1; omega)]
    · have hb : pairB p q ws e = 3 := by unfold pairB; rw [if_pos ⟨h1, h2⟩]
      have hs : pairS p q ws e = 3 := by unfold pairS seqE; rw [if_pos (by rw [hb]; decide), hb]
      unfold pairE
      rw [hs, if_neg (fun h => by have := h.1; omega), if_neg (fun h => h h1), if_pos h2]
  · have hb : pairB p q ws e = sevE [p, q] e := by unfold pairB; rw [if_neg (fun h => h1 h.1)]
    have hs : pairS p q ws e = sevE [p, q] e := by unfold pairS seqE; rw [if_pos (by rw [hb]; exact h1), hb]
    unfold pairE
    rw [hs, if_neg (fun h => h1 h.1), if_pos h1]

/-! ### How sure one is, counted down -/

def evE (p ws : List Int) (e w j : Nat) : Int := sumN (fun a => if p.getD a 0 = p.getD w 0 ∧ e.testBit a = true then ws.getD a 0 else 0) j
theorem ev_yes {p ws : List Int} {e w j : Nat} (h : p.getD j 0 = p.getD w 0) (hb : e.testBit j = true) : evE p ws e w j + ws.getD j 0 = evE p ws e w (j + 1) := by unfold evE; rw [sumN, if_pos ⟨h, hb⟩]
theorem ev_no {p ws : List Int} {e w j : Nat} (h : ¬(p.getD j 0 = p.getD w 0 ∧ e.testBit j = true)) : evE p ws e w j = evE p ws e w (j + 1) := by unfold evE; rw [sumN, if_neg h, Int.add_zero]
theorem Bel.ev {p ws : List Int} (b : Bel p ws) {e w j : Nat} (hj : j ≤ p.length) : 0 ≤ evE p ws e w j ∧ evE p ws e w j ≤ massE p ws w j := by
  have h : ∀ a, a < j → 1 ≤ ws.getD a 0 := fun a ha => (b.wt.2 a (by rw [b.wl]; omega)).1
  unfold evE massE
  refine ⟨sumN_nonneg fun a ha => ?_, sumN_mono fun a ha => ?_⟩
  · have := h a ha; split <;> omega
  · have := h a ha
    by_cases hp : p.getD a 0 = p.getD w 0
    · rw [if_pos hp]; split <;> omega
    · rw [if_neg hp, if_neg fun hh => hp hh.1]; exact Int.le_refl _
theorem Bel.mass_pos {p ws : List Int} (b : Bel p ws) {w : Nat} (hw : w < p.length) : 1 ≤ massE p ws w p.length := by
  have h : ∀ a, a < p.length → 1 ≤ ws.getD a 0 := fun a ha => (b.wt.2 a (by rw [b.wl]; omega)).1
  have := sumN_ge (f := fun a => if p.getD a 0 = p.getD w 0 then ws.getD a 0 else 0) (n := p.length) (fun a ha => by have := h a ha; split <;> omega) hw
  have this : (if p.getD w 0 = p.getD w 0 then ws.getD w 0 else 0) ≤ massE p ws w p.length := this
  rw [if_pos rfl] at this
  have := h w hw
  omega
def cutD (A B : Int) (d : Nat) : Prop := ∀ c : Nat, d < c → (c : Int) ≤ B → ¬(A % (c : Int) = 0 ∧ B % (c : Int) = 0)
theorem cutD_start (A B : Int) : cutD A B B.toNat := fun c hc hB => by omega
theorem cutD_next {A B : Int} {d : Nat} (h : cutD A B d) (hn : ¬(A % (d : Int) = 0 ∧ B % (d : Int) = 0)) : cutD A B (d - 1) := fun c hc hB => by
  by_cases he : c = d
  · rw [he]; exact hn
  · exact h c (by omega) hB
theorem nat_mod {a d : Nat} (h : (a : Int) % (d : Int) = 0) : d ∣ a := Nat.dvd_of_mod_eq_zero (by rw [← Int.natCast_emod] at h; omega)
theorem mod_nat {a d : Nat} (h : d ∣ a) : (a : Int) % (d : Int) = 0 := by rw [← Int.natCast_emod, Nat.mod_eq_zero_of_dvd h]; rfl
theorem cutD_le {A B : Int} {d : Nat} (hA : 0 ≤ A) (hB : 1 ≤ B) (h : cutD A B d) : 1 ≤ Int.gcd A B ∧ Int.gcd A B ≤ d ∨ d = 0 := by
  obtain ⟨a, rfl⟩ : ∃ m : Nat, A = (m : Int) := ⟨A.toNat, by omega⟩
  obtain ⟨b, rfl⟩ : ∃ m : Nat, B = (m : Int) := ⟨B.toNat, by omega⟩
  rw [Int.gcd_natCast_natCast]
  have hg := Nat.gcd_pos_of_pos_right a (show 0 < b by omega)
  refine .inl ⟨hg, Nat.le_of_not_lt fun hlt => ?_⟩
  exact h (Nat.gcd a b) hlt (by have := Nat.le_of_dvd (show 0 < b by omega) (Nat.gcd_dvd_right a b); omega) ⟨mod_nat (Nat.gcd_dvd_left a b), mod_nat (Nat.gcd_dvd_right a b)⟩
theorem cutD_hit {A B : Int} {d : Nat} (hA : 0 ≤ A) (hB : 1 ≤ B) (h : cutD A B d) (hd : 1 ≤ d) (h1 : A % (d : Int) = 0) (h2 : B % (d : Int) = 0) : Int.gcd A B = d := by
  have hl := cutD_le hA hB h
  obtain ⟨a, rfl⟩ : ∃ m : Nat, A = (m : Int) := ⟨A.toNat, by omega⟩
  obtain ⟨b, rfl⟩ : ∃ m : Nat, B = (m : Int) := ⟨B.toNat, by omega⟩
  rw [Int.gcd_natCast_natCast] at hl ⊢
  have := Nat.le_of_dvd (Nat.gcd_pos_of_pos_right a (show 0 < b by omega)) (Nat.dvd_gcd (nat_mod h1) (nat_mod h2))
  omega
theorem cutD_one {A B : Int} {d : Nat} (hA : 0 ≤ A) (hB : 1 ≤ B) (h : cutD A B d) (hd : d = 1) : Int.gcd A B = 1 := by
  have := cutD_le hA hB h
  omega
theorem Bel.x_is {p ws : List Int} (b : Bel p ws) (e i : Nat) : xAt p ws e i = (evE p ws e i p.length / (Int.gcd (evE p ws e i p.length) (massE p ws i p.length) : Nat), massE p ws i p.length / (Int.gcd (evE p ws e i p.length) (massE p ws i p.length) : Nat)) := by
  have h12 := b.len
  unfold xAt sureV
  rw [class_e (by omega), class_w (by omega)]
  rfl
theorem Bel.x_hit {p ws : List Int} (b : Bel p ws) {e i d : Nat} (hi : i < p.length) (h : cutD (evE p ws e i p.length) (massE p ws i p.length) d) (hd : 1 ≤ d) (h1 : evE p ws e i p.length % (d : Int) = 0) (h2 : massE p ws i p.length % (d : Int) = 0) :
    xAt p ws e i = (evE p ws e i p.length / (d : Int), massE p ws i p.length / (d : Int)) := by
  have hm := b.mass_pos hi
  have hv := b.ev (e := e) (w := i) (Nat.le_refl p.length)
  rw [b.x_is, cutD_hit hv.1 hm h hd h1 h2]
theorem Bel.x_one {p ws : List Int} (b : Bel p ws) {e i d : Nat} (hi : i < p.length) (h : cutD (evE p ws e i p.length) (massE p ws i p.length) d) (hd : d = 1) :
    xAt p ws e i = (evE p ws e i p.length, massE p ws i p.length) := by
  have hm := b.mass_pos hi
  have hv := b.ev (e := e) (w := i) (Nat.le_refl p.length)
  rw [b.x_is, cutD_one hv.1 hm h hd]
  simp

/-! ### What they tell each other -/

def finG (p : List Int) (said : List (Int × Int)) (i j : Nat) : Bool := decide (p.getD i 0 = p.getD j 0) && decide (said.getD i (0, 0) = said.getD j (0, 0))
theorem finG_iff {p : List Int} {said : List (Int × Int)} {i j : Nat} : finG p said i j = true ↔ p.getD i 0 = p.getD j 0 ∧ said.getD i (0, 0) = said.getD j (0, 0) := by
  unfold finG; rw [Bool.and_eq_true, decide_eq_true_eq, decide_eq_true_eq]
theorem fin_named {p : List Int} (h12 : p.length ≤ 12) (said : List (Int × Int)) : namedR (finG p said) p.length = tellL p said :=
  (named_parts (g := finG p said) ⟨fun i _ => finG_iff.2 ⟨rfl, rfl⟩, fun i j _ _ h => by
    have h := finG_iff.1 h
    exact finG_iff.2 ⟨h.1.symm, h.2.symm⟩, fun i j k _ _ _ h h' => by
    have h := finG_iff.1 h
    have h' := finG_iff.1 h'
    exact finG_iff.2 ⟨h.1.trans h'.1, h.2.trans h'.2⟩⟩ h12).uniq (tell_parts h12 said) fun i j _ _ => finG_iff
def foursF (p q ws : List Int) (e w k m : Nat) : List (List Int) := (List.range m).map fun j => [(tkX p q ws e w (k + j)).1, (tkX p q ws e w (k + j)).2, (tkY p q ws e w (k + j)).1, (tkY p q ws e w (k + j)).2]
theorem foursF_len (p q ws : List Int) (e w k m : Nat) : (foursF p q ws e w k m).length = m := by simp [foursF]
theorem foursF_cons (p q ws : List Int) (e w k m : Nat) : [[(tkX p q ws e w k).1, (tkX p q ws e w k).2, (tkY p q ws e w k).1, (tkY p q ws e w k).2]] ++ foursF p q ws e w (k + 1) m = foursF p q ws e w k (m + 1) := by
  unfold foursF
  rw [List.range_succ_eq_map, List.map_cons, List.map_map, Nat.add_zero, List.singleton_append]
  refine congrArg _ (List.map_congr_left fun j _ => ?_)
  show _ = [(tkX p q ws e w (k + (j + 1))).1, _, _, _]
  rw [show k + 1 + j = k + (j + 1) by omega]
theorem foursF_all (p q ws : List Int) (e w m : Nat) : foursF p q ws e w 0 m = foursL p q ws e w m := by
  unfold foursF foursL
  exact List.map_congr_left fun j _ => by rw [Nat.zero_add]


theorem bandn_t {a b : Prop} [Decidable a] [Decidable b] (h : (bif decide a then !decide b else false) = true) : a ∧ ¬b := by simpa using h
theorem bandn_f {a b : Prop} [Decidable a] [Decidable b] (h : (bif decide a then !decide b else false) = false) : ¬(a ∧ ¬b) := fun hh => by simp [hh.1, hh.2] at h
theorem sameA_yes {p q ws : List Int} {e w i : Nat} (h : (sureP p ws e p.length).getD i (0, 0) = (sureP p ws e p.length).getD w (0, 0) ∧ (sureP q ws e q.length).getD i (0, 0) = (sureP q ws e q.length).getD w (0, 0)) :
    ((sameM p q ws e w i : Nat) : Int) + ((powN i : Nat) : Int) = ((sameM p q ws e w (i + 1) : Nat) : Int) := by
  rw [sameM, if_pos h, Nat.or_two_pow_eq_add_of_lt (sameM_lt p q ws e w i)]
  unfold powN; omega
theorem finG_is {p : List Int} {said : List (Int × Int)} {i j : Nat} : (bif decide (p.getD i 0 = p.getD j 0) then decide (([(said.getD i (0, 0)).1, (said.getD i (0, 0)).2] : List Int) = [(said.getD j (0, 0)).1, (said.getD j (0, 0)).2]) else false) = finG p said i j := by
  unfold finG
  rw [decide_eq_decide.2 (two_eq (said.getD i (0, 0)) (said.getD j (0, 0)))]
  cases decide (p.getD i 0 = p.getD j 0) <;> rfl

theorem rpair_fn (p q ws : List Int) (e w : Int) : LiftsD Tryd.prog 41 [.sl .int p, .sl .int q, .sl .int ws, .i e, .i w] (.i (pairE p q ws e w)) := by
  have hp12 : pairS p q ws e = 0 → p.length ≤ 12 := fun h => (partE_good ((sev_of (pairB_zero h).1).good 0 (by simp))).1
  refine LiftsD.of_body 54 [.tmp 10] Tryd.func41 rfl Tryd.ntmps41 (by kernel_rfl) rfl rfl fun w0 X0 => ?_
  refine AWPD.seq fun K1 hK1 => ?_
  -- region 0
  refine AWPD.keep [0, 1, 2, 3, 4] rfl ?_
  refine AWPD.region tabOK rfl ?_
  refine hK1 _ _ ?_
  clear hK1
  refine AWPD.seq fun K2 hK2 => ?_
  -- region 1
  refine AWPD.keep [0, 1, 2, 3, 4] rfl ?_
  refine AWPD.region tabOK rfl ?_
  refine Exists.intro _ (Exists.intro _ (And.intro (StepD.call (rsev_fn [p, q] e) rfl rfl rfl) (And.intro rfl (And.intro trivial ?_))))
  refine hK2 _ _ ?_
  clear hK2
  refine AWPD.seq fun K3 hK3 => ?_
  refine AWPD.seq fun K4 hK4 => ?_
  -- region 2
  refine AWPD.keep [0, 2, 4, 11] rfl ?_
  refine AWPD.region tabOK rfl ?_
  repeat refine And.intro (by first | (intro hc; have := hp12 (by simpa using hc); omega) | (intro hc; have := hp12 (by rw [← hps]; simpa using hc); omega) | exact fun h => h | exact fun _ => rfl | (intro h; rw [h]; rfl) | omega | (intros; (try dsimp only [Ty.T, Ty.size]); (try simp only [castL_self, Int.toNat_natCast, Int.toNat_zero, Int.toNat_one, true_and, List.length_append, List.length_set, List.length_drop, List.length_take, List.length_replicate, List.length_cons, List.length_nil, Nat.zero_add, Nat.mul_one]); omega) | decide | (intros; simp_all; done) | (intros; simp_all; omega)) ?_
  refine hK4 _ _ ?_
  clear hK4
  first | refine AWPD.condAP rfl (fun h0 => ?_) (fun h0 => ?_)
  · try dsimp only [Ty.T] at h0
    try simp only [castL_self] at h0
    try simp only [Int.toNat_natCast] at h0
    try simp only [Int.toNat_zero] at h0
    have hb : (3 : Int) = pairB p q ws e := by unfold pairB; rw [if_pos (by omega)]
    -- region 3
    refine AWPD.keep [0, 2, 4] rfl ?_
    refine AWPD.region tabOK rfl ?_
    refine hK3 _ _ ?_
    clear hK3
    refine AWPD.seq fun K5 hK5 => ?_
    refine AWPD.seq fun K6 hK6 => ?_
    -- region 4
    refine AWPD.keep [0, 2, 4, 11] rfl ?_
    refine AWPD.region tabOK rfl ?_
    refine hK6 _ _ ?_
    clear hK6
    refine AWPD.block ?_
    -- LOOP 0 live [0, 2, 4, 11, 12] changed [11, 12]
    refine AWPD.loopK (σ := Nat) [0, 2, 4] (fun i base => (11, .i (seqE (pairB p q ws e) (badW ws) i)) :: (12, .i (i : Int)) :: base) (fun _ => []) (fun n i => n + i = ws.length) (ws.length) 0 [] rfl rfl (by omega) (by decide) trivial (by repeat' first | (show (3 : Int) = _; rw [hb]; exact seqE_zero _ _) | (show sevE [p, q] e = _; rw [hb]; exact seqE_zero _ _) | exact True.intro | exact rfl | exact ⟨rfl, rfl⟩ | refine And.intro ?_ ?_) fun n0 i hI0 => ?_
    have hn0 := hI0
    refine AWPD.seq fun K7 hK7 => ?_
    refine AWPD.seq fun K8 hK8 => ?_
    -- region 5
    refine AWPD.keep [0, 2, 4, 11, 12] rfl ?_
    refine AWPD.region tabOK rfl ?_
    repeat refine And.intro (by first | (intro hc; have := hp12 (by simpa using hc); omega) | (intro hc; have := hp12 (by rw [← hps]; simpa using hc); omega) | exact fun h => h | exact fun _ => rfl | (intro h; rw [h]; rfl) | omega | (intros; (try dsimp only [Ty.T, Ty.size]); (try simp only [castL_self, Int.toNat_natCast, Int.toNat_zero, Int.toNat_one, true_and, List.length_append, List.length_set, List.length_drop, List.length_take, List.length_replicate, List.length_cons, List.length_nil, Nat.zero_add, Nat.mul_one]); omega) | decide | (intros; simp_all; done) | (intros; simp_all; omega)) ?_
    refine hK8 _ _ ?_
    clear hK8
    first | refine AWPD.condAP rfl (fun h1 => ?_) (fun h1 => ?_)
    · try dsimp only [Ty.T] at h1
      try simp only [castL_self] at h1
      try simp only [Int.toNat_natCast] at h1
      try simp only [Int.toNat_zero] at h1
      have hpz := pairB_zero h1.2
      have hp1 : p.length ≤ 12 := (partE_good ((sev_of hpz.1).good 0 (by simp))).1
      refine AWPD.skip ?_
      refine hK7 _ _ ?_
      clear hK7
      refine AWPD.seq fun K9 hK9 => ?_
      refine AWPD.block ?_
      refine AWPD.seq fun K10 hK10 => ?_
      -- region 7
      refine AWPD.keep [0, 2, 4, 11, 12] rfl ?_
      refine AWPD.region tabOK rfl ?_
      repeat refine And.intro (by first | (intro hc; have := hp12 (by simpa using hc); omega) | (intro hc; have := hp12 (by rw [← hps]; simpa using hc); omega) | exact fun h => h | exact fun _ => rfl | (intro h; rw [h]; rfl) | omega | (intros; (try dsimp only [Ty.T, Ty.size]); (try simp only [castL_self, Int.toNat_natCast, Int.toNat_zero, Int.toNat_one, true_and, List.length_append, List.length_set, List.length_drop, List.length_take, List.length_replicate, List.length_cons, List.length_nil, Nat.zero_add, Nat.mul_one]); omega) | decide | (intros; simp_all; done) | (intros; simp_all; omega)) ?_
      refine Exists.intro _ (Exists.intro _ (And.intro (StepD.call (in4_fn _ _ _) rfl rfl rfl) (And.intro rfl (And.intro trivial ?_))))
      refine hK10 _ _ ?_
      clear hK10
      first | refine AWPD.condP rfl (fun h2 => ?_) (fun h2 => ?_) | refine AWPD.condN rfl (fun h2 => ?_) (fun h2 => ?_) | refine AWPD.condAP rfl (fun h2 => ?_) (fun h2 => ?_) | refine AWPD.condOP rfl (fun h2 => ?_) (fun h2 => ?_) | refine AWPD.condONN rfl (fun h2 => ?_) (fun h2 => ?_) | refine AWPD.condOPN rfl (fun h2 => ?_) (fun h2 => ?_) | refine AWPD.condA rfl (fun h2 => ?_) (fun h2 => ?_) | refine AWPD.condO rfl (fun h2 => ?_) (fun h2 => ?_) | refine AWPD.cond rfl (fun h2 => ?_) (fun h2 => ?_)
      · try dsimp only [Ty.T] at h2
        try simp only [castL_self] at h2
        try simp only [Int.toNat_natCast] at h2
        try simp only [Int.toNat_zero] at h2
        have hbd : (1 : Int) = badW ws i := by unfold badW; rw [if_neg h2]
        -- region 8
        refine AWPD.keep [0, 2, 4, 12] rfl ?_
        refine AWPD.region tabOK rfl ?_
        refine hK9 _ _ ?_
        clear hK9
        -- region 6
        refine AWPD.keep [0, 2, 4, 11, 12] rfl ?_
        refine AWPD.region tabOK rfl ?_
        repeat refine And.intro (by first | (intro hc; have := hp12 (by simpa using hc); omega) | (intro hc; have := hp12 (by rw [← hps]; simpa using hc); omega) | exact fun h => h | exact fun _ => rfl | (intro h; rw [h]; rfl) | omega | (intros; (try dsimp only [Ty.T, Ty.size]); (try simp only [castL_self, Int.toNat_natCast, Int.toNat_zero, Int.toNat_one, true_and, List.length_append, List.length_set, List.length_drop, List.length_take, List.length_replicate, List.length_cons, List.length_nil, Nat.zero_add, Nat.mul_one]); omega) | decide | (intros; simp_all; done) | (intros; simp_all; omega)) ?_
        refine ⟨n0 - 1, i + 1, [], by omega, by omega, ⟨by decide, rfl⟩, trivial, ?_⟩
        repeat' first | (show (1 : Int) = _; rw [hbd]; exact seqE_next h1.2) | (show seqE (pairB p q ws e) (badW ws) i = _; rw [h1.2, hbd]; exact seqE_next h1.2) | exact True.intro | exact rfl | exact ⟨rfl, rfl⟩ | refine And.intro ?_ ?_
      · try dsimp only [Ty.T] at h2
        try simp only [castL_self] at h2
        try simp only [Int.toNat_natCast] at h2
        try simp only [Int.toNat_zero] at h2
        have hbd : (0 : Int) = badW ws i := by unfold badW; rw [if_pos h2]
        refine AWPD.skip ?_
        refine hK9 _ _ ?_
        clear hK9
        -- region 6
        refine AWPD.keep [0, 2, 4, 11, 12] rfl ?_
        refine AWPD.region tabOK rfl ?_
        repeat refine And.intro (by first | (intro hc; have := hp12 (by simpa using hc); omega) | (intro hc; have := hp12 (by rw [← hps]; simpa using hc); omega) | exact fun h => h | exact fun _ => rfl | (intro h; rw [h]; rfl) | omega | (intros; (try dsimp only [Ty.T, Ty.size]); (try simp only [castL_self, Int.toNat_natCast, Int.toNat_zero, Int.toNat_one, true_and, List.length_append, List.length_set, List.length_drop, List.length_take, List.length_replicate, List.length_cons, List.length_nil, Nat.zero_add, Nat.mul_one]); omega) | decide | (intros; simp_all; done) | (intros; simp_all; omega)) ?_
        refine ⟨n0 - 1, i + 1, [], by omega, by omega, ⟨by decide, rfl⟩, trivial, ?_⟩
        repeat' first | (show (1 : Int) = _; rw [hbd]; exact seqE_next h1.2) | (show seqE (pairB p q ws e) (badW ws) i = _; rw [h1.2, hbd]; exact seqE_next h1.2) | exact True.intro | exact rfl | exact ⟨rfl, rfl⟩ | refine And.intro ?_ ?_
    · try dsimp only [Ty.T] at h1
      try simp only [castL_self] at h1
      try simp only [Int.toNat_natCast] at h1
      try simp only [Int.toNat_zero] at h1
      have he := seqE_end (b := pairB p q ws e) (f := badW ws) (i := i) (n := ws.length) (by omega) (by omega)
      have hps : pairS p q ws e = seqE (pairB p q ws e) (badW ws) i := he.symm
      refine AWPD.exit ?_
      refine hK5 _ _ ?_
      clear hK5
      refine AWPD.seq fun K11 hK11 => ?_
      refine AWPD.seq fun K12 hK12 => ?_
      -- region 9
      rw [← hps]
      refine AWPD.keep [0, 4, 11] rfl ?_
      refine AWPD.region tabOK rfl ?_
      repeat refine And.intro (by first | (intro hc; have := hp12 (by simpa using hc); omega) | (intro hc; have := hp12 (by rw [← hps]; simpa using hc); omega) | exact fun h => h | exact fun _ => rfl | (intro h; rw [h]; rfl) | omega | (intros; (try dsimp only [Ty.T, Ty.size]); (try simp only [castL_self, Int.toNat_natCast, Int.toNat_zero, Int.toNat_one, true_and, List.length_append, List.length_set, List.length_drop, List.length_take, List.length_replicate, List.length_cons, List.length_nil, Nat.zero_add, Nat.mul_one]); omega) | decide | (intros; simp_all; done) | (intros; simp_all; omega)) ?_
      refine Exists.intro _ (Exists.intro _ (And.intro (fun hg => StepD.call (in4_fn _ _ _) rfl rfl rfl) (And.intro (fun hf => rfl) (And.intro rfl (And.intro trivial ?_)))))
      repeat refine And.intro (by first | (intro hc; have := hp12 (by simpa using hc); omega) | (intro hc; have := hp12 (by rw [← hps]; simpa using hc); omega) | exact fun h => h | exact fun _ => rfl | (intro h; rw [h]; rfl) | omega | (intros; (try dsimp only [Ty.T, Ty.size]); (try simp only [castL_self, Int.toNat_natCast, Int.toNat_zero, Int.toNat_one, true_and, List.length_append, List.length_set, List.length_drop, List.length_take, List.length_replicate, List.length_cons, List.length_nil, Nat.zero_add, Nat.mul_one]); omega) | decide | (intros; simp_all; done) | (intros; simp_all; omega)) ?_
      refine hK12 _ _ ?_
      clear hK12
      first | refine AWPD.cond rfl (fun h3 => ?_) (fun h3 => ?_)
      · try dsimp only [Ty.T] at h3
        try simp only [castL_self] at h3
        try simp only [Int.toNat_natCast] at h3
        try simp only [Int.toNat_zero] at h3
        have h3 := bandn_t h3
        -- region 10
        refine AWPD.keep [] rfl ?_
        refine AWPD.region tabOK rfl ?_
        refine hK11 _ _ ?_
        clear hK11
        refine AWPD.seq fun K13 hK13 => ?_
        -- region 11
        refine AWPD.keep [11] rfl ?_
        refine AWPD.region tabOK rfl ?_
        refine hK13 _ _ ?_
        clear hK13
        refine AWPD.ret (And.intro (.inl rfl) ?_)
        -- result 0
        refine RetD.one ?_
        exact fitI rfl (by rw [← pair_seq p q ws e w, if_pos h3])
      · try dsimp only [Ty.T] at h3
        try simp only [castL_self] at h3
        try simp only [Int.toNat_natCast] at h3
        try simp only [Int.toNat_zero] at h3
        have h3 := bandn_f h3
        refine AWPD.skip ?_
        refine hK11 _ _ ?_
        clear hK11
        refine AWPD.seq fun K14 hK14 => ?_
        -- region 11
        refine AWPD.keep [11] rfl ?_
        refine AWPD.region tabOK rfl ?_
        refine hK14 _ _ ?_
        clear hK14
        refine AWPD.ret (And.intro (.inl rfl) ?_)
        -- result 1
        refine RetD.one ?_
        exact fitI rfl (by rw [← pair_seq p q ws e w, if_neg h3])
  · try dsimp only [Ty.T] at h0
    try simp only [castL_self] at h0
    try simp only [Int.toNat_natCast] at h0
    try simp only [Int.toNat_zero] at h0
    have hb : sevE [p, q] e = pairB p q ws e := by unfold pairB; rw [if_neg (by omega)]
    refine AWPD.skip ?_
    refine hK3 _ _ ?_
    clear hK3
    refine AWPD.seq fun K15 hK15 => ?_
    refine AWPD.seq fun K16 hK16 => ?_
    -- region 4
    refine AWPD.keep [0, 2, 4, 11] rfl ?_
    refine AWPD.region tabOK rfl ?_
    refine hK16 _ _ ?_
    clear hK16
    refine AWPD.block ?_
    -- LOOP 0 live [0, 2, 4, 11, 12] changed [11, 12]
    refine AWPD.loopK (σ := Nat) [0, 2, 4] (fun i base => (11, .i (seqE (pairB p q ws e) (badW ws) i)) :: (12, .i (i : Int)) :: base) (fun _ => []) (fun n i => n + i = ws.length) (ws.length) 0 [] rfl rfl (by omega) (by decide) trivial (by repeat' first | (show (3 : Int) = _; rw [hb]; exact seqE_zero _ _) | (show sevE [p, q] e = _; rw [hb]; exact seqE_zero _ _) | exact True.intro | exact rfl | exact ⟨rfl, rfl⟩ | refine And.intro ?_ ?_) fun n0 i hI0 => ?_
    have hn0 := hI0
    refine AWPD.seq fun K17 hK17 => ?_
    refine AWPD.seq fun K18 hK18 => ?_
    -- region 5
    refine AWPD.keep [0, 2, 4, 11, 12] rfl ?_
    refine AWPD.region tabOK rfl ?_
    repeat refine And.intro (by first | (intro hc; have := hp12 (by simpa using hc); omega) | (intro hc; have := hp12 (by rw [← hps]; simpa using hc); omega) | exact fun h => h | exact fun _ => rfl | (intro h; rw [h]; rfl) | omega | (intros; (try dsimp only [Ty.T, Ty.size]); (try simp only [castL_self, Int.toNat_natCast, Int.toNat_zero, Int.toNat_one, true_and, List.length_append, List.length_set, List.length_drop, List.length_take, List.length_replicate, List.length_cons, List.length_nil, Nat.zero_add, Nat.mul_one]); omega) | decide | (intros; simp_all; done) | (intros; simp_all; omega)) ?_
    refine hK18 _ _ ?_
    clear hK18
    first | refine AWPD.condAP rfl (fun h1 => ?_) (fun h1 => ?_)
    · try dsimp only [Ty.T] at h1
      try simp only [castL_self] at h1
      try simp only [Int.toNat_natCast] at h1
      try simp only [Int.toNat_zero] at h1
      have hpz := pairB_zero h1.2
      have hp1 : p.length ≤ 12 := (partE_good ((sev_of hpz.1).good 0 (by simp))).1
      refine AWPD.skip ?_
      refine hK17 _ _ ?_
      clear hK17
      refine AWPD.seq fun K19 hK19 => ?_
      refine AWPD.block ?_
      refine AWPD.seq fun K20 hK20 => ?_
      -- region 7
      refine AWPD.keep [0, 2, 4, 11, 12] rfl ?_
      refine AWPD.region tabOK rfl ?_
      repeat refine And.intro (by first | (intro hc; have := hp12 (by simpa using hc); omega) | (intro hc; have := hp12 (by rw [← hps]; simpa using hc); omega) | exact fun h => h | exact fun _ => rfl | (intro h; rw [h]; rfl) | omega | (intros; (try dsimp only [Ty.T, Ty.size]); (try simp only [castL_self, Int.toNat_natCast, Int.toNat_zero, Int.toNat_one, true_and, List.length_append, List.length_set, List.length_drop, List.length_take, List.length_replicate, List.length_cons, List.length_nil, Nat.zero_add, Nat.mul_one]); omega) | decide | (intros; simp_all; done) | (intros; simp_all; omega)) ?_
      refine Exists.intro _ (Exists.intro _ (And.intro (StepD.call (in4_fn _ _ _) rfl rfl rfl) (And.intro rfl (And.intro trivial ?_))))
      refine hK20 _ _ ?_
      clear hK20
      first | refine AWPD.condP rfl (fun h2 => ?_) (fun h2 => ?_) | refine AWPD.condN rfl (fun h2 => ?_) (fun h2 => ?_) | refine AWPD.condAP rfl (fun h2 => ?_) (fun h2 => ?_) | refine AWPD.condOP rfl (fun h2 => ?_) (fun h2 => ?_) | refine AWPD.condONN rfl (fun h2 => ?_) (fun h2 => ?_) | refine AWPD.condOPN rfl (fun h2 => ?_) (fun h2 => ?_) | refine AWPD.condA rfl (fun h2 => ?_) (fun h2 => ?_) | refine AWPD.condO rfl (fun h2 => ?_) (fun h2 => ?_) | refine AWPD.cond rfl (fun h2 => ?_) (fun h2 => ?_)
      · try dsimp only [Ty.T] at h2
        try simp only [castL_self] at h2
        try simp only [Int.toNat_natCast] at h2
        try simp only [Int.toNat_zero] at h2
        have hbd : (1 : Int) = badW ws i := by unfold badW; rw [if_neg h2]
        -- region 8
        refine AWPD.keep [0, 2, 4, 12] rfl ?_
        refine AWPD.region tabOK rfl ?_
        refine hK19 _ _ ?_
        clear hK19
        -- region 6
        refine AWPD.keep [0, 2, 4, 11, 12] rfl ?_
        refine AWPD.region tabOK rfl ?_
        repeat refine And.intro (by first | (intro hc; have := hp12 (by simpa using hc); omega) | (intro hc; have := hp12 (by rw [← hps]; simpa using hc); omega) | exact fun h => h | exact fun _ => rfl | (intro h; rw [h]; rfl) | omega | (intros; (try dsimp only [Ty.T, Ty.size]); (try simp only [castL_self, Int.toNat_natCast, Int.toNat_zero, Int.toNat_one, true_and, List.length_append, List.length_set, List.length_drop, List.length_take, List.length_replicate, List.length_cons, List.length_nil, Nat.zero_add, Nat.mul_one]); omega) | decide | (intros; simp_all; done) | (intros; simp_all; omega)) ?_
        refine ⟨n0 - 1, i + 1, [], by omega, by omega, ⟨by decide, rfl⟩, trivial, ?_⟩
        repeat' first | (show (1 : Int) = _; rw [hbd]; exact seqE_next h1.2) | (show seqE (pairB p q ws e) (badW ws) i = _; rw [h1.2, hbd]; exact seqE_next h1.2) | exact True.intro | exact rfl | exact ⟨rfl, rfl⟩ | refine And.intro ?_ ?_
      · try dsimp only [Ty.T] at h2
        try simp only [castL_self] at h2
        try simp only [Int.toNat_natCast] at h2
        try simp only [Int.toNat_zero] at h2
        have hbd : (0 : Int) = badW ws i := by unfold badW; rw [if_pos h2]
        refine AWPD.skip ?_
        refine hK19 _ _ ?_
        clear hK19
        -- region 6
        refine AWPD.keep [0, 2, 4, 11, 12] rfl ?_
        refine AWPD.region tabOK rfl ?_
        repeat refine And.intro (by first | (intro hc; have := hp12 (by simpa using hc); omega) | (intro hc; have := hp12 (by rw [← hps]; simpa using hc); omega) | exact fun h => h | exact fun _ => rfl | (intro h; rw [h]; rfl) | omega | (intros; (try dsimp only [Ty.T, Ty.size]); (try simp only [castL_self, Int.toNat_natCast, Int.toNat_zero, Int.toNat_one, true_and, List.length_append, List.length_set, List.length_drop, List.length_take, List.length_replicate, List.length_cons, List.length_nil, Nat.zero_add, Nat.mul_one]); omega) | decide | (intros; simp_all; done) | (intros; simp_all; omega)) ?_
        refine ⟨n0 - 1, i + 1, [], by omega, by omega, ⟨by decide, rfl⟩, trivial, ?_⟩
        repeat' first | (show (1 : Int) = _; rw [hbd]; exact seqE_next h1.2) | (show seqE (pairB p q ws e) (badW ws) i = _; rw [h1.2, hbd]; exact seqE_next h1.2) | exact True.intro | exact rfl | exact ⟨rfl, rfl⟩ | refine And.intro ?_ ?_
    · try dsimp only [Ty.T] at h1
      try simp only [castL_self] at h1
      try simp only [Int.toNat_natCast] at h1
      try simp only [Int.toNat_zero] at h1
      have he := seqE_end (b := pairB p q ws e) (f := badW ws) (i := i) (n := ws.length) (by omega) (by omega)
      have hps : pairS p q ws e = seqE (pairB p q ws e) (badW ws) i := he.symm
      refine AWPD.exit ?_
      refine hK15 _ _ ?_
      clear hK15
      refine AWPD.seq fun K21 hK21 => ?_
      refine AWPD.seq fun K22 hK22 => ?_
      -- region 9
      rw [← hps]
      refine AWPD.keep [0, 4, 11] rfl ?_
      refine AWPD.region tabOK rfl ?_
      repeat refine And.intro (by first | (intro hc; have := hp12 (by simpa using hc); omega) | (intro hc; have := hp12 (by rw [← hps]; simpa using hc); omega) | exact fun h => h | exact fun _ => rfl | (intro h; rw [h]; rfl) | omega | (intros; (try dsimp only [Ty.T, Ty.size]); (try simp only [castL_self, Int.toNat_natCast, Int.toNat_zero, Int.toNat_one, true_and, List.length_append, List.length_set, List.length_drop, List.length_take, List.length_replicate, List.length_cons, List.length_nil, Nat.zero_add, Nat.mul_one]); omega) | decide | (intros; simp_all; done) | (intros; simp_all; omega)) ?_
      refine Exists.intro _ (Exists.intro _ (And.intro (fun hg => StepD.call (in4_fn _ _ _) rfl rfl rfl) (And.intro (fun hf => rfl) (And.intro rfl (And.intro trivial ?_)))))
      repeat refine And.intro (by first | (intro hc; have := hp12 (by simpa using hc); omega) | (intro hc; have := hp12 (by rw [← hps]; simpa using hc); omega) | exact fun h => h | exact fun _ => rfl | (intro h; rw [h]; rfl) | omega | (intros; (try dsimp only [Ty.T, Ty.size]); (try simp only [castL_self, Int.toNat_natCast, Int.toNat_zero, Int.toNat_one, true_and, List.length_append, List.length_set, List.length_drop, List.length_take, List.length_replicate, List.length_cons, List.length_nil, Nat.zero_add, Nat.mul_one]); omega) | decide | (intros; simp_all; done) | (intros; simp_all; omega)) ?_
      refine hK22 _ _ ?_
      clear hK22
      first | refine AWPD.cond rfl (fun h3 => ?_) (fun h3 => ?_)
      · try dsimp only [Ty.T] at h3
        try simp only [castL_self] at h3
        try simp only [Int.toNat_natCast] at h3
        try simp only [Int.toNat_zero] at h3
        have h3 := bandn_t h3
        -- region 10
        refine AWPD.keep [] rfl ?_
        refine AWPD.region tabOK rfl ?_
        refine hK21 _ _ ?_
        clear hK21
        refine AWPD.seq fun K23 hK23 => ?_
        -- region 11
        refine AWPD.keep [11] rfl ?_
        refine AWPD.region tabOK rfl ?_
        refine hK23 _ _ ?_
        clear hK23
        refine AWPD.ret (And.intro (.inl rfl) ?_)
        -- result 2
        refine RetD.one ?_
        exact fitI rfl (by rw [← pair_seq p q ws e w, if_pos h3])
      · try dsimp only [Ty.T] at h3
        try simp only [castL_self] at h3
        try simp only [Int.toNat_natCast] at h3
        try simp only [Int.toNat_zero] at h3
        have h3 := bandn_f h3
        refine AWPD.skip ?_
        refine hK21 _ _ ?_
        clear hK21
        refine AWPD.seq fun K24 hK24 => ?_
        -- region 11
        refine AWPD.keep [11] rfl ?_
        refine AWPD.region tabOK rfl ?_
        refine hK24 _ _ ?_
        clear hK24
        refine AWPD.ret (And.intro (.inl rfl) ?_)
        -- result 3
        refine RetD.one ?_
        exact fitI rfl (by rw [← pair_seq p q ws e w, if_neg h3])
theorem rsure_fn (p ws : List Int) (e : Int) (w : Nat) (b : Bel p ws) (he : 0 ≤ e ∧ e ≤ 4095) (hw : w < p.length) : LiftsG Tryd.prog tabG 43 [.sl .int p, .sl .int ws, .i e, .i (w : Int)] (.agg [.i (xAt p ws e.toNat w).1, .i (xAt p ws e.toNat w).2]) := by
  have h12 := b.len
  have hwl := b.wl
  have hmp := b.mass_pos hw
  have hme := b.mass (i := w) (Nat.le_refl p.length)
  have hee := b.ev (e := e.toNat) (w := w) (Nat.le_refl p.length)
  refine LiftsG.of_bodyW 68 [.cell 8 24] Tryd.func43 rfl Tryd.ntmps43 (by kernel_rfl) rfl rfl fun w0 X0 hG0 => ?_
  refine AWPD.seq fun K1 hK1 => ?_
  -- region 0
  refine AWPD.keep [0, 1, 2, 3] rfl ?_
  refine AWPD.region tabOK rfl ?_
  refine hK1 _ _ ?_
  clear hK1
  refine AWPD.seq fun K2 hK2 => ?_
  -- region 1
  refine AWPD.keep [0, 1, 2, 3, 8] rfl ?_
  refine AWPD.region tabOK rfl ?_
  refine hK2 _ _ ?_
  clear hK2
  refine AWPD.seq fun K3 hK3 => ?_
  -- region 2
  refine AWPD.keep [0, 1, 2, 3, 8, 9] rfl ?_
  refine AWPD.region tabOK rfl ?_
  refine hK3 _ _ ?_
  clear hK3
  refine AWPD.seq fun K4 hK4 => ?_
  refine AWPD.seq fun K5 hK5 => ?_
  -- region 3
  refine AWPD.keep [0, 1, 2, 3, 8, 9, 10] rfl ?_
  refine AWPD.region tabOK rfl ?_
  refine hK5 _ _ ?_
  clear hK5
  refine AWPD.block ?_
  -- LOOP 0 live [0, 1, 2, 3, 8, 9, 10, 11] changed [9, 10, 11]
  refine AWPD.loopK (σ := Nat) [0, 1, 2, 3] (fun i base => (8, .op 0 0) :: (9, .i (evE p ws e.toNat w i)) :: (10, .i (massE p ws w i)) :: (11, .i (i : Int)) :: base) (fun i => [.arr 24 .int [0, 0]]) (fun n i => n + i = p.length) (p.length) 0 [0] rfl rfl (by omega) (by decide) ⟨⟨rfl, rfl, rfl⟩, trivial⟩ (by repeat' first | exact True.intro | exact rfl | exact ⟨rfl, rfl⟩ | refine And.intro ?_ ?_) fun n0 i hI0 => ?_
  have hn0 := hI0
  have hma := b.mass (i := w) (j := i) (by omega)
  have hev := b.ev (e := e.toNat) (w := w) (j := i) (by omega)
  refine AWPD.seq fun K6 hK6 => ?_
  refine AWPD.seq fun K7 hK7 => ?_
  -- region 4
  refine AWPD.keep [0, 1, 2, 3, 8, 9, 10, 11] rfl ?_
  refine AWPD.region tabOK rfl ?_
  refine hK7 _ _ ?_
  clear hK7
  first | refine AWPD.condP rfl (fun h0 => ?_) (fun h0 => ?_) | refine AWPD.condN rfl (fun h0 => ?_) (fun h0 => ?_) | refine AWPD.condAP rfl (fun h0 => ?_) (fun h0 => ?_) | refine AWPD.condOP rfl (fun h0 => ?_) (fun h0 => ?_) | refine AWPD.condONN rfl (fun h0 => ?_) (fun h0 => ?_) | refine AWPD.condOPN rfl (fun h0 => ?_) (fun h0 => ?_) | refine AWPD.condA rfl (fun h0 => ?_) (fun h0 => ?_) | refine AWPD.condO rfl (fun h0 => ?_) (fun h0 => ?_) | refine AWPD.cond rfl (fun h0 => ?_) (fun h0 => ?_)
  · try dsimp only [Ty.T] at h0
    try simp only [castL_self] at h0
    try simp only [Int.toNat_natCast] at h0
    try simp only [Int.toNat_zero] at h0
    have hil : i < p.length := by omega
    have hwi := b.wt.2 i (by omega)
    refine AWPD.skip ?_
    refine hK6 _ _ ?_
    clear hK6
    refine AWPD.seq fun K8 hK8 => ?_
    refine AWPD.block ?_
    refine AWPD.seq fun K9 hK9 => ?_
    -- region 6
    refine AWPD.keep [0, 1, 2, 3, 8, 9, 10, 11] rfl ?_
    refine AWPD.draw tabOK [] rfl (by kernel_rfl) ?_
    repeat refine And.intro (by first | exact fun h => h | exact fun _ => rfl | (intro h; rw [h]; rfl) | omega | (intros; (try dsimp only [Ty.T, Ty.size]); (try simp only [castL_self, Int.toNat_natCast, Int.toNat_zero, Int.toNat_one, true_and, List.length_append, List.length_set, List.length_drop, List.length_take, List.length_replicate, List.length_cons, List.length_nil, Nat.zero_add, Nat.mul_one]); omega) | decide | (intros; simp_all; done) | (intros; simp_all; omega)) ?_
    refine hK9 _ _ ?_
    clear hK9
    first | refine AWPD.condP rfl (fun h1 => ?_) (fun h1 => ?_)
    · try dsimp only [Ty.T] at h1
      try simp only [castL_self] at h1
      try simp only [Int.toNat_natCast] at h1
      try simp only [Int.toNat_zero] at h1
      refine AWPD.seq fun K10 hK10 => ?_
      -- region 7
      refine AWPD.keep [0, 1, 2, 3, 8, 9, 10, 11] rfl ?_
      refine AWPD.region tabOK rfl ?_
      repeat refine And.intro (by first | exact fun h => h | exact fun _ => rfl | (intro h; rw [h]; rfl) | omega | (intros; (try dsimp only [Ty.T, Ty.size]); (try simp only [castL_self, Int.toNat_natCast, Int.toNat_zero, Int.toNat_one, true_and, List.length_append, List.length_set, List.length_drop, List.length_take, List.length_replicate, List.length_cons, List.length_nil, Nat.zero_add, Nat.mul_one]); omega) | decide | (intros; simp_all; done) | (intros; simp_all; omega)) ?_
      refine hK10 _ _ ?_
      clear hK10
      refine AWPD.seq fun K11 hK11 => ?_
      -- region 8
      refine AWPD.keep [0, 1, 2, 3, 8, 9, 10, 11] rfl ?_
      refine AWPD.region tabOK rfl ?_
      refine Exists.intro _ (Exists.intro _ (And.intro (StepD.call (bit_fn e (i : Int) (by omega) (by omega)) rfl rfl rfl) (And.intro rfl (And.intro trivial ?_))))
      refine hK11 _ _ ?_
      clear hK11
      first | refine AWPD.cond rfl (fun h2 => ?_) (fun h2 => ?_)
      · try dsimp only [Ty.T] at h2
        try simp only [castL_self] at h2
        try simp only [Int.toNat_natCast] at h2
        try simp only [Int.toNat_zero] at h2
        have h2 : e.toNat.testBit i = true := h2
        -- region 9
        refine AWPD.keep [0, 1, 2, 3, 8, 9, 10, 11] rfl ?_
        refine AWPD.region tabOK rfl ?_
        repeat refine And.intro (by first | exact fun h => h | exact fun _ => rfl | (intro h; rw [h]; rfl) | omega | (intros; (try dsimp only [Ty.T, Ty.size]); (try simp only [castL_self, Int.toNat_natCast, Int.toNat_zero, Int.toNat_one, true_and, List.length_append, List.length_set, List.length_drop, List.length_take, List.length_replicate, List.length_cons, List.length_nil, Nat.zero_add, Nat.mul_one]); omega) | decide | (intros; simp_all; done) | (intros; simp_all; omega)) ?_
        refine hK8 _ _ ?_
        clear hK8
        -- region 5
        refine AWPD.keep [0, 1, 2, 3, 8, 9, 10, 11] rfl ?_
        refine AWPD.region tabOK rfl ?_
        repeat refine And.intro (by first | exact fun h => h | exact fun _ => rfl | (intro h; rw [h]; rfl) | omega | (intros; (try dsimp only [Ty.T, Ty.size]); (try simp only [castL_self, Int.toNat_natCast, Int.toNat_zero, Int.toNat_one, true_and, List.length_append, List.length_set, List.length_drop, List.length_take, List.length_replicate, List.length_cons, List.length_nil, Nat.zero_add, Nat.mul_one]); omega) | decide | (intros; simp_all; done) | (intros; simp_all; omega)) ?_
        refine ⟨n0 - 1, i + 1, [0], by omega, by omega, ⟨by decide, rfl⟩, ⟨⟨rfl, rfl, rfl⟩, trivial⟩, ?_⟩
        repeat' first | exact ev_yes h1 h2 | exact ev_no fun hh => h2n hh.2 | exact ev_no fun hh => h1 hh.1 | exact mass_yes h1 | exact mass_no h1 | exact True.intro | exact rfl | exact ⟨rfl, rfl⟩ | refine And.intro ?_ ?_
      · try dsimp only [Ty.T] at h2
        try simp only [castL_self] at h2
        try simp only [Int.toNat_natCast] at h2
        try simp only [Int.toNat_zero] at h2
        have h2n : ¬e.toNat.testBit i = true := by rw [show e.toNat.testBit i = false from h2]; decide
        refine AWPD.skip ?_
        refine hK8 _ _ ?_
        clear hK8
        -- region 5
        refine AWPD.keep [0, 1, 2, 3, 8, 9, 10, 11] rfl ?_
        refine AWPD.region tabOK rfl ?_
        repeat refine And.intro (by first | exact fun h => h | exact fun _ => rfl | (intro h; rw [h]; rfl) | omega | (intros; (try dsimp only [Ty.T, Ty.size]); (try simp only [castL_self, Int.toNat_natCast, Int.toNat_zero, Int.toNat_one, true_and, List.length_append, List.length_set, List.length_drop, List.length_take, List.length_replicate, List.length_cons, List.length_nil, Nat.zero_add, Nat.mul_one]); omega) | decide | (intros; simp_all; done) | (intros; simp_all; omega)) ?_
        refine ⟨n0 - 1, i + 1, [0], by omega, by omega, ⟨by decide, rfl⟩, ⟨⟨rfl, rfl, rfl⟩, trivial⟩, ?_⟩
        repeat' first | exact ev_yes h1 h2 | exact ev_no fun hh => h2n hh.2 | exact ev_no fun hh => h1 hh.1 | exact mass_yes h1 | exact mass_no h1 | exact True.intro | exact rfl | exact ⟨rfl, rfl⟩ | refine And.intro ?_ ?_
    · try dsimp only [Ty.T] at h1
      try simp only [castL_self] at h1
      try simp only [Int.toNat_natCast] at h1
      try simp only [Int.toNat_zero] at h1
      refine AWPD.skip ?_
      refine hK8 _ _ ?_
      clear hK8
      -- region 5
      refine AWPD.keep [0, 1, 2, 3, 8, 9, 10, 11] rfl ?_
      refine AWPD.region tabOK rfl ?_
      repeat refine And.intro (by first | exact fun h => h | exact fun _ => rfl | (intro h; rw [h]; rfl) | omega | (intros; (try dsimp only [Ty.T, Ty.size]); (try simp only [castL_self, Int.toNat_natCast, Int.toNat_zero, Int.toNat_one, true_and, List.length_append, List.length_set, List.length_drop, List.length_take, List.length_replicate, List.length_cons, List.length_nil, Nat.zero_add, Nat.mul_one]); omega) | decide | (intros; simp_all; done) | (intros; simp_all; omega)) ?_
      refine ⟨n0 - 1, i + 1, [0], by omega, by omega, ⟨by decide, rfl⟩, ⟨⟨rfl, rfl, rfl⟩, trivial⟩, ?_⟩
      repeat' first | exact ev_yes h1 h2 | exact ev_no fun hh => h2n hh.2 | exact ev_no fun hh => h1 hh.1 | exact mass_yes h1 | exact mass_no h1 | exact True.intro | exact rfl | exact ⟨rfl, rfl⟩ | refine And.intro ?_ ?_
  · try dsimp only [Ty.T] at h0
    try simp only [castL_self] at h0
    try simp only [Int.toNat_natCast] at h0
    try simp only [Int.toNat_zero] at h0
    have hie : i = p.length := by omega
    subst hie
    refine AWPD.exit ?_
    refine hK4 _ _ ?_
    clear hK4
    refine AWPD.seq fun K12 hK12 => ?_
    refine AWPD.seq fun K13 hK13 => ?_
    -- region 10
    refine AWPD.keep [8, 9, 10] rfl ?_
    refine AWPD.region tabOK rfl ?_
    refine hK13 _ _ ?_
    clear hK13
    refine AWPD.block ?_
    -- LOOP 1 live [8, 9, 10, 12] changed [12]
    refine AWPD.loopK (σ := Nat) [9, 10] (fun d base => (8, .op 0 0) :: (12, .i (d : Int)) :: base) (fun d => [.arr 24 .int [0, 0]]) (fun n d => n = d ∧ d ≤ (massE p ws w p.length).toNat ∧ cutD (evE p ws e.toNat w p.length) (massE p ws w p.length) d ∧ 1 ≤ d) (massE p ws w p.length).toNat (massE p ws w p.length).toNat [0] rfl rfl (⟨rfl, Nat.le_refl _, cutD_start _ _, by omega⟩) (by decide) ⟨⟨rfl, rfl, rfl⟩, trivial⟩ (by repeat' first | (show (massE p ws w p.length) = (((massE p ws w p.length).toNat : Nat) : Int); omega) | exact True.intro | exact rfl | exact ⟨rfl, rfl⟩ | refine And.intro ?_ ?_) fun n1 d hI1 => ?_
    obtain ⟨hn1, hdl, hcu, hd0⟩ := hI1
    refine AWPD.seq fun K14 hK14 => ?_
    refine AWPD.seq fun K15 hK15 => ?_
    -- region 11
    refine AWPD.keep [8, 9, 10, 12] rfl ?_
    refine AWPD.region tabOK rfl ?_
    refine hK15 _ _ ?_
    clear hK15
    first | refine AWPD.condP rfl (fun h3 => ?_) (fun h3 => ?_) | refine AWPD.condN rfl (fun h3 => ?_) (fun h3 => ?_) | refine AWPD.condAP rfl (fun h3 => ?_) (fun h3 => ?_) | refine AWPD.condOP rfl (fun h3 => ?_) (fun h3 => ?_) | refine AWPD.condONN rfl (fun h3 => ?_) (fun h3 => ?_) | refine AWPD.condOPN rfl (fun h3 => ?_) (fun h3 => ?_) | refine AWPD.condA rfl (fun h3 => ?_) (fun h3 => ?_) | refine AWPD.condO rfl (fun h3 => ?_) (fun h3 => ?_) | refine AWPD.cond rfl (fun h3 => ?_) (fun h3 => ?_)
    · try dsimp only [Ty.T] at h3
      try simp only [castL_self] at h3
      try simp only [Int.toNat_natCast] at h3
      try simp only [Int.toNat_zero] at h3
      refine AWPD.skip ?_
      refine hK14 _ _ ?_
      clear hK14
      refine AWPD.seq fun K16 hK16 => ?_
      refine AWPD.block ?_
      refine AWPD.seq fun K17 hK17 => ?_
      -- region 13
      refine AWPD.keep [8, 9, 10, 12] rfl ?_
      refine AWPD.region tabOK rfl ?_
      repeat refine And.intro (by first | exact fun h => h | exact fun _ => rfl | (intro h; rw [h]; rfl) | omega | (intros; (try dsimp only [Ty.T, Ty.size]); (try simp only [castL_self, Int.toNat_natCast, Int.toNat_zero, Int.toNat_one, true_and, List.length_append, List.length_set, List.length_drop, List.length_take, List.length_replicate, List.length_cons, List.length_nil, Nat.zero_add, Nat.mul_one]); omega) | decide | (intros; simp_all; done) | (intros; simp_all; omega)) ?_
      refine hK17 _ _ ?_
      clear hK17
      first | refine AWPD.condAP rfl (fun h4 => ?_) (fun h4 => ?_)
      · try dsimp only [Ty.T] at h4
        try simp only [castL_self] at h4
        try simp only [Int.toNat_natCast] at h4
        try simp only [Int.toNat_zero] at h4
        have hx := b.x_hit hw hcu (by omega) h4.1 h4.2
        refine AWPD.seq fun K18 hK18 => ?_
        -- region 14
        refine AWPD.keep [8, 9, 10, 12] rfl ?_
        refine AWPD.draw tabOK [7] rfl (by kernel_rfl) ?_
        repeat refine And.intro (by first | exact fun h => h | exact fun _ => rfl | (intro h; rw [h]; rfl) | omega | (intros; (try dsimp only [Ty.T, Ty.size]); (try simp only [castL_self, Int.toNat_natCast, Int.toNat_zero, Int.toNat_one, true_and, List.length_append, List.length_set, List.length_drop, List.length_take, List.length_replicate, List.length_cons, List.length_nil, Nat.zero_add, Nat.mul_one]); omega) | decide | (intros; simp_all; done) | (intros; simp_all; omega)) ?_
        refine hK18 _ _ ?_
        clear hK18
        refine AWPD.ret (And.intro (.inl rfl) ?_)
        -- result 0
        exact RetW.one ⟨0, _, [.i _, .i _], _, rfl, rfl, tabOK.agg (24, 2) (by decide), rfl, (by show DV.agg _ = DV.agg _; rw [hx])⟩
      · try dsimp only [Ty.T] at h4
        try simp only [castL_self] at h4
        try simp only [Int.toNat_natCast] at h4
        try simp only [Int.toNat_zero] at h4
        refine AWPD.skip ?_
        refine hK16 _ _ ?_
        clear hK16
        -- region 12
        refine AWPD.keep [8, 9, 10, 12] rfl ?_
        refine AWPD.region tabOK rfl ?_
        repeat refine And.intro (by first | exact fun h => h | exact fun _ => rfl | (intro h; rw [h]; rfl) | omega | (intros; (try dsimp only [Ty.T, Ty.size]); (try simp only [castL_self, Int.toNat_natCast, Int.toNat_zero, Int.toNat_one, true_and, List.length_append, List.length_set, List.length_drop, List.length_take, List.length_replicate, List.length_cons, List.length_nil, Nat.zero_add, Nat.mul_one]); omega) | decide | (intros; simp_all; done) | (intros; simp_all; omega)) ?_
        refine ⟨n1 - 1, d - 1, [0], by omega, ⟨by omega, by omega, cutD_next hcu h4, by omega⟩, ⟨by decide, rfl⟩, ⟨⟨rfl, rfl, rfl⟩, trivial⟩, ?_⟩
        repeat' first | (show (d : Int) - 1 = ((d - 1 : Nat) : Int); omega) | exact True.intro | exact rfl | exact ⟨rfl, rfl⟩ | refine And.intro ?_ ?_
    · try dsimp only [Ty.T] at h3
      try simp only [castL_self] at h3
      try simp only [Int.toNat_natCast] at h3
      try simp only [Int.toNat_zero] at h3
      have hd1 : d = 1 := by omega
      refine AWPD.exit ?_
      refine hK12 _ _ ?_
      clear hK12
      refine AWPD.seq fun K19 hK19 => ?_
      -- region 15
      refine AWPD.keep [8, 9, 10] rfl ?_
      refine AWPD.region tabOK rfl ?_
      repeat refine And.intro (by first | exact fun h => h | exact fun _ => rfl | (intro h; rw [h]; rfl) | omega | (intros; (try dsimp only [Ty.T, Ty.size]); (try simp only [castL_self, Int.toNat_natCast, Int.toNat_zero, Int.toNat_one, true_and, List.length_append, List.length_set, List.length_drop, List.length_take, List.length_replicate, List.length_cons, List.length_nil, Nat.zero_add, Nat.mul_one]); omega) | decide | (intros; simp_all; done) | (intros; simp_all; omega)) ?_
      refine hK19 _ _ ?_
      clear hK19
      refine AWPD.ret (And.intro (.inl rfl) ?_)
      -- result 1
      exact RetW.one ⟨0, _, [.i _, .i _], _, rfl, rfl, tabOK.agg (24, 2) (by decide), rfl, (by show DV.agg _ = DV.agg _; rw [b.x_one hw hcu hd1])⟩
theorem rsures_fn (p ws : List Int) (e : Int) (b : Bel p ws) (he : 0 ≤ e ∧ e ≤ 4095) : LiftsG Tryd.prog tabG 65 [.sl .int p, .sl .int ws, .i e] (.sl .two (sureP p ws e.toNat p.length)) := by
  have h12 := b.len
  refine LiftsG.of_body 24 [.tmp 6] Tryd.func65 rfl Tryd.ntmps65 (by kernel_rfl) rfl rfl fun w0 X0 hG0 => ?_
  refine AWPD.seq fun K1 hK1 => ?_
  -- region 0
  refine AWPD.keep [0, 1, 2] rfl ?_
  refine AWPD.region tabOK rfl ?_
  refine hK1 _ _ ?_
  clear hK1
  refine AWPD.seq fun K2 hK2 => ?_
  -- region 1
  refine AWPD.keep [0, 1, 2] rfl ?_
  refine AWPD.region tabOK rfl ?_
  refine hK2 _ _ ?_
  clear hK2
  refine AWPD.seq fun K3 hK3 => ?_
  refine AWPD.seq fun K4 hK4 => ?_
  -- region 2
  refine AWPD.keep [0, 1, 2, 7] rfl ?_
  refine AWPD.region tabOK rfl ?_
  refine hK4 _ _ ?_
  clear hK4
  refine AWPD.block ?_
  -- LOOP 0 live [0, 1, 2, 7, 8] changed [7, 8]
  refine AWPD.nilRow 7 24 .two rfl (by decide) ?_
  refine AWPD.loopK (σ := Nat) [0, 1, 2] (fun i base => (7, .ob 0) :: (8, .i (i : Int)) :: base) (fun i => [.row 24 .two (sureP p ws e.toNat i)]) (fun n i => n + i = p.length) (p.length) 0 [0] rfl rfl (by omega) (by decide) ⟨⟨rfl, rfl, rfl⟩, trivial⟩ (by repeat' first | exact True.intro | exact rfl | exact ⟨rfl, rfl⟩ | refine And.intro ?_ ?_) fun n0 i hI0 => ?_
  have hn0 := hI0
  have hsl := sureP_len p ws e.toNat i
  refine AWPD.seq fun K5 hK5 => ?_
  refine AWPD.seq fun K6 hK6 => ?_
  -- region 3
  refine AWPD.keep [0, 1, 2, 7, 8] rfl ?_
  refine AWPD.region tabOK rfl ?_
  refine hK6 _ _ ?_
  clear hK6
  first | refine AWPD.condP rfl (fun h0 => ?_) (fun h0 => ?_) | refine AWPD.condN rfl (fun h0 => ?_) (fun h0 => ?_) | refine AWPD.condAP rfl (fun h0 => ?_) (fun h0 => ?_) | refine AWPD.condOP rfl (fun h0 => ?_) (fun h0 => ?_) | refine AWPD.condONN rfl (fun h0 => ?_) (fun h0 => ?_) | refine AWPD.condOPN rfl (fun h0 => ?_) (fun h0 => ?_) | refine AWPD.condA rfl (fun h0 => ?_) (fun h0 => ?_) | refine AWPD.condO rfl (fun h0 => ?_) (fun h0 => ?_) | refine AWPD.cond rfl (fun h0 => ?_) (fun h0 => ?_)
  · try dsimp only [Ty.T] at h0
    try simp only [castL_self] at h0
    try simp only [Int.toNat_natCast] at h0
    try simp only [Int.toNat_zero] at h0
    refine AWPD.skip ?_
    refine hK5 _ _ ?_
    clear hK5
    refine AWPD.seq fun K7 hK7 => ?_
    refine AWPD.block ?_
    -- region 5
    refine AWPD.keep [0, 1, 2, 7, 8] rfl ?_
    refine AWPD.region tabOK rfl ?_
    refine Exists.intro _ (Exists.intro _ (And.intro (StepD.callG tabG_stays rfl hG0 (rsure_fn p ws e i b he (by omega)) rfl rfl rfl) (And.intro rfl (And.intro trivial ?_))))
    repeat refine And.intro (by first | exact fun h => h | exact fun _ => rfl | (intro h; rw [h]; rfl) | omega | (intros; (try dsimp only [Ty.T, Ty.size]); (try simp only [castL_self, Int.toNat_natCast, Int.toNat_zero, Int.toNat_one, true_and, List.length_append, List.length_set, List.length_drop, List.length_take, List.length_replicate, List.length_cons, List.length_nil, Nat.zero_add, Nat.mul_one]); omega) | decide | (intros; simp_all; done) | (intros; simp_all; omega)) ?_
    refine hK7 _ _ ?_
    clear hK7
    -- region 4
    refine AWPD.keep [0, 1, 2, 7, 8] rfl ?_
    refine AWPD.region tabOK rfl ?_
    repeat refine And.intro (by first | exact fun h => h | exact fun _ => rfl | (intro h; rw [h]; rfl) | omega | (intros; (try dsimp only [Ty.T, Ty.size]); (try simp only [castL_self, Int.toNat_natCast, Int.toNat_zero, Int.toNat_one, true_and, List.length_append, List.length_set, List.length_drop, List.length_take, List.length_replicate, List.length_cons, List.length_nil, Nat.zero_add, Nat.mul_one]); omega) | decide | (intros; simp_all; done) | (intros; simp_all; omega)) ?_
    refine ⟨n0 - 1, i + 1, [1], by omega, by omega, ⟨by decide, rfl⟩, ⟨⟨rfl, rfl, sureP_next p ws e.toNat i⟩, trivial⟩, ?_⟩
    repeat' first | exact True.intro | exact rfl | exact ⟨rfl, rfl⟩ | refine And.intro ?_ ?_
  · try dsimp only [Ty.T] at h0
    try simp only [castL_self] at h0
    try simp only [Int.toNat_natCast] at h0
    try simp only [Int.toNat_zero] at h0
    refine AWPD.exit ?_
    refine hK3 _ _ ?_
    clear hK3
    refine AWPD.seq fun K8 hK8 => ?_
    -- region 6
    refine AWPD.keep [7] rfl ?_
    refine AWPD.region tabOK rfl ?_
    refine hK8 _ _ ?_
    clear hK8
    refine AWPD.ret (And.intro (.inl rfl) ?_)
    -- result 0
    refine RetD.one ?_
    exact fitR rfl rfl (by rw [show p.length = i by omega])
theorem rknown_fn (p q ws : List Int) (e w : Int) (hz : pairE p q ws e w = 0) : LiftsG Tryd.prog tabG 44 [.sl .int p, .sl .int q, .sl .int ws, .i e, .i w] (.b (knownR p q ws e w)) := by
  have pr := pair_of hz
  have h12 := pr.wt.1
  have hwl := pr.wl
  have hql := pr.ql
  have hwi := pr.wi
  have hem := pr.em
  have hsl := sureP_len p ws e.toNat p.length
  have hsl2 := sureP_len q ws e.toNat q.length
  refine LiftsG.of_body 60 [.tmp 10] Tryd.func44 rfl Tryd.ntmps44 (by kernel_rfl) rfl rfl fun w0 X0 hG0 => ?_
  refine AWPD.seq fun K1 hK1 => ?_
  -- region 0
  refine AWPD.keep [0, 1, 2, 3, 4] rfl ?_
  refine AWPD.region tabOK rfl ?_
  refine hK1 _ _ ?_
  clear hK1
  refine AWPD.seq fun K2 hK2 => ?_
  -- region 1
  refine AWPD.keep [0, 1, 2, 3, 4] rfl ?_
  refine AWPD.region tabOK rfl ?_
  refine Exists.intro _ (Exists.intro _ (And.intro (StepD.callG tabG_stays rfl hG0 (rsures_fn p ws e pr.belP ⟨hem.1, hem.2.1⟩) rfl rfl rfl) (And.intro rfl (And.intro trivial ?_))))
  refine hK2 _ _ ?_
  clear hK2
  refine AWPD.seq fun K3 hK3 => ?_
  -- region 2
  refine AWPD.keep [0, 1, 2, 3, 4, 11] rfl ?_
  refine AWPD.region tabOK rfl ?_
  refine Exists.intro _ (Exists.intro _ (And.intro (StepD.callG tabG_stays rfl hG0 (rsures_fn q ws e pr.belQ ⟨hem.1, hem.2.1⟩) rfl rfl rfl) (And.intro rfl (And.intro trivial ?_))))
  refine hK3 _ _ ?_
  clear hK3
  refine AWPD.seq fun K4 hK4 => ?_
  -- region 3
  refine AWPD.keep [0, 1, 4, 11, 12] rfl ?_
  refine AWPD.region tabOK rfl ?_
  refine hK4 _ _ ?_
  clear hK4
  refine AWPD.seq fun K5 hK5 => ?_
  refine AWPD.seq fun K6 hK6 => ?_
  -- region 4
  refine AWPD.keep [0, 1, 4, 11, 12, 13] rfl ?_
  refine AWPD.region tabOK rfl ?_
  refine hK6 _ _ ?_
  clear hK6
  refine AWPD.block ?_
  -- LOOP 0 live [0, 1, 4, 11, 12, 13, 14] changed [13, 14]
  refine AWPD.loopK (σ := Nat) [0, 1, 4, 11, 12] (fun i base => (13, .i ((sameM p q ws e.toNat w.toNat i : Nat) : Int)) :: (14, .i (i : Int)) :: base) (fun _ => []) (fun n i => n + i = p.length) (p.length) 0 [] rfl rfl (by omega) (by decide) trivial (by repeat' first | exact True.intro | exact rfl | exact ⟨rfl, rfl⟩ | refine And.intro ?_ ?_) fun n0 i hI0 => ?_
  have hn0 := hI0
  refine AWPD.seq fun K7 hK7 => ?_
  refine AWPD.seq fun K8 hK8 => ?_
  -- region 5
  refine AWPD.keep [0, 1, 4, 11, 12, 13, 14] rfl ?_
  refine AWPD.region tabOK rfl ?_
  refine hK8 _ _ ?_
  clear hK8
  first | refine AWPD.condP rfl (fun h0 => ?_) (fun h0 => ?_) | refine AWPD.condN rfl (fun h0 => ?_) (fun h0 => ?_) | refine AWPD.condAP rfl (fun h0 => ?_) (fun h0 => ?_) | refine AWPD.condOP rfl (fun h0 => ?_) (fun h0 => ?_) | refine AWPD.condONN rfl (fun h0 => ?_) (fun h0 => ?_) | refine AWPD.condOPN rfl (fun h0 => ?_) (fun h0 => ?_) | refine AWPD.condA rfl (fun h0 => ?_) (fun h0 => ?_) | refine AWPD.condO rfl (fun h0 => ?_) (fun h0 => ?_) | refine AWPD.cond rfl (fun h0 => ?_) (fun h0 => ?_)
  · try dsimp only [Ty.T] at h0
    try simp only [castL_self] at h0
    try simp only [Int.toNat_natCast] at h0
    try simp only [Int.toNat_zero] at h0
    have hslt := sameM_lt p q ws e.toNat w.toNat i
    have hpow : 2 ^ i ≤ 4096 := pow_small (by omega)
    have hpn : powN i = 2 ^ i := rfl
    refine AWPD.skip ?_
    refine hK7 _ _ ?_
    clear hK7
    refine AWPD.seq fun K9 hK9 => ?_
    refine AWPD.block ?_
    refine AWPD.seq fun K10 hK10 => ?_
    -- region 7
    refine AWPD.keep [0, 1, 4, 11, 12, 13, 14] rfl ?_
    refine AWPD.draw tabOK [] rfl (by kernel_rfl) ?_
    repeat refine And.intro (by first | exact fun h => h | exact fun _ => rfl | (intro h; rw [h]; rfl) | omega | (intros; (try dsimp only [Ty.T, Ty.size]); (try simp only [castL_self, Int.toNat_natCast, Int.toNat_zero, Int.toNat_one, true_and, List.length_append, List.length_set, List.length_drop, List.length_take, List.length_replicate, List.length_cons, List.length_nil, Nat.zero_add, Nat.mul_one]); omega) | decide | (intros; simp_all; done) | (intros; simp_all; omega)) ?_
    refine hK10 _ _ ?_
    clear hK10
    first | refine AWPD.cond rfl (fun h1 => ?_) (fun h1 => ?_)
    · try dsimp only [Ty.T] at h1
      try simp only [castL_self] at h1
      try simp only [Int.toNat_natCast] at h1
      try simp only [Int.toNat_zero] at h1
      have hsy := same_cond.1 h1
      -- region 8
      refine AWPD.keep [0, 1, 4, 11, 12, 13, 14] rfl ?_
      refine AWPD.region tabOK rfl ?_
      refine Exists.intro _ (Exists.intro _ (And.intro (StepD.call (pow2_fn _ (by omega)) rfl rfl rfl) (And.intro rfl (And.intro trivial ?_))))
      repeat refine And.intro (by first | exact fun h => h | exact fun _ => rfl | (intro h; rw [h]; rfl) | omega | (intros; (try dsimp only [Ty.T, Ty.size]); (try simp only [castL_self, Int.toNat_natCast, Int.toNat_zero, Int.toNat_one, true_and, List.length_append, List.length_set, List.length_drop, List.length_take, List.length_replicate, List.length_cons, List.length_nil, Nat.zero_add, Nat.mul_one]); omega) | decide | (intros; simp_all; done) | (intros; simp_all; omega)) ?_
      refine hK9 _ _ ?_
      clear hK9
      -- region 6
      refine AWPD.keep [0, 1, 4, 11, 12, 13, 14] rfl ?_
      refine AWPD.region tabOK rfl ?_
      repeat refine And.intro (by first | exact fun h => h | exact fun _ => rfl | (intro h; rw [h]; rfl) | omega | (intros; (try dsimp only [Ty.T, Ty.size]); (try simp only [castL_self, Int.toNat_natCast, Int.toNat_zero, Int.toNat_one, true_and, List.length_append, List.length_set, List.length_drop, List.length_take, List.length_replicate, List.length_cons, List.length_nil, Nat.zero_add, Nat.mul_one]); omega) | decide | (intros; simp_all; done) | (intros; simp_all; omega)) ?_
      refine ⟨n0 - 1, i + 1, [], by omega, by omega, ⟨by decide, rfl⟩, trivial, ?_⟩
      repeat' first | exact sameA_yes hsy | exact congrArg (fun x : Nat => (x : Int)) (same_no hsn) | exact True.intro | exact rfl | exact ⟨rfl, rfl⟩ | refine And.intro ?_ ?_
    · try dsimp only [Ty.T] at h1
      try simp only [castL_self] at h1
      try simp only [Int.toNat_natCast] at h1
      try simp only [Int.toNat_zero] at h1
      have hsn := same_not h1
      refine AWPD.skip ?_
      refine hK9 _ _ ?_
      clear hK9
      -- region 6
      refine AWPD.keep [0, 1, 4, 11, 12, 13, 14] rfl ?_
      refine AWPD.region tabOK rfl ?_
      repeat refine And.intro (by first | exact fun h => h | exact fun _ => rfl | (intro h; rw [h]; rfl) | omega | (intros; (try dsimp only [Ty.T, Ty.size]); (try simp only [castL_self, Int.toNat_natCast, Int.toNat_zero, Int.toNat_one, true_and, List.length_append, List.length_set, List.length_drop, List.length_take, List.length_replicate, List.length_cons, List.length_nil, Nat.zero_add, Nat.mul_one]); omega) | decide | (intros; simp_all; done) | (intros; simp_all; omega)) ?_
      refine ⟨n0 - 1, i + 1, [], by omega, by omega, ⟨by decide, rfl⟩, trivial, ?_⟩
      repeat' first | exact sameA_yes hsy | exact congrArg (fun x : Nat => (x : Int)) (same_no hsn) | exact True.intro | exact rfl | exact ⟨rfl, rfl⟩ | refine And.intro ?_ ?_
  · try dsimp only [Ty.T] at h0
    try simp only [castL_self] at h0
    try simp only [Int.toNat_natCast] at h0
    try simp only [Int.toNat_zero] at h0
    refine AWPD.exit ?_
    refine hK5 _ _ ?_
    clear hK5
    refine AWPD.seq fun K11 hK11 => ?_
    -- region 9
    have hss : sameM p q ws e.toNat w.toNat i = sameM p q ws e.toNat w.toNat p.length := by rw [show i = p.length by omega]
    have svs : Sev [p, q] ((sameM p q ws e.toNat w.toNat i : Nat) : Int) := pr.sev.other (mask_of (p := p) (by rw [hss]; exact sameM_lt _ _ _ _ _ _))
    have hcs := com_sub svs (sameM p q ws e.toNat w.toNat i)
    have hcl := subN_le hcs
    have hsm := sameM_small p q ws e.toNat w.toNat (i := i) (by omega)
    refine AWPD.keep [0, 1, 4, 13] rfl ?_
    refine AWPD.region tabOK rfl ?_
    refine Exists.intro _ (Exists.intro _ (And.intro (StepD.call (rcom_fn [p, q] ((sameM p q ws e.toNat w.toNat i : Nat) : Int) svs) rfl rfl rfl) (And.intro rfl (And.intro trivial ?_))))
    refine Exists.intro _ (Exists.intro _ (And.intro (StepD.call (bit_fn ((knowN (comR [p, q] ([p, q].length - 1)) ((sameM p q ws e.toNat w.toNat i : Nat) : Int).toNat : Nat) : Int) w (by rw [Int.toNat_natCast]; omega) (by omega)) rfl rfl rfl) (And.intro rfl (And.intro trivial ?_))))
    refine hK11 _ _ ?_
    clear hK11
    refine AWPD.ret (And.intro (.inl rfl) ?_)
    -- result 0
    refine RetD.one ?_
    exact fitB rfl (by unfold knownR; rw [if_pos hz, ← hss]; rfl)
theorem rfin_fn (p : List Int) (said : List (Int × Int)) (h12 : p.length ≤ 12) (hsl : said.length = p.length) : LiftsD Tryd.prog 66 [.sl .int p, .sl .two said] (.sl .int (tellL p said)) := by
  refine LiftsD.of_body 50 [.tmp 4] Tryd.func66 rfl Tryd.ntmps66 (by kernel_rfl) rfl rfl fun w0 X0 => ?_
  refine AWPD.seq fun K1 hK1 => ?_
  -- region 0
  refine AWPD.keep [0, 1] rfl ?_
  refine AWPD.region tabOK rfl ?_
  refine hK1 _ _ ?_
  clear hK1
  refine AWPD.seq fun K2 hK2 => ?_
  -- region 1
  refine AWPD.keep [0, 1] rfl ?_
  refine AWPD.region tabOK rfl ?_
  refine hK2 _ _ ?_
  clear hK2
  refine AWPD.seq fun K3 hK3 => ?_
  refine AWPD.seq fun K4 hK4 => ?_
  -- region 2
  refine AWPD.keep [0, 1, 5] rfl ?_
  refine AWPD.region tabOK rfl ?_
  refine hK4 _ _ ?_
  clear hK4
  refine AWPD.block ?_
  -- LOOP 0 live [0, 1, 5, 6] changed [5, 6]
  refine AWPD.nilRow 5 71 (.sl .bool) rfl (by decide) ?_
  refine AWPD.loopK (σ := Nat) [0, 1] (fun i base => (5, .ob 0) :: (6, .i (i : Int)) :: base) (fun i => [.row 71 (.sl .bool) (tabL p.length (finG p said) i)]) (fun n i => n + i = p.length) (p.length) 0 [0] rfl rfl (by omega) (by decide) ⟨⟨rfl, rfl, rfl⟩, trivial⟩ (by repeat' first | exact True.intro | exact rfl | exact ⟨rfl, rfl⟩ | refine And.intro ?_ ?_) fun n0 i hI0 => ?_
  have hn0 := hI0
  refine AWPD.seq fun K5 hK5 => ?_
  refine AWPD.seq fun K6 hK6 => ?_
  -- region 3
  refine AWPD.keep [0, 1, 5, 6] rfl ?_
  refine AWPD.region tabOK rfl ?_
  refine hK6 _ _ ?_
  clear hK6
  first | refine AWPD.condP rfl (fun h0 => ?_) (fun h0 => ?_) | refine AWPD.condN rfl (fun h0 => ?_) (fun h0 => ?_) | refine AWPD.condAP rfl (fun h0 => ?_) (fun h0 => ?_) | refine AWPD.condOP rfl (fun h0 => ?_) (fun h0 => ?_) | refine AWPD.condONN rfl (fun h0 => ?_) (fun h0 => ?_) | refine AWPD.condOPN rfl (fun h0 => ?_) (fun h0 => ?_) | refine AWPD.condA rfl (fun h0 => ?_) (fun h0 => ?_) | refine AWPD.condO rfl (fun h0 => ?_) (fun h0 => ?_) | refine AWPD.cond rfl (fun h0 => ?_) (fun h0 => ?_)
  · try dsimp only [Ty.T] at h0
    try simp only [castL_self] at h0
    try simp only [Int.toNat_natCast] at h0
    try simp only [Int.toNat_zero] at h0
    refine AWPD.skip ?_
    refine hK5 _ _ ?_
    clear hK5
    refine AWPD.seq fun K7 hK7 => ?_
    refine AWPD.block ?_
    refine AWPD.seq fun K8 hK8 => ?_
    -- region 5
    refine AWPD.keep [0, 1, 5, 6] rfl ?_
    refine AWPD.region tabOK rfl ?_
    refine hK8 _ _ ?_
    clear hK8
    refine AWPD.seq fun K9 hK9 => ?_
    refine AWPD.seq fun K10 hK10 => ?_
    -- region 6
    refine AWPD.keep [0, 1, 5, 6, 7] rfl ?_
    refine AWPD.region tabOK rfl ?_
    refine hK10 _ _ ?_
    clear hK10
    refine AWPD.block ?_
    -- LOOP 1 live [0, 1, 5, 6, 7, 8] changed [7, 8]
    refine AWPD.nilRow 7 4 .bool rfl (by decide) ?_
    refine AWPD.loopK (σ := Nat) [0, 1, 6] (fun j base => (5, .ob 0) :: (7, .ob 1) :: (8, .i (j : Int)) :: base) (fun j => [.row 71 (.sl .bool) (tabL p.length (finG p said) i), .row 4 .bool (rowT (finG p said) i j)]) (fun n j => n + j = p.length) (p.length) 0 [0, 1] rfl rfl (by omega) (by decide) ⟨⟨rfl, rfl, rfl⟩, ⟨rfl, rfl, rfl⟩, trivial⟩ (by repeat' first | exact True.intro | exact rfl | exact ⟨rfl, rfl⟩ | refine And.intro ?_ ?_) fun n1 j hI1 => ?_
    have hn1 := hI1
    have hrl := rowT_len (finG p said) i j
    refine AWPD.seq fun K11 hK11 => ?_
    refine AWPD.seq fun K12 hK12 => ?_
    -- region 7
    refine AWPD.keep [0, 1, 5, 6, 7, 8] rfl ?_
    refine AWPD.region tabOK rfl ?_
    refine hK12 _ _ ?_
    clear hK12
    first | refine AWPD.condP rfl (fun h1 => ?_) (fun h1 => ?_) | refine AWPD.condN rfl (fun h1 => ?_) (fun h1 => ?_) | refine AWPD.condAP rfl (fun h1 => ?_) (fun h1 => ?_) | refine AWPD.condOP rfl (fun h1 => ?_) (fun h1 => ?_) | refine AWPD.condONN rfl (fun h1 => ?_) (fun h1 => ?_) | refine AWPD.condOPN rfl (fun h1 => ?_) (fun h1 => ?_) | refine AWPD.condA rfl (fun h1 => ?_) (fun h1 => ?_) | refine AWPD.condO rfl (fun h1 => ?_) (fun h1 => ?_) | refine AWPD.cond rfl (fun h1 => ?_) (fun h1 => ?_)
    · try dsimp only [Ty.T] at h1
      try simp only [castL_self] at h1
      try simp only [Int.toNat_natCast] at h1
      try simp only [Int.toNat_zero] at h1
      refine AWPD.skip ?_
      refine hK11 _ _ ?_
      clear hK11
      refine AWPD.seq fun K13 hK13 => ?_
      refine AWPD.block ?_
      -- region 9
      refine AWPD.keep [0, 1, 5, 6, 7, 8] rfl ?_
      refine AWPD.draw tabOK [22] rfl (by kernel_rfl) ?_
      repeat refine And.intro (by first | exact fun h => h | exact fun _ => rfl | (intro h; rw [h]; rfl) | omega | (intros; (try dsimp only [Ty.T, Ty.size]); (try simp only [castL_self, Int.toNat_natCast, Int.toNat_zero, Int.toNat_one, true_and, List.length_append, List.length_set, List.length_drop, List.length_take, List.length_replicate, List.length_cons, List.length_nil, Nat.zero_add, Nat.mul_one]); omega) | decide | (intros; simp_all; done) | (intros; simp_all; omega)) ?_
      refine hK13 _ _ ?_
      clear hK13
      -- region 8
      refine AWPD.keep [0, 1, 5, 6, 7, 8] rfl ?_
      refine AWPD.region tabOK rfl ?_
      repeat refine And.intro (by first | exact fun h => h | exact fun _ => rfl | (intro h; rw [h]; rfl) | omega | (intros; (try dsimp only [Ty.T, Ty.size]); (try simp only [castL_self, Int.toNat_natCast, Int.toNat_zero, Int.toNat_one, true_and, List.length_append, List.length_set, List.length_drop, List.length_take, List.length_replicate, List.length_cons, List.length_nil, Nat.zero_add, Nat.mul_one]); omega) | decide | (intros; simp_all; done) | (intros; simp_all; omega)) ?_
      refine ⟨n1 - 1, j + 1, [0, 2], by omega, by omega, ⟨by decide, rfl⟩, ⟨⟨rfl, rfl, rfl⟩, ⟨rfl, rfl, rowT_snoc finG_is⟩, trivial⟩, ?_⟩
      repeat' first | exact True.intro | exact rfl | exact ⟨rfl, rfl⟩ | refine And.intro ?_ ?_
    · try dsimp only [Ty.T] at h1
      try simp only [castL_self] at h1
      try simp only [Int.toNat_natCast] at h1
      try simp only [Int.toNat_zero] at h1
      have hje : j = p.length := by omega
      subst hje
      refine AWPD.exit ?_
      refine hK9 _ _ ?_
      clear hK9
      -- region 10
      refine AWPD.freeze 7 rfl rfl rfl ?_
      have htl := tabL_len p.length (finG p said) i
      refine AWPD.keep [0, 1, 5, 6, 7] rfl ?_
      refine AWPD.region tabOK rfl ?_
      repeat refine And.intro (by first | exact fun h => h | exact fun _ => rfl | (intro h; rw [h]; rfl) | omega | (intros; (try dsimp only [Ty.T, Ty.size]); (try simp only [castL_self, Int.toNat_natCast, Int.toNat_zero, Int.toNat_one, true_and, List.length_append, List.length_set, List.length_drop, List.length_take, List.length_replicate, List.length_cons, List.length_nil, Nat.zero_add, Nat.mul_one]); omega) | decide | (intros; simp_all; done) | (intros; simp_all; omega)) ?_
      refine hK7 _ _ ?_
      clear hK7
      -- region 4
      refine AWPD.keep [0, 1, 5, 6] rfl ?_
      refine AWPD.region tabOK rfl ?_
      repeat refine And.intro (by first | exact fun h => h | exact fun _ => rfl | (intro h; rw [h]; rfl) | omega | (intros; (try dsimp only [Ty.T, Ty.size]); (try simp only [castL_self, Int.toNat_natCast, Int.toNat_zero, Int.toNat_one, true_and, List.length_append, List.length_set, List.length_drop, List.length_take, List.length_replicate, List.length_cons, List.length_nil, Nat.zero_add, Nat.mul_one]); omega) | decide | (intros; simp_all; done) | (intros; simp_all; omega)) ?_
      refine ⟨n0 - 1, i + 1, [2], by omega, by omega, ⟨by decide, rfl⟩, ⟨⟨rfl, rfl, tabL_step _ _ _⟩, trivial⟩, ?_⟩
      repeat' first | exact True.intro | exact rfl | exact ⟨rfl, rfl⟩ | refine And.intro ?_ ?_
  · try dsimp only [Ty.T] at h0
    try simp only [castL_self] at h0
    try simp only [Int.toNat_natCast] at h0
    try simp only [Int.toNat_zero] at h0
    have hie : i = p.length := by omega
    subst hie
    refine AWPD.exit ?_
    refine hK3 _ _ ?_
    clear hK3
    refine AWPD.seq fun K14 hK14 => ?_
    -- region 11
    refine AWPD.freeze 5 rfl rfl rfl ?_
    refine AWPD.keep [5] rfl ?_
    refine AWPD.region tabOK rfl ?_
    refine Exists.intro _ (Exists.intro _ (And.intro (StepD.call (named_fn p.length (finG p said) (by omega)) rfl rfl rfl) (And.intro rfl (And.intro trivial ?_))))
    refine hK14 _ _ ?_
    clear hK14
    refine AWPD.ret (And.intro (.inl rfl) ?_)
    -- result 0
    refine RetD.one ?_
    exact fitS rfl (fin_named h12 said)
theorem rtalk_step (p q ws : List Int) (e : Int) (w : Nat) (bp : Bel p ws) (bq : Bel q ws) (he : 0 ≤ e ∧ e ≤ 4095) (hw : w < ws.length) (k m : Nat) (hT : TalkEnd p q ws e.toNat w (k + m)) (hm : m ≤ 100) (ih : 0 < m → LiftsG Tryd.prog tabG 45 [.sl .int (tkP p q ws e.toNat (k + 1)).1, .sl .int (tkP p q ws e.toNat (k + 1)).2, .sl .int ws, .i e, .i (w : Int)] (.sl (.tup 4) (foursF p q ws e.toNat w (k + 1) m))) : LiftsG Tryd.prog tabG 45 [.sl .int (tkP p q ws e.toNat k).1, .sl .int (tkP p q ws e.toNat k).2, .sl .int ws, .i e, .i (w : Int)] (.sl (.tup 4) (foursF p q ws e.toNat w k (m + 1))) := by
  obtain ⟨b1, b2⟩ := tk_bel bp bq e.toNat k
  have l1 := b1.wl
  have l2 := b2.wl
  have h12 := b1.len
  have hfl := foursF_len p q ws e.toNat w (k + 1) m
  have hsl1 := sureP_len (tkP p q ws e.toNat k).1 ws e.toNat (tkP p q ws e.toNat k).1.length
  have hsl2 := sureP_len (tkP p q ws e.toNat k).2 ws e.toNat (tkP p q ws e.toNat k).2.length
  have hgx : (sureP (tkP p q ws e.toNat k).1 ws e.toNat (tkP p q ws e.toNat k).1.length).getD w (0, 0) = tkX p q ws e.toNat w k := sure_at (by omega)
  have hgy : (sureP (tkP p q ws e.toNat k).2 ws e.toNat (tkP p q ws e.toNat k).2.length).getD w (0, 0) = tkY p q ws e.toNat w k := sure_at (by omega)
  have hfc := foursF_cons p q ws e.toNat w k m
  rw [← hgx, ← hgy] at hfc
  refine LiftsG.of_body 66 [.tmp 10] Tryd.func45 rfl Tryd.ntmps45 (by kernel_rfl) rfl rfl fun w0 X0 hG0 => ?_
  refine AWPD.seq fun K1 hK1 => ?_
  -- region 0
  refine AWPD.keep [0, 1, 2, 3, 4] rfl ?_
  refine AWPD.region (tabOK.own [43]) rfl ?_
  refine hK1 _ _ ?_
  clear hK1
  refine AWPD.seq fun K2 hK2 => ?_
  -- region 1
  refine AWPD.keep [0, 1, 2, 3, 4] rfl ?_
  refine AWPD.region (tabOK.own [43]) rfl ?_
  refine Exists.intro _ (Exists.intro _ (And.intro (StepD.callG tabG_stays rfl hG0 (rsures_fn (tkP p q ws e.toNat k).1 ws e b1 he) rfl rfl rfl) (And.intro rfl (And.intro trivial ?_))))
  refine hK2 _ _ ?_
  clear hK2
  refine AWPD.seq fun K3 hK3 => ?_
  -- region 2
  refine AWPD.keep [0, 1, 2, 3, 4, 11] rfl ?_
  refine AWPD.region (tabOK.own [43]) rfl ?_
  refine Exists.intro _ (Exists.intro _ (And.intro (StepD.callG tabG_stays rfl hG0 (rsures_fn (tkP p q ws e.toNat k).2 ws e b2 he) rfl rfl rfl) (And.intro rfl (And.intro trivial ?_))))
  refine hK3 _ _ ?_
  clear hK3
  refine AWPD.seq fun K4 hK4 => ?_
  -- region 3
  refine AWPD.keep [0, 1, 2, 3, 4, 11, 12] rfl ?_
  refine AWPD.draw (tabOK.own [43]) [21] rfl (by kernel_rfl) ?_
  repeat refine And.intro (by first | exact fun h => h | exact fun _ => rfl | (intro h; rw [h]; rfl) | omega | (intros; (try dsimp only [Ty.T, Ty.size]); (try simp only [castL_self, Int.toNat_natCast, Int.toNat_zero, Int.toNat_one, true_and, List.length_append, List.length_set, List.length_drop, List.length_take, List.length_replicate, List.length_cons, List.length_nil, Nat.zero_add, Nat.mul_one]); omega) | decide | (intros; simp_all; done) | (intros; simp_all; omega)) ?_
  refine hK4 _ _ ?_
  clear hK4
  refine AWPD.seq fun K5 hK5 => ?_
  refine AWPD.seq fun K6 hK6 => ?_
  -- region 4
  refine AWPD.keep [0, 1, 2, 3, 4, 11, 12, 13] rfl ?_
  refine AWPD.draw (tabOK.own [43]) [] rfl (by kernel_rfl) ?_
  repeat refine And.intro (by first | exact fun h => h | exact fun _ => rfl | (intro h; rw [h]; rfl) | omega | (intros; (try dsimp only [Ty.T, Ty.size]); (try simp only [castL_self, Int.toNat_natCast, Int.toNat_zero, Int.toNat_one, true_and, List.length_append, List.length_set, List.length_drop, List.length_take, List.length_replicate, List.length_cons, List.length_nil, Nat.zero_add, Nat.mul_one]); omega) | decide | (intros; simp_all; done) | (intros; simp_all; omega)) ?_
  refine hK6 _ _ ?_
  clear hK6
  first | refine AWPD.condP rfl (fun h0 => ?_) (fun h0 => ?_)
  · try dsimp only [Ty.T] at h0
    try simp only [castL_self] at h0
    try simp only [Int.toNat_natCast] at h0
    try simp only [Int.toNat_zero] at h0
    have hxy : tkX p q ws e.toNat w k = tkY p q ws e.toNat w k := by
      rw [← hgx, ← hgy]
      exact (two_eq _ _).1 h0
    have hm0 : m = 0 := Nat.eq_zero_of_not_pos fun hp => hT.ne k (by omega) hxy
    subst hm0
    refine AWPD.seq fun K7 hK7 => ?_
    -- region 5
    refine AWPD.keep [13] rfl ?_
    refine AWPD.region (tabOK.own [43]) rfl ?_
    refine hK7 _ _ ?_
    clear hK7
    refine AWPD.ret (And.intro (.inl rfl) ?_)
    -- result 0
    refine RetD.one ?_
    exact fitR rfl rfl hfc
  · try dsimp only [Ty.T] at h0
    try simp only [castL_self] at h0
    try simp only [Int.toNat_natCast] at h0
    try simp only [Int.toNat_zero] at h0
    have hmp : 0 < m := Nat.pos_of_ne_zero fun hz => by
      subst hz
      refine h0 ((two_eq _ _).2 ?_)
      rw [hgx, hgy]
      exact hT.eq
    refine AWPD.skip ?_
    refine hK5 _ _ ?_
    clear hK5
    refine AWPD.seq fun K8 hK8 => ?_
    -- region 6
    refine AWPD.keep [0, 1, 2, 3, 4, 11, 12, 13] rfl ?_
    refine AWPD.region (tabOK.own [43]) rfl ?_
    refine Exists.intro _ (Exists.intro _ (And.intro (StepD.call (rfin_fn _ _ (by omega) (by omega)) rfl rfl rfl) (And.intro rfl (And.intro trivial ?_))))
    refine Exists.intro _ (Exists.intro _ (And.intro (StepD.call (rfin_fn _ _ (by omega) (by omega)) rfl rfl rfl) (And.intro rfl (And.intro trivial ?_))))
    refine Exists.intro _ (Exists.intro _ (And.intro (StepD.callG tabG_stays rfl hG0 (ih hmp) rfl rfl rfl) (And.intro rfl (And.intro trivial ?_))))
    repeat refine And.intro (by first | exact fun h => h | exact fun _ => rfl | (intro h; rw [h]; rfl) | omega | (intros; (try dsimp only [Ty.T, Ty.size]); (try simp only [castL_self, Int.toNat_natCast, Int.toNat_zero, Int.toNat_one, true_and, List.length_append, List.length_set, List.length_drop, List.length_take, List.length_replicate, List.length_cons, List.length_nil, Nat.zero_add, Nat.mul_one]); omega) | decide | (intros; simp_all; done) | (intros; simp_all; omega)) ?_
    refine hK8 _ _ ?_
    clear hK8
    refine AWPD.ret (And.intro (.inl rfl) ?_)
    -- result 1
    refine RetD.one ?_
    exact fitR rfl rfl hfc

theorem rtalk_fn (p q ws : List Int) (e : Int) (w : Nat) (bp : Bel p ws) (bq : Bel q ws) (he : 0 ≤ e ∧ e ≤ 4095) (hw : w < ws.length) : ∀ (m k : Nat), m ≤ 100 → TalkEnd p q ws e.toNat w (k + m) → LiftsG Tryd.prog tabG 45 [.sl .int (tkP p q ws e.toNat k).1, .sl .int (tkP p q ws e.toNat k).2, .sl .int ws, .i e, .i (w : Int)] (.sl (.tup 4) (foursF p q ws e.toNat w k (m + 1)))
  | 0, k, hm, hT => rtalk_step p q ws e w bp bq he hw k 0 hT hm fun h => absurd h (Nat.lt_irrefl 0)
  | m + 1, k, hm, hT => rtalk_step p q ws e w bp bq he hw k (m + 1) hT hm fun _ => rtalk_fn p q ws e w bp bq he hw m (k + 1) (by omega) (by rw [show k + 1 + m = k + (m + 1) by omega]; exact hT)

end Go.Proofs.YtkdihpajgmiolaaDoor
