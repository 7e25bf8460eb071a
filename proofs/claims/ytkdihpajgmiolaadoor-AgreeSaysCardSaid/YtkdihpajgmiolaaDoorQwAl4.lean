/-
  WALKS of what two tell each other, and of the law AgreeTalk; and the laws behind them.
-/
import Derived.Test.YtkdihpajgmiolaaDoorQwAl3
import Derived.Test.YtkdihpajgmiolaaDoorQwWo
namespace Go.Proofs.YtkdihpajgmiolaaDoor
open Go Go.Qw
set_option maxRecDepth 10000
set_option linter.unusedSimpArgs false
set_option linter.unusedVariables false
set_option linter.unusedSectionVars false

/-! ### Finer partitions have more classes -/

theorem sumN_same {f g : Nat → Int} : ∀ {n : Nat}, (∀ i, i < n → f i ≤ g i) → sumN g n ≤ sumN f n → ∀ i, i < n → f i = g i
  | 0, _, _, i, hi => by omega
  | n + 1, h, hs, i, hi => by
    have h1 := sumN_mono fun i (hi : i < n) => h i (by omega)
    have h2 := h n (by omega)
    rw [sumN, sumN] at hs
    by_cases he : i = n
    · subst he; omega
    · have hs2 : sumN g n ≤ sumN f n := by omega
      exact sumN_same (fun i hi => h i (by omega)) hs2 i (by omega)
theorem next_sum (p : List Int) : ∀ i, nextP p i = sumN (fun a => if p.getD a 0 = nextP p a then 1 else 0) i
  | 0 => rfl
  | i + 1 => by
    rw [sumN, ← next_sum p i]
    by_cases h : p.getD i 0 = nextP p i
    · rw [if_pos h, nextP_yes h]
    · rw [if_neg h, nextP_no h, Int.add_zero]
theorem first_iff {p : List Int} (hp : partE p = 0) {i : Nat} (hi : i < p.length) : p.getD i 0 = nextP p i ↔ ∀ a, a < p.length → p.getD a 0 = p.getD i 0 → i ≤ a := by
  rw [← first_end hp hi]
  unfold firstTo
  simp only [decide_eq_true_eq, List.mem_range]
theorem first_of {p : List Int} (hp : partE p = 0) : ∀ (n i : Nat), i < p.length → i ≤ n → ∃ a, a ≤ i ∧ p.getD a 0 = p.getD i 0 ∧ p.getD a 0 = nextP p a
  | n, i, hi, hn => by
    by_cases h : p.getD i 0 = nextP p i
    · exact ⟨i, Nat.le_refl _, rfl, h⟩
    · have h2 := fun hh => h ((first_iff hp hi).2 hh)
      obtain ⟨a, ha⟩ := Classical.not_forall.1 h2
      simp only [Classical.not_imp] at ha
      obtain ⟨ha1, ha2, ha3⟩ := ha
      cases n with
      | zero => omega
      | succ n =>
        obtain ⟨b, hb1, hb2, hb3⟩ := first_of hp n a ha1 (by omega)
        exact ⟨b, by omega, hb2.trans ha2, hb3⟩
/-- Finer: no fewer classes; and with as many it is no finer. -/
theorem finer_more {p q : List Int} (hp : partE p = 0) (hq : partE q = 0) (hl : q.length = p.length) (hf : ∀ i j, i < p.length → j < p.length → q.getD i 0 = q.getD j 0 → p.getD i 0 = p.getD j 0) :
    nextP p p.length ≤ nextP q q.length ∧ (nextP q q.length ≤ nextP p p.length → ∀ i j, i < p.length → j < p.length → p.getD i 0 = p.getD j 0 → q.getD i 0 = q.getD j 0) := by
  have hle : ∀ i, i < p.length → (if p.getD i 0 = nextP p i then (1 : Int) else 0) ≤ (if q.getD i 0 = nextP q i then 1 else 0) := fun i hi => by
    by_cases h : p.getD i 0 = nextP p i
    · have : q.getD i 0 = nextP q i := (first_iff hq (by omega)).2 fun a ha he => (first_iff hp hi).1 h a (by omega) (hf a i (by omega) hi he)
      rw [if_pos h, if_pos this]; exact Int.le_refl _
    · rw [if_neg h]; split <;> omega
  rw [next_sum p, next_sum q, hl]
  refine ⟨sumN_mono hle, fun hge i j hi hj he => ?_⟩
  have hs := sumN_same hle hge
  obtain ⟨a, ha1, ha2, ha3⟩ := first_of hq i i (by omega) (Nat.le_refl _)
  obtain ⟨b, hb1, hb2, hb3⟩ := first_of hq j j (by omega) (Nat.le_refl _)
  have fa : p.getD a 0 = nextP p a := by
    have := hs a (by omega)
    rw [if_pos ha3] at this
    by_cases h : p.getD a 0 = nextP p a
    · exact h
    · rw [if_neg h] at this; cases this
  have fb : p.getD b 0 = nextP p b := by
    have := hs b (by omega)
    rw [if_pos hb3] at this
    by_cases h : p.getD b 0 = nextP p b
    · exact h
    · rw [if_neg h] at this; cases this
  have pa := hf a i (by omega) hi ha2
  have pb := hf b j (by omega) hj hb2
  have h1 := (first_iff hp (show a < p.length by omega)).1 fa b (by omega) (by rw [pb, ← he, pa])
  have h2 := (first_iff hp (show b < p.length by omega)).1 fb a (by omega) (by rw [pa, he, pb])
  rw [← ha2, ← hb2, show a = b by omega]

/-! ### They tell each other -/

def zipT (p : List Int) (said : List (Int × Int)) : List (List Int) := (List.range p.length).map fun i => [p.getD i 0, (said.getD i (0, 0)).1, (said.getD i (0, 0)).2]
theorem zipT_get {p : List Int} {said : List (Int × Int)} {i : Nat} (h : i < p.length) : List.getD (zipT p said) i (dT (.tup 3)) = [p.getD i 0, (said.getD i (0, 0)).1, (said.getD i (0, 0)).2] := by simp [zipT, List.getD, h]
def tellL (p : List Int) (said : List (Int × Int)) : List Int := numQ (.tup 3) (zipT p said) p.length
theorem tell_app (p : List Int) (said : List (Int × Int)) {i : Nat} (h : i < p.length) : qAdd (.tup 3) ([p.getD i 0, (said.getD i (0, 0)).1, (said.getD i (0, 0)).2] : List Int) (qAt (.tup 3) (zipT p said) i) = qAt (.tup 3) (zipT p said) (i + 1) := by
  rw [qAt, zipT_get h]
theorem tell_num (p : List Int) (said : List (Int × Int)) {i : Nat} (h : i < p.length) : numQ (.tup 3) (zipT p said) i ++ [qIdx (.tup 3) ([p.getD i 0, (said.getD i (0, 0)).1, (said.getD i (0, 0)).2] : List Int) (qAt (.tup 3) (zipT p said) i)] = numQ (.tup 3) (zipT p said) (i + 1) := by
  rw [← numQ_step, zipT_get h]
theorem tell_parts {p : List Int} (h12 : p.length ≤ 12) (said : List (Int × Int)) : Parts (tellL p said) p.length fun i j => p.getD i 0 = p.getD j 0 ∧ said.getD i (0, 0) = said.getD j (0, 0) := by
  refine ⟨num_good _ h12, numQ_len _ _ _, fun i j hi hj => ?_⟩
  unfold tellL
  rw [num_eq _ hi hj, zipT_get hi, zipT_get hj]
  constructor
  · intro h
    have h0 : ([p.getD i 0, (said.getD i (0, 0)).1, (said.getD i (0, 0)).2] : List Int).getD 0 0 = ([p.getD j 0, (said.getD j (0, 0)).1, (said.getD j (0, 0)).2] : List Int).getD 0 0 := by
      have := congrArg (fun l : List Int => l.getD 0 0) h
      simpa [keyL] using this
    have h1 : ([p.getD i 0, (said.getD i (0, 0)).1, (said.getD i (0, 0)).2] : List Int).getD 1 0 = ([p.getD j 0, (said.getD j (0, 0)).1, (said.getD j (0, 0)).2] : List Int).getD 1 0 := by
      have := congrArg (fun l : List Int => l.getD 1 0) h
      simpa [keyL] using this
    have h2 : ([p.getD i 0, (said.getD i (0, 0)).1, (said.getD i (0, 0)).2] : List Int).getD 2 0 = ([p.getD j 0, (said.getD j (0, 0)).1, (said.getD j (0, 0)).2] : List Int).getD 2 0 := by
      have := congrArg (fun l : List Int => l.getD 2 0) h
      simpa [keyL] using this
    exact ⟨h0, Prod.ext h1 h2⟩
  · rintro ⟨h1, h2⟩
    rw [h1, h2]
/-- What both tell apart, each time. -/
def tkP (p q ws : List Int) (e : Nat) : Nat → List Int × List Int
  | 0 => (p, q)
  | k + 1 => (tellL (tkP p q ws e k).1 (sureP (tkP p q ws e k).2 ws e (tkP p q ws e k).2.length), tellL (tkP p q ws e k).2 (sureP (tkP p q ws e k).1 ws e (tkP p q ws e k).1.length))
def tkX (p q ws : List Int) (e w k : Nat) : Int × Int := xAt (tkP p q ws e k).1 ws e w
def tkY (p q ws : List Int) (e w k : Nat) : Int × Int := xAt (tkP p q ws e k).2 ws e w
def foursL (p q ws : List Int) (e w k : Nat) : List (List Int) := (List.range k).map fun j => [(tkX p q ws e w j).1, (tkX p q ws e w j).2, (tkY p q ws e w j).1, (tkY p q ws e w j).2]
theorem foursL_len (p q ws : List Int) (e w k : Nat) : (foursL p q ws e w k).length = k := by simp [foursL]
theorem foursL_next (p q ws : List Int) (e w k : Nat) : foursL p q ws e w k ++ [[(tkX p q ws e w k).1, (tkX p q ws e w k).2, (tkY p q ws e w k).1, (tkY p q ws e w k).2]] = foursL p q ws e w (k + 1) := by simp [foursL, List.range_succ]
theorem foursL_get (p q ws : List Int) (e w : Nat) {j k : Nat} (h : j < k) (d : List Int) : (foursL p q ws e w k).getD j d = [(tkX p q ws e w j).1, (tkX p q ws e w j).2, (tkY p q ws e w j).1, (tkY p q ws e w j).2] := by simp [foursL, List.getD, h]
theorem Bel.tell {p ws : List Int} (b : Bel p ws) (said : List (Int × Int)) : Bel (tellL p said) ws := by
  have P := tell_parts b.len said
  exact ⟨P.ok, by rw [P.len]; exact b.wl, b.wt⟩
theorem tk_bel {p q ws : List Int} (bp : Bel p ws) (bq : Bel q ws) (e : Nat) : ∀ k, Bel (tkP p q ws e k).1 ws ∧ Bel (tkP p q ws e k).2 ws
  | 0 => ⟨bp, bq⟩
  | k + 1 => ⟨(tk_bel bp bq e k).1.tell _, (tk_bel bp bq e k).2.tell _⟩
def clP (r : List Int × List Int) : Nat := (nextP r.1 r.1.length).toNat + (nextP r.2 r.2.length).toNat
theorem linked_one {p q : List Int} {w : Nat} (hw : w < p.length) : linked [p, q] w w := fun _ _ => rfl
open Classical in
/-- Where they are not as sure, one of them learns something. -/
theorem tk_grow {p q ws : List Int} (bp : Bel p ws) (bq : Bel q ws) (e : Nat) {w : Nat} (hw : w < ws.length) (k : Nat) (hne : tkX p q ws e w k ≠ tkY p q ws e w k) : clP (tkP p q ws e k) < clP (tkP p q ws e (k + 1)) := by
  obtain ⟨b1, b2⟩ := tk_bel bp bq e k
  generalize hP : (tkP p q ws e k).1 = P at b1
  generalize hQ : (tkP p q ws e k).2 = Q at b2
  have lP := b1.wl
  have lQ := b2.wl
  have e1 : (tkP p q ws e (k + 1)).1 = tellL P (sureP Q ws e Q.length) := by rw [tkP, hP, hQ]
  have e2 : (tkP p q ws e (k + 1)).2 = tellL Q (sureP P ws e P.length) := by rw [tkP, hP, hQ]
  have t1 := tell_parts b1.len (sureP Q ws e Q.length)
  have t2 := tell_parts b2.len (sureP P ws e P.length)
  have n1 := finer_more b1.hp t1.ok t1.len fun i j hi hj he => ((t1.eqv i j hi hj).1 he).1
  have n2 := finer_more b2.hp t2.ok t2.len fun i j hi hj he => ((t2.eqv i j hi hj).1 he).1
  unfold clP
  rw [hP, hQ, e1, e2]
  apply Nat.lt_of_not_le
  intro hle
  have g1 := nextP_in P P.length
  have g2 := nextP_in Q Q.length
  have s1 := n1.2 (by omega)
  have s2 := n2.2 (by omega)
  apply hne
  unfold tkX tkY
  rw [hP, hQ]
  have cy : ∀ i j, i < P.length → j < P.length → P.getD i 0 = P.getD j 0 → xAt Q ws e i = xAt Q ws e j := fun i j hi hj he => by
    have := ((t1.eqv i j hi hj).1 (s1 i j hi hj he)).2
    rwa [sure_at (p := Q) (by omega), sure_at (p := Q) (by omega)] at this
  have cx : ∀ i j, i < Q.length → j < Q.length → Q.getD i 0 = Q.getD j 0 → xAt P ws e i = xAt P ws e j := fun i j hi hj he => by
    have := ((t2.eqv i j hi hj).1 (s2 i j hi hj he)).2
    rwa [sure_at (p := P) (by omega), sure_at (p := P) (by omega)] at this
  have own : ∀ (R : List Int) (i j : Nat), R.getD i 0 = R.getD j 0 → xAt R ws e i = xAt R ws e j := fun R i j he => by unfold xAt; rw [he]
  refine aumann b1 b2 e (fun i => linked [P, Q] i w) (by omega) (linked_one (by omega)) (fun i j hi hj he hm => linked_step hi hj (.inl he) hm) (fun i j hi hj he hm => linked_step hi hj (.inr he) hm) ?_ ?_
  · intro i hi hm
    have := hm (fun a => if xAt P ws e a = xAt P ws e w then 1 else 0) fun a ha x y hx hy hxy => by
      have hx' : x < P.length := hx
      have hy' : y < P.length := hy
      have : xAt P ws e x = xAt P ws e y := by
        match a, ha, hxy with
        | 0, _, hxy => exact own P x y hxy
        | 1, _, hxy => exact cx x y (by omega) (by omega) hxy
      show (if xAt P ws e x = xAt P ws e w then 1 else 0) = (if xAt P ws e y = xAt P ws e w then 1 else 0)
      rw [this]
    have this : (if xAt P ws e i = xAt P ws e w then 1 else 0) = (if xAt P ws e w = xAt P ws e w then 1 else 0) := this
    rw [if_pos rfl] at this
    by_cases h : xAt P ws e i = xAt P ws e w
    · exact h
    · rw [if_neg h] at this; cases this
  · intro i hi hm
    have := hm (fun a => if xAt Q ws e a = xAt Q ws e w then 1 else 0) fun a ha x y hx hy hxy => by
      have hx' : x < P.length := hx
      have hy' : y < P.length := hy
      have : xAt Q ws e x = xAt Q ws e y := by
        match a, ha, hxy with
        | 0, _, hxy => exact cy x y (by omega) (by omega) hxy
        | 1, _, hxy => exact own Q x y hxy
      show (if xAt Q ws e x = xAt Q ws e w then 1 else 0) = (if xAt Q ws e y = xAt Q ws e w then 1 else 0)
      rw [this]
    have this : (if xAt Q ws e i = xAt Q ws e w then 1 else 0) = (if xAt Q ws e w = xAt Q ws e w then 1 else 0) := this
    rw [if_pos rfl] at this
    by_cases h : xAt Q ws e i = xAt Q ws e w
    · exact h
    · rw [if_neg h] at this; cases this
theorem clP_le {p q ws : List Int} (bp : Bel p ws) (bq : Bel q ws) (e k : Nat) : clP (tkP p q ws e k) ≤ 2 * ws.length := by
  obtain ⟨b1, b2⟩ := tk_bel bp bq e k
  have g1 := nextP_in (tkP p q ws e k).1 (tkP p q ws e k).1.length
  have g2 := nextP_in (tkP p q ws e k).2 (tkP p q ws e k).2.length
  have := b1.wl
  have := b2.wl
  unfold clP
  omega
theorem clP_two {p q ws : List Int} (bp : Bel p ws) (bq : Bel q ws) (h : 0 < ws.length) : 2 ≤ clP (p, q) := by
  have c1 := class_lt bp.hp (j := 0) (by rw [← bp.wl]; exact h)
  have c2 := class_lt bq.hp (j := 0) (by rw [← bq.wl]; exact h)
  show 2 ≤ (nextP p p.length).toNat + (nextP q q.length).toNat
  omega
theorem clP_up {p q ws : List Int} (bp : Bel p ws) (bq : Bel q ws) (e : Nat) {w : Nat} (hw : w < ws.length) : ∀ k, (∀ j, j < k → tkX p q ws e w j ≠ tkY p q ws e w j) → 2 + k ≤ clP (tkP p q ws e k)
  | 0, _ => clP_two bp bq (by omega)
  | k + 1, h => by
    have ih := clP_up bp bq e hw k fun j hj => h j (by omega)
    have := tk_grow bp bq e hw k (h k (by omega))
    omega
/-- The first time that they are as sure. -/
def stopN (f : Nat → Bool) : Nat → Nat → Nat
  | 0, k => k
  | n + 1, k => if f k = true then k else stopN f n (k + 1)
theorem stopN_is {f : Nat → Bool} {K : Nat} (hK : f K = true) : ∀ {n k : Nat}, k ≤ K → K ≤ k + n → (∀ j, k ≤ j → j < K → f j = false) → stopN f n k = K
  | 0, k, h1, h2, _ => by show k = K; omega
  | n + 1, k, h1, h2, h3 => by
    unfold stopN
    by_cases he : k = K
    · subst he; rw [if_pos hK]
    · rw [if_neg (by rw [h3 k (Nat.le_refl _) (by omega)]; decide)]
      exact stopN_is hK (by omega) (by omega) fun j hj1 hj2 => h3 j (by omega) hj2
def talkK (p q ws : List Int) (e w : Nat) : Nat := stopN (fun k => decide (tkX p q ws e w k = tkY p q ws e w k)) 40 0
def talkR (p q ws : List Int) (e w : Int) : List (List Int) := if pairE p q ws e w = 0 then foursL p q ws e.toNat w.toNat (talkK p q ws e.toNat w.toNat + 1) else []
structure TalkEnd (p q ws : List Int) (e w K : Nat) : Prop where
  eq : tkX p q ws e w K = tkY p q ws e w K
  ne : ∀ j, j < K → tkX p q ws e w j ≠ tkY p q ws e w j
theorem TalkEnd.few {p q ws : List Int} {e w K : Nat} (bp : Bel p ws) (bq : Bel q ws) (hw : w < ws.length) (h : TalkEnd p q ws e w K) : K + 2 ≤ 2 * ws.length := by
  have h1 := clP_up bp bq e hw K h.ne
  have h2 := clP_le bp bq e K
  omega
theorem TalkEnd.is {p q ws : List Int} {e w K : Nat} (bp : Bel p ws) (bq : Bel q ws) (hw : w < ws.length) (h : TalkEnd p q ws e w K) : talkK p q ws e w = K := by
  have hf := h.few bp bq hw
  have h12 := bp.wt.1
  exact stopN_is (f := fun k => decide (tkX p q ws e w k = tkY p q ws e w k)) (decide_eq_true h.eq) (Nat.zero_le _) (by omega) fun j _ hj => decide_eq_false (h.ne j hj)
/-- There is such a time. -/
theorem talk_ends {p q ws : List Int} (bp : Bel p ws) (bq : Bel q ws) (e : Nat) {w : Nat} (hw : w < ws.length) : TalkEnd p q ws e w (talkK p q ws e w) := by
  have find : ∀ n k, (∀ j, j < k → tkX p q ws e w j ≠ tkY p q ws e w j) → 2 * ws.length < 2 + k + n → ∃ K, TalkEnd p q ws e w K := by
    intro n
    induction n with
    | zero =>
      intro k hk hn
      have h1 := clP_up bp bq e hw k hk
      have h2 := clP_le bp bq e k
      omega
    | succ n ih =>
      intro k hk hn
      by_cases h : tkX p q ws e w k = tkY p q ws e w k
      · exact ⟨k, h, hk⟩
      · exact ih (k + 1) (fun j hj => by
          rcases Nat.lt_or_ge j k with hlt | hge
          · exact hk j hlt
          · rw [show j = k by omega]; exact h) (by omega)
  obtain ⟨K, hK⟩ := find (2 * ws.length) 0 (fun j hj => by omega) (by omega)
  rw [hK.is bp bq hw]
  exact hK

theorem tell_fn (p : List Int) (said : List (Int × Int)) (hl : said.length = p.length) (h12 : p.length ≤ 12) : LiftsD Tryd.prog 51 [.sl .int p, .sl .two said] (.sl .int (tellL p said)) := by
  refine LiftsD.of_body 40 [.tmp 4] Tryd.func51 rfl Tryd.ntmps51 (by kernel_rfl) rfl rfl fun w0 X0 => ?_
  refine AWPD.seq fun K1 hK1 => ?_
  -- region 0
  refine AWPD.keep [0, 1] rfl ?_
  refine AWPD.region tabOK rfl ?_
  refine hK1 _ _ ?_
  clear hK1
  refine AWPD.seq fun K2 hK2 => ?_
  -- region 1
  refine AWPD.keep [0, 1] rfl ?_
  refine AWPD.region tabOK rfl ?_
  refine hK2 _ _ ?_
  clear hK2
  refine AWPD.seq fun K3 hK3 => ?_
  -- region 2
  refine AWPD.keep [0, 1, 5] rfl ?_
  refine AWPD.region tabOK rfl ?_
  refine hK3 _ _ ?_
  clear hK3
  refine AWPD.seq fun K4 hK4 => ?_
  refine AWPD.seq fun K5 hK5 => ?_
  -- region 3
  refine AWPD.keep [0, 1, 5, 6] rfl ?_
  refine AWPD.region tabOK rfl ?_
  refine hK5 _ _ ?_
  clear hK5
  refine AWPD.block ?_
  -- LOOP 0 live [1, 5, 6, 11, 12, 13] changed [6, 13]
  refine AWPD.newQ 0 93 (.tup 3) rfl ?_
  refine AWPD.nilRow 6 3 .int rfl (by decide) ?_
  refine AWPD.loopK (σ := Nat) [1, 11, 12] (fun i base => (5, .op 0 0) :: (6, .ob 1) :: (13, .i (i : Int)) :: base) (fun i => [.que 91 93 (.tup 3) (qAt (.tup 3) (zipT p said) i), .row 3 .int (numQ (.tup 3) (zipT p said) i)]) (fun n i => n + i = p.length) (p.length) 0 [0, 1] rfl rfl (by omega) (by decide) ⟨rfl, ⟨rfl, rfl, rfl⟩, trivial⟩ (by repeat' first | exact True.intro | exact rfl | exact ⟨rfl, rfl⟩ | refine And.intro ?_ ?_) fun n0 i hI0 => ?_
  have hn0 := hI0
  have hql := qAt_len (.tup 3) (zipT p said) i
  have hnl := numQ_len (.tup 3) (zipT p said) i
  refine AWPD.seq fun K6 hK6 => ?_
  -- region 4
  refine AWPD.keep [1, 5, 6, 11, 12, 13] rfl ?_
  refine AWPD.region tabOK rfl ?_
  refine hK6 _ _ ?_
  clear hK6
  refine AWPD.seq fun K7 hK7 => ?_
  first | refine AWPD.condP rfl (fun h0 => ?_) (fun h0 => ?_) | refine AWPD.condN rfl (fun h0 => ?_) (fun h0 => ?_) | refine AWPD.condAP rfl (fun h0 => ?_) (fun h0 => ?_) | refine AWPD.condOP rfl (fun h0 => ?_) (fun h0 => ?_) | refine AWPD.condONN rfl (fun h0 => ?_) (fun h0 => ?_) | refine AWPD.condOPN rfl (fun h0 => ?_) (fun h0 => ?_) | refine AWPD.condA rfl (fun h0 => ?_) (fun h0 => ?_) | refine AWPD.condO rfl (fun h0 => ?_) (fun h0 => ?_) | refine AWPD.cond rfl (fun h0 => ?_) (fun h0 => ?_)
  · try dsimp only [Ty.T] at h0
    try simp only [castL_self] at h0
    try simp only [Int.toNat_natCast] at h0
    try simp only [Int.toNat_zero] at h0
    refine AWPD.skip ?_
    refine hK7 _ _ ?_
    clear hK7
    refine AWPD.seq fun K8 hK8 => ?_
    refine AWPD.block ?_
    refine AWPD.seq fun K9 hK9 => ?_
    -- region 5
    refine AWPD.keep [1, 5, 6, 11, 12, 13] rfl ?_
    refine AWPD.region tabOK rfl ?_
    repeat refine And.intro (by first | exact fun h => h | exact fun _ => rfl | (intro h; rw [h]; rfl) | omega | (intros; (try dsimp only [Ty.T, Ty.size]); (try simp only [castL_self, Int.toNat_natCast, Int.toNat_zero, Int.toNat_one, true_and, List.length_append, List.length_set, List.length_drop, List.length_take, List.length_replicate, List.length_cons, List.length_nil, Nat.zero_add, Nat.mul_one]); omega) | decide | (intros; simp_all; done) | (intros; simp_all; omega)) ?_
    refine hK9 _ _ ?_
    clear hK9
    refine AWPD.seq fun K10 hK10 => ?_
    -- region 6
    refine AWPD.keep [1, 5, 6, 7, 8, 11, 12, 13] rfl ?_
    refine AWPD.draw tabOK [12] rfl (by kernel_rfl) ?_
    repeat refine And.intro (by first | exact fun h => h | exact fun _ => rfl | (intro h; rw [h]; rfl) | omega | (intros; (try dsimp only [Ty.T, Ty.size]); (try simp only [castL_self, Int.toNat_natCast, Int.toNat_zero, Int.toNat_one, true_and, List.length_append, List.length_set, List.length_drop, List.length_take, List.length_replicate, List.length_cons, List.length_nil, Nat.zero_add, Nat.mul_one]); omega) | decide | (intros; simp_all; done) | (intros; simp_all; omega)) ?_
    refine Exists.intro _ (Exists.intro _ (And.intro (StepD.callO (i := 0) (addR_fn (p.getD i 0, (said.getD i (0, 0)).1, (said.getD i (0, 0)).2) _ (by omega)) rfl rfl rfl rfl (by first | exact rfl | exact row_free _ _ _) (by first | exact rfl | exact row_free _ _ _)) (And.intro rfl (And.intro trivial ?_))))
    refine hK10 _ _ ?_
    clear hK10
    -- region 7
    refine AWPD.keep [1, 5, 6, 9, 11, 12, 13] rfl ?_
    refine AWPD.region tabOK rfl ?_
    repeat refine And.intro (by first | exact fun h => h | exact fun _ => rfl | (intro h; rw [h]; rfl) | omega | (intros; (try dsimp only [Ty.T, Ty.size]); (try simp only [castL_self, Int.toNat_natCast, Int.toNat_zero, Int.toNat_one, true_and, List.length_append, List.length_set, List.length_drop, List.length_take, List.length_replicate, List.length_cons, List.length_nil, Nat.zero_add, Nat.mul_one]); omega) | decide | (intros; simp_all; done) | (intros; simp_all; omega)) ?_
    refine hK8 _ _ ?_
    clear hK8
    -- region 8
    refine AWPD.keep [1, 5, 6, 11, 12, 13] rfl ?_
    refine AWPD.region tabOK rfl ?_
    repeat refine And.intro (by first | exact fun h => h | exact fun _ => rfl | (intro h; rw [h]; rfl) | omega | (intros; (try dsimp only [Ty.T, Ty.size]); (try simp only [castL_self, Int.toNat_natCast, Int.toNat_zero, Int.toNat_one, true_and, List.length_append, List.length_set, List.length_drop, List.length_take, List.length_replicate, List.length_cons, List.length_nil, Nat.zero_add, Nat.mul_one]); omega) | decide | (intros; simp_all; done) | (intros; simp_all; omega)) ?_
    refine ⟨n0 - 1, i + 1, [0, 2], by omega, by omega, ⟨by decide, rfl⟩, ⟨(by show queR _ _ _ _ = queR _ _ _ _; rw [← tell_app p said (by omega)]), ⟨rfl, rfl, tell_num p said (by omega)⟩, trivial⟩, ?_⟩
    repeat' first | exact True.intro | exact rfl | exact ⟨rfl, rfl⟩ | refine And.intro ?_ ?_
  · try dsimp only [Ty.T] at h0
    try simp only [castL_self] at h0
    try simp only [Int.toNat_natCast] at h0
    try simp only [Int.toNat_zero] at h0
    refine AWPD.exit ?_
    refine hK4 _ _ ?_
    clear hK4
    refine AWPD.seq fun K11 hK11 => ?_
    -- region 9
    refine AWPD.keep [6] rfl ?_
    refine AWPD.region tabOK rfl ?_
    refine hK11 _ _ ?_
    clear hK11
    refine AWPD.ret (And.intro (.inl rfl) ?_)
    -- result 0
    refine RetD.one ?_
    exact fitR rfl rfl (by unfold tellL; rw [show p.length = i by omega])
theorem talk_fn (p q ws : List Int) (e w : Int) : LiftsG Tryd.prog tabG 17 [.sl .int p, .sl .int q, .sl .int ws, .i e, .i w] (.tup [.sl (.tup 4) (talkR p q ws e w), .er 66 (pairE p q ws e w)]) := by
  refine LiftsG.of_body 65 [.tmp 10, .tmp 11] Tryd.func17 rfl Tryd.ntmps17 (by kernel_rfl) rfl rfl fun w0 X0 hG0 => ?_
  refine AWPD.seq fun K1 hK1 => ?_
  -- region 0
  refine AWPD.keep [0, 1, 2, 3, 4] rfl ?_
  refine AWPD.region tabOK rfl ?_
  refine hK1 _ _ ?_
  clear hK1
  refine AWPD.seq fun K2 hK2 => ?_
  refine AWPD.seq fun K3 hK3 => ?_
  -- region 1
  refine AWPD.keep [0, 1, 2, 3, 4] rfl ?_
  refine AWPD.region tabOK rfl ?_
  refine Exists.intro _ (Exists.intro _ (And.intro (StepD.call (pair_fn _ _ _ _ _) rfl rfl rfl) (And.intro rfl (And.intro trivial ?_))))
  refine hK3 _ _ ?_
  clear hK3
  refine AWPD.seq fun K4 hK4 => ?_
  -- region 2
  refine AWPD.keep [0, 1, 2, 3, 4, 12] rfl ?_
  refine AWPD.region tabOK rfl ?_
  refine hK4 _ _ ?_
  clear hK4
  first | refine AWPD.condP rfl (fun h0 => ?_) (fun h0 => ?_) | refine AWPD.condN rfl (fun h0 => ?_) (fun h0 => ?_) | refine AWPD.condAP rfl (fun h0 => ?_) (fun h0 => ?_) | refine AWPD.condOP rfl (fun h0 => ?_) (fun h0 => ?_) | refine AWPD.condONN rfl (fun h0 => ?_) (fun h0 => ?_) | refine AWPD.condOPN rfl (fun h0 => ?_) (fun h0 => ?_) | refine AWPD.condA rfl (fun h0 => ?_) (fun h0 => ?_) | refine AWPD.condO rfl (fun h0 => ?_) (fun h0 => ?_) | refine AWPD.cond rfl (fun h0 => ?_) (fun h0 => ?_)
  · try dsimp only [Ty.T] at h0
    try simp only [castL_self] at h0
    try simp only [Int.toNat_natCast] at h0
    try simp only [Int.toNat_zero] at h0
    refine AWPD.seq fun K5 hK5 => ?_
    -- region 3
    refine AWPD.keep [12] rfl ?_
    refine AWPD.region tabOK rfl ?_
    refine hK5 _ _ ?_
    clear hK5
    refine AWPD.ret (And.intro (.inl rfl) ?_)
    -- result 0
    exact ⟨fitN rfl (by unfold talkR; rw [if_neg h0]) (by decide), fitE rfl rfl⟩
  · try dsimp only [Ty.T] at h0
    try simp only [castL_self] at h0
    try simp only [Int.toNat_natCast] at h0
    try simp only [Int.toNat_zero] at h0
    have he : pairE p q ws e w = 0 := by simpa using h0
    have pr := pair_of he
    have hwi := pr.wi
    have hem := pr.em
    have hwl := pr.wl
    have h12 := pr.wt.1
    have hww : w.toNat < ws.length := by omega
    refine AWPD.skip ?_
    refine hK2 _ _ ?_
    clear hK2
    refine AWPD.seq fun K6 hK6 => ?_
    -- region 4
    refine AWPD.keep [0, 1, 2, 3, 4] rfl ?_
    refine AWPD.region tabOK rfl ?_
    refine hK6 _ _ ?_
    clear hK6
    refine AWPD.block ?_
    -- LOOP 0 live [0, 1, 2, 3, 4, 13] changed [0, 1, 13]
    refine AWPD.nilRow 13 42 (.tup 4) rfl (by decide) ?_
    refine AWPD.loopK (σ := Nat) [2, 3, 4] (fun k base => (0, .sl .int (tkP p q ws e.toNat k).1) :: (1, .sl .int (tkP p q ws e.toNat k).2) :: (13, .ob 0) :: base) (fun k => [.row 42 (.tup 4) (foursL p q ws e.toNat w.toNat k)]) (fun n k => n + clP (tkP p q ws e.toNat k) = 2 * ws.length + 1 ∧ ∀ j, j < k → tkX p q ws e.toNat w.toNat j ≠ tkY p q ws e.toNat w.toNat j) (2 * ws.length + 1 - clP (tkP p q ws e.toNat 0)) 0 [0] rfl rfl (⟨(by have := clP_le pr.belP pr.belQ e.toNat 0; omega), fun j hj => by omega⟩) (by decide) ⟨⟨rfl, rfl, rfl⟩, trivial⟩ (by repeat' first | exact True.intro | exact rfl | exact ⟨rfl, rfl⟩ | refine And.intro ?_ ?_) fun n0 k hI0 => ?_
    obtain ⟨hn0, hne0⟩ := hI0
    obtain ⟨b1, b2⟩ := tk_bel pr.belP pr.belQ e.toNat k
    have l1 := b1.wl
    have l2 := b2.wl
    have hfl := foursL_len p q ws e.toNat w.toNat k
    have hsl1 := sureP_len (tkP p q ws e.toNat k).1 ws e.toNat (tkP p q ws e.toNat k).1.length
    have hsl2 := sureP_len (tkP p q ws e.toNat k).2 ws e.toNat (tkP p q ws e.toNat k).2.length
    have hgx : (sureP (tkP p q ws e.toNat k).1 ws e.toNat (tkP p q ws e.toNat k).1.length).getD w.toNat (0, 0) = tkX p q ws e.toNat w.toNat k := sure_at (by omega)
    have hgy : (sureP (tkP p q ws e.toNat k).2 ws e.toNat (tkP p q ws e.toNat k).2.length).getD w.toNat (0, 0) = tkY p q ws e.toNat w.toNat k := sure_at (by omega)
    have hfn := foursL_next p q ws e.toNat w.toNat k
    rw [← hgx, ← hgy] at hfn
    have hcu := clP_up pr.belP pr.belQ e.toNat hww k hne0
    have hcl0 := clP_le pr.belP pr.belQ e.toNat k
    refine AWPD.block ?_
    refine AWPD.seq fun K7 hK7 => ?_
    -- region 5
    refine AWPD.keep [0, 1, 2, 3, 4, 13] rfl ?_
    refine AWPD.region tabOK rfl ?_
    refine Exists.intro _ (Exists.intro _ (And.intro (StepD.callG tabG_stays rfl hG0 (all_fn (tkP p q ws e.toNat k).1 ws e b1.hp b1.wl pr.wt ⟨hem.1, by rw [hwl]; exact hem.2.2⟩) rfl rfl rfl) (And.intro rfl (And.intro trivial ?_))))
    refine Exists.intro _ (Exists.intro _ (And.intro (StepD.callG tabG_stays rfl hG0 (all_fn (tkP p q ws e.toNat k).2 ws e b2.hp b2.wl pr.wt ⟨hem.1, by rw [hwl]; exact hem.2.2⟩) rfl rfl rfl) (And.intro rfl (And.intro trivial ?_))))
    refine hK7 _ _ ?_
    clear hK7
    refine AWPD.seq fun K8 hK8 => ?_
    -- region 6
    refine AWPD.keep [0, 1, 2, 3, 4, 13, 14, 15] rfl ?_
    refine AWPD.draw2 tabOK 8 [8, 9, 10, 11, 1002, 1003, 1006, 1007] [8, 9, 10, 11, 1002, 1003, 1006, 1007] rfl rfl rfl (by kernel_rfl) (by kernel_rfl) ?_ ?_
    · show EV _ _ _ _ _ _ _ _ _ _
      repeat refine And.intro (by first | exact fun h => h | exact fun _ => rfl | (intro h; rw [h]; rfl) | omega | (intros; (try dsimp only [Ty.T, Ty.size]); (try simp only [castL_self, Int.toNat_natCast, Int.toNat_zero, Int.toNat_one, true_and, List.length_append, List.length_set, List.length_drop, List.length_take, List.length_replicate, List.length_cons, List.length_nil, Nat.zero_add, Nat.mul_one]); omega) | decide | (intros; simp_all; done) | (intros; simp_all; omega)) ?_
      refine hK8 _ _ ?_
      clear hK8
      refine AWPD.seq fun K9 hK9 => ?_
      -- region 7
      refine AWPD.keep [0, 1, 2, 3, 4, 13, 14, 15, 16, 17] rfl ?_
      refine AWPD.region tabOK rfl ?_
      repeat refine And.intro (by first | exact fun h => h | exact fun _ => rfl | (intro h; rw [h]; rfl) | omega | (intros; (try dsimp only [Ty.T, Ty.size]); (try simp only [castL_self, Int.toNat_natCast, Int.toNat_zero, Int.toNat_one, true_and, List.length_append, List.length_set, List.length_drop, List.length_take, List.length_replicate, List.length_cons, List.length_nil, Nat.zero_add, Nat.mul_one]); omega) | decide | (intros; simp_all; done) | (intros; simp_all; omega)) ?_
      refine hK9 _ _ ?_
      clear hK9
      refine AWPD.seq fun K10 hK10 => ?_
      refine AWPD.seq fun K11 hK11 => ?_
      -- region 8
      refine AWPD.keep [0, 1, 2, 3, 4, 13, 14, 15, 16, 17] rfl ?_
      refine AWPD.region tabOK rfl ?_
      repeat refine And.intro (by first | exact fun h => h | exact fun _ => rfl | (intro h; rw [h]; rfl) | omega | (intros; (try dsimp only [Ty.T, Ty.size]); (try simp only [castL_self, Int.toNat_natCast, Int.toNat_zero, Int.toNat_one, true_and, List.length_append, List.length_set, List.length_drop, List.length_take, List.length_replicate, List.length_cons, List.length_nil, Nat.zero_add, Nat.mul_one]); omega) | decide | (intros; simp_all; done) | (intros; simp_all; omega)) ?_
      refine hK11 _ _ ?_
      clear hK11
      first | refine AWPD.cond rfl (fun h1 => ?_) (fun h1 => ?_)
      · try dsimp only [Ty.T] at h1
        try simp only [castL_self] at h1
        try simp only [Int.toNat_natCast] at h1
        try simp only [Int.toNat_zero] at h1
        have hxy : tkX p q ws e.toNat w.toNat k = tkY p q ws e.toNat w.toNat k := by
          rw [← hgx, ← hgy]
          exact (two_eq _ _).1 (of_decide_eq_true h1)
        refine AWPD.seq fun K12 hK12 => ?_
        -- region 9
        refine AWPD.keep [13] rfl ?_
        refine AWPD.region tabOK rfl ?_
        refine hK12 _ _ ?_
        clear hK12
        refine AWPD.ret (And.intro (.inl rfl) ?_)
        -- result 1
        exact ⟨fitR rfl rfl (by unfold talkR; rw [if_pos he, (TalkEnd.is pr.belP pr.belQ hww ⟨hxy, hne0⟩ : talkK p q ws e.toNat w.toNat = k)]; exact hfn), fitE rfl he.symm⟩
      · try dsimp only [Ty.T] at h1
        try simp only [castL_self] at h1
        try simp only [Int.toNat_natCast] at h1
        try simp only [Int.toNat_zero] at h1
        have hxy : tkX p q ws e.toNat w.toNat k ≠ tkY p q ws e.toNat w.toNat k := fun hh => of_decide_eq_false h1 ((two_eq _ _).2 (by rw [hgx, hgy]; exact hh))
        have hgr := tk_grow pr.belP pr.belQ e.toNat hww k hxy
        have hcl := clP_le pr.belP pr.belQ e.toNat (k + 1)
        refine AWPD.skip ?_
        refine hK10 _ _ ?_
        clear hK10
        -- region 10
        refine AWPD.keep [0, 1, 2, 3, 4, 13, 14, 15] rfl ?_
        refine AWPD.region tabOK rfl ?_
        refine Exists.intro _ (Exists.intro _ (And.intro (StepD.call (tell_fn _ _ (by rw [sureP_len]; omega) (by omega)) rfl rfl rfl) (And.intro rfl (And.intro trivial ?_))))
        refine Exists.intro _ (Exists.intro _ (And.intro (StepD.call (tell_fn _ _ (by rw [sureP_len]; omega) (by omega)) rfl rfl rfl) (And.intro rfl (And.intro trivial ?_))))
        refine ⟨2 * ws.length + 1 - clP (tkP p q ws e.toNat (k + 1)), k + 1, [3], by omega, ⟨by omega, fun j hj => by
              rcases Nat.lt_or_ge j k with hlt | hge
              · exact hne0 j hlt
              · rw [show j = k by omega]; exact hxy⟩, ⟨by decide, rfl⟩, ⟨⟨rfl, rfl, hfn⟩, trivial⟩, ?_⟩
        repeat' first | exact True.intro | exact rfl | exact ⟨rfl, rfl⟩ | refine And.intro ?_ ?_
    · show EV _ _ _ _ _ _ _ _ _ _
      repeat refine And.intro (by first | exact fun h => h | exact fun _ => rfl | (intro h; rw [h]; rfl) | omega | (intros; (try dsimp only [Ty.T, Ty.size]); (try simp only [castL_self, Int.toNat_natCast, Int.toNat_zero, Int.toNat_one, true_and, List.length_append, List.length_set, List.length_drop, List.length_take, List.length_replicate, List.length_cons, List.length_nil, Nat.zero_add, Nat.mul_one]); omega) | decide | (intros; simp_all; done) | (intros; simp_all; omega)) ?_
      refine hK8 _ _ ?_
      clear hK8
      refine AWPD.seq fun K13 hK13 => ?_
      -- region 7
      refine AWPD.keep [0, 1, 2, 3, 4, 13, 14, 15, 16, 17] rfl ?_
      refine AWPD.region tabOK rfl ?_
      repeat refine And.intro (by first | exact fun h => h | exact fun _ => rfl | (intro h; rw [h]; rfl) | omega | (intros; (try dsimp only [Ty.T, Ty.size]); (try simp only [castL_self, Int.toNat_natCast, Int.toNat_zero, Int.toNat_one, true_and, List.length_append, List.length_set, List.length_drop, List.length_take, List.length_replicate, List.length_cons, List.length_nil, Nat.zero_add, Nat.mul_one]); omega) | decide | (intros; simp_all; done) | (intros; simp_all; omega)) ?_
      refine hK13 _ _ ?_
      clear hK13
      refine AWPD.seq fun K14 hK14 => ?_
      refine AWPD.seq fun K15 hK15 => ?_
      -- region 8
      refine AWPD.keep [0, 1, 2, 3, 4, 13, 14, 15, 16, 17] rfl ?_
      refine AWPD.region tabOK rfl ?_
      repeat refine And.intro (by first | exact fun h => h | exact fun _ => rfl | (intro h; rw [h]; rfl) | omega | (intros; (try dsimp only [Ty.T, Ty.size]); (try simp only [castL_self, Int.toNat_natCast, Int.toNat_zero, Int.toNat_one, true_and, List.length_append, List.length_set, List.length_drop, List.length_take, List.length_replicate, List.length_cons, List.length_nil, Nat.zero_add, Nat.mul_one]); omega) | decide | (intros; simp_all; done) | (intros; simp_all; omega)) ?_
      refine hK15 _ _ ?_
      clear hK15
      first | refine AWPD.cond rfl (fun h1 => ?_) (fun h1 => ?_)
      · try dsimp only [Ty.T] at h1
        try simp only [castL_self] at h1
        try simp only [Int.toNat_natCast] at h1
        try simp only [Int.toNat_zero] at h1
        have hxy : tkX p q ws e.toNat w.toNat k = tkY p q ws e.toNat w.toNat k := by
          rw [← hgx, ← hgy]
          exact (two_eq _ _).1 (of_decide_eq_true h1)
        refine AWPD.seq fun K16 hK16 => ?_
        -- region 9
        refine AWPD.keep [13] rfl ?_
        refine AWPD.region tabOK rfl ?_
        refine hK16 _ _ ?_
        clear hK16
        refine AWPD.ret (And.intro (.inl rfl) ?_)
        -- result 2
        exact ⟨fitR rfl rfl (by unfold talkR; rw [if_pos he, (TalkEnd.is pr.belP pr.belQ hww ⟨hxy, hne0⟩ : talkK p q ws e.toNat w.toNat = k)]; exact hfn), fitE rfl he.symm⟩
      · try dsimp only [Ty.T] at h1
        try simp only [castL_self] at h1
        try simp only [Int.toNat_natCast] at h1
        try simp only [Int.toNat_zero] at h1
        have hxy : tkX p q ws e.toNat w.toNat k ≠ tkY p q ws e.toNat w.toNat k := fun hh => of_decide_eq_false h1 ((two_eq _ _).2 (by rw [hgx, hgy]; exact hh))
        have hgr := tk_grow pr.belP pr.belQ e.toNat hww k hxy
        have hcl := clP_le pr.belP pr.belQ e.toNat (k + 1)
        refine AWPD.skip ?_
        refine hK14 _ _ ?_
        clear hK14
        -- region 10
        refine AWPD.keep [0, 1, 2, 3, 4, 13, 14, 15] rfl ?_
        refine AWPD.region tabOK rfl ?_
        refine Exists.intro _ (Exists.intro _ (And.intro (StepD.call (tell_fn _ _ (by rw [sureP_len]; omega) (by omega)) rfl rfl rfl) (And.intro rfl (And.intro trivial ?_))))
        refine Exists.intro _ (Exists.intro _ (And.intro (StepD.call (tell_fn _ _ (by rw [sureP_len]; omega) (by omega)) rfl rfl rfl) (And.intro rfl (And.intro trivial ?_))))
        refine ⟨2 * ws.length + 1 - clP (tkP p q ws e.toNat (k + 1)), k + 1, [3], by omega, ⟨by omega, fun j hj => by
              rcases Nat.lt_or_ge j k with hlt | hge
              · exact hne0 j hlt
              · rw [show j = k by omega]; exact hxy⟩, ⟨by decide, rfl⟩, ⟨⟨rfl, rfl, hfn⟩, trivial⟩, ?_⟩
        repeat' first | exact True.intro | exact rfl | exact ⟨rfl, rfl⟩ | refine And.intro ?_ ?_
end Go.Proofs.YtkdihpajgmiolaaDoor
