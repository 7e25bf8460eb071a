/-
  The walk of 'CipherTold', and the law behind it: counting by messages and by signs is the same.
-/
import Derived.Test.YtdikoipldcjcpaaQwCiW
namespace Go.Proofs.Ytdikoipldcjcpaa
open Go Go.Qw
set_option maxRecDepth 10000


def sumN (f : Nat → Int) : Nat → Int
  | 0 => 0
  | n + 1 => sumN f n + f n
theorem sumN_add (f g : Nat → Int) : ∀ n, sumN (fun q => f q + g q) n = sumN f n + sumN g n
  | 0 => rfl
  | n + 1 => by simp only [sumN, sumN_add f g n]; omega
theorem sumN_congr {f g : Nat → Int} : ∀ n, (∀ q, q < n → f q = g q) → sumN f n = sumN g n
  | 0, _ => rfl
  | n + 1, h => by simp only [sumN]; rw [sumN_congr n fun q hq => h q (by omega), h n (by omega)]
theorem sumN_le {f : Nat → Int} {B : Int} : ∀ n, (∀ q, q < n → 0 ≤ f q ∧ f q ≤ B) → 0 ≤ sumN f n ∧ sumN f n ≤ n * B
  | 0, _ => by simp [sumN]
  | n + 1, h => by
    have h1 := sumN_le n fun q hq => h q (by omega)
    have h2 := h n (by omega)
    simp only [sumN]
    rw [show ((n + 1 : Nat) : Int) * B = n * B + B by rw [Int.natCast_add, Int.add_mul]; simp]
    omega
theorem sumN_one (x : Int) : ∀ n, sumN (fun q => if x = (q : Int) then 1 else 0) n = if 0 ≤ x ∧ x < n then 1 else 0
  | 0 => by rw [sumN, if_neg (by omega)]
  | n + 1 => by
    rw [sumN, sumN_one x n]
    by_cases h1 : x = (n : Int)
    · rw [if_neg (by omega), if_pos h1, if_pos (by omega)]; rfl
    · by_cases h2 : 0 ≤ x ∧ x < n
      · rw [if_pos h2, if_neg h1, if_pos (by omega)]; rfl
      · rw [if_neg h2, if_neg h1, if_neg (by omega)]; rfl
theorem sumN_swap (f : Nat → Nat → Int) (n : Nat) : ∀ k, sumN (fun q => sumN (fun m => f q m) k) n = sumN (fun m => sumN (fun q => f q m) n) k
  | 0 => by
    simp only [sumN]
    induction n with
    | zero => rfl
    | succ n ih => rw [sumN, ih]; rfl
  | k + 1 => by
    simp only [sumN]
    rw [sumN_add, sumN_swap f n k]
theorem cnt_cons (r : List Int) (l : List (List Int)) (m : Nat) (s : Int) : cnt (r :: l) m s = cnt l m s + (if r.getD m 0 = s then 1 else 0) := by
  unfold cnt
  by_cases h : r.getD m 0 = s
  · rw [if_pos h, List.filter_cons_of_pos (by simpa using h)]; simp
  · rw [if_neg h, List.filter_cons_of_neg (by simpa using h)]; simp
theorem cnt_all {m : Nat} : ∀ l : List (List Int), (∀ r ∈ l, 0 ≤ r.getD m 0 ∧ r.getD m 0 ≤ 23) → sumN (fun q => cnt l m (q : Int)) 24 = l.length
  | [], _ => by
    have : ∀ n, sumN (fun q => cnt [] m (q : Int)) n = 0 := fun n => by
      induction n with
      | zero => rfl
      | succ n ih => rw [sumN, ih]; rfl
    rw [this]; rfl
  | r :: l, h => by
    simp only [cnt_cons]
    rw [sumN_add, cnt_all l fun r hr => h r (by simp [hr]), sumN_one, if_pos (by have := h r (by simp); omega)]
    simp
def manyT (t : List (List Int)) (s m : Nat) : Int := sumN (fun q => sumN (fun m => cnt t m (q : Int)) (t.getD 0 []).length) s + sumN (fun p => cnt t p (s : Int)) m
def sameT (t : List (List Int)) (s m : Nat) : Bool := decide ((∀ q : Nat, q < s → ∀ m, m < (t.getD 0 []).length → cnt t m (q : Int) = cnt t 0 (q : Int)) ∧ ∀ q : Nat, q < m → cnt t q (s : Int) = cnt t 0 (s : Int))
theorem manyT_step (t : List (List Int)) (s m : Nat) : manyT t s m + cnt t m (s : Int) = manyT t s (m + 1) := by unfold manyT; rw [sumN]; omega
theorem manyT_next (t : List (List Int)) (s : Nat) : manyT t s (t.getD 0 []).length = manyT t (s + 1) 0 := by unfold manyT; rw [sumN, sumN]; omega
theorem manyT_all {t : List (List Int)} (hc : chk t = 0) : manyT t 24 0 = t.length * (t.getD 0 []).length := by
  have g := chk_good hc
  unfold manyT
  rw [sumN, Int.add_zero, sumN_swap fun q m => cnt t m (q : Int)]
  have h : ∀ m, m < (t.getD 0 []).length → sumN (fun q => cnt t m (q : Int)) 24 = t.length := fun m hm => cnt_all t fun r hr => by
    obtain ⟨i, hi, rfl⟩ := List.mem_iff_getElem.1 hr
    have := g.range i m hi hm
    rw [List.getD_eq_getElem?_getD (l := t), List.getElem?_eq_getElem hi] at this
    exact this
  rw [sumN_congr _ h]
  have : ∀ n : Nat, sumN (fun _ => (t.length : Int)) n = t.length * n := fun n => by
    induction n with
    | zero => simp [sumN]
    | succ n ih => rw [sumN, ih, Int.natCast_add, Int.mul_add]; simp
  exact this _
theorem manyT_le {t : List (List Int)} (hc : chk t = 0) {s m : Nat} (hs : s ≤ 24) (hm : m ≤ (t.getD 0 []).length) : 0 ≤ manyT t s m ∧ manyT t s m ≤ 100000 := by
  have g := chk_good hc
  have h1 := g.many
  have h2 := g.wide
  have b : ∀ q, 0 ≤ cnt t q (s : Int) ∧ cnt t q (s : Int) ≤ 24 := fun q => by have := cnt_le t q (s : Int); omega
  have b1 := sumN_le (f := fun p => cnt t p (s : Int)) (B := 24) m fun q _ => b q
  have b2 : ∀ q : Nat, 0 ≤ sumN (fun m => cnt t m (q : Int)) (t.getD 0 []).length ∧ sumN (fun m => cnt t m (q : Int)) (t.getD 0 []).length ≤ 144 := fun q => by
    have := sumN_le (f := fun p => cnt t p (q : Int)) (B := 24) (t.getD 0 []).length fun p _ => by have := cnt_le t p (q : Int); omega
    omega
  have b3 := sumN_le (f := fun q => sumN (fun m => cnt t m (q : Int)) (t.getD 0 []).length) (B := 144) s fun q _ => b2 q
  unfold manyT
  omega
theorem sameT_step (t : List (List Int)) (s m : Nat) : (bif sameT t s m then decide (cnt t m (s : Int) = cnt t 0 (s : Int)) else false) = sameT t s (m + 1) := by
  unfold sameT
  rw [Bool.cond_false_right, ← Bool.decide_and]
  refine decide_eq_decide.2 ⟨fun ⟨⟨h1, h2⟩, h3⟩ => ⟨h1, fun q hq => ?_⟩, fun ⟨h1, h2⟩ => ⟨⟨h1, fun q hq => h2 q (by omega)⟩, h2 m (by omega)⟩⟩
  rcases Nat.lt_or_ge q m with h | h
  · exact h2 q h
  · rw [show q = m by omega]; exact h3
theorem sameT_next (t : List (List Int)) (s : Nat) : sameT t s (t.getD 0 []).length = sameT t (s + 1) 0 := by
  unfold sameT
  refine decide_eq_decide.2 ⟨fun ⟨h1, h2⟩ => ⟨fun q hq m hm => ?_, fun q hq => by omega⟩, fun ⟨h1, _⟩ => ⟨fun q hq => h1 q (by omega), h1 s (by omega)⟩⟩
  rcases Nat.lt_or_ge q s with h | h
  · exact h1 q h m hm
  · rw [show q = s by omega]; exact h2 m hm
theorem sameT_all {t : List (List Int)} (hc : chk t = 0) : perfB t = sameT t 24 0 := by
  unfold perfB sameT
  exact decide_eq_decide.2 ⟨fun h => ⟨h.2, fun q hq => by omega⟩, fun h => ⟨hc, h.1⟩⟩

theorem cipherTold_fn (t : List (List Int)) : LiftsD Try.prog 4 [.sl (.sl .int) t] (.b true) := by
  refine LiftsD.of_body 82 [.tmp 2] Try.func4 rfl Try.ntmps4 (by kernel_rfl) rfl rfl fun w0 X0 => ?_
  refine AWPD.seq fun K1 hK1 => ?_
  -- region 0
  refine AWPD.keep [0] rfl ?_
  refine AWPD.region tabOK rfl ?_
  refine hK1 _ _ ?_
  clear hK1
  refine AWPD.seq fun K2 hK2 => ?_
  -- region 1
  refine AWPD.keep [0] rfl ?_
  refine AWPD.region tabOK rfl ?_
  refine Exists.intro _ (Exists.intro _ (And.intro (StepD.call (cipherFact_fn) rfl rfl rfl) (And.intro rfl (And.intro trivial ?_))))
  refine hK2 _ _ ?_
  clear hK2
  refine AWPD.seq fun K3 hK3 => ?_
  refine AWPD.seq fun K4 hK4 => ?_
  -- region 2
  refine AWPD.keep [0, 3] rfl ?_
  refine AWPD.region tabOK rfl ?_
  refine hK4 _ _ ?_
  clear hK4
  first | refine AWPD.condP rfl (fun h0 => ?_) (fun h0 => ?_) | refine AWPD.condN rfl (fun h0 => ?_) (fun h0 => ?_) | refine AWPD.condAP rfl (fun h0 => ?_) (fun h0 => ?_) | refine AWPD.condOP rfl (fun h0 => ?_) (fun h0 => ?_) | refine AWPD.condONN rfl (fun h0 => ?_) (fun h0 => ?_) | refine AWPD.condOPN rfl (fun h0 => ?_) (fun h0 => ?_) | refine AWPD.condA rfl (fun h0 => ?_) (fun h0 => ?_) | refine AWPD.condO rfl (fun h0 => ?_) (fun h0 => ?_) | refine AWPD.cond rfl (fun h0 => ?_) (fun h0 => ?_)
  · try dsimp only [Ty.T] at h0
    try simp only [castL_self] at h0
    try simp only [Int.toNat_natCast] at h0
    try simp only [Int.toNat_zero] at h0
    exact absurd h0 (by decide)
  · try dsimp only [Ty.T] at h0
    try simp only [castL_self] at h0
    try simp only [Int.toNat_natCast] at h0
    try simp only [Int.toNat_zero] at h0
    refine AWPD.skip ?_
    refine hK3 _ _ ?_
    clear hK3
    refine AWPD.seq fun K5 hK5 => ?_
    -- region 4
    refine AWPD.keep [0] rfl ?_
    refine AWPD.region tabOK rfl ?_
    refine Exists.intro _ (Exists.intro _ (And.intro (StepD.call (perfect_fn _) rfl rfl rfl) (And.intro rfl (And.intro trivial ?_))))
    refine hK5 _ _ ?_
    clear hK5
    refine AWPD.seq fun K6 hK6 => ?_
    refine AWPD.seq fun K7 hK7 => ?_
    -- region 5
    refine AWPD.keep [0, 4, 5] rfl ?_
    refine AWPD.region tabOK rfl ?_
    refine hK7 _ _ ?_
    clear hK7
    first | refine AWPD.condP rfl (fun h1 => ?_) (fun h1 => ?_) | refine AWPD.condN rfl (fun h1 => ?_) (fun h1 => ?_) | refine AWPD.condAP rfl (fun h1 => ?_) (fun h1 => ?_) | refine AWPD.condOP rfl (fun h1 => ?_) (fun h1 => ?_) | refine AWPD.condONN rfl (fun h1 => ?_) (fun h1 => ?_) | refine AWPD.condOPN rfl (fun h1 => ?_) (fun h1 => ?_) | refine AWPD.condA rfl (fun h1 => ?_) (fun h1 => ?_) | refine AWPD.condO rfl (fun h1 => ?_) (fun h1 => ?_) | refine AWPD.cond rfl (fun h1 => ?_) (fun h1 => ?_)
    · try dsimp only [Ty.T] at h1
      try simp only [castL_self] at h1
      try simp only [Int.toNat_natCast] at h1
      try simp only [Int.toNat_zero] at h1
      refine AWPD.seq fun K8 hK8 => ?_
      -- region 6
      refine AWPD.keep [4] rfl ?_
      refine AWPD.region tabOK rfl ?_
      refine hK8 _ _ ?_
      clear hK8
      refine AWPD.ret (And.intro (.inl rfl) ?_)
      -- result 0
      refine RetD.one ?_
      refine fitB rfl ?_
      simp [perfB, h1]
    · try dsimp only [Ty.T] at h1
      try simp only [castL_self] at h1
      try simp only [Int.toNat_natCast] at h1
      try simp only [Int.toNat_zero] at h1
      have hc : chk t = 0 := by simpa using h1
      have hg := chk_good hc
      obtain ⟨g1, g2, g3, g4, -, -⟩ := hg
      refine AWPD.skip ?_
      refine hK6 _ _ ?_
      clear hK6
      refine AWPD.seq fun K9 hK9 => ?_
      -- region 7
      refine AWPD.keep [0, 4] rfl ?_
      refine AWPD.region tabOK rfl ?_
      refine hK9 _ _ ?_
      clear hK9
      refine AWPD.seq fun K10 hK10 => ?_
      -- region 8
      refine AWPD.keep [0, 4, 6] rfl ?_
      refine AWPD.region tabOK rfl ?_
      refine hK10 _ _ ?_
      clear hK10
      refine AWPD.seq fun K11 hK11 => ?_
      refine AWPD.seq fun K12 hK12 => ?_
      -- region 9
      refine AWPD.keep [0, 4, 6, 7] rfl ?_
      refine AWPD.region tabOK rfl ?_
      refine hK12 _ _ ?_
      clear hK12
      refine AWPD.block ?_
      -- LOOP 0 live [0, 4, 6, 7, 8] changed [6, 7, 8]
      refine AWPD.loopK (σ := Nat) [0, 4] (fun s base => (6, .b (sameT t s 0)) :: (7, .i (manyT t s 0)) :: (8, .i (s : Int)) :: base) (fun _ => []) (fun n s => n + s = 24) (24) 0 [] rfl rfl (by omega) (by decide) trivial (by repeat' first | exact (decide_eq_true ⟨fun q hq => by omega, fun q hq => by omega⟩).symm | exact True.intro | exact rfl | exact ⟨rfl, rfl⟩ | refine And.intro ?_ ?_) fun n0 s hI0 => ?_
      have hn0 := hI0
      refine AWPD.seq fun K13 hK13 => ?_
      refine AWPD.seq fun K14 hK14 => ?_
      -- region 10
      refine AWPD.keep [0, 4, 6, 7, 8] rfl ?_
      refine AWPD.region tabOK rfl ?_
      refine hK14 _ _ ?_
      clear hK14
      first | refine AWPD.condP rfl (fun h2 => ?_) (fun h2 => ?_) | refine AWPD.condN rfl (fun h2 => ?_) (fun h2 => ?_) | refine AWPD.condAP rfl (fun h2 => ?_) (fun h2 => ?_) | refine AWPD.condOP rfl (fun h2 => ?_) (fun h2 => ?_) | refine AWPD.condONN rfl (fun h2 => ?_) (fun h2 => ?_) | refine AWPD.condOPN rfl (fun h2 => ?_) (fun h2 => ?_) | refine AWPD.condA rfl (fun h2 => ?_) (fun h2 => ?_) | refine AWPD.condO rfl (fun h2 => ?_) (fun h2 => ?_) | refine AWPD.cond rfl (fun h2 => ?_) (fun h2 => ?_)
      · try dsimp only [Ty.T] at h2
        try simp only [castL_self] at h2
        try simp only [Int.toNat_natCast] at h2
        try simp only [Int.toNat_zero] at h2
        refine AWPD.skip ?_
        refine hK13 _ _ ?_
        clear hK13
        refine AWPD.seq fun K15 hK15 => ?_
        refine AWPD.block ?_
        refine AWPD.seq fun K16 hK16 => ?_
        -- region 12
        refine AWPD.keep [0, 4, 6, 7, 8] rfl ?_
        refine AWPD.region tabOK rfl ?_
        refine Exists.intro _ (Exists.intro _ (And.intro (StepD.call (keys_fn _ _) rfl rfl rfl) (And.intro rfl (And.intro trivial ?_))))
        refine hK16 _ _ ?_
        clear hK16
        refine AWPD.seq fun K17 hK17 => ?_
        refine AWPD.seq fun K18 hK18 => ?_
        -- region 13
        refine AWPD.keep [0, 4, 6, 7, 8, 9, 10] rfl ?_
        refine AWPD.region tabOK rfl ?_
        repeat refine And.intro (by first | exact fun h => h | omega | ((try dsimp only [Ty.T]); (try simp only [castL_self]); (try simp only [Int.toNat_natCast]); (try simp only [Int.toNat_zero]); (try simp only [true_and]); omega) | (intros; (try dsimp only [Ty.T]); (try simp only [castL_self]); (try simp only [Int.toNat_natCast]); (try simp only [Int.toNat_zero]); (try simp only [true_and]); omega) | decide | (intros; simp_all; done) | (intros; simp_all; omega)) ?_
        refine hK18 _ _ ?_
        clear hK18
        first | refine AWPD.condP rfl (fun h3 => ?_) (fun h3 => ?_) | refine AWPD.condN rfl (fun h3 => ?_) (fun h3 => ?_) | refine AWPD.condAP rfl (fun h3 => ?_) (fun h3 => ?_) | refine AWPD.condOP rfl (fun h3 => ?_) (fun h3 => ?_) | refine AWPD.condONN rfl (fun h3 => ?_) (fun h3 => ?_) | refine AWPD.condOPN rfl (fun h3 => ?_) (fun h3 => ?_) | refine AWPD.condA rfl (fun h3 => ?_) (fun h3 => ?_) | refine AWPD.condO rfl (fun h3 => ?_) (fun h3 => ?_) | refine AWPD.cond rfl (fun h3 => ?_) (fun h3 => ?_)
        · try dsimp only [Ty.T] at h3
          try simp only [castL_self] at h3
          try simp only [Int.toNat_natCast] at h3
          try simp only [Int.toNat_zero] at h3
          rcases h3 with h | h
          · exact absurd (keysE_ok hc (by omega)) h
          · exact absurd (by rw [keysL_len hc (by omega)]) h
        · try dsimp only [Ty.T] at h3
          try simp only [castL_self] at h3
          try simp only [Int.toNat_natCast] at h3
          try simp only [Int.toNat_zero] at h3
          have hl := keysL_len (t := t) (s := (s : Int)) hc (by omega)
          refine AWPD.skip ?_
          refine hK17 _ _ ?_
          clear hK17
          refine AWPD.seq fun K19 hK19 => ?_
          -- region 15
          refine AWPD.keep [0, 4, 6, 7, 8, 9] rfl ?_
          refine AWPD.region tabOK rfl ?_
          refine hK19 _ _ ?_
          clear hK19
          refine AWPD.block ?_
          -- LOOP 1 live [0, 4, 6, 7, 8, 9, 11] changed [6, 7, 11]
          refine AWPD.loopK (σ := Nat) [0, 4, 8, 9] (fun m base => (6, .b (sameT t s m)) :: (7, .i (manyT t s m)) :: (11, .i (m : Int)) :: base) (fun _ => []) (fun n m => n + m = (keysL t (s : Int)).length) ((keysL t (s : Int)).length) 0 [] rfl rfl (by omega) (by decide) trivial (by repeat' first | exact True.intro | exact rfl | exact ⟨rfl, rfl⟩ | refine And.intro ?_ ?_) fun n1 m hI1 => ?_
          have hn1 := hI1
          refine AWPD.seq fun K20 hK20 => ?_
          refine AWPD.seq fun K21 hK21 => ?_
          -- region 16
          refine AWPD.keep [0, 4, 6, 7, 8, 9, 11] rfl ?_
          refine AWPD.region tabOK rfl ?_
          refine hK21 _ _ ?_
          clear hK21
          first | refine AWPD.condP rfl (fun h4 => ?_) (fun h4 => ?_) | refine AWPD.condN rfl (fun h4 => ?_) (fun h4 => ?_) | refine AWPD.condAP rfl (fun h4 => ?_) (fun h4 => ?_) | refine AWPD.condOP rfl (fun h4 => ?_) (fun h4 => ?_) | refine AWPD.condONN rfl (fun h4 => ?_) (fun h4 => ?_) | refine AWPD.condOPN rfl (fun h4 => ?_) (fun h4 => ?_) | refine AWPD.condA rfl (fun h4 => ?_) (fun h4 => ?_) | refine AWPD.condO rfl (fun h4 => ?_) (fun h4 => ?_) | refine AWPD.cond rfl (fun h4 => ?_) (fun h4 => ?_)
          · try dsimp only [Ty.T] at h4
            try simp only [castL_self] at h4
            try simp only [Int.toNat_natCast] at h4
            try simp only [Int.toNat_zero] at h4
            have hm := keysL_get (t := t) (s := (s : Int)) (m := m) hc (by omega) (by omega)
            have hz := keysL_get (t := t) (s := (s : Int)) (m := 0) hc (by omega) (by omega)
            have hb := manyT_le (t := t) (s := s) (m := m) hc (by omega) (by omega)
            have hb2 := cnt_le t m (s : Int)
            refine AWPD.skip ?_
            refine hK20 _ _ ?_
            clear hK20
            refine AWPD.seq fun K22 hK22 => ?_
            refine AWPD.block ?_
            refine AWPD.seq fun K23 hK23 => ?_
            -- region 18
            refine AWPD.keep [0, 4, 6, 7, 8, 9, 11] rfl ?_
            refine AWPD.draw tabOK none rfl (by kernel_rfl) ?_
            repeat refine And.intro (by first | exact fun h => h | omega | ((try dsimp only [Ty.T]); (try simp only [castL_self]); (try simp only [Int.toNat_natCast]); (try simp only [Int.toNat_zero]); (try simp only [true_and]); omega) | (intros; (try dsimp only [Ty.T]); (try simp only [castL_self]); (try simp only [Int.toNat_natCast]); (try simp only [Int.toNat_zero]); (try simp only [true_and]); omega) | decide | (intros; simp_all; done) | (intros; simp_all; omega)) ?_
            refine hK23 _ _ ?_
            clear hK23
            -- region 19
            refine AWPD.keep [0, 4, 6, 7, 8, 9, 11] rfl ?_
            refine AWPD.region tabOK rfl ?_
            repeat refine And.intro (by first | exact fun h => h | omega | ((try dsimp only [Ty.T]); (try simp only [castL_self]); (try simp only [Int.toNat_natCast]); (try simp only [Int.toNat_zero]); (try simp only [true_and]); omega) | (intros; (try dsimp only [Ty.T]); (try simp only [castL_self]); (try simp only [Int.toNat_natCast]); (try simp only [Int.toNat_zero]); (try simp only [true_and]); omega) | decide | (intros; simp_all; done) | (intros; simp_all; omega)) ?_
            refine hK22 _ _ ?_
            clear hK22
            -- region 17
            refine AWPD.keep [0, 4, 6, 7, 8, 9, 11] rfl ?_
            refine AWPD.region tabOK rfl ?_
            repeat refine And.intro (by first | exact fun h => h | omega | ((try dsimp only [Ty.T]); (try simp only [castL_self]); (try simp only [Int.toNat_natCast]); (try simp only [Int.toNat_zero]); (try simp only [true_and]); omega) | (intros; (try dsimp only [Ty.T]); (try simp only [castL_self]); (try simp only [Int.toNat_natCast]); (try simp only [Int.toNat_zero]); (try simp only [true_and]); omega) | decide | (intros; simp_all; done) | (intros; simp_all; omega)) ?_
            refine ⟨n1 - 1, m + 1, [], by omega, by omega, by decide, trivial, ?_⟩
            repeat' first | exact (by rw [← sameT_step, ← hm, ← hz]; rfl) | exact (by rw [← manyT_step, ← hm]; rfl) | exact True.intro | exact rfl | exact ⟨rfl, rfl⟩ | refine And.intro ?_ ?_
          · try dsimp only [Ty.T] at h4
            try simp only [castL_self] at h4
            try simp only [Int.toNat_natCast] at h4
            try simp only [Int.toNat_zero] at h4
            refine AWPD.exit ?_
            refine hK15 _ _ ?_
            clear hK15
            -- region 11
            refine AWPD.keep [0, 4, 6, 7, 8] rfl ?_
            refine AWPD.region tabOK rfl ?_
            repeat refine And.intro (by first | exact fun h => h | omega | ((try dsimp only [Ty.T]); (try simp only [castL_self]); (try simp only [Int.toNat_natCast]); (try simp only [Int.toNat_zero]); (try simp only [true_and]); omega) | (intros; (try dsimp only [Ty.T]); (try simp only [castL_self]); (try simp only [Int.toNat_natCast]); (try simp only [Int.toNat_zero]); (try simp only [true_and]); omega) | decide | (intros; simp_all; done) | (intros; simp_all; omega)) ?_
            refine ⟨n0 - 1, s + 1, [], by omega, by omega, by decide, trivial, ?_⟩
            repeat' first | exact (show m = (t.getD 0 []).length by omega) ▸ sameT_next t s | exact (show m = (t.getD 0 []).length by omega) ▸ manyT_next t s | exact True.intro | exact rfl | exact ⟨rfl, rfl⟩ | refine And.intro ?_ ?_
      · try dsimp only [Ty.T] at h2
        try simp only [castL_self] at h2
        try simp only [Int.toNat_natCast] at h2
        try simp only [Int.toNat_zero] at h2
        refine AWPD.exit ?_
        refine hK11 _ _ ?_
        clear hK11
        refine AWPD.seq fun K24 hK24 => ?_
        -- region 20
        have hmul : (0 : Int) ≤ t.length * (t.getD 0 []).length ∧ (t.length : Int) * (t.getD 0 []).length ≤ 100000 := by
          have := manyT_all hc
          have h2 := manyT_le (t := t) (s := 24) (m := 0) hc (by omega) (by omega)
          omega
        refine AWPD.keep [0, 4, 6, 7] rfl ?_
        refine AWPD.region tabOK rfl ?_
        repeat refine And.intro (by first | exact fun h => h | omega | ((try dsimp only [Ty.T]); (try simp only [castL_self]); (try simp only [Int.toNat_natCast]); (try simp only [Int.toNat_zero]); (try simp only [true_and]); omega) | (intros; (try dsimp only [Ty.T]); (try simp only [castL_self]); (try simp only [Int.toNat_natCast]); (try simp only [Int.toNat_zero]); (try simp only [true_and]); omega) | decide | (intros; simp_all; done) | (intros; simp_all; omega)) ?_
        refine hK24 _ _ ?_
        clear hK24
        refine AWPD.ret (And.intro (.inl rfl) ?_)
        -- result 1
        refine RetD.one ?_
        refine fitB rfl ?_
        rw [show s = 24 by omega, ← sameT_all hc, manyT_all hc]
        simp
end Go.Proofs.Ytdikoipldcjcpaa
