/-
  WALKS of small functions that many ask: bounds, sets as bits, equal lists. Laid by a program of mine out of the operations, with the loops and results told by hand.
-/
import Derived.Test.YtdikoipldcjcpaaQwP
import Derived.Test.YtdikoipldcjcpaaQwTab
namespace Go.Proofs.Ytdikoipldcjcpaa
open Go Go.Qw
set_option maxRecDepth 10000


theorem toNat_eq {n : Int} (h : 0 ≤ n) : ((n.toNat : Nat) : Int) = n := Int.toNat_of_nonneg h
theorem eq_of_getD {α : Type} {a b : List α} {d : α} (hl : a.length = b.length) (h : ∀ q, q < a.length → a.getD q d = b.getD q d) : a = b := by
  refine List.ext_getElem hl fun q h1 h2 => ?_
  have := h q h1
  simpa [List.getD, h1, h2] using this
theorem getD_mem {α : Type} {l : List α} {i : Nat} (h : i < l.length) (d : α) : l.getD i d ∈ l := by
  simp only [List.getD, List.getElem?_eq_getElem h, Option.getD_some]
  exact List.getElem_mem h
def halfN (s k : Nat) : Nat := s / 2 ^ k
theorem halfN_zero (s : Nat) : halfN s 0 = s := by simp [halfN]
theorem halfN_le (s k : Nat) : halfN s k ≤ s := Nat.div_le_self s _
theorem halfN_succ (s k : Nat) : halfN s k / 2 = halfN s (k + 1) := by
  unfold halfN
  rw [Nat.pow_succ, ← Nat.div_div_eq_div_mul]
theorem half_div (s k : Nat) : ((halfN s k : Nat) : Int) / 2 = ((halfN s (k + 1) : Nat) : Int) := by
  rw [← halfN_succ]; exact_mod_cast rfl
theorem bit_at (s k : Nat) : decide (((halfN s k : Nat) : Int) % 2 = 1) = s.testBit k := by
  rw [Nat.testBit_eq_decide_div_mod_eq]
  unfold halfN
  exact decide_eq_decide.2 ⟨fun h => by exact_mod_cast h, fun h => by exact_mod_cast h⟩
theorem bit_none {s k i : Nat} (h : halfN s k = 0) (hk : k ≤ i) : s.testBit i = false := by
  unfold halfN at h
  rw [Nat.testBit_lt_two_pow]
  have h1 : s < 2 ^ k := by
    rcases Nat.div_eq_zero_iff.1 h with h | h
    · have := Nat.two_pow_pos k; omega
    · exact h
  exact Nat.lt_of_lt_of_le h1 (Nat.pow_le_pow_right (by decide) hk)

theorem within_fn (n lo hi : Int) : LiftsD Try.prog 20 [.i n, .i lo, .i hi] (.b (decide (lo ≤ n ∧ n ≤ hi))) := by
  refine LiftsD.of_body 15 [.tmp 6] Try.func20 rfl Try.ntmps20 (by kernel_rfl) rfl rfl fun w0 X0 => ?_
  refine AWPD.seq fun K1 hK1 => ?_
  -- region 0
  refine AWPD.keep [0, 1, 2] rfl ?_
  refine AWPD.region tabOK rfl ?_
  refine hK1 _ _ ?_
  clear hK1
  refine AWPD.seq fun K2 hK2 => ?_
  -- region 1
  refine AWPD.keep [0, 1, 2] rfl ?_
  refine AWPD.region tabOK rfl ?_
  repeat refine And.intro (by first | exact fun h => h | omega | ((try dsimp only [Ty.T]); (try simp only [castL_self]); (try simp only [Int.toNat_natCast]); (try simp only [Int.toNat_zero]); (try simp only [true_and]); omega) | (intros; (try dsimp only [Ty.T]); (try simp only [castL_self]); (try simp only [Int.toNat_natCast]); (try simp only [Int.toNat_zero]); (try simp only [true_and]); omega) | ((try dsimp only [Ty.T, Ty.size]); (try simp only [castL_self, Int.toNat_natCast, Int.toNat_zero, true_and, List.length_append, List.length_set, List.length_cons, List.length_nil, Nat.zero_add, Nat.mul_one]); omega) | decide | (intros; simp_all; done) | (intros; simp_all; omega)) ?_
  refine hK2 _ _ ?_
  clear hK2
  refine AWPD.ret (And.intro (.inl rfl) ?_)
  -- result 0
  refine RetD.one ?_
  refine fitB rfl ?_
  show (bif decide (lo ≤ n) then decide (n ≤ hi) else false) = decide (lo ≤ n ∧ n ≤ hi)
  simp
theorem bit_fn (s i : Int) (hs : 0 ≤ s ∧ s ≤ 4611686018427387904) (hi : 0 ≤ i ∧ i ≤ 4611686018427387904) : LiftsD Try.prog 16 [.i s, .i i] (.b (s.toNat.testBit i.toNat)) := by
  refine LiftsD.of_body 20 [.tmp 4] Try.func16 rfl Try.ntmps16 (by kernel_rfl) rfl rfl fun w0 X0 => ?_
  refine AWPD.seq fun K1 hK1 => ?_
  -- region 0
  refine AWPD.keep [0, 1] rfl ?_
  refine AWPD.region tabOK rfl ?_
  refine hK1 _ _ ?_
  clear hK1
  refine AWPD.seq fun K2 hK2 => ?_
  refine AWPD.seq fun K3 hK3 => ?_
  -- region 1
  refine AWPD.keep [0, 1] rfl ?_
  refine AWPD.region tabOK rfl ?_
  refine hK3 _ _ ?_
  clear hK3
  refine AWPD.block ?_
  -- LOOP 0 live [0, 1, 5] changed [0, 5]
  refine AWPD.loopK (σ := Nat) [1] (fun k base => (5, .i (k : Int)) :: (0, .i ((halfN s.toNat k : Nat) : Int)) :: base) (fun _ => []) (fun n k => n + k = i.toNat) (i.toNat) 0 [] rfl rfl (by omega) (by decide) trivial (by repeat' first | (show s = ((halfN s.toNat 0 : Nat) : Int); rw [halfN_zero]; omega) | exact True.intro | exact rfl | exact ⟨rfl, rfl⟩ | refine And.intro ?_ ?_) fun n0 k hI0 => ?_
  have hn0 := hI0
  have hd := halfN_le s.toNat k
  refine AWPD.seq fun K4 hK4 => ?_
  refine AWPD.seq fun K5 hK5 => ?_
  -- region 2
  refine AWPD.keep [0, 1, 5] rfl ?_
  refine AWPD.region tabOK rfl ?_
  repeat refine And.intro (by first | exact fun h => h | omega | ((try dsimp only [Ty.T]); (try simp only [castL_self]); (try simp only [Int.toNat_natCast]); (try simp only [Int.toNat_zero]); (try simp only [true_and]); omega) | (intros; (try dsimp only [Ty.T]); (try simp only [castL_self]); (try simp only [Int.toNat_natCast]); (try simp only [Int.toNat_zero]); (try simp only [true_and]); omega) | ((try dsimp only [Ty.T, Ty.size]); (try simp only [castL_self, Int.toNat_natCast, Int.toNat_zero, true_and, List.length_append, List.length_set, List.length_cons, List.length_nil, Nat.zero_add, Nat.mul_one]); omega) | decide | (intros; simp_all; done) | (intros; simp_all; omega)) ?_
  refine hK5 _ _ ?_
  clear hK5
  first | refine AWPD.condP rfl (fun h0 => ?_) (fun h0 => ?_) | refine AWPD.condN rfl (fun h0 => ?_) (fun h0 => ?_) | refine AWPD.condAP rfl (fun h0 => ?_) (fun h0 => ?_) | refine AWPD.condOP rfl (fun h0 => ?_) (fun h0 => ?_) | refine AWPD.condONN rfl (fun h0 => ?_) (fun h0 => ?_) | refine AWPD.condOPN rfl (fun h0 => ?_) (fun h0 => ?_) | refine AWPD.condA rfl (fun h0 => ?_) (fun h0 => ?_) | refine AWPD.condO rfl (fun h0 => ?_) (fun h0 => ?_) | refine AWPD.cond rfl (fun h0 => ?_) (fun h0 => ?_)
  · try dsimp only [Ty.T] at h0
    try simp only [castL_self] at h0
    try simp only [Int.toNat_natCast] at h0
    try simp only [Int.toNat_zero] at h0
    refine AWPD.skip ?_
    refine hK4 _ _ ?_
    clear hK4
    refine AWPD.seq fun K6 hK6 => ?_
    refine AWPD.block ?_
    -- region 4
    refine AWPD.keep [0, 1, 5] rfl ?_
    refine AWPD.region tabOK rfl ?_
    repeat refine And.intro (by first | exact fun h => h | omega | ((try dsimp only [Ty.T]); (try simp only [castL_self]); (try simp only [Int.toNat_natCast]); (try simp only [Int.toNat_zero]); (try simp only [true_and]); omega) | (intros; (try dsimp only [Ty.T]); (try simp only [castL_self]); (try simp only [Int.toNat_natCast]); (try simp only [Int.toNat_zero]); (try simp only [true_and]); omega) | ((try dsimp only [Ty.T, Ty.size]); (try simp only [castL_self, Int.toNat_natCast, Int.toNat_zero, true_and, List.length_append, List.length_set, List.length_cons, List.length_nil, Nat.zero_add, Nat.mul_one]); omega) | decide | (intros; simp_all; done) | (intros; simp_all; omega)) ?_
    refine hK6 _ _ ?_
    clear hK6
    -- region 3
    refine AWPD.keep [0, 1, 5] rfl ?_
    refine AWPD.region tabOK rfl ?_
    repeat refine And.intro (by first | exact fun h => h | omega | ((try dsimp only [Ty.T]); (try simp only [castL_self]); (try simp only [Int.toNat_natCast]); (try simp only [Int.toNat_zero]); (try simp only [true_and]); omega) | (intros; (try dsimp only [Ty.T]); (try simp only [castL_self]); (try simp only [Int.toNat_natCast]); (try simp only [Int.toNat_zero]); (try simp only [true_and]); omega) | ((try dsimp only [Ty.T, Ty.size]); (try simp only [castL_self, Int.toNat_natCast, Int.toNat_zero, true_and, List.length_append, List.length_set, List.length_cons, List.length_nil, Nat.zero_add, Nat.mul_one]); omega) | decide | (intros; simp_all; done) | (intros; simp_all; omega)) ?_
    refine ⟨n0 - 1, k + 1, [], by omega, by omega, ⟨by decide, rfl⟩, trivial, ?_⟩
    repeat' first | exact half_div s.toNat k | exact True.intro | exact rfl | exact ⟨rfl, rfl⟩ | refine And.intro ?_ ?_
  · try dsimp only [Ty.T] at h0
    try simp only [castL_self] at h0
    try simp only [Int.toNat_natCast] at h0
    try simp only [Int.toNat_zero] at h0
    refine AWPD.exit ?_
    refine hK2 _ _ ?_
    clear hK2
    refine AWPD.seq fun K7 hK7 => ?_
    -- region 5
    refine AWPD.keep [0] rfl ?_
    refine AWPD.region tabOK rfl ?_
    repeat refine And.intro (by first | exact fun h => h | omega | ((try dsimp only [Ty.T]); (try simp only [castL_self]); (try simp only [Int.toNat_natCast]); (try simp only [Int.toNat_zero]); (try simp only [true_and]); omega) | (intros; (try dsimp only [Ty.T]); (try simp only [castL_self]); (try simp only [Int.toNat_natCast]); (try simp only [Int.toNat_zero]); (try simp only [true_and]); omega) | ((try dsimp only [Ty.T, Ty.size]); (try simp only [castL_self, Int.toNat_natCast, Int.toNat_zero, true_and, List.length_append, List.length_set, List.length_cons, List.length_nil, Nat.zero_add, Nat.mul_one]); omega) | decide | (intros; simp_all; done) | (intros; simp_all; omega)) ?_
    refine hK7 _ _ ?_
    clear hK7
    refine AWPD.ret (And.intro (.inl rfl) ?_)
    -- result 0
    refine RetD.one ?_
    exact fitB rfl (by
      rw [bit_at]
      by_cases hk : k = i.toNat
      · rw [hk]
      · have hz : halfN s.toNat k = 0 := by
          have : ¬((halfN s.toNat k : Nat) : Int) ≠ 0 := fun h => h0 ⟨by omega, h⟩
          omega
        rw [bit_none hz (Nat.le_refl k), bit_none hz (by omega)])

def powN (k : Nat) : Nat := 2 ^ k
theorem powN_succ (k : Nat) : ((powN k : Nat) : Int) * 2 = ((powN (k + 1) : Nat) : Int) := by
  unfold powN; rw [Nat.pow_succ]; exact_mod_cast rfl
theorem powN_le {k : Nat} (h : k ≤ 61) : powN k ≤ 2305843009213693952 := Nat.pow_le_pow_right (by decide) h
theorem powN_pos (k : Nat) : 0 < powN k := Nat.two_pow_pos k


/-- What is found of two sets, so far. -/
theorem both_step {a b o p : Nat} : o + p * (a &&& b) = o + (if a % 2 = 1 ∧ b % 2 = 1 then p else 0) + p * 2 * (a / 2 &&& b / 2) := by
  rw [and_half a b, Nat.mul_add, Nat.mul_comm (a / 2 &&& b / 2) 2, ← Nat.mul_assoc]
  split <;> omega
theorem halfN_pow {a k : Nat} (h : 0 < halfN a k) : powN k ≤ a := by
  unfold halfN at h
  unfold powN
  exact (Nat.div_pos_iff.1 h).2
def bothR (a b : Nat) : Nat → Nat
  | 0 => 0
  | k + 1 => if halfN a k % 2 = 1 ∧ halfN b k % 2 = 1 then bothR a b k + powN k else bothR a b k
def popR (a : Nat) : Nat → Nat
  | 0 => 0
  | k + 1 => popR a k + halfN a k % 2

end Go.Proofs.Ytdikoipldcjcpaa
