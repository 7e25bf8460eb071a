/-
  WALKS of the splitting functions. Laid by a program of mine out of the operations, with the loops and results told by hand.
-/
import Derived.Test.YtdikoipldcjcpaaDoorQwBa
namespace Go.Proofs.YtdikoipldcjcpaaDoor
open Go Go.Qw
set_option maxRecDepth 10000
set_option linter.unusedSimpArgs false
set_option linter.unusedVariables false
set_option linter.unusedSectionVars false


def primes : List Nat := [2, 3, 5, 7, 11, 13, 17, 19, 23, 29, 31]
def fieldE (p : Int) : Int := if 2 ≤ p ∧ p ≤ 31 then (if p.toNat ∈ primes then 0 else 3) else 1
theorem prime_tab : ((List.range 32).all fun p => (List.range 7).all fun d => decide (p < 2) || decide (d < 2) || decide (d * d ≤ p) || (List.range d).any (fun q => decide (2 ≤ q) && decide (p % q = 0)) || primes.contains p) = true := by decide
theorem prime_tab2 : ((List.range 32).all fun p => (List.range 6).all fun d => decide (d < 2) || decide (p < d * d) || decide (p % d ≠ 0) || !primes.contains p) = true := by decide
theorem prime_of (p : Nat) (hp : p < 32) (d : Nat) (hd : d < 7) (h1 : 2 ≤ p) (h2 : 2 ≤ d) (h3 : p < d * d) (h4 : ∀ q, q < d → 2 ≤ q → p % q ≠ 0) : p ∈ primes := by
  have h := List.all_eq_true.1 (List.all_eq_true.1 prime_tab p (List.mem_range.2 hp)) d (List.mem_range.2 hd)
  simp only [Bool.or_eq_true, decide_eq_true_eq, List.any_eq_true, Bool.and_eq_true, List.mem_range] at h
  rcases h with (((h | h) | h) | ⟨q, hq, h5, h6⟩) | h
  · omega
  · omega
  · omega
  · exact absurd h6 (h4 q hq h5)
  · simpa using h
theorem prime_no (p : Nat) (hp : p < 32) (d : Nat) (hd : d < 6) (h2 : 2 ≤ d) (h3 : d * d ≤ p) (h4 : p % d = 0) : p ∉ primes := by
  have h := List.all_eq_true.1 (List.all_eq_true.1 prime_tab2 p (List.mem_range.2 hp)) d (List.mem_range.2 hd)
  simp only [Bool.or_eq_true, decide_eq_true_eq] at h
  rcases h with ((h | h) | h) | h
  · omega
  · omega
  · exact absurd h4 h
  · simpa using h
theorem mod_nat {p : Int} {d : Nat} (hp : ((p.toNat : Nat) : Int) = p) : ((p.toNat % d : Nat) : Int) = p % d := by rw [Int.natCast_emod, hp]
theorem sq_nat {p : Int} {d : Nat} (hp : ((p.toNat : Nat) : Int) = p) : ((d : Int) * d ≤ p) ↔ d * d ≤ p.toNat := by
  rw [← hp, Int.toNat_natCast, ← Int.natCast_mul, Int.ofNat_le]
theorem sq_le {d : Nat} (h : d ≤ 6) : (d : Int) * d ≤ 36 ∧ 0 ≤ (d : Int) * d := by
  have := Nat.mul_le_mul h h
  constructor
  · exact_mod_cast this
  · exact_mod_cast Nat.zero_le (d * d)
theorem sq_lt {d : Nat} {p : Int} (h : (d : Int) * d ≤ p) (hp : p ≤ 31) : d ≤ 5 := by
  rcases Nat.lt_or_ge 5 d with h1 | h1
  · have := Nat.mul_le_mul h1 h1
    have h2 : (36 : Int) ≤ (d : Int) * d := by exact_mod_cast this
    omega
  · exact h1

theorem field_fn (p : Int) : LiftsD Tryd.prog 16 [.i p] (.er 57 (fieldE p)) := by
  refine LiftsD.of_body 20 [.tmp 2] Tryd.func16 rfl Tryd.ntmps16 (by kernel_rfl) rfl rfl fun w0 X0 => ?_
  refine AWPD.seq fun K1 hK1 => ?_
  -- region 0
  refine AWPD.keep [0] rfl ?_
  refine AWPD.region tabOK rfl ?_
  refine hK1 _ _ ?_
  clear hK1
  refine AWPD.seq fun K2 hK2 => ?_
  refine AWPD.seq fun K3 hK3 => ?_
  -- region 1
  refine AWPD.keep [0] rfl ?_
  refine AWPD.region tabOK rfl ?_
  refine Exists.intro _ (Exists.intro _ (And.intro (StepD.call (within_fn _ _ _) rfl rfl rfl) (And.intro rfl (And.intro trivial ?_))))
  refine hK3 _ _ ?_
  clear hK3
  first | refine AWPD.condP rfl (fun h0 => ?_) (fun h0 => ?_) | refine AWPD.condN rfl (fun h0 => ?_) (fun h0 => ?_) | refine AWPD.condAP rfl (fun h0 => ?_) (fun h0 => ?_) | refine AWPD.condOP rfl (fun h0 => ?_) (fun h0 => ?_) | refine AWPD.condONN rfl (fun h0 => ?_) (fun h0 => ?_) | refine AWPD.condOPN rfl (fun h0 => ?_) (fun h0 => ?_) | refine AWPD.condA rfl (fun h0 => ?_) (fun h0 => ?_) | refine AWPD.condO rfl (fun h0 => ?_) (fun h0 => ?_) | refine AWPD.cond rfl (fun h0 => ?_) (fun h0 => ?_)
  · try dsimp only [Ty.T] at h0
    try simp only [castL_self] at h0
    try simp only [Int.toNat_natCast] at h0
    try simp only [Int.toNat_zero] at h0
    refine AWPD.seq fun K4 hK4 => ?_
    -- region 2
    refine AWPD.keep [] rfl ?_
    refine AWPD.region tabOK rfl ?_
    repeat refine And.intro (by first | exact fun h => h | exact fun _ => rfl | (intro h; rw [h]; rfl) | omega | (intros; (try dsimp only [Ty.T, Ty.size]); (try simp only [castL_self, Int.toNat_natCast, Int.toNat_zero, Int.toNat_one, true_and, List.length_append, List.length_set, List.length_drop, List.length_take, List.length_replicate, List.length_cons, List.length_nil, Nat.zero_add, Nat.mul_one]); omega) | decide | (intros; simp_all; done) | (intros; simp_all; omega)) ?_
    refine hK4 _ _ ?_
    clear hK4
    refine AWPD.ret (And.intro (.inl rfl) ?_)
    -- result 0
    refine RetD.one ?_
    exact fitE rfl (by unfold fieldE; rw [if_neg h0])
  · try dsimp only [Ty.T] at h0
    try simp only [castL_self] at h0
    try simp only [Int.toNat_natCast] at h0
    try simp only [Int.toNat_zero] at h0
    refine AWPD.skip ?_
    refine hK2 _ _ ?_
    clear hK2
    refine AWPD.seq fun K5 hK5 => ?_
    refine AWPD.seq fun K6 hK6 => ?_
    -- region 3
    refine AWPD.keep [0] rfl ?_
    refine AWPD.region tabOK rfl ?_
    refine hK6 _ _ ?_
    clear hK6
    refine AWPD.block ?_
    -- LOOP 0 live [0, 3] changed [3]
    refine AWPD.loopK (σ := Nat) [0] (fun d base => (3, .i (d : Int)) :: base) (fun _ => []) (fun n d => n + d = 6 ∧ 2 ≤ d ∧ ∀ q : Nat, q < d → 2 ≤ q → p.toNat % q ≠ 0) 4 2 [] rfl rfl (⟨by omega, by omega, fun q h1 h2 => by omega⟩) (by decide) trivial (by repeat' first | exact True.intro | exact rfl | exact ⟨rfl, rfl⟩ | refine And.intro ?_ ?_) fun n0 d hI0 => ?_
    obtain ⟨hn0, hd2, hv0⟩ := hI0
    have hdd := sq_le (d := d) (by omega)
    have hp0 : ((p.toNat : Nat) : Int) = p := toNat_eq (by omega)
    refine AWPD.seq fun K7 hK7 => ?_
    refine AWPD.seq fun K8 hK8 => ?_
    -- region 4
    refine AWPD.keep [0, 3] rfl ?_
    refine AWPD.region tabOK rfl ?_
    repeat refine And.intro (by first | exact fun h => h | exact fun _ => rfl | (intro h; rw [h]; rfl) | omega | (intros; (try dsimp only [Ty.T, Ty.size]); (try simp only [castL_self, Int.toNat_natCast, Int.toNat_zero, Int.toNat_one, true_and, List.length_append, List.length_set, List.length_drop, List.length_take, List.length_replicate, List.length_cons, List.length_nil, Nat.zero_add, Nat.mul_one]); omega) | decide | (intros; simp_all; done) | (intros; simp_all; omega)) ?_
    refine hK8 _ _ ?_
    clear hK8
    first | refine AWPD.condP rfl (fun h1 => ?_) (fun h1 => ?_) | refine AWPD.condN rfl (fun h1 => ?_) (fun h1 => ?_) | refine AWPD.condAP rfl (fun h1 => ?_) (fun h1 => ?_) | refine AWPD.condOP rfl (fun h1 => ?_) (fun h1 => ?_) | refine AWPD.condONN rfl (fun h1 => ?_) (fun h1 => ?_) | refine AWPD.condOPN rfl (fun h1 => ?_) (fun h1 => ?_) | refine AWPD.condA rfl (fun h1 => ?_) (fun h1 => ?_) | refine AWPD.condO rfl (fun h1 => ?_) (fun h1 => ?_) | refine AWPD.cond rfl (fun h1 => ?_) (fun h1 => ?_)
    · try dsimp only [Ty.T] at h1
      try simp only [castL_self] at h1
      try simp only [Int.toNat_natCast] at h1
      try simp only [Int.toNat_zero] at h1
      have hd5 := sq_lt h1 (by omega)
      refine AWPD.skip ?_
      refine hK7 _ _ ?_
      clear hK7
      refine AWPD.seq fun K9 hK9 => ?_
      refine AWPD.block ?_
      refine AWPD.seq fun K10 hK10 => ?_
      -- region 6
      refine AWPD.keep [0, 3] rfl ?_
      refine AWPD.region tabOK rfl ?_
      repeat refine And.intro (by first | exact fun h => h | exact fun _ => rfl | (intro h; rw [h]; rfl) | omega | (intros; (try dsimp only [Ty.T, Ty.size]); (try simp only [castL_self, Int.toNat_natCast, Int.toNat_zero, Int.toNat_one, true_and, List.length_append, List.length_set, List.length_drop, List.length_take, List.length_replicate, List.length_cons, List.length_nil, Nat.zero_add, Nat.mul_one]); omega) | decide | (intros; simp_all; done) | (intros; simp_all; omega)) ?_
      refine hK10 _ _ ?_
      clear hK10
      first | refine AWPD.condP rfl (fun h2 => ?_) (fun h2 => ?_) | refine AWPD.condN rfl (fun h2 => ?_) (fun h2 => ?_) | refine AWPD.condAP rfl (fun h2 => ?_) (fun h2 => ?_) | refine AWPD.condOP rfl (fun h2 => ?_) (fun h2 => ?_) | refine AWPD.condONN rfl (fun h2 => ?_) (fun h2 => ?_) | refine AWPD.condOPN rfl (fun h2 => ?_) (fun h2 => ?_) | refine AWPD.condA rfl (fun h2 => ?_) (fun h2 => ?_) | refine AWPD.condO rfl (fun h2 => ?_) (fun h2 => ?_) | refine AWPD.cond rfl (fun h2 => ?_) (fun h2 => ?_)
      · try dsimp only [Ty.T] at h2
        try simp only [castL_self] at h2
        try simp only [Int.toNat_natCast] at h2
        try simp only [Int.toNat_zero] at h2
        have hmod : p.toNat % d = 0 := by have := mod_nat (d := d) hp0; rw [h2] at this; exact_mod_cast this
        refine AWPD.seq fun K11 hK11 => ?_
        -- region 7
        refine AWPD.keep [] rfl ?_
        refine AWPD.region tabOK rfl ?_
        repeat refine And.intro (by first | exact fun h => h | exact fun _ => rfl | (intro h; rw [h]; rfl) | omega | (intros; (try dsimp only [Ty.T, Ty.size]); (try simp only [castL_self, Int.toNat_natCast, Int.toNat_zero, Int.toNat_one, true_and, List.length_append, List.length_set, List.length_drop, List.length_take, List.length_replicate, List.length_cons, List.length_nil, Nat.zero_add, Nat.mul_one]); omega) | decide | (intros; simp_all; done) | (intros; simp_all; omega)) ?_
        refine hK11 _ _ ?_
        clear hK11
        refine AWPD.ret (And.intro (.inl rfl) ?_)
        -- result 1
        refine RetD.one ?_
        exact fitE rfl (by unfold fieldE; rw [if_pos (by omega), if_neg (prime_no p.toNat (by omega) d (by omega) hd2 ((sq_nat hp0).1 h1) hmod)])
      · try dsimp only [Ty.T] at h2
        try simp only [castL_self] at h2
        try simp only [Int.toNat_natCast] at h2
        try simp only [Int.toNat_zero] at h2
        have hmod : p.toNat % d ≠ 0 := fun e => h2 (by rw [← mod_nat (d := d) hp0, e]; rfl)
        refine AWPD.skip ?_
        refine hK9 _ _ ?_
        clear hK9
        -- region 5
        refine AWPD.keep [0, 3] rfl ?_
        refine AWPD.region tabOK rfl ?_
        repeat refine And.intro (by first | exact fun h => h | exact fun _ => rfl | (intro h; rw [h]; rfl) | omega | (intros; (try dsimp only [Ty.T, Ty.size]); (try simp only [castL_self, Int.toNat_natCast, Int.toNat_zero, Int.toNat_one, true_and, List.length_append, List.length_set, List.length_drop, List.length_take, List.length_replicate, List.length_cons, List.length_nil, Nat.zero_add, Nat.mul_one]); omega) | decide | (intros; simp_all; done) | (intros; simp_all; omega)) ?_
        refine ⟨n0 - 1, d + 1, [], by omega, ⟨by omega, by omega, fun q h3 h4 => by
            rcases Nat.lt_or_ge q d with h | h
            · exact hv0 q h h4
            · have e : q = d := by omega
              subst e
              exact hmod⟩, ⟨by decide, rfl⟩, trivial, ?_⟩
        repeat' first | exact True.intro | exact rfl | exact ⟨rfl, rfl⟩ | refine And.intro ?_ ?_
    · try dsimp only [Ty.T] at h1
      try simp only [castL_self] at h1
      try simp only [Int.toNat_natCast] at h1
      try simp only [Int.toNat_zero] at h1
      refine AWPD.exit ?_
      refine hK5 _ _ ?_
      clear hK5
      refine AWPD.seq fun K12 hK12 => ?_
      -- region 8
      refine AWPD.keep [] rfl ?_
      refine AWPD.region tabOK rfl ?_
      refine hK12 _ _ ?_
      clear hK12
      refine AWPD.ret (And.intro (.inl rfl) ?_)
      -- result 2
      refine RetD.one ?_
      exact fitE rfl (by unfold fieldE; rw [if_pos (by omega), if_pos (prime_of p.toNat (by omega) d (by omega) (by omega) hd2 (Nat.lt_of_not_le fun h => h1 ((sq_nat hp0).2 h)) hv0)])

def allE (p : Int) (l : List Int) : Int := if ∀ x ∈ l, 0 ≤ x ∧ x ≤ p - 1 then 0 else 1

theorem all_fn (p : Int) (l : List Int) (hp : 2 ≤ p ∧ p ≤ 31) (hl : l.length ≤ 4096) : LiftsD Tryd.prog 31 [.i p, .sl .int l] (.er 57 (allE p l)) := by
  refine LiftsD.of_body 20 [.tmp 4] Tryd.func31 rfl Tryd.ntmps31 (by kernel_rfl) rfl rfl fun w0 X0 => ?_
  refine AWPD.seq fun K1 hK1 => ?_
  -- region 0
  refine AWPD.keep [0, 1] rfl ?_
  refine AWPD.region tabOK rfl ?_
  refine hK1 _ _ ?_
  clear hK1
  refine AWPD.seq fun K2 hK2 => ?_
  refine AWPD.seq fun K3 hK3 => ?_
  -- region 1
  refine AWPD.keep [0, 1] rfl ?_
  refine AWPD.region tabOK rfl ?_
  refine hK3 _ _ ?_
  clear hK3
  refine AWPD.block ?_
  -- LOOP 0 live [0, 7, 8, 9] changed [9]
  refine AWPD.loopK (σ := Nat) [0, 7, 8] (fun i base => (9, .i (i : Int)) :: base) (fun _ => []) (fun n i => n + i = l.length ∧ ∀ x ∈ l.take i, 0 ≤ x ∧ x ≤ p - 1) (l.length) 0 [] rfl rfl (⟨by omega, by simp⟩) (by decide) trivial (by repeat' first | exact True.intro | exact rfl | exact ⟨rfl, rfl⟩ | refine And.intro ?_ ?_) fun n0 i hI0 => ?_
  obtain ⟨hn0, hv0⟩ := hI0
  refine AWPD.seq fun K4 hK4 => ?_
  -- region 2
  refine AWPD.keep [0, 7, 8, 9] rfl ?_
  refine AWPD.region tabOK rfl ?_
  refine hK4 _ _ ?_
  clear hK4
  refine AWPD.seq fun K5 hK5 => ?_
  first | refine AWPD.condP rfl (fun h0 => ?_) (fun h0 => ?_) | refine AWPD.condN rfl (fun h0 => ?_) (fun h0 => ?_) | refine AWPD.condAP rfl (fun h0 => ?_) (fun h0 => ?_) | refine AWPD.condOP rfl (fun h0 => ?_) (fun h0 => ?_) | refine AWPD.condONN rfl (fun h0 => ?_) (fun h0 => ?_) | refine AWPD.condOPN rfl (fun h0 => ?_) (fun h0 => ?_) | refine AWPD.condA rfl (fun h0 => ?_) (fun h0 => ?_) | refine AWPD.condO rfl (fun h0 => ?_) (fun h0 => ?_) | refine AWPD.cond rfl (fun h0 => ?_) (fun h0 => ?_)
  · try dsimp only [Ty.T] at h0
    try simp only [castL_self] at h0
    try simp only [Int.toNat_natCast] at h0
    try simp only [Int.toNat_zero] at h0
    refine AWPD.skip ?_
    refine hK5 _ _ ?_
    clear hK5
    refine AWPD.seq fun K6 hK6 => ?_
    refine AWPD.block ?_
    refine AWPD.seq fun K7 hK7 => ?_
    -- region 3
    refine AWPD.keep [0, 7, 8, 9] rfl ?_
    refine AWPD.region tabOK rfl ?_
    repeat refine And.intro (by first | exact fun h => h | exact fun _ => rfl | (intro h; rw [h]; rfl) | omega | (intros; (try dsimp only [Ty.T, Ty.size]); (try simp only [castL_self, Int.toNat_natCast, Int.toNat_zero, Int.toNat_one, true_and, List.length_append, List.length_set, List.length_drop, List.length_take, List.length_replicate, List.length_cons, List.length_nil, Nat.zero_add, Nat.mul_one]); omega) | decide | (intros; simp_all; done) | (intros; simp_all; omega)) ?_
    refine hK7 _ _ ?_
    clear hK7
    refine AWPD.seq fun K8 hK8 => ?_
    -- region 4
    refine AWPD.keep [0, 6, 7, 8, 9] rfl ?_
    refine AWPD.region tabOK rfl ?_
    repeat refine And.intro (by first | exact fun h => h | exact fun _ => rfl | (intro h; rw [h]; rfl) | omega | (intros; (try dsimp only [Ty.T, Ty.size]); (try simp only [castL_self, Int.toNat_natCast, Int.toNat_zero, Int.toNat_one, true_and, List.length_append, List.length_set, List.length_drop, List.length_take, List.length_replicate, List.length_cons, List.length_nil, Nat.zero_add, Nat.mul_one]); omega) | decide | (intros; simp_all; done) | (intros; simp_all; omega)) ?_
    refine Exists.intro _ (Exists.intro _ (And.intro (StepD.call (within_fn _ _ _) rfl rfl rfl) (And.intro rfl (And.intro trivial ?_))))
    refine hK8 _ _ ?_
    clear hK8
    first | refine AWPD.condP rfl (fun h1 => ?_) (fun h1 => ?_) | refine AWPD.condN rfl (fun h1 => ?_) (fun h1 => ?_) | refine AWPD.condAP rfl (fun h1 => ?_) (fun h1 => ?_) | refine AWPD.condOP rfl (fun h1 => ?_) (fun h1 => ?_) | refine AWPD.condONN rfl (fun h1 => ?_) (fun h1 => ?_) | refine AWPD.condOPN rfl (fun h1 => ?_) (fun h1 => ?_) | refine AWPD.condA rfl (fun h1 => ?_) (fun h1 => ?_) | refine AWPD.condO rfl (fun h1 => ?_) (fun h1 => ?_) | refine AWPD.cond rfl (fun h1 => ?_) (fun h1 => ?_)
    · try dsimp only [Ty.T] at h1
      try simp only [castL_self] at h1
      try simp only [Int.toNat_natCast] at h1
      try simp only [Int.toNat_zero] at h1
      refine AWPD.seq fun K9 hK9 => ?_
      -- region 5
      refine AWPD.keep [] rfl ?_
      refine AWPD.region tabOK rfl ?_
      repeat refine And.intro (by first | exact fun h => h | exact fun _ => rfl | (intro h; rw [h]; rfl) | omega | (intros; (try dsimp only [Ty.T, Ty.size]); (try simp only [castL_self, Int.toNat_natCast, Int.toNat_zero, Int.toNat_one, true_and, List.length_append, List.length_set, List.length_drop, List.length_take, List.length_replicate, List.length_cons, List.length_nil, Nat.zero_add, Nat.mul_one]); omega) | decide | (intros; simp_all; done) | (intros; simp_all; omega)) ?_
      refine hK9 _ _ ?_
      clear hK9
      refine AWPD.ret (And.intro (.inl rfl) ?_)
      -- result 0
      refine RetD.one ?_
      exact fitE rfl (by unfold allE; rw [if_neg (fun h => h1 (h _ (List.mem_of_mem_take (in_take (show i < i + 1 by omega) (by omega)))))])
    · try dsimp only [Ty.T] at h1
      try simp only [castL_self] at h1
      try simp only [Int.toNat_natCast] at h1
      try simp only [Int.toNat_zero] at h1
      refine AWPD.skip ?_
      refine hK6 _ _ ?_
      clear hK6
      -- region 6
      refine AWPD.keep [0, 7, 8, 9] rfl ?_
      refine AWPD.region tabOK rfl ?_
      repeat refine And.intro (by first | exact fun h => h | exact fun _ => rfl | (intro h; rw [h]; rfl) | omega | (intros; (try dsimp only [Ty.T, Ty.size]); (try simp only [castL_self, Int.toNat_natCast, Int.toNat_zero, Int.toNat_one, true_and, List.length_append, List.length_set, List.length_drop, List.length_take, List.length_replicate, List.length_cons, List.length_nil, Nat.zero_add, Nat.mul_one]); omega) | decide | (intros; simp_all; done) | (intros; simp_all; omega)) ?_
      refine ⟨n0 - 1, i + 1, [], by omega, ⟨by omega, by
        rw [take_snoc (by omega) 0]
        intro x hx
        rcases List.mem_append.1 hx with h | h
        · exact hv0 x h
        · rw [List.mem_singleton.1 h]; exact h1⟩, ⟨by decide, rfl⟩, trivial, ?_⟩
      repeat' first | exact True.intro | exact rfl | exact ⟨rfl, rfl⟩ | refine And.intro ?_ ?_
  · try dsimp only [Ty.T] at h0
    try simp only [castL_self] at h0
    try simp only [Int.toNat_natCast] at h0
    try simp only [Int.toNat_zero] at h0
    refine AWPD.exit ?_
    refine hK2 _ _ ?_
    clear hK2
    refine AWPD.seq fun K10 hK10 => ?_
    -- region 7
    refine AWPD.keep [] rfl ?_
    refine AWPD.region tabOK rfl ?_
    refine hK10 _ _ ?_
    clear hK10
    refine AWPD.ret (And.intro (.inl rfl) ?_)
    -- result 1
    refine RetD.one ?_
    exact fitE rfl (by unfold allE; rw [List.take_of_length_le (by omega)] at hv0; rw [if_pos hv0])

def powM (p a : Int) : Nat → Int
  | 0 => 1
  | k + 1 => powM p a k * a % p
theorem powM_in {p a : Int} (hp : 2 ≤ p) : ∀ k, 0 ≤ powM p a k ∧ powM p a k ≤ p - 1
  | 0 => by simp only [powM]; omega
  | k + 1 => by
    have h1 := Int.emod_nonneg (powM p a k * a) (show p ≠ 0 by omega)
    have h2 := Int.emod_lt_of_pos (powM p a k * a) (show 0 < p by omega)
    simp only [powM]
    omega
theorem mul_in {a b : Int} (ha : 0 ≤ a ∧ a ≤ 30) (hb : 0 ≤ b ∧ b ≤ 31) : 0 ≤ a * b ∧ a * b ≤ 930 := by
  have h1 := Int.mul_nonneg ha.1 hb.1
  have h2 := Int.mul_le_mul ha.2 hb.2 hb.1 (by decide)
  omega
def atV (p x : Int) (l : List Int) : Int := l.foldr (fun a n => (n * x + a) % p) 0
theorem atV_in {p x : Int} (hp : 2 ≤ p) : ∀ l : List Int, 0 ≤ atV p x l ∧ atV p x l ≤ p - 1
  | [] => by simp only [atV, List.foldr]; omega
  | a :: l => by
    have h1 := Int.emod_nonneg (atV p x l * x + a) (show p ≠ 0 by omega)
    have h2 := Int.emod_lt_of_pos (atV p x l * x + a) (show 0 < p by omega)
    have e : atV p x (a :: l) = (atV p x l * x + a) % p := rfl
    rw [e]
    omega

theorem inverse_fn (p a : Int) (hp : 2 ≤ p ∧ p ≤ 31) (ha : 0 ≤ a ∧ a ≤ p - 1) : LiftsD Tryd.prog 35 [.i p, .i a] (.i (powM p a (p - 2).toNat)) := by
  refine LiftsD.of_body 17 [.tmp 4] Tryd.func35 rfl Tryd.ntmps35 (by kernel_rfl) rfl rfl fun w0 X0 => ?_
  refine AWPD.seq fun K1 hK1 => ?_
  -- region 0
  refine AWPD.keep [0, 1] rfl ?_
  refine AWPD.region tabOK rfl ?_
  refine hK1 _ _ ?_
  clear hK1
  refine AWPD.seq fun K2 hK2 => ?_
  -- region 1
  refine AWPD.keep [0, 1] rfl ?_
  refine AWPD.region tabOK rfl ?_
  refine hK2 _ _ ?_
  clear hK2
  refine AWPD.seq fun K3 hK3 => ?_
  refine AWPD.seq fun K4 hK4 => ?_
  -- region 2
  refine AWPD.keep [0, 1, 5] rfl ?_
  refine AWPD.region tabOK rfl ?_
  repeat refine And.intro (by first | exact fun h => h | exact fun _ => rfl | (intro h; rw [h]; rfl) | omega | (intros; (try dsimp only [Ty.T, Ty.size]); (try simp only [castL_self, Int.toNat_natCast, Int.toNat_zero, Int.toNat_one, true_and, List.length_append, List.length_set, List.length_drop, List.length_take, List.length_replicate, List.length_cons, List.length_nil, Nat.zero_add, Nat.mul_one]); omega) | decide | (intros; simp_all; done) | (intros; simp_all; omega)) ?_
  refine hK4 _ _ ?_
  clear hK4
  refine AWPD.block ?_
  -- LOOP 0 live [0, 1, 5, 7, 8] changed [5, 8]
  refine AWPD.loopK (σ := Nat) [0, 1, 7] (fun k base => (5, .i (powM p a k)) :: (8, .i (k : Int)) :: base) (fun _ => []) (fun n k => n + k = (p - 2).toNat) ((p - 2).toNat) 0 [] rfl rfl (by omega) (by decide) trivial (by repeat' first | exact True.intro | exact rfl | exact ⟨rfl, rfl⟩ | refine And.intro ?_ ?_) fun n0 k hI0 => ?_
  have hn0 := hI0
  refine AWPD.seq fun K5 hK5 => ?_
  -- region 3
  refine AWPD.keep [0, 1, 5, 7, 8] rfl ?_
  refine AWPD.region tabOK rfl ?_
  refine hK5 _ _ ?_
  clear hK5
  refine AWPD.seq fun K6 hK6 => ?_
  first | refine AWPD.condP rfl (fun h0 => ?_) (fun h0 => ?_) | refine AWPD.condN rfl (fun h0 => ?_) (fun h0 => ?_) | refine AWPD.condAP rfl (fun h0 => ?_) (fun h0 => ?_) | refine AWPD.condOP rfl (fun h0 => ?_) (fun h0 => ?_) | refine AWPD.condONN rfl (fun h0 => ?_) (fun h0 => ?_) | refine AWPD.condOPN rfl (fun h0 => ?_) (fun h0 => ?_) | refine AWPD.condA rfl (fun h0 => ?_) (fun h0 => ?_) | refine AWPD.condO rfl (fun h0 => ?_) (fun h0 => ?_) | refine AWPD.cond rfl (fun h0 => ?_) (fun h0 => ?_)
  · try dsimp only [Ty.T] at h0
    try simp only [castL_self] at h0
    try simp only [Int.toNat_natCast] at h0
    try simp only [Int.toNat_zero] at h0
    refine AWPD.skip ?_
    refine hK6 _ _ ?_
    clear hK6
    refine AWPD.seq fun K7 hK7 => ?_
    refine AWPD.block ?_
    -- region 4
    have hk := powM_in (p := p) (a := a) hp.1 k
    have hm := mul_in (a := powM p a k) (b := a) (by omega) (by omega)
    refine AWPD.keep [0, 1, 5, 7, 8] rfl ?_
    refine AWPD.region tabOK rfl ?_
    repeat refine And.intro (by first | exact fun h => h | exact fun _ => rfl | (intro h; rw [h]; rfl) | omega | (intros; (try dsimp only [Ty.T, Ty.size]); (try simp only [castL_self, Int.toNat_natCast, Int.toNat_zero, Int.toNat_one, true_and, List.length_append, List.length_set, List.length_drop, List.length_take, List.length_replicate, List.length_cons, List.length_nil, Nat.zero_add, Nat.mul_one]); omega) | decide | (intros; simp_all; done) | (intros; simp_all; omega)) ?_
    refine hK7 _ _ ?_
    clear hK7
    -- region 5
    refine AWPD.keep [0, 1, 5, 7, 8] rfl ?_
    refine AWPD.region tabOK rfl ?_
    repeat refine And.intro (by first | exact fun h => h | exact fun _ => rfl | (intro h; rw [h]; rfl) | omega | (intros; (try dsimp only [Ty.T, Ty.size]); (try simp only [castL_self, Int.toNat_natCast, Int.toNat_zero, Int.toNat_one, true_and, List.length_append, List.length_set, List.length_drop, List.length_take, List.length_replicate, List.length_cons, List.length_nil, Nat.zero_add, Nat.mul_one]); omega) | decide | (intros; simp_all; done) | (intros; simp_all; omega)) ?_
    refine ⟨n0 - 1, k + 1, [], by omega, by omega, ⟨by decide, rfl⟩, trivial, ?_⟩
    repeat' first | exact True.intro | exact rfl | exact ⟨rfl, rfl⟩ | refine And.intro ?_ ?_
  · try dsimp only [Ty.T] at h0
    try simp only [castL_self] at h0
    try simp only [Int.toNat_natCast] at h0
    try simp only [Int.toNat_zero] at h0
    refine AWPD.exit ?_
    refine hK3 _ _ ?_
    clear hK3
    refine AWPD.seq fun K8 hK8 => ?_
    -- region 6
    refine AWPD.keep [5] rfl ?_
    refine AWPD.region tabOK rfl ?_
    refine hK8 _ _ ?_
    clear hK8
    refine AWPD.ret (And.intro (.inl rfl) ?_)
    -- result 0
    refine RetD.one ?_
    exact fitI rfl (by rw [show k = (p - 2).toNat by omega])
theorem at_fn (p x : Int) (l : List Int) (hp : 2 ≤ p ∧ p ≤ 31) (hx : 0 ≤ x ∧ x ≤ 31) (hl : l.length ≤ 4096) (hr : ∀ a ∈ l, 0 ≤ a ∧ a ≤ p - 1) : LiftsD Tryd.prog 32 [.i p, .sl .int l, .i x] (.i (atV p x l)) := by
  refine LiftsD.of_body 27 [.tmp 6] Tryd.func32 rfl Tryd.ntmps32 (by kernel_rfl) rfl rfl fun w0 X0 => ?_
  refine AWPD.seq fun K1 hK1 => ?_
  -- region 0
  refine AWPD.keep [0, 1, 2] rfl ?_
  refine AWPD.region tabOK rfl ?_
  refine hK1 _ _ ?_
  clear hK1
  refine AWPD.seq fun K2 hK2 => ?_
  -- region 1
  refine AWPD.keep [0, 1, 2] rfl ?_
  refine AWPD.region tabOK rfl ?_
  refine hK2 _ _ ?_
  clear hK2
  refine AWPD.seq fun K3 hK3 => ?_
  refine AWPD.seq fun K4 hK4 => ?_
  -- region 2
  refine AWPD.keep [0, 1, 2, 7] rfl ?_
  refine AWPD.region tabOK rfl ?_
  repeat refine And.intro (by first | exact fun h => h | exact fun _ => rfl | (intro h; rw [h]; rfl) | omega | (intros; (try dsimp only [Ty.T, Ty.size]); (try simp only [castL_self, Int.toNat_natCast, Int.toNat_zero, Int.toNat_one, true_and, List.length_append, List.length_set, List.length_drop, List.length_take, List.length_replicate, List.length_cons, List.length_nil, Nat.zero_add, Nat.mul_one]); omega) | decide | (intros; simp_all; done) | (intros; simp_all; omega)) ?_
  refine hK4 _ _ ?_
  clear hK4
  refine AWPD.block ?_
  -- LOOP 0 live [0, 1, 2, 7, 8] changed [7, 8]
  refine AWPD.loopK (σ := Nat) [0, 1, 2] (fun k base => (7, .i (atV p x (l.drop k))) :: (8, .i ((k : Int) - 1)) :: base) (fun _ => []) (fun n k => n = k ∧ k ≤ l.length) l.length l.length [] rfl rfl (⟨rfl, Nat.le_refl _⟩) (by decide) trivial (by repeat' first | exact (by rw [List.drop_length]; rfl) | exact True.intro | exact rfl | exact ⟨rfl, rfl⟩ | refine And.intro ?_ ?_) fun n0 k hI0 => ?_
  obtain ⟨hn0, hk⟩ := hI0
  refine AWPD.seq fun K5 hK5 => ?_
  refine AWPD.seq fun K6 hK6 => ?_
  -- region 3
  refine AWPD.keep [0, 1, 2, 7, 8] rfl ?_
  refine AWPD.region tabOK rfl ?_
  refine hK6 _ _ ?_
  clear hK6
  first | refine AWPD.condP rfl (fun h0 => ?_) (fun h0 => ?_) | refine AWPD.condN rfl (fun h0 => ?_) (fun h0 => ?_) | refine AWPD.condAP rfl (fun h0 => ?_) (fun h0 => ?_) | refine AWPD.condOP rfl (fun h0 => ?_) (fun h0 => ?_) | refine AWPD.condONN rfl (fun h0 => ?_) (fun h0 => ?_) | refine AWPD.condOPN rfl (fun h0 => ?_) (fun h0 => ?_) | refine AWPD.condA rfl (fun h0 => ?_) (fun h0 => ?_) | refine AWPD.condO rfl (fun h0 => ?_) (fun h0 => ?_) | refine AWPD.cond rfl (fun h0 => ?_) (fun h0 => ?_)
  · try dsimp only [Ty.T] at h0
    try simp only [castL_self] at h0
    try simp only [Int.toNat_natCast] at h0
    try simp only [Int.toNat_zero] at h0
    refine AWPD.skip ?_
    refine hK5 _ _ ?_
    clear hK5
    refine AWPD.seq fun K7 hK7 => ?_
    refine AWPD.block ?_
    -- region 5
    have hat := atV_in (p := p) (x := x) hp.1 (l.drop k)
    have hm := mul_in (a := atV p x (l.drop k)) (b := x) (by omega) hx
    have hin := hr (l.getD ((k : Int) - 1).toNat 0) (getD_mem (by omega) 0)
    refine AWPD.keep [0, 1, 2, 7, 8] rfl ?_
    refine AWPD.region tabOK rfl ?_
    repeat refine And.intro (by first | exact fun h => h | exact fun _ => rfl | (intro h; rw [h]; rfl) | omega | (intros; (try dsimp only [Ty.T, Ty.size]); (try simp only [castL_self, Int.toNat_natCast, Int.toNat_zero, Int.toNat_one, true_and, List.length_append, List.length_set, List.length_drop, List.length_take, List.length_replicate, List.length_cons, List.length_nil, Nat.zero_add, Nat.mul_one]); omega) | decide | (intros; simp_all; done) | (intros; simp_all; omega)) ?_
    refine hK7 _ _ ?_
    clear hK7
    -- region 4
    refine AWPD.keep [0, 1, 2, 7, 8] rfl ?_
    refine AWPD.region tabOK rfl ?_
    repeat refine And.intro (by first | exact fun h => h | exact fun _ => rfl | (intro h; rw [h]; rfl) | omega | (intros; (try dsimp only [Ty.T, Ty.size]); (try simp only [castL_self, Int.toNat_natCast, Int.toNat_zero, Int.toNat_one, true_and, List.length_append, List.length_set, List.length_drop, List.length_take, List.length_replicate, List.length_cons, List.length_nil, Nat.zero_add, Nat.mul_one]); omega) | decide | (intros; simp_all; done) | (intros; simp_all; omega)) ?_
    refine ⟨n0 - 1, k - 1, [], by omega, ⟨by omega, by omega⟩, ⟨by decide, rfl⟩, trivial, ?_⟩
    repeat' first | exact (by have e := drop_cons (show k - 1 < l.length by omega) (0 : Int); rw [show k - 1 + 1 = k by omega] at e; rw [e, show (l.getD (k - 1) 0) = l.getD ((k : Int) - 1).toNat 0 by rw [show ((k : Int) - 1).toNat = k - 1 by omega]]; rfl) | exact (by omega : (k : Int) - 1 - 1 = ((k - 1 : Nat) : Int) - 1) | exact True.intro | exact rfl | exact ⟨rfl, rfl⟩ | refine And.intro ?_ ?_
  · try dsimp only [Ty.T] at h0
    try simp only [castL_self] at h0
    try simp only [Int.toNat_natCast] at h0
    try simp only [Int.toNat_zero] at h0
    refine AWPD.exit ?_
    refine hK3 _ _ ?_
    clear hK3
    refine AWPD.seq fun K8 hK8 => ?_
    -- region 6
    refine AWPD.keep [7] rfl ?_
    refine AWPD.region tabOK rfl ?_
    refine hK8 _ _ ?_
    clear hK8
    refine AWPD.ret (And.intro (.inl rfl) ?_)
    -- result 0
    refine RetD.one ?_
    exact fitI rfl (by rw [show k = 0 by omega]; rfl)

abbrev Sh := Int × Int
def scanSh (p : Int) (seen : List Int) : List Sh → Int
  | [] => 0
  | s :: r => if (1 ≤ s.1 ∧ s.1 ≤ p - 1) ∧ (0 ≤ s.2 ∧ s.2 ≤ p - 1) then (if s.1 ∈ seen then 6 else scanSh p (seen ++ [s.1]) r) else 1
def sharesE (p : Int) (l : List Sh) : Int := if fieldE p ≠ 0 then fieldE p else if l.length = 0 then 5 else if 12 < l.length then 4 else scanSh p [] l
theorem firsts_in {l : List Sh} {i q : Nat} {c : Int} (hq : q < i) (hi : i ≤ l.length) (h : (l.getD q (0, 0)).1 = c) : c ∈ (l.take i).map (·.1) :=
  List.mem_map.2 ⟨l.getD q (0, 0), in_take hq (by omega), h⟩
theorem in_firsts {l : List Sh} {i : Nat} {c : Int} (h : c ∈ (l.take i).map (·.1)) : ∃ q, q < i ∧ (l.getD q (0, 0)).1 = c := by
  obtain ⟨x, hx, rfl⟩ := List.mem_map.1 h
  obtain ⟨q, hq, rfl⟩ := List.mem_iff_getElem.1 hx
  rw [List.length_take] at hq
  exact ⟨q, by omega, by rw [← take_getD (show q < i by omega), List.getD_eq_getElem?_getD, List.getElem?_eq_getElem (by rw [List.length_take]; exact hq)]; rfl⟩
theorem fieldE_in {p : Int} (h : fieldE p = 0) : 2 ≤ p ∧ p ≤ 31 ∧ p.toNat ∈ primes := by
  unfold fieldE at h
  split at h
  · rename_i h1
    split at h
    · rename_i h2; exact ⟨h1.1, h1.2, h2⟩
    · cases h
  · cases h

theorem shares_fn (p : Int) (l : List Sh) : LiftsD Tryd.prog 34 [.i p, .sl .two l] (.er 57 (sharesE p l)) := by
  refine LiftsD.of_body 61 [.tmp 4] Tryd.func34 rfl Tryd.ntmps34 (by kernel_rfl) rfl rfl fun w0 X0 => ?_
  refine AWPD.seq fun K1 hK1 => ?_
  -- region 0
  refine AWPD.keep [0, 1] rfl ?_
  refine AWPD.region tabOK rfl ?_
  refine hK1 _ _ ?_
  clear hK1
  refine AWPD.seq fun K2 hK2 => ?_
  refine AWPD.seq fun K3 hK3 => ?_
  -- region 1
  refine AWPD.keep [0, 1] rfl ?_
  refine AWPD.region tabOK rfl ?_
  refine Exists.intro _ (Exists.intro _ (And.intro (StepD.call (field_fn _) rfl rfl rfl) (And.intro rfl (And.intro trivial ?_))))
  refine hK3 _ _ ?_
  clear hK3
  refine AWPD.seq fun K4 hK4 => ?_
  -- region 2
  refine AWPD.keep [0, 1, 5] rfl ?_
  refine AWPD.region tabOK rfl ?_
  refine hK4 _ _ ?_
  clear hK4
  first | refine AWPD.condP rfl (fun h0 => ?_) (fun h0 => ?_) | refine AWPD.condN rfl (fun h0 => ?_) (fun h0 => ?_) | refine AWPD.condAP rfl (fun h0 => ?_) (fun h0 => ?_) | refine AWPD.condOP rfl (fun h0 => ?_) (fun h0 => ?_) | refine AWPD.condONN rfl (fun h0 => ?_) (fun h0 => ?_) | refine AWPD.condOPN rfl (fun h0 => ?_) (fun h0 => ?_) | refine AWPD.condA rfl (fun h0 => ?_) (fun h0 => ?_) | refine AWPD.condO rfl (fun h0 => ?_) (fun h0 => ?_) | refine AWPD.cond rfl (fun h0 => ?_) (fun h0 => ?_)
  · try dsimp only [Ty.T] at h0
    try simp only [castL_self] at h0
    try simp only [Int.toNat_natCast] at h0
    try simp only [Int.toNat_zero] at h0
    refine AWPD.seq fun K5 hK5 => ?_
    -- region 3
    refine AWPD.keep [5] rfl ?_
    refine AWPD.region tabOK rfl ?_
    refine hK5 _ _ ?_
    clear hK5
    refine AWPD.ret (And.intro (.inl rfl) ?_)
    -- result 0
    refine RetD.one ?_
    exact fitE rfl (by unfold sharesE; rw [if_pos h0])
  · try dsimp only [Ty.T] at h0
    try simp only [castL_self] at h0
    try simp only [Int.toNat_natCast] at h0
    try simp only [Int.toNat_zero] at h0
    have hf : fieldE p = 0 := by simpa using h0
    obtain ⟨hp1, hp2, -⟩ := fieldE_in hf
    refine AWPD.skip ?_
    refine hK2 _ _ ?_
    clear hK2
    refine AWPD.seq fun K6 hK6 => ?_
    refine AWPD.seq fun K7 hK7 => ?_
    -- region 4
    refine AWPD.keep [0, 1] rfl ?_
    refine AWPD.region tabOK rfl ?_
    refine hK7 _ _ ?_
    clear hK7
    first | refine AWPD.condP rfl (fun h1 => ?_) (fun h1 => ?_) | refine AWPD.condN rfl (fun h1 => ?_) (fun h1 => ?_) | refine AWPD.condAP rfl (fun h1 => ?_) (fun h1 => ?_) | refine AWPD.condOP rfl (fun h1 => ?_) (fun h1 => ?_) | refine AWPD.condONN rfl (fun h1 => ?_) (fun h1 => ?_) | refine AWPD.condOPN rfl (fun h1 => ?_) (fun h1 => ?_) | refine AWPD.condA rfl (fun h1 => ?_) (fun h1 => ?_) | refine AWPD.condO rfl (fun h1 => ?_) (fun h1 => ?_) | refine AWPD.cond rfl (fun h1 => ?_) (fun h1 => ?_)
    · try dsimp only [Ty.T] at h1
      try simp only [castL_self] at h1
      try simp only [Int.toNat_natCast] at h1
      try simp only [Int.toNat_zero] at h1
      refine AWPD.seq fun K8 hK8 => ?_
      -- region 5
      refine AWPD.keep [] rfl ?_
      refine AWPD.region tabOK rfl ?_
      repeat refine And.intro (by first | exact fun h => h | exact fun _ => rfl | (intro h; rw [h]; rfl) | omega | (intros; (try dsimp only [Ty.T, Ty.size]); (try simp only [castL_self, Int.toNat_natCast, Int.toNat_zero, Int.toNat_one, true_and, List.length_append, List.length_set, List.length_drop, List.length_take, List.length_replicate, List.length_cons, List.length_nil, Nat.zero_add, Nat.mul_one]); omega) | decide | (intros; simp_all; done) | (intros; simp_all; omega)) ?_
      refine hK8 _ _ ?_
      clear hK8
      refine AWPD.ret (And.intro (.inl rfl) ?_)
      -- result 1
      refine RetD.one ?_
      exact fitE rfl (by unfold sharesE; rw [if_neg (by omega), if_pos (by omega)])
    · try dsimp only [Ty.T] at h1
      try simp only [castL_self] at h1
      try simp only [Int.toNat_natCast] at h1
      try simp only [Int.toNat_zero] at h1
      refine AWPD.skip ?_
      refine hK6 _ _ ?_
      clear hK6
      refine AWPD.seq fun K9 hK9 => ?_
      refine AWPD.seq fun K10 hK10 => ?_
      -- region 6
      refine AWPD.keep [0, 1] rfl ?_
      refine AWPD.region tabOK rfl ?_
      refine hK10 _ _ ?_
      clear hK10
      first | refine AWPD.condP rfl (fun h2 => ?_) (fun h2 => ?_) | refine AWPD.condN rfl (fun h2 => ?_) (fun h2 => ?_) | refine AWPD.condAP rfl (fun h2 => ?_) (fun h2 => ?_) | refine AWPD.condOP rfl (fun h2 => ?_) (fun h2 => ?_) | refine AWPD.condONN rfl (fun h2 => ?_) (fun h2 => ?_) | refine AWPD.condOPN rfl (fun h2 => ?_) (fun h2 => ?_) | refine AWPD.condA rfl (fun h2 => ?_) (fun h2 => ?_) | refine AWPD.condO rfl (fun h2 => ?_) (fun h2 => ?_) | refine AWPD.cond rfl (fun h2 => ?_) (fun h2 => ?_)
      · try dsimp only [Ty.T] at h2
        try simp only [castL_self] at h2
        try simp only [Int.toNat_natCast] at h2
        try simp only [Int.toNat_zero] at h2
        refine AWPD.seq fun K11 hK11 => ?_
        -- region 7
        refine AWPD.keep [] rfl ?_
        refine AWPD.region tabOK rfl ?_
        repeat refine And.intro (by first | exact fun h => h | exact fun _ => rfl | (intro h; rw [h]; rfl) | omega | (intros; (try dsimp only [Ty.T, Ty.size]); (try simp only [castL_self, Int.toNat_natCast, Int.toNat_zero, Int.toNat_one, true_and, List.length_append, List.length_set, List.length_drop, List.length_take, List.length_replicate, List.length_cons, List.length_nil, Nat.zero_add, Nat.mul_one]); omega) | decide | (intros; simp_all; done) | (intros; simp_all; omega)) ?_
        refine hK11 _ _ ?_
        clear hK11
        refine AWPD.ret (And.intro (.inl rfl) ?_)
        -- result 2
        refine RetD.one ?_
        exact fitE rfl (by unfold sharesE; rw [if_neg (by omega), if_neg (by omega), if_pos (by omega)])
      · try dsimp only [Ty.T] at h2
        try simp only [castL_self] at h2
        try simp only [Int.toNat_natCast] at h2
        try simp only [Int.toNat_zero] at h2
        refine AWPD.skip ?_
        refine hK9 _ _ ?_
        clear hK9
        refine AWPD.seq fun K12 hK12 => ?_
        refine AWPD.seq fun K13 hK13 => ?_
        -- region 8
        refine AWPD.keep [0, 1] rfl ?_
        refine AWPD.region tabOK rfl ?_
        refine hK13 _ _ ?_
        clear hK13
        refine AWPD.block ?_
        -- LOOP 0 live [0, 1, 23, 24, 25] changed [25]
        refine AWPD.loopK (σ := Nat) [0, 1, 23, 24] (fun i base => (25, .i (i : Int)) :: base) (fun _ => []) (fun n i => n + i = l.length ∧ sharesE p l = scanSh p ((l.take i).map (·.1)) (l.drop i)) (l.length) 0 [] rfl rfl (⟨by omega, by unfold sharesE; rw [if_neg (by omega), if_neg (by omega), if_neg (by omega)]; rfl⟩) (by decide) trivial (by repeat' first | exact True.intro | exact rfl | exact ⟨rfl, rfl⟩ | refine And.intro ?_ ?_) fun n0 i hI0 => ?_
        obtain ⟨hn0, hv0⟩ := hI0
        refine AWPD.seq fun K14 hK14 => ?_
        -- region 9
        refine AWPD.keep [0, 1, 23, 24, 25] rfl ?_
        refine AWPD.region tabOK rfl ?_
        refine hK14 _ _ ?_
        clear hK14
        refine AWPD.seq fun K15 hK15 => ?_
        first | refine AWPD.condP rfl (fun h3 => ?_) (fun h3 => ?_) | refine AWPD.condN rfl (fun h3 => ?_) (fun h3 => ?_) | refine AWPD.condAP rfl (fun h3 => ?_) (fun h3 => ?_) | refine AWPD.condOP rfl (fun h3 => ?_) (fun h3 => ?_) | refine AWPD.condONN rfl (fun h3 => ?_) (fun h3 => ?_) | refine AWPD.condOPN rfl (fun h3 => ?_) (fun h3 => ?_) | refine AWPD.condA rfl (fun h3 => ?_) (fun h3 => ?_) | refine AWPD.condO rfl (fun h3 => ?_) (fun h3 => ?_) | refine AWPD.cond rfl (fun h3 => ?_) (fun h3 => ?_)
        · try dsimp only [Ty.T] at h3
          try simp only [castL_self] at h3
          try simp only [Int.toNat_natCast] at h3
          try simp only [Int.toNat_zero] at h3
          refine AWPD.skip ?_
          refine hK15 _ _ ?_
          clear hK15
          refine AWPD.seq fun K16 hK16 => ?_
          refine AWPD.block ?_
          refine AWPD.seq fun K17 hK17 => ?_
          -- region 10
          refine AWPD.keep [0, 1, 23, 24, 25] rfl ?_
          refine AWPD.region tabOK rfl ?_
          repeat refine And.intro (by first | exact fun h => h | exact fun _ => rfl | (intro h; rw [h]; rfl) | omega | (intros; (try dsimp only [Ty.T, Ty.size]); (try simp only [castL_self, Int.toNat_natCast, Int.toNat_zero, Int.toNat_one, true_and, List.length_append, List.length_set, List.length_drop, List.length_take, List.length_replicate, List.length_cons, List.length_nil, Nat.zero_add, Nat.mul_one]); omega) | decide | (intros; simp_all; done) | (intros; simp_all; omega)) ?_
          refine hK17 _ _ ?_
          clear hK17
          refine AWPD.seq fun K18 hK18 => ?_
          refine AWPD.seq fun K19 hK19 => ?_
          -- region 11
          refine AWPD.keep [0, 1, 6, 7, 23, 24, 25] rfl ?_
          refine AWPD.region tabOK rfl ?_
          repeat refine And.intro (by first | exact fun h => h | exact fun _ => rfl | (intro h; rw [h]; rfl) | omega | (intros; (try dsimp only [Ty.T, Ty.size]); (try simp only [castL_self, Int.toNat_natCast, Int.toNat_zero, Int.toNat_one, true_and, List.length_append, List.length_set, List.length_drop, List.length_take, List.length_replicate, List.length_cons, List.length_nil, Nat.zero_add, Nat.mul_one]); omega) | decide | (intros; simp_all; done) | (intros; simp_all; omega)) ?_
          refine Exists.intro _ (Exists.intro _ (And.intro (StepD.call (within_fn _ _ _) rfl rfl rfl) (And.intro rfl (And.intro trivial ?_))))
          repeat refine And.intro (by first | exact fun h => h | exact fun _ => rfl | (intro h; rw [h]; rfl) | omega | (intros; (try dsimp only [Ty.T, Ty.size]); (try simp only [castL_self, Int.toNat_natCast, Int.toNat_zero, Int.toNat_one, true_and, List.length_append, List.length_set, List.length_drop, List.length_take, List.length_replicate, List.length_cons, List.length_nil, Nat.zero_add, Nat.mul_one]); omega) | decide | (intros; simp_all; done) | (intros; simp_all; omega)) ?_
          refine Exists.intro _ (Exists.intro _ (And.intro (fun hg => StepD.call (within_fn _ _ _) rfl rfl rfl) (And.intro (fun hf => rfl) (And.intro rfl (And.intro trivial ?_)))))
          repeat refine And.intro (by first | exact fun h => h | exact fun _ => rfl | (intro h; rw [h]; rfl) | omega | (intros; (try dsimp only [Ty.T, Ty.size]); (try simp only [castL_self, Int.toNat_natCast, Int.toNat_zero, Int.toNat_one, true_and, List.length_append, List.length_set, List.length_drop, List.length_take, List.length_replicate, List.length_cons, List.length_nil, Nat.zero_add, Nat.mul_one]); omega) | decide | (intros; simp_all; done) | (intros; simp_all; omega)) ?_
          refine hK19 _ _ ?_
          clear hK19
          first | refine AWPD.condP rfl (fun h4 => ?_) (fun h4 => ?_) | refine AWPD.condN rfl (fun h4 => ?_) (fun h4 => ?_) | refine AWPD.condAP rfl (fun h4 => ?_) (fun h4 => ?_) | refine AWPD.condOP rfl (fun h4 => ?_) (fun h4 => ?_) | refine AWPD.condONN rfl (fun h4 => ?_) (fun h4 => ?_) | refine AWPD.condOPN rfl (fun h4 => ?_) (fun h4 => ?_) | refine AWPD.condA rfl (fun h4 => ?_) (fun h4 => ?_) | refine AWPD.condO rfl (fun h4 => ?_) (fun h4 => ?_) | refine AWPD.cond rfl (fun h4 => ?_) (fun h4 => ?_)
          · try dsimp only [Ty.T] at h4
            try simp only [castL_self] at h4
            try simp only [Int.toNat_natCast] at h4
            try simp only [Int.toNat_zero] at h4
            refine AWPD.seq fun K20 hK20 => ?_
            -- region 12
            refine AWPD.keep [] rfl ?_
            refine AWPD.region tabOK rfl ?_
            repeat refine And.intro (by first | exact fun h => h | exact fun _ => rfl | (intro h; rw [h]; rfl) | omega | (intros; (try dsimp only [Ty.T, Ty.size]); (try simp only [castL_self, Int.toNat_natCast, Int.toNat_zero, Int.toNat_one, true_and, List.length_append, List.length_set, List.length_drop, List.length_take, List.length_replicate, List.length_cons, List.length_nil, Nat.zero_add, Nat.mul_one]); omega) | decide | (intros; simp_all; done) | (intros; simp_all; omega)) ?_
            refine hK20 _ _ ?_
            clear hK20
            refine AWPD.ret (And.intro (.inl rfl) ?_)
            -- result 3
            refine RetD.one ?_
            exact fitE rfl (by rw [hv0, drop_cons (by omega) ((0 : Int), (0 : Int)), scanSh, if_neg (by omega)])
          · try dsimp only [Ty.T] at h4
            try simp only [castL_self] at h4
            try simp only [Int.toNat_natCast] at h4
            try simp only [Int.toNat_zero] at h4
            refine AWPD.skip ?_
            refine hK18 _ _ ?_
            clear hK18
            refine AWPD.seq fun K21 hK21 => ?_
            -- region 13
            refine AWPD.keep [0, 1, 6, 7, 23, 24, 25] rfl ?_
            refine AWPD.region tabOK rfl ?_
            repeat refine And.intro (by first | exact fun h => h | exact fun _ => rfl | (intro h; rw [h]; rfl) | omega | (intros; (try dsimp only [Ty.T, Ty.size]); (try simp only [castL_self, Int.toNat_natCast, Int.toNat_zero, Int.toNat_one, true_and, List.length_append, List.length_set, List.length_drop, List.length_take, List.length_replicate, List.length_cons, List.length_nil, Nat.zero_add, Nat.mul_one]); omega) | decide | (intros; simp_all; done) | (intros; simp_all; omega)) ?_
            refine hK21 _ _ ?_
            clear hK21
            refine AWPD.block ?_
            -- LOOP 1 live [0, 1, 7, 23, 24, 25, 47, 48, 49] changed [49]
            refine AWPD.loopK (σ := Nat) [0, 1, 23, 24, 25, 47, 48] (fun j base => (49, .i (j : Int)) :: (7, .op 0 0) :: base) (fun j => [.box 61 [.i (l.getD i (0, 0)).1, .i (l.getD i (0, 0)).2]]) (fun n j => n + j = i ∧ ∀ q, q < j → (l.getD q (0, 0)).1 ≠ (l.getD i (0, 0)).1) (i) 0 [0] rfl rfl (⟨by omega, by intro q hq; omega⟩) (by decide) ⟨⟨rfl, rfl, rfl⟩, trivial⟩ (by repeat' first | exact True.intro | exact rfl | exact ⟨rfl, rfl⟩ | refine And.intro ?_ ?_) fun n1 j hI1 => ?_
            obtain ⟨hn1, hv1⟩ := hI1
            have hl : (List.take i l).length = i := by rw [List.length_take]; omega
            refine AWPD.seq fun K22 hK22 => ?_
            -- region 14
            refine AWPD.keep [0, 1, 7, 23, 24, 25, 47, 48, 49] rfl ?_
            refine AWPD.region tabOK rfl ?_
            refine hK22 _ _ ?_
            clear hK22
            refine AWPD.seq fun K23 hK23 => ?_
            first | refine AWPD.condP rfl (fun h5 => ?_) (fun h5 => ?_) | refine AWPD.condN rfl (fun h5 => ?_) (fun h5 => ?_) | refine AWPD.condAP rfl (fun h5 => ?_) (fun h5 => ?_) | refine AWPD.condOP rfl (fun h5 => ?_) (fun h5 => ?_) | refine AWPD.condONN rfl (fun h5 => ?_) (fun h5 => ?_) | refine AWPD.condOPN rfl (fun h5 => ?_) (fun h5 => ?_) | refine AWPD.condA rfl (fun h5 => ?_) (fun h5 => ?_) | refine AWPD.condO rfl (fun h5 => ?_) (fun h5 => ?_) | refine AWPD.cond rfl (fun h5 => ?_) (fun h5 => ?_)
            · try dsimp only [Ty.T] at h5
              try simp only [castL_self] at h5
              try simp only [Int.toNat_natCast] at h5
              try simp only [Int.toNat_zero] at h5
              refine AWPD.skip ?_
              refine hK23 _ _ ?_
              clear hK23
              refine AWPD.seq fun K24 hK24 => ?_
              refine AWPD.block ?_
              refine AWPD.seq fun K25 hK25 => ?_
              -- region 15
              refine AWPD.keep [0, 1, 7, 23, 24, 25, 47, 48, 49] rfl ?_
              refine AWPD.region tabOK rfl ?_
              repeat refine And.intro (by first | exact fun h => h | exact fun _ => rfl | (intro h; rw [h]; rfl) | omega | (intros; (try dsimp only [Ty.T, Ty.size]); (try simp only [castL_self, Int.toNat_natCast, Int.toNat_zero, Int.toNat_one, true_and, List.length_append, List.length_set, List.length_drop, List.length_take, List.length_replicate, List.length_cons, List.length_nil, Nat.zero_add, Nat.mul_one]); omega) | decide | (intros; simp_all; done) | (intros; simp_all; omega)) ?_
              refine hK25 _ _ ?_
              clear hK25
              refine AWPD.seq fun K26 hK26 => ?_
              -- region 16
              refine AWPD.keep [0, 1, 7, 9, 23, 24, 25, 47, 48, 49] rfl ?_
              refine AWPD.region tabOK rfl ?_
              repeat refine And.intro (by first | exact fun h => h | exact fun _ => rfl | (intro h; rw [h]; rfl) | omega | (intros; (try dsimp only [Ty.T, Ty.size]); (try simp only [castL_self, Int.toNat_natCast, Int.toNat_zero, Int.toNat_one, true_and, List.length_append, List.length_set, List.length_drop, List.length_take, List.length_replicate, List.length_cons, List.length_nil, Nat.zero_add, Nat.mul_one]); omega) | decide | (intros; simp_all; done) | (intros; simp_all; omega)) ?_
              refine hK26 _ _ ?_
              clear hK26
              first | refine AWPD.condP rfl (fun h6 => ?_) (fun h6 => ?_) | refine AWPD.condN rfl (fun h6 => ?_) (fun h6 => ?_) | refine AWPD.condAP rfl (fun h6 => ?_) (fun h6 => ?_) | refine AWPD.condOP rfl (fun h6 => ?_) (fun h6 => ?_) | refine AWPD.condONN rfl (fun h6 => ?_) (fun h6 => ?_) | refine AWPD.condOPN rfl (fun h6 => ?_) (fun h6 => ?_) | refine AWPD.condA rfl (fun h6 => ?_) (fun h6 => ?_) | refine AWPD.condO rfl (fun h6 => ?_) (fun h6 => ?_) | refine AWPD.cond rfl (fun h6 => ?_) (fun h6 => ?_)
              · try dsimp only [Ty.T] at h6
                try simp only [castL_self] at h6
                try simp only [Int.toNat_natCast] at h6
                try simp only [Int.toNat_zero] at h6
                refine AWPD.seq fun K27 hK27 => ?_
                -- region 17
                refine AWPD.keep [] rfl ?_
                refine AWPD.region tabOK rfl ?_
                repeat refine And.intro (by first | exact fun h => h | exact fun _ => rfl | (intro h; rw [h]; rfl) | omega | (intros; (try dsimp only [Ty.T, Ty.size]); (try simp only [castL_self, Int.toNat_natCast, Int.toNat_zero, Int.toNat_one, true_and, List.length_append, List.length_set, List.length_drop, List.length_take, List.length_replicate, List.length_cons, List.length_nil, Nat.zero_add, Nat.mul_one]); omega) | decide | (intros; simp_all; done) | (intros; simp_all; omega)) ?_
                refine hK27 _ _ ?_
                clear hK27
                refine AWPD.ret (And.intro (.inl rfl) ?_)
                -- result 4
                refine RetD.one ?_
                rw [take_getD (show j < i by omega)] at h6
                exact fitE rfl (by rw [hv0, drop_cons (by omega) ((0 : Int), (0 : Int)), scanSh, if_pos h4, if_pos (firsts_in (show j < i by omega) (by omega) h6.symm)])
              · try dsimp only [Ty.T] at h6
                try simp only [castL_self] at h6
                try simp only [Int.toNat_natCast] at h6
                try simp only [Int.toNat_zero] at h6
                refine AWPD.skip ?_
                refine hK24 _ _ ?_
                clear hK24
                -- region 18
                refine AWPD.keep [0, 1, 7, 23, 24, 25, 47, 48, 49] rfl ?_
                refine AWPD.region tabOK rfl ?_
                repeat refine And.intro (by first | exact fun h => h | exact fun _ => rfl | (intro h; rw [h]; rfl) | omega | (intros; (try dsimp only [Ty.T, Ty.size]); (try simp only [castL_self, Int.toNat_natCast, Int.toNat_zero, Int.toNat_one, true_and, List.length_append, List.length_set, List.length_drop, List.length_take, List.length_replicate, List.length_cons, List.length_nil, Nat.zero_add, Nat.mul_one]); omega) | decide | (intros; simp_all; done) | (intros; simp_all; omega)) ?_
                refine ⟨n1 - 1, j + 1, [0], by omega, ⟨by omega, fun q hq => by
                    rcases Nat.lt_or_ge q j with h | h
                    · exact hv1 q h
                    · rw [show q = j by omega]
                      rw [take_getD (show j < i by omega)] at h6
                      exact fun e => h6 e.symm⟩, ⟨by decide, rfl⟩, ⟨⟨rfl, rfl, rfl⟩, trivial⟩, ?_⟩
                repeat' first | exact True.intro | exact rfl | exact ⟨rfl, rfl⟩ | refine And.intro ?_ ?_
            · try dsimp only [Ty.T] at h5
              try simp only [castL_self] at h5
              try simp only [Int.toNat_natCast] at h5
              try simp only [Int.toNat_zero] at h5
              refine AWPD.exit ?_
              refine hK16 _ _ ?_
              clear hK16
              -- region 19
              refine AWPD.keep [0, 1, 23, 24, 25] rfl ?_
              refine AWPD.region tabOK rfl ?_
              repeat refine And.intro (by first | exact fun h => h | exact fun _ => rfl | (intro h; rw [h]; rfl) | omega | (intros; (try dsimp only [Ty.T, Ty.size]); (try simp only [castL_self, Int.toNat_natCast, Int.toNat_zero, Int.toNat_one, true_and, List.length_append, List.length_set, List.length_drop, List.length_take, List.length_replicate, List.length_cons, List.length_nil, Nat.zero_add, Nat.mul_one]); omega) | decide | (intros; simp_all; done) | (intros; simp_all; omega)) ?_
              refine ⟨n0 - 1, i + 1, [], by omega, ⟨by omega, by rw [hv0, drop_cons (by omega) ((0 : Int), (0 : Int)), scanSh, if_pos h4, if_neg (fun hm => by obtain ⟨q, hq, e⟩ := in_firsts hm; exact hv1 q (by omega) e), take_snoc (by omega) ((0 : Int), (0 : Int)), List.map_append]; rfl⟩, ⟨by decide, rfl⟩, trivial, ?_⟩
              repeat' first | exact True.intro | exact rfl | exact ⟨rfl, rfl⟩ | refine And.intro ?_ ?_
        · try dsimp only [Ty.T] at h3
          try simp only [castL_self] at h3
          try simp only [Int.toNat_natCast] at h3
          try simp only [Int.toNat_zero] at h3
          refine AWPD.exit ?_
          refine hK12 _ _ ?_
          clear hK12
          refine AWPD.seq fun K28 hK28 => ?_
          -- region 20
          refine AWPD.keep [] rfl ?_
          refine AWPD.region tabOK rfl ?_
          refine hK28 _ _ ?_
          clear hK28
          refine AWPD.ret (And.intro (.inl rfl) ?_)
          -- result 5
          refine RetD.one ?_
          exact fitE rfl (by rw [hv0, List.drop_of_length_le (by omega)]; rfl)

structure GoodS (p : Int) (l : List Sh) : Prop where
  p2 : 2 ≤ p
  p31 : p ≤ 31
  prime : p.toNat ∈ primes
  some : 0 < l.length
  few : l.length ≤ 12
  at_ : ∀ i, i < l.length → 1 ≤ (l.getD i (0, 0)).1 ∧ (l.getD i (0, 0)).1 ≤ p - 1
  is_ : ∀ i, i < l.length → 0 ≤ (l.getD i (0, 0)).2 ∧ (l.getD i (0, 0)).2 ≤ p - 1
  apart : (l.map (·.1)).Nodup
theorem scanSh_ok {p : Int} : ∀ (l : List Sh) (seen : List Int), scanSh p seen l = 0 → (∀ s ∈ l, (1 ≤ s.1 ∧ s.1 ≤ p - 1) ∧ (0 ≤ s.2 ∧ s.2 ≤ p - 1)) ∧ (∀ c ∈ seen, c ∉ l.map (·.1)) ∧ (l.map (·.1)).Nodup
  | [], seen, _ => ⟨by simp, by simp, by simp⟩
  | c :: r, seen, h => by
    unfold scanSh at h
    split at h
    · rename_i hc
      split at h
      · cases h
      · rename_i hs
        obtain ⟨h1, h2, h3⟩ := scanSh_ok r _ h
        refine ⟨fun d hd => ?_, fun d hd hm => ?_, ?_⟩
        · rcases List.mem_cons.1 hd with rfl | hd
          · exact hc
          · exact h1 d hd
        · rw [List.map_cons] at hm
          rcases List.mem_cons.1 hm with rfl | hm
          · exact hs hd
          · exact h2 d (by simp [hd]) hm
        · rw [List.map_cons]
          exact List.nodup_cons.2 ⟨h2 c.1 (by simp), h3⟩
    · cases h
theorem shares_good {p : Int} {l : List Sh} (h : sharesE p l = 0) : GoodS p l := by
  unfold sharesE at h
  split at h
  · rename_i h1; exact absurd h h1
  · rename_i h1
    split at h
    · cases h
    · split at h
      · cases h
      · have hf := fieldE_in (show fieldE p = 0 by omega)
        obtain ⟨a, _, c⟩ := scanSh_ok l [] h
        exact ⟨hf.1, hf.2.1, hf.2.2, by omega, by omega, fun i hi => (a _ (getD_mem hi _)).1, fun i hi => (a _ (getD_mem hi _)).2, c⟩
def termV (p : Int) (l : List Sh) (i : Nat) : Nat → Int
  | 0 => (l.getD i (0, 0)).2
  | j + 1 => if (i : Int) ≠ (j : Int) then termV p l i j * (l.getD j (0, 0)).1 % p * powM p (((l.getD j (0, 0)).1 - (l.getD i (0, 0)).1 + p) % p) (p - 2).toNat % p else termV p l i j
theorem termV_yes {p : Int} {l : List Sh} {i j : Nat} (h : (i : Int) ≠ (j : Int)) : termV p l i j * (l.getD j (0, 0)).1 % p * powM p (((l.getD j (0, 0)).1 - (l.getD i (0, 0)).1 + p) % p) (p - 2).toNat % p = termV p l i (j + 1) := by rw [termV, if_pos h]
theorem termV_no {p : Int} {l : List Sh} {i j : Nat} (h : ¬(i : Int) ≠ (j : Int)) : termV p l i j = termV p l i (j + 1) := by rw [termV, if_neg h]
def sumV (p : Int) (l : List Sh) : Nat → Int
  | 0 => 0
  | i + 1 => (sumV p l i + termV p l i l.length) % p
theorem mod_in {p : Int} (hp : 2 ≤ p) (x : Int) : 0 ≤ x % p ∧ x % p ≤ p - 1 := by
  have h1 := Int.emod_nonneg x (show p ≠ 0 by omega)
  have h2 := Int.emod_lt_of_pos x (show 0 < p by omega)
  omega
theorem termV_in {p : Int} {l : List Sh} (g : GoodS p l) {i : Nat} (hi : i < l.length) : ∀ j, 0 ≤ termV p l i j ∧ termV p l i j ≤ p - 1
  | 0 => g.is_ i hi
  | j + 1 => by
    unfold termV
    split
    · exact mod_in g.p2 _
    · exact termV_in g hi j
theorem sumV_in {p : Int} {l : List Sh} (hp : 2 ≤ p) : ∀ i, 0 ≤ sumV p l i ∧ sumV p l i ≤ p - 1
  | 0 => by simp only [sumV]; omega
  | i + 1 => by unfold sumV; exact mod_in hp _
def joinV (p : Int) (l : List Sh) : Int := if sharesE p l = 0 then sumV p l l.length else 0

theorem join_fn (p : Int) (l : List Sh) : LiftsD Tryd.prog 23 [.i p, .sl .two l] (.tup [.i (joinV p l), .er 57 (sharesE p l)]) := by
  refine LiftsD.of_body 66 [.tmp 4, .tmp 5] Tryd.func23 rfl Tryd.ntmps23 (by kernel_rfl) rfl rfl fun w0 X0 => ?_
  refine AWPD.seq fun K1 hK1 => ?_
  -- region 0
  refine AWPD.keep [0, 1] rfl ?_
  refine AWPD.region tabOK rfl ?_
  refine hK1 _ _ ?_
  clear hK1
  refine AWPD.seq fun K2 hK2 => ?_
  refine AWPD.seq fun K3 hK3 => ?_
  -- region 1
  refine AWPD.keep [0, 1] rfl ?_
  refine AWPD.region tabOK rfl ?_
  refine Exists.intro _ (Exists.intro _ (And.intro (StepD.call (shares_fn _ _) rfl rfl rfl) (And.intro rfl (And.intro trivial ?_))))
  refine hK3 _ _ ?_
  clear hK3
  refine AWPD.seq fun K4 hK4 => ?_
  -- region 2
  refine AWPD.keep [0, 1, 6] rfl ?_
  refine AWPD.region tabOK rfl ?_
  refine hK4 _ _ ?_
  clear hK4
  first | refine AWPD.condP rfl (fun h0 => ?_) (fun h0 => ?_) | refine AWPD.condN rfl (fun h0 => ?_) (fun h0 => ?_) | refine AWPD.condAP rfl (fun h0 => ?_) (fun h0 => ?_) | refine AWPD.condOP rfl (fun h0 => ?_) (fun h0 => ?_) | refine AWPD.condONN rfl (fun h0 => ?_) (fun h0 => ?_) | refine AWPD.condOPN rfl (fun h0 => ?_) (fun h0 => ?_) | refine AWPD.condA rfl (fun h0 => ?_) (fun h0 => ?_) | refine AWPD.condO rfl (fun h0 => ?_) (fun h0 => ?_) | refine AWPD.cond rfl (fun h0 => ?_) (fun h0 => ?_)
  · try dsimp only [Ty.T] at h0
    try simp only [castL_self] at h0
    try simp only [Int.toNat_natCast] at h0
    try simp only [Int.toNat_zero] at h0
    refine AWPD.seq fun K5 hK5 => ?_
    -- region 3
    refine AWPD.keep [6] rfl ?_
    refine AWPD.region tabOK rfl ?_
    refine hK5 _ _ ?_
    clear hK5
    refine AWPD.ret (And.intro (.inl rfl) ?_)
    -- result 0
    exact ⟨fitI rfl (by unfold joinV; rw [if_neg h0]), fitE rfl rfl⟩
  · try dsimp only [Ty.T] at h0
    try simp only [castL_self] at h0
    try simp only [Int.toNat_natCast] at h0
    try simp only [Int.toNat_zero] at h0
    have hs : sharesE p l = 0 := by simpa using h0
    have g := shares_good hs
    obtain ⟨g1, g2, -, g4, g5, g6, g7, -⟩ := shares_good hs
    refine AWPD.skip ?_
    refine hK2 _ _ ?_
    clear hK2
    refine AWPD.seq fun K6 hK6 => ?_
    -- region 4
    refine AWPD.keep [0, 1] rfl ?_
    refine AWPD.region tabOK rfl ?_
    refine hK6 _ _ ?_
    clear hK6
    refine AWPD.seq fun K7 hK7 => ?_
    refine AWPD.seq fun K8 hK8 => ?_
    -- region 5
    refine AWPD.keep [0, 1, 7] rfl ?_
    refine AWPD.region tabOK rfl ?_
    refine hK8 _ _ ?_
    clear hK8
    refine AWPD.block ?_
    -- LOOP 0 live [0, 1, 7, 19, 20, 21] changed [7, 21]
    refine AWPD.loopK (σ := Nat) [0, 1, 19, 20] (fun i base => (7, .i (sumV p l i)) :: (21, .i (i : Int)) :: base) (fun _ => []) (fun n i => n + i = l.length) (l.length) 0 [] rfl rfl (by omega) (by decide) trivial (by repeat' first | exact True.intro | exact rfl | exact ⟨rfl, rfl⟩ | refine And.intro ?_ ?_) fun n0 i hI0 => ?_
    have hn0 := hI0
    refine AWPD.seq fun K9 hK9 => ?_
    -- region 6
    refine AWPD.keep [0, 1, 7, 19, 20, 21] rfl ?_
    refine AWPD.region tabOK rfl ?_
    refine hK9 _ _ ?_
    clear hK9
    refine AWPD.seq fun K10 hK10 => ?_
    first | refine AWPD.condP rfl (fun h1 => ?_) (fun h1 => ?_) | refine AWPD.condN rfl (fun h1 => ?_) (fun h1 => ?_) | refine AWPD.condAP rfl (fun h1 => ?_) (fun h1 => ?_) | refine AWPD.condOP rfl (fun h1 => ?_) (fun h1 => ?_) | refine AWPD.condONN rfl (fun h1 => ?_) (fun h1 => ?_) | refine AWPD.condOPN rfl (fun h1 => ?_) (fun h1 => ?_) | refine AWPD.condA rfl (fun h1 => ?_) (fun h1 => ?_) | refine AWPD.condO rfl (fun h1 => ?_) (fun h1 => ?_) | refine AWPD.cond rfl (fun h1 => ?_) (fun h1 => ?_)
    · try dsimp only [Ty.T] at h1
      try simp only [castL_self] at h1
      try simp only [Int.toNat_natCast] at h1
      try simp only [Int.toNat_zero] at h1
      refine AWPD.skip ?_
      refine hK10 _ _ ?_
      clear hK10
      refine AWPD.seq fun K11 hK11 => ?_
      refine AWPD.block ?_
      refine AWPD.seq fun K12 hK12 => ?_
      -- region 7
      refine AWPD.keep [0, 1, 7, 19, 20, 21] rfl ?_
      refine AWPD.region tabOK rfl ?_
      repeat refine And.intro (by first | exact fun h => h | exact fun _ => rfl | (intro h; rw [h]; rfl) | omega | (intros; (try dsimp only [Ty.T, Ty.size]); (try simp only [castL_self, Int.toNat_natCast, Int.toNat_zero, Int.toNat_one, true_and, List.length_append, List.length_set, List.length_drop, List.length_take, List.length_replicate, List.length_cons, List.length_nil, Nat.zero_add, Nat.mul_one]); omega) | decide | (intros; simp_all; done) | (intros; simp_all; omega)) ?_
      refine hK12 _ _ ?_
      clear hK12
      refine AWPD.seq fun K13 hK13 => ?_
      -- region 8
      refine AWPD.keep [0, 1, 7, 8, 9, 19, 20, 21] rfl ?_
      refine AWPD.region tabOK rfl ?_
      repeat refine And.intro (by first | exact fun h => h | exact fun _ => rfl | (intro h; rw [h]; rfl) | omega | (intros; (try dsimp only [Ty.T, Ty.size]); (try simp only [castL_self, Int.toNat_natCast, Int.toNat_zero, Int.toNat_one, true_and, List.length_append, List.length_set, List.length_drop, List.length_take, List.length_replicate, List.length_cons, List.length_nil, Nat.zero_add, Nat.mul_one]); omega) | decide | (intros; simp_all; done) | (intros; simp_all; omega)) ?_
      refine hK13 _ _ ?_
      clear hK13
      refine AWPD.seq fun K14 hK14 => ?_
      refine AWPD.seq fun K15 hK15 => ?_
      -- region 9
      refine AWPD.keep [0, 1, 7, 8, 9, 10, 19, 20, 21] rfl ?_
      refine AWPD.region tabOK rfl ?_
      refine hK15 _ _ ?_
      clear hK15
      refine AWPD.block ?_
      -- LOOP 1 live [0, 1, 7, 8, 9, 10, 19, 20, 21, 28, 29, 30] changed [10, 30]
      refine AWPD.loopK (σ := Nat) [0, 1, 7, 8, 19, 20, 21, 28, 29] (fun j base => (30, .i (j : Int)) :: (10, .i (termV p l i j)) :: (9, .op 0 0) :: base) (fun j => [.box 61 [.i (l.getD i (0, 0)).1, .i (l.getD i (0, 0)).2]]) (fun n j => n + j = l.length) (l.length) 0 [0] rfl rfl (by omega) (by decide) ⟨⟨rfl, rfl, rfl⟩, trivial⟩ (by repeat' first | exact True.intro | exact rfl | exact ⟨rfl, rfl⟩ | refine And.intro ?_ ?_) fun n1 j hI1 => ?_
      have hn1 := hI1
      refine AWPD.seq fun K16 hK16 => ?_
      -- region 10
      refine AWPD.keep [0, 1, 7, 8, 9, 10, 19, 20, 21, 28, 29, 30] rfl ?_
      refine AWPD.region tabOK rfl ?_
      refine hK16 _ _ ?_
      clear hK16
      refine AWPD.seq fun K17 hK17 => ?_
      first | refine AWPD.condP rfl (fun h2 => ?_) (fun h2 => ?_) | refine AWPD.condN rfl (fun h2 => ?_) (fun h2 => ?_) | refine AWPD.condAP rfl (fun h2 => ?_) (fun h2 => ?_) | refine AWPD.condOP rfl (fun h2 => ?_) (fun h2 => ?_) | refine AWPD.condONN rfl (fun h2 => ?_) (fun h2 => ?_) | refine AWPD.condOPN rfl (fun h2 => ?_) (fun h2 => ?_) | refine AWPD.condA rfl (fun h2 => ?_) (fun h2 => ?_) | refine AWPD.condO rfl (fun h2 => ?_) (fun h2 => ?_) | refine AWPD.cond rfl (fun h2 => ?_) (fun h2 => ?_)
      · try dsimp only [Ty.T] at h2
        try simp only [castL_self] at h2
        try simp only [Int.toNat_natCast] at h2
        try simp only [Int.toNat_zero] at h2
        refine AWPD.skip ?_
        refine hK17 _ _ ?_
        clear hK17
        refine AWPD.seq fun K18 hK18 => ?_
        refine AWPD.block ?_
        refine AWPD.seq fun K19 hK19 => ?_
        -- region 11
        refine AWPD.keep [0, 1, 7, 8, 9, 10, 19, 20, 21, 28, 29, 30] rfl ?_
        refine AWPD.region tabOK rfl ?_
        repeat refine And.intro (by first | exact fun h => h | exact fun _ => rfl | (intro h; rw [h]; rfl) | omega | (intros; (try dsimp only [Ty.T, Ty.size]); (try simp only [castL_self, Int.toNat_natCast, Int.toNat_zero, Int.toNat_one, true_and, List.length_append, List.length_set, List.length_drop, List.length_take, List.length_replicate, List.length_cons, List.length_nil, Nat.zero_add, Nat.mul_one]); omega) | decide | (intros; simp_all; done) | (intros; simp_all; omega)) ?_
        refine hK19 _ _ ?_
        clear hK19
        refine AWPD.seq fun K20 hK20 => ?_
        -- region 12
        refine AWPD.keep [0, 1, 7, 8, 9, 10, 11, 12, 19, 20, 21, 28, 29, 30] rfl ?_
        refine AWPD.region tabOK rfl ?_
        refine hK20 _ _ ?_
        clear hK20
        first | refine AWPD.condP rfl (fun h3 => ?_) (fun h3 => ?_) | refine AWPD.condN rfl (fun h3 => ?_) (fun h3 => ?_) | refine AWPD.condAP rfl (fun h3 => ?_) (fun h3 => ?_) | refine AWPD.condOP rfl (fun h3 => ?_) (fun h3 => ?_) | refine AWPD.condONN rfl (fun h3 => ?_) (fun h3 => ?_) | refine AWPD.condOPN rfl (fun h3 => ?_) (fun h3 => ?_) | refine AWPD.condA rfl (fun h3 => ?_) (fun h3 => ?_) | refine AWPD.condO rfl (fun h3 => ?_) (fun h3 => ?_) | refine AWPD.cond rfl (fun h3 => ?_) (fun h3 => ?_)
        · try dsimp only [Ty.T] at h3
          try simp only [castL_self] at h3
          try simp only [Int.toNat_natCast] at h3
          try simp only [Int.toNat_zero] at h3
          -- region 13
          have ht := termV_in g (i := i) (by omega) j
          have ha := g6 j (by omega)
          have hb := g6 i (by omega)
          have m1 := mul_in (a := termV p l i j) (b := (l.getD j (0, 0)).1) (by omega) (by omega)
          have m2 := mod_in (p := p) g1 (termV p l i j * (l.getD j (0, 0)).1)
          have m3 := powM_in (p := p) (a := ((l.getD j (0, 0)).1 - (l.getD i (0, 0)).1 + p) % p) g1 (p - 2).toNat
          have m5 := mod_in (p := p) g1 ((l.getD j (0, 0)).1 - (l.getD i (0, 0)).1 + p)
          have m4 := mul_in (a := termV p l i j * (l.getD j (0, 0)).1 % p) (b := powM p (((l.getD j (0, 0)).1 - (l.getD i (0, 0)).1 + p) % p) (p - 2).toNat) (by omega) (by omega)
          refine AWPD.keep [0, 1, 7, 8, 9, 10, 12, 19, 20, 21, 28, 29, 30] rfl ?_
          refine AWPD.draw tabOK [] rfl (by kernel_rfl) ?_
          repeat refine And.intro (by first | exact fun h => h | exact fun _ => rfl | (intro h; rw [h]; rfl) | omega | (intros; (try dsimp only [Ty.T, Ty.size]); (try simp only [castL_self, Int.toNat_natCast, Int.toNat_zero, Int.toNat_one, true_and, List.length_append, List.length_set, List.length_drop, List.length_take, List.length_replicate, List.length_cons, List.length_nil, Nat.zero_add, Nat.mul_one]); omega) | decide | (intros; simp_all; done) | (intros; simp_all; omega)) ?_
          refine Exists.intro _ (Exists.intro _ (And.intro (StepD.call (inverse_fn p (((l.getD j (0, 0)).1 - (l.getD i (0, 0)).1 + p) % p) ⟨g1, g2⟩ m5) rfl rfl rfl) (And.intro rfl (And.intro rfl ?_))))
          repeat refine And.intro (by first | exact fun h => h | exact fun _ => rfl | (intro h; rw [h]; rfl) | omega | (intros; (try dsimp only [Ty.T, Ty.size]); (try simp only [castL_self, Int.toNat_natCast, Int.toNat_zero, Int.toNat_one, true_and, List.length_append, List.length_set, List.length_drop, List.length_take, List.length_replicate, List.length_cons, List.length_nil, Nat.zero_add, Nat.mul_one]); omega) | decide | (intros; simp_all; done) | (intros; simp_all; omega)) ?_
          refine hK18 _ _ ?_
          clear hK18
          -- region 14
          refine AWPD.keep [0, 1, 7, 8, 9, 10, 19, 20, 21, 28, 29, 30] rfl ?_
          refine AWPD.region tabOK rfl ?_
          repeat refine And.intro (by first | exact fun h => h | exact fun _ => rfl | (intro h; rw [h]; rfl) | omega | (intros; (try dsimp only [Ty.T, Ty.size]); (try simp only [castL_self, Int.toNat_natCast, Int.toNat_zero, Int.toNat_one, true_and, List.length_append, List.length_set, List.length_drop, List.length_take, List.length_replicate, List.length_cons, List.length_nil, Nat.zero_add, Nat.mul_one]); omega) | decide | (intros; simp_all; done) | (intros; simp_all; omega)) ?_
          refine ⟨n1 - 1, j + 1, [0], by omega, by omega, ⟨by decide, rfl⟩, ⟨⟨rfl, rfl, rfl⟩, trivial⟩, ?_⟩
          repeat' first | exact termV_yes h3 | exact termV_no h3 | exact True.intro | exact rfl | exact ⟨rfl, rfl⟩ | refine And.intro ?_ ?_
        · try dsimp only [Ty.T] at h3
          try simp only [castL_self] at h3
          try simp only [Int.toNat_natCast] at h3
          try simp only [Int.toNat_zero] at h3
          refine AWPD.skip ?_
          refine hK18 _ _ ?_
          clear hK18
          -- region 14
          refine AWPD.keep [0, 1, 7, 8, 9, 10, 19, 20, 21, 28, 29, 30] rfl ?_
          refine AWPD.region tabOK rfl ?_
          repeat refine And.intro (by first | exact fun h => h | exact fun _ => rfl | (intro h; rw [h]; rfl) | omega | (intros; (try dsimp only [Ty.T, Ty.size]); (try simp only [castL_self, Int.toNat_natCast, Int.toNat_zero, Int.toNat_one, true_and, List.length_append, List.length_set, List.length_drop, List.length_take, List.length_replicate, List.length_cons, List.length_nil, Nat.zero_add, Nat.mul_one]); omega) | decide | (intros; simp_all; done) | (intros; simp_all; omega)) ?_
          refine ⟨n1 - 1, j + 1, [0], by omega, by omega, ⟨by decide, rfl⟩, ⟨⟨rfl, rfl, rfl⟩, trivial⟩, ?_⟩
          repeat' first | exact termV_yes h3 | exact termV_no h3 | exact True.intro | exact rfl | exact ⟨rfl, rfl⟩ | refine And.intro ?_ ?_
      · try dsimp only [Ty.T] at h2
        try simp only [castL_self] at h2
        try simp only [Int.toNat_natCast] at h2
        try simp only [Int.toNat_zero] at h2
        refine AWPD.exit ?_
        refine hK14 _ _ ?_
        clear hK14
        -- region 15
        have hsu := sumV_in (p := p) (l := l) g1 i
        have ht := termV_in g (i := i) (by omega) j
        refine AWPD.keep [0, 1, 7, 10, 19, 20, 21] rfl ?_
        refine AWPD.region tabOK rfl ?_
        repeat refine And.intro (by first | exact fun h => h | exact fun _ => rfl | (intro h; rw [h]; rfl) | omega | (intros; (try dsimp only [Ty.T, Ty.size]); (try simp only [castL_self, Int.toNat_natCast, Int.toNat_zero, Int.toNat_one, true_and, List.length_append, List.length_set, List.length_drop, List.length_take, List.length_replicate, List.length_cons, List.length_nil, Nat.zero_add, Nat.mul_one]); omega) | decide | (intros; simp_all; done) | (intros; simp_all; omega)) ?_
        refine hK11 _ _ ?_
        clear hK11
        -- region 16
        refine AWPD.keep [0, 1, 7, 19, 20, 21] rfl ?_
        refine AWPD.region tabOK rfl ?_
        repeat refine And.intro (by first | exact fun h => h | exact fun _ => rfl | (intro h; rw [h]; rfl) | omega | (intros; (try dsimp only [Ty.T, Ty.size]); (try simp only [castL_self, Int.toNat_natCast, Int.toNat_zero, Int.toNat_one, true_and, List.length_append, List.length_set, List.length_drop, List.length_take, List.length_replicate, List.length_cons, List.length_nil, Nat.zero_add, Nat.mul_one]); omega) | decide | (intros; simp_all; done) | (intros; simp_all; omega)) ?_
        refine ⟨n0 - 1, i + 1, [], by omega, by omega, ⟨by decide, rfl⟩, trivial, ?_⟩
        repeat' first | exact (by rw [sumV, show l.length = j by omega]; rfl) | exact True.intro | exact rfl | exact ⟨rfl, rfl⟩ | refine And.intro ?_ ?_
    · try dsimp only [Ty.T] at h1
      try simp only [castL_self] at h1
      try simp only [Int.toNat_natCast] at h1
      try simp only [Int.toNat_zero] at h1
      refine AWPD.exit ?_
      refine hK7 _ _ ?_
      clear hK7
      refine AWPD.seq fun K21 hK21 => ?_
      -- region 17
      refine AWPD.keep [7] rfl ?_
      refine AWPD.region tabOK rfl ?_
      refine hK21 _ _ ?_
      clear hK21
      refine AWPD.ret (And.intro (.inl rfl) ?_)
      -- result 1
      exact ⟨fitI rfl (by unfold joinV; rw [if_pos hs, show i = l.length by omega]), fitE rfl hs.symm⟩

def dealE (p secret : Int) (rest : List Int) (many : Int) : Int :=
  if fieldE p ≠ 0 then fieldE p else if allE p [secret] ≠ 0 then allE p [secret] else if 12 ≤ rest.length then 4 else if allE p rest ≠ 0 then allE p rest else if 0 ≤ many ∧ many ≤ (if p - 1 < 12 then p - 1 else 12) then 0 else 1
def dealT (p : Int) (l : List Int) (k : Nat) : List Sh := (List.range k).map fun i : Nat => (((i : Int) + 1, atV p ((i : Int) + 1) l) : Sh)
theorem dealT_step (p : Int) (l : List Int) (k : Nat) : dealT p l k ++ [(((k : Int) + 1, atV p ((k : Int) + 1) l) : Sh)] = dealT p l (k + 1) := by
  unfold dealT
  rw [List.range_succ, List.map_append]; rfl
def dealL (p secret : Int) (rest : List Int) (many : Int) : List Sh := if dealE p secret rest many = 0 then dealT p (secret :: rest) many.toNat else []
theorem allE_in {p : Int} {l : List Int} (h : allE p l = 0) : ∀ x ∈ l, 0 ≤ x ∧ x ≤ p - 1 := by
  unfold allE at h
  split at h
  · assumption
  · cases h

theorem deal_fn (p secret : Int) (rest : List Int) (many : Int) : LiftsD Tryd.prog 19 [.i p, .i secret, .sl .int rest, .i many] (.tup [.sl .two (dealL p secret rest many), .er 57 (dealE p secret rest many)]) := by
  refine LiftsD.of_body 64 [.tmp 8, .tmp 9] Tryd.func19 rfl Tryd.ntmps19 (by kernel_rfl) rfl rfl fun w0 X0 => ?_
  refine AWPD.seq fun K1 hK1 => ?_
  -- region 0
  refine AWPD.keep [0, 1, 2, 3] rfl ?_
  refine AWPD.region (tabOK.own [46]) rfl ?_
  refine hK1 _ _ ?_
  clear hK1
  refine AWPD.seq fun K2 hK2 => ?_
  refine AWPD.seq fun K3 hK3 => ?_
  -- region 1
  refine AWPD.keep [0, 1, 2, 3] rfl ?_
  refine AWPD.region (tabOK.own [46]) rfl ?_
  refine Exists.intro _ (Exists.intro _ (And.intro (StepD.call (field_fn _) rfl rfl rfl) (And.intro rfl (And.intro trivial ?_))))
  refine hK3 _ _ ?_
  clear hK3
  refine AWPD.seq fun K4 hK4 => ?_
  -- region 2
  refine AWPD.keep [0, 1, 2, 3, 10] rfl ?_
  refine AWPD.region (tabOK.own [46]) rfl ?_
  refine hK4 _ _ ?_
  clear hK4
  first | refine AWPD.condP rfl (fun h0 => ?_) (fun h0 => ?_) | refine AWPD.condN rfl (fun h0 => ?_) (fun h0 => ?_) | refine AWPD.condAP rfl (fun h0 => ?_) (fun h0 => ?_) | refine AWPD.condOP rfl (fun h0 => ?_) (fun h0 => ?_) | refine AWPD.condONN rfl (fun h0 => ?_) (fun h0 => ?_) | refine AWPD.condOPN rfl (fun h0 => ?_) (fun h0 => ?_) | refine AWPD.condA rfl (fun h0 => ?_) (fun h0 => ?_) | refine AWPD.condO rfl (fun h0 => ?_) (fun h0 => ?_) | refine AWPD.cond rfl (fun h0 => ?_) (fun h0 => ?_)
  · try dsimp only [Ty.T] at h0
    try simp only [castL_self] at h0
    try simp only [Int.toNat_natCast] at h0
    try simp only [Int.toNat_zero] at h0
    refine AWPD.seq fun K5 hK5 => ?_
    -- region 3
    refine AWPD.keep [10] rfl ?_
    refine AWPD.region (tabOK.own [46]) rfl ?_
    refine hK5 _ _ ?_
    clear hK5
    refine AWPD.ret (And.intro (.inl rfl) ?_)
    -- result 0
    exact ⟨fitN rfl (by simp [dealL, dealE, h0]) (by decide), fitE rfl (by simp [dealE, h0])⟩
  · try dsimp only [Ty.T] at h0
    try simp only [castL_self] at h0
    try simp only [Int.toNat_natCast] at h0
    try simp only [Int.toNat_zero] at h0
    have hf : fieldE p = 0 := by simpa using h0
    obtain ⟨hp1, hp2, -⟩ := fieldE_in hf
    refine AWPD.skip ?_
    refine hK2 _ _ ?_
    clear hK2
    refine AWPD.seq fun K6 hK6 => ?_
    refine AWPD.seq fun K7 hK7 => ?_
    -- region 4
    refine AWPD.keep [0, 1, 2, 3] rfl ?_
    refine AWPD.region (tabOK.own [46]) rfl ?_
    refine Exists.intro _ (Exists.intro _ (And.intro (StepD.call (all_fn _ _ ⟨hp1, hp2⟩ (by simp)) rfl rfl rfl) (And.intro rfl (And.intro trivial ?_))))
    refine hK7 _ _ ?_
    clear hK7
    refine AWPD.seq fun K8 hK8 => ?_
    -- region 5
    refine AWPD.keep [0, 1, 2, 3, 11] rfl ?_
    refine AWPD.region (tabOK.own [46]) rfl ?_
    refine hK8 _ _ ?_
    clear hK8
    first | refine AWPD.condP rfl (fun h1 => ?_) (fun h1 => ?_) | refine AWPD.condN rfl (fun h1 => ?_) (fun h1 => ?_) | refine AWPD.condAP rfl (fun h1 => ?_) (fun h1 => ?_) | refine AWPD.condOP rfl (fun h1 => ?_) (fun h1 => ?_) | refine AWPD.condONN rfl (fun h1 => ?_) (fun h1 => ?_) | refine AWPD.condOPN rfl (fun h1 => ?_) (fun h1 => ?_) | refine AWPD.condA rfl (fun h1 => ?_) (fun h1 => ?_) | refine AWPD.condO rfl (fun h1 => ?_) (fun h1 => ?_) | refine AWPD.cond rfl (fun h1 => ?_) (fun h1 => ?_)
    · try dsimp only [Ty.T] at h1
      try simp only [castL_self] at h1
      try simp only [Int.toNat_natCast] at h1
      try simp only [Int.toNat_zero] at h1
      refine AWPD.seq fun K9 hK9 => ?_
      -- region 6
      refine AWPD.keep [11] rfl ?_
      refine AWPD.region (tabOK.own [46]) rfl ?_
      refine hK9 _ _ ?_
      clear hK9
      refine AWPD.ret (And.intro (.inl rfl) ?_)
      -- result 1
      exact ⟨fitN rfl (by simp [dealL, dealE, hf, h1]) (by decide), fitE rfl (by simp [dealE, hf, h1])⟩
    · try dsimp only [Ty.T] at h1
      try simp only [castL_self] at h1
      try simp only [Int.toNat_natCast] at h1
      try simp only [Int.toNat_zero] at h1
      have ha : allE p [secret] = 0 := by simpa using h1
      refine AWPD.skip ?_
      refine hK6 _ _ ?_
      clear hK6
      refine AWPD.seq fun K10 hK10 => ?_
      refine AWPD.seq fun K11 hK11 => ?_
      -- region 7
      refine AWPD.keep [0, 1, 2, 3] rfl ?_
      refine AWPD.region (tabOK.own [46]) rfl ?_
      refine hK11 _ _ ?_
      clear hK11
      first | refine AWPD.condP rfl (fun h2 => ?_) (fun h2 => ?_) | refine AWPD.condN rfl (fun h2 => ?_) (fun h2 => ?_) | refine AWPD.condAP rfl (fun h2 => ?_) (fun h2 => ?_) | refine AWPD.condOP rfl (fun h2 => ?_) (fun h2 => ?_) | refine AWPD.condONN rfl (fun h2 => ?_) (fun h2 => ?_) | refine AWPD.condOPN rfl (fun h2 => ?_) (fun h2 => ?_) | refine AWPD.condA rfl (fun h2 => ?_) (fun h2 => ?_) | refine AWPD.condO rfl (fun h2 => ?_) (fun h2 => ?_) | refine AWPD.cond rfl (fun h2 => ?_) (fun h2 => ?_)
      · try dsimp only [Ty.T] at h2
        try simp only [castL_self] at h2
        try simp only [Int.toNat_natCast] at h2
        try simp only [Int.toNat_zero] at h2
        refine AWPD.seq fun K12 hK12 => ?_
        -- region 8
        refine AWPD.keep [] rfl ?_
        refine AWPD.region (tabOK.own [46]) rfl ?_
        repeat refine And.intro (by first | exact fun h => h | exact fun _ => rfl | (intro h; rw [h]; rfl) | omega | (intros; (try dsimp only [Ty.T, Ty.size]); (try simp only [castL_self, Int.toNat_natCast, Int.toNat_zero, Int.toNat_one, true_and, List.length_append, List.length_set, List.length_drop, List.length_take, List.length_replicate, List.length_cons, List.length_nil, Nat.zero_add, Nat.mul_one]); omega) | decide | (intros; simp_all; done) | (intros; simp_all; omega)) ?_
        refine hK12 _ _ ?_
        clear hK12
        refine AWPD.ret (And.intro (.inl rfl) ?_)
        -- result 2
        exact ⟨fitN rfl (by simp [dealL, dealE, hf, ha, show 12 ≤ rest.length by omega]) (by decide), fitE rfl (by simp [dealE, hf, ha, show 12 ≤ rest.length by omega])⟩
      · try dsimp only [Ty.T] at h2
        try simp only [castL_self] at h2
        try simp only [Int.toNat_natCast] at h2
        try simp only [Int.toNat_zero] at h2
        refine AWPD.skip ?_
        refine hK10 _ _ ?_
        clear hK10
        refine AWPD.seq fun K13 hK13 => ?_
        refine AWPD.seq fun K14 hK14 => ?_
        -- region 9
        refine AWPD.keep [0, 1, 2, 3] rfl ?_
        refine AWPD.region (tabOK.own [46]) rfl ?_
        refine Exists.intro _ (Exists.intro _ (And.intro (StepD.call (all_fn _ _ ⟨hp1, hp2⟩ (by omega)) rfl rfl rfl) (And.intro rfl (And.intro trivial ?_))))
        refine hK14 _ _ ?_
        clear hK14
        refine AWPD.seq fun K15 hK15 => ?_
        -- region 10
        refine AWPD.keep [0, 1, 2, 3, 12] rfl ?_
        refine AWPD.region (tabOK.own [46]) rfl ?_
        refine hK15 _ _ ?_
        clear hK15
        first | refine AWPD.condP rfl (fun h3 => ?_) (fun h3 => ?_) | refine AWPD.condN rfl (fun h3 => ?_) (fun h3 => ?_) | refine AWPD.condAP rfl (fun h3 => ?_) (fun h3 => ?_) | refine AWPD.condOP rfl (fun h3 => ?_) (fun h3 => ?_) | refine AWPD.condONN rfl (fun h3 => ?_) (fun h3 => ?_) | refine AWPD.condOPN rfl (fun h3 => ?_) (fun h3 => ?_) | refine AWPD.condA rfl (fun h3 => ?_) (fun h3 => ?_) | refine AWPD.condO rfl (fun h3 => ?_) (fun h3 => ?_) | refine AWPD.cond rfl (fun h3 => ?_) (fun h3 => ?_)
        · try dsimp only [Ty.T] at h3
          try simp only [castL_self] at h3
          try simp only [Int.toNat_natCast] at h3
          try simp only [Int.toNat_zero] at h3
          refine AWPD.seq fun K16 hK16 => ?_
          -- region 11
          refine AWPD.keep [12] rfl ?_
          refine AWPD.region (tabOK.own [46]) rfl ?_
          refine hK16 _ _ ?_
          clear hK16
          refine AWPD.ret (And.intro (.inl rfl) ?_)
          -- result 3
          exact ⟨fitN rfl (by simp [dealL, dealE, hf, ha, show ¬12 ≤ rest.length by omega, h3]) (by decide), fitE rfl (by simp [dealE, hf, ha, show ¬12 ≤ rest.length by omega, h3])⟩
        · try dsimp only [Ty.T] at h3
          try simp only [castL_self] at h3
          try simp only [Int.toNat_natCast] at h3
          try simp only [Int.toNat_zero] at h3
          have hb : allE p rest = 0 := by simpa using h3
          refine AWPD.skip ?_
          refine hK13 _ _ ?_
          clear hK13
          refine AWPD.seq fun K17 hK17 => ?_
          refine AWPD.seq fun K18 hK18 => ?_
          -- region 12
          refine AWPD.keep [0, 1, 2, 3] rfl ?_
          refine AWPD.region (tabOK.own [46]) rfl ?_
          repeat refine And.intro (by first | exact fun h => h | exact fun _ => rfl | (intro h; rw [h]; rfl) | omega | (intros; (try dsimp only [Ty.T, Ty.size]); (try simp only [castL_self, Int.toNat_natCast, Int.toNat_zero, Int.toNat_one, true_and, List.length_append, List.length_set, List.length_drop, List.length_take, List.length_replicate, List.length_cons, List.length_nil, Nat.zero_add, Nat.mul_one]); omega) | decide | (intros; simp_all; done) | (intros; simp_all; omega)) ?_
          refine Exists.intro _ (Exists.intro _ (And.intro (StepD.call (within_fn _ _ _) rfl rfl rfl) (And.intro rfl (And.intro trivial ?_))))
          refine hK18 _ _ ?_
          clear hK18
          first | refine AWPD.condP rfl (fun h4 => ?_) (fun h4 => ?_) | refine AWPD.condN rfl (fun h4 => ?_) (fun h4 => ?_) | refine AWPD.condAP rfl (fun h4 => ?_) (fun h4 => ?_) | refine AWPD.condOP rfl (fun h4 => ?_) (fun h4 => ?_) | refine AWPD.condONN rfl (fun h4 => ?_) (fun h4 => ?_) | refine AWPD.condOPN rfl (fun h4 => ?_) (fun h4 => ?_) | refine AWPD.condA rfl (fun h4 => ?_) (fun h4 => ?_) | refine AWPD.condO rfl (fun h4 => ?_) (fun h4 => ?_) | refine AWPD.cond rfl (fun h4 => ?_) (fun h4 => ?_)
          · try dsimp only [Ty.T] at h4
            try simp only [castL_self] at h4
            try simp only [Int.toNat_natCast] at h4
            try simp only [Int.toNat_zero] at h4
            refine AWPD.seq fun K19 hK19 => ?_
            -- region 13
            refine AWPD.keep [] rfl ?_
            refine AWPD.region (tabOK.own [46]) rfl ?_
            repeat refine And.intro (by first | exact fun h => h | exact fun _ => rfl | (intro h; rw [h]; rfl) | omega | (intros; (try dsimp only [Ty.T, Ty.size]); (try simp only [castL_self, Int.toNat_natCast, Int.toNat_zero, Int.toNat_one, true_and, List.length_append, List.length_set, List.length_drop, List.length_take, List.length_replicate, List.length_cons, List.length_nil, Nat.zero_add, Nat.mul_one]); omega) | decide | (intros; simp_all; done) | (intros; simp_all; omega)) ?_
            refine hK19 _ _ ?_
            clear hK19
            refine AWPD.ret (And.intro (.inl rfl) ?_)
            -- result 4
            have he : dealE p secret rest many = 1 := by unfold dealE; rw [if_neg h0, if_neg h1, if_neg (by omega), if_neg h3, if_neg h4]
            exact ⟨fitN rfl (by unfold dealL; rw [he]; rfl) (by decide), fitE rfl he.symm⟩
          · try dsimp only [Ty.T] at h4
            try simp only [castL_self] at h4
            try simp only [Int.toNat_natCast] at h4
            try simp only [Int.toNat_zero] at h4
            have hm12 : 0 ≤ many ∧ many ≤ 12 ∧ many ≤ p - 1 := by
              have h5 := h4
              split at h5 <;> omega
            refine AWPD.skip ?_
            refine hK17 _ _ ?_
            clear hK17
            refine AWPD.seq fun K20 hK20 => ?_
            -- region 14
            refine AWPD.keep [0, 1, 2, 3] rfl ?_
            refine AWPD.region (tabOK.own [46]) rfl ?_
            refine And.intro (by show (1 + rest.length) * 8 ≤ 140737488355328 ∧ (1 + rest.length) * 1 ≤ 9223372036854775807; omega) ?_
            refine hK20 _ _ ?_
            clear hK20
            refine AWPD.seq fun K21 hK21 => ?_
            -- region 15
            refine AWPD.keep [0, 3, 13] rfl ?_
            refine AWPD.region (tabOK.own [46]) rfl ?_
            refine hK21 _ _ ?_
            clear hK21
            refine AWPD.seq fun K22 hK22 => ?_
            refine AWPD.seq fun K23 hK23 => ?_
            -- region 16
            refine AWPD.keep [0, 3, 13, 14] rfl ?_
            refine AWPD.region (tabOK.own [46]) rfl ?_
            refine hK23 _ _ ?_
            clear hK23
            refine AWPD.block ?_
            -- LOOP 0 live [0, 3, 13, 14, 15] changed [14, 15]
            have hall : ∀ x ∈ secret :: rest, 0 ≤ x ∧ x ≤ p - 1 := fun x hx => by
              rcases List.mem_cons.1 hx with rfl | hx
              · exact allE_in ha _ (by simp)
              · exact allE_in hb _ hx
            refine AWPD.freeze 13 rfl rfl rfl ?_
            refine AWPD.nilRow 14 61 .two rfl (by decide) ?_
            refine AWPD.loopK (σ := Nat) [0, 3] (fun k base => (15, .i ((k : Int) + 1)) :: (14, .ob 0) :: (13, .sl .int (secret :: rest)) :: base) (fun k => [.row 61 .two (dealT p (secret :: rest) k)]) (fun n k => n + k = many.toNat) (many.toNat) 0 [2] rfl rfl (by omega) (by decide) ⟨⟨rfl, rfl, rfl⟩, trivial⟩ (by repeat' first | exact True.intro | exact rfl | exact ⟨rfl, rfl⟩ | refine And.intro ?_ ?_) fun n0 k hI0 => ?_
            have hn0 := hI0
            refine AWPD.seq fun K24 hK24 => ?_
            refine AWPD.seq fun K25 hK25 => ?_
            -- region 17
            refine AWPD.keep [0, 3, 13, 14, 15] rfl ?_
            refine AWPD.region (tabOK.own [46]) rfl ?_
            refine hK25 _ _ ?_
            clear hK25
            first | refine AWPD.condP rfl (fun h5 => ?_) (fun h5 => ?_) | refine AWPD.condN rfl (fun h5 => ?_) (fun h5 => ?_) | refine AWPD.condAP rfl (fun h5 => ?_) (fun h5 => ?_) | refine AWPD.condOP rfl (fun h5 => ?_) (fun h5 => ?_) | refine AWPD.condONN rfl (fun h5 => ?_) (fun h5 => ?_) | refine AWPD.condOPN rfl (fun h5 => ?_) (fun h5 => ?_) | refine AWPD.condA rfl (fun h5 => ?_) (fun h5 => ?_) | refine AWPD.condO rfl (fun h5 => ?_) (fun h5 => ?_) | refine AWPD.cond rfl (fun h5 => ?_) (fun h5 => ?_)
            · try dsimp only [Ty.T] at h5
              try simp only [castL_self] at h5
              try simp only [Int.toNat_natCast] at h5
              try simp only [Int.toNat_zero] at h5
              refine AWPD.skip ?_
              refine hK24 _ _ ?_
              clear hK24
              refine AWPD.seq fun K26 hK26 => ?_
              refine AWPD.block ?_
              -- region 19
              have hlen : (dealT p (secret :: rest) k).length = k := by simp [dealT]
              refine AWPD.keep [0, 3, 13, 14, 15] rfl ?_
              refine AWPD.region (tabOK.own [46]) rfl ?_
              refine Exists.intro _ (Exists.intro _ (And.intro (StepD.call (at_fn p ((k : Int) + 1) (secret :: rest) ⟨hp1, hp2⟩ (by omega) (by simp; omega) hall) rfl rfl rfl) (And.intro rfl (And.intro trivial ?_))))
              refine And.intro (by show ((dealT p (secret :: rest) k).length + 1) * 16 ≤ 140737488355328 ∧ ((dealT p (secret :: rest) k).length + 1) * 2 ≤ 9223372036854775807; omega) ?_
              refine hK26 _ _ ?_
              clear hK26
              -- region 18
              refine AWPD.keep [0, 3, 13, 14, 15] rfl ?_
              refine AWPD.region (tabOK.own [46]) rfl ?_
              repeat refine And.intro (by first | exact fun h => h | exact fun _ => rfl | (intro h; rw [h]; rfl) | omega | (intros; (try dsimp only [Ty.T, Ty.size]); (try simp only [castL_self, Int.toNat_natCast, Int.toNat_zero, Int.toNat_one, true_and, List.length_append, List.length_set, List.length_drop, List.length_take, List.length_replicate, List.length_cons, List.length_nil, Nat.zero_add, Nat.mul_one]); omega) | decide | (intros; simp_all; done) | (intros; simp_all; omega)) ?_
              refine ⟨n0 - 1, k + 1, [1], by omega, by omega, ⟨by decide, rfl⟩, ⟨⟨rfl, rfl, dealT_step p (secret :: rest) k⟩, trivial⟩, ?_⟩
              repeat' first | exact True.intro | exact rfl | exact ⟨rfl, rfl⟩ | refine And.intro ?_ ?_
            · try dsimp only [Ty.T] at h5
              try simp only [castL_self] at h5
              try simp only [Int.toNat_natCast] at h5
              try simp only [Int.toNat_zero] at h5
              refine AWPD.exit ?_
              refine hK22 _ _ ?_
              clear hK22
              refine AWPD.seq fun K27 hK27 => ?_
              -- region 20
              refine AWPD.keep [14] rfl ?_
              refine AWPD.region (tabOK.own [46]) rfl ?_
              refine hK27 _ _ ?_
              clear hK27
              refine AWPD.ret (And.intro (.inl rfl) ?_)
              -- result 5
              have he : dealE p secret rest many = 0 := by unfold dealE; rw [if_neg h0, if_neg h1, if_neg (by omega), if_neg h3, if_pos h4]
              exact ⟨fitR rfl rfl (by unfold dealL; rw [if_pos he, show k = many.toNat by omega]), fitE rfl he.symm⟩
end Go.Proofs.YtdikoipldcjcpaaDoor
