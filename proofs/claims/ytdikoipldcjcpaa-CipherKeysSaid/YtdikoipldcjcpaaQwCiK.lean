/-
  The walk of 'CipherKeys', and the law behind it: the signs of one key's messages are all sent for the first message.
-/
import Derived.Test.YtdikoipldcjcpaaQwCiW
namespace Go.Proofs.Ytdikoipldcjcpaa
open Go Go.Qw
set_option maxRecDepth 10000


theorem nodup_le : ∀ (l L : List Int), l.Nodup → (∀ x ∈ l, x ∈ L) → l.length ≤ L.length
  | [], L, _, _ => by simp
  | x :: l, L, hn, h => by
    have hx := h x (by simp)
    have hn' := List.nodup_cons.1 hn
    have := nodup_le l (L.erase x) hn'.2 fun y hy => (List.mem_erase_of_ne (fun e => hn'.1 (by rw [← e]; exact hy))).2 (h y (by simp [hy]))
    have hl := List.length_erase_of_mem hx
    have hp := List.length_pos_of_mem hx
    rw [List.length_cons]
    omega
theorem cnt_count (m : Nat) (s : Int) : ∀ t : List (List Int), cnt t m s = ((t.map fun r => r.getD m 0).count s : Int)
  | [] => rfl
  | r :: t => by
    have := cnt_count m s t
    unfold cnt at this ⊢
    rw [List.map_cons, List.count_cons]
    by_cases h : r.getD m 0 = s
    · rw [List.filter_cons_of_pos (by simpa using h), if_pos (by simpa using h)]
      simp only [List.length_cons]
      omega
    · rw [List.filter_cons_of_neg (by simpa using h), if_neg (by simpa using h)]
      omega
/-- The signs of the first key's messages are distinct, and each is sent for the first message. -/
theorem perf_col {t : List (List Int)} (hp : perfB t = true) : chk t = 0 ∧ (t.getD 0 []).Nodup ∧ ∀ x ∈ t.getD 0 [], x ∈ t.map fun r => r.getD 0 0 := by
  obtain ⟨hc, hq⟩ := of_decide_eq_true hp
  have g := chk_good hc
  have g0 := g.some
  refine ⟨hc, ?_, fun x hx => ?_⟩
  · rw [List.nodup_iff_pairwise_ne, List.pairwise_iff_getElem]
    intro i j hi hj hij
    have := g.apart 0 j i g0 hj hij
    rw [List.getD_eq_getElem?_getD (l := t.getD 0 []), List.getD_eq_getElem?_getD (l := t.getD 0 []), List.getElem?_eq_getElem hi, List.getElem?_eq_getElem hj] at this
    exact this
  · obtain ⟨m, hm, rfl⟩ := List.mem_iff_getElem.1 hx
    have e : (t.getD 0 []).getD m 0 = (t.getD 0 [])[m] := by rw [List.getD_eq_getElem?_getD (l := t.getD 0 []), List.getElem?_eq_getElem hm]; rfl
    have hr := g.range 0 m g0 hm
    rw [e] at hr
    have hcnt := hq ((t.getD 0 [])[m]).toNat (by omega) m hm
    rw [toNat_eq hr.1] at hcnt
    have h1 : 0 < cnt t m (t.getD 0 [])[m] := by
      rw [cnt_count]
      have : (t.getD 0 [])[m] ∈ t.map fun r => r.getD m 0 := List.mem_map.2 ⟨t.getD 0 [], getD_mem g0 [], e⟩
      have := List.count_pos_iff.2 this
      omega
    rw [hcnt, cnt_count] at h1
    exact List.count_pos_iff.1 (by omega)
theorem perf_many {t : List (List Int)} (hp : perfB t = true) : (t.getD 0 []).length ≤ t.length := by
  obtain ⟨_, h1, h2⟩ := perf_col hp
  simpa using nodup_le _ _ h1 h2
theorem perf_one {t : List (List Int)} (hp : perfB t = true) (h : t.length = (t.getD 0 []).length) (s : Int) : cnt t 0 s = 0 ∨ cnt t 0 s = 1 := by
  obtain ⟨_, h1, h2⟩ := perf_col hp
  have h0 := cnt_le t 0 s
  rcases (by omega : cnt t 0 s < 2 ∨ 2 ≤ cnt t 0 s) with h3 | h3
  · omega
  · exfalso
    rw [cnt_count] at h3
    have hin : s ∈ t.map fun r => r.getD 0 0 := List.count_pos_iff.1 (by omega)
    have := nodup_le _ ((t.map fun r => r.getD 0 0).erase s) h1 fun x hx => by
      by_cases e : x = s
      · subst e
        refine List.count_pos_iff.1 ?_
        rw [List.count_erase_self]
        omega
      · exact (List.mem_erase_of_ne e).2 (h2 x hx)
    rw [List.length_erase_of_mem hin, List.length_map] at this
    have hp2 := List.length_pos_of_mem hin
    rw [List.length_map] at hp2
    omega
theorem keysE_no {t : List (List Int)} {s : Int} (hc : chk t = 0) (h : keysE t s ≠ 0) : s < 0 ∨ 23 < s := by
  unfold keysE at h
  rw [if_neg (by omega)] at h
  split at h
  · exact absurd rfl h
  · omega
theorem keysE_in {t : List (List Int)} {s : Int} (hc : chk t = 0) (h : ¬keysE t s ≠ 0) : 0 ≤ s ∧ s ≤ 23 := by
  unfold keysE at h
  rw [if_neg (by omega)] at h
  split at h
  · assumption
  · exact absurd (by decide) h
theorem perf_all {t : List (List Int)} {s : Int} (hp : perfB t = true) (hs : 0 ≤ s ∧ s ≤ 23) {m : Nat} (hm : m < (t.getD 0 []).length) : cnt t m s = cnt t 0 s := by
  have := (of_decide_eq_true hp).2 s.toNat (by omega) m hm
  rwa [toNat_eq hs.1] at this

theorem cipherKeys_fn (t : List (List Int)) (s : Int) : LiftsD Try.prog 3 [.sl (.sl .int) t, .i s] (.b true) := by
  refine LiftsD.of_body 89 [.tmp 4] Try.func3 rfl Try.ntmps3 (by kernel_rfl) rfl rfl fun w0 X0 => ?_
  refine AWPD.seq fun K1 hK1 => ?_
  -- region 0
  refine AWPD.keep [0, 1] rfl ?_
  refine AWPD.region tabOK rfl ?_
  refine hK1 _ _ ?_
  clear hK1
  refine AWPD.seq fun K2 hK2 => ?_
  -- region 1
  refine AWPD.keep [0, 1] rfl ?_
  refine AWPD.region tabOK rfl ?_
  refine Exists.intro _ (Exists.intro _ (And.intro (StepD.call (cipherFact_fn) rfl rfl rfl) (And.intro rfl (And.intro trivial ?_))))
  refine hK2 _ _ ?_
  clear hK2
  refine AWPD.seq fun K3 hK3 => ?_
  refine AWPD.seq fun K4 hK4 => ?_
  -- region 2
  refine AWPD.keep [0, 1, 5] rfl ?_
  refine AWPD.region tabOK rfl ?_
  refine hK4 _ _ ?_
  clear hK4
  first | refine AWPD.condP rfl (fun h0 => ?_) (fun h0 => ?_) | refine AWPD.condN rfl (fun h0 => ?_) (fun h0 => ?_) | refine AWPD.condAP rfl (fun h0 => ?_) (fun h0 => ?_) | refine AWPD.condOP rfl (fun h0 => ?_) (fun h0 => ?_) | refine AWPD.condONN rfl (fun h0 => ?_) (fun h0 => ?_) | refine AWPD.condOPN rfl (fun h0 => ?_) (fun h0 => ?_) | refine AWPD.condA rfl (fun h0 => ?_) (fun h0 => ?_) | refine AWPD.condO rfl (fun h0 => ?_) (fun h0 => ?_) | refine AWPD.cond rfl (fun h0 => ?_) (fun h0 => ?_)
  · try dsimp only [Ty.T] at h0
    try simp only [castL_self] at h0
    try simp only [Int.toNat_natCast] at h0
    try simp only [Int.toNat_zero] at h0
    exact absurd h0 (by decide)
  · try dsimp only [Ty.T] at h0
    try simp only [castL_self] at h0
    try simp only [Int.toNat_natCast] at h0
    try simp only [Int.toNat_zero] at h0
    refine AWPD.skip ?_
    refine hK3 _ _ ?_
    clear hK3
    refine AWPD.seq fun K5 hK5 => ?_
    -- region 4
    refine AWPD.keep [0, 1] rfl ?_
    refine AWPD.region tabOK rfl ?_
    refine Exists.intro _ (Exists.intro _ (And.intro (StepD.call (perfect_fn _) rfl rfl rfl) (And.intro rfl (And.intro trivial ?_))))
    refine hK5 _ _ ?_
    clear hK5
    refine AWPD.seq fun K6 hK6 => ?_
    refine AWPD.seq fun K7 hK7 => ?_
    -- region 5
    refine AWPD.keep [0, 1, 6, 7] rfl ?_
    refine AWPD.region tabOK rfl ?_
    repeat refine And.intro (by first | exact fun h => h | omega | ((try dsimp only [Ty.T]); (try simp only [castL_self]); (try simp only [Int.toNat_natCast]); (try simp only [Int.toNat_zero]); (try simp only [true_and]); omega) | (intros; (try dsimp only [Ty.T]); (try simp only [castL_self]); (try simp only [Int.toNat_natCast]); (try simp only [Int.toNat_zero]); (try simp only [true_and]); omega) | decide | (intros; simp_all; done) | (intros; simp_all; omega)) ?_
    refine hK7 _ _ ?_
    clear hK7
    first | refine AWPD.condO rfl (fun h1 => ?_) (fun h1 => ?_)
    · try dsimp only [Ty.T] at h1
      try simp only [castL_self] at h1
      try simp only [Int.toNat_natCast] at h1
      try simp only [Int.toNat_zero] at h1
      refine AWPD.seq fun K8 hK8 => ?_
      -- region 6
      refine AWPD.keep [6] rfl ?_
      refine AWPD.region tabOK rfl ?_
      refine hK8 _ _ ?_
      clear hK8
      refine AWPD.ret (And.intro (.inl rfl) ?_)
      -- result 0
      refine RetD.one ?_
      refine fitB rfl ?_
      rcases h1 with h | h
      · simp [perfB, h]
      · exact h
    · try dsimp only [Ty.T] at h1
      try simp only [castL_self] at h1
      try simp only [Int.toNat_natCast] at h1
      try simp only [Int.toNat_zero] at h1
      have hc : chk t = 0 := by have := h1.1; omega
      have hp : perfB t = true := by simpa using h1.2
      obtain ⟨g1, g2, g3, g4, -, -⟩ := chk_good hc
      have hmany := perf_many hp
      refine AWPD.skip ?_
      refine hK6 _ _ ?_
      clear hK6
      refine AWPD.seq fun K9 hK9 => ?_
      -- region 7
      refine AWPD.keep [0, 1] rfl ?_
      refine AWPD.region tabOK rfl ?_
      repeat refine And.intro (by first | exact fun h => h | omega | ((try dsimp only [Ty.T]); (try simp only [castL_self]); (try simp only [Int.toNat_natCast]); (try simp only [Int.toNat_zero]); (try simp only [true_and]); omega) | (intros; (try dsimp only [Ty.T]); (try simp only [castL_self]); (try simp only [Int.toNat_natCast]); (try simp only [Int.toNat_zero]); (try simp only [true_and]); omega) | decide | (intros; simp_all; done) | (intros; simp_all; omega)) ?_
      refine hK9 _ _ ?_
      clear hK9
      refine AWPD.seq fun K10 hK10 => ?_
      refine AWPD.seq fun K11 hK11 => ?_
      -- region 8
      refine AWPD.keep [0, 1, 8] rfl ?_
      refine AWPD.region tabOK rfl ?_
      repeat refine And.intro (by first | exact fun h => h | omega | ((try dsimp only [Ty.T]); (try simp only [castL_self]); (try simp only [Int.toNat_natCast]); (try simp only [Int.toNat_zero]); (try simp only [true_and]); omega) | (intros; (try dsimp only [Ty.T]); (try simp only [castL_self]); (try simp only [Int.toNat_natCast]); (try simp only [Int.toNat_zero]); (try simp only [true_and]); omega) | decide | (intros; simp_all; done) | (intros; simp_all; omega)) ?_
      refine hK11 _ _ ?_
      clear hK11
      first | refine AWPD.condP rfl (fun h2 => ?_) (fun h2 => ?_) | refine AWPD.condN rfl (fun h2 => ?_) (fun h2 => ?_) | refine AWPD.condAP rfl (fun h2 => ?_) (fun h2 => ?_) | refine AWPD.condOP rfl (fun h2 => ?_) (fun h2 => ?_) | refine AWPD.condONN rfl (fun h2 => ?_) (fun h2 => ?_) | refine AWPD.condOPN rfl (fun h2 => ?_) (fun h2 => ?_) | refine AWPD.condA rfl (fun h2 => ?_) (fun h2 => ?_) | refine AWPD.condO rfl (fun h2 => ?_) (fun h2 => ?_) | refine AWPD.cond rfl (fun h2 => ?_) (fun h2 => ?_)
      · try dsimp only [Ty.T] at h2
        try simp only [castL_self] at h2
        try simp only [Int.toNat_natCast] at h2
        try simp only [Int.toNat_zero] at h2
        exact absurd h2 (by omega)
      · try dsimp only [Ty.T] at h2
        try simp only [castL_self] at h2
        try simp only [Int.toNat_natCast] at h2
        try simp only [Int.toNat_zero] at h2
        refine AWPD.skip ?_
        refine hK10 _ _ ?_
        clear hK10
        refine AWPD.seq fun K12 hK12 => ?_
        -- region 10
        refine AWPD.keep [0, 1, 8] rfl ?_
        refine AWPD.region tabOK rfl ?_
        refine Exists.intro _ (Exists.intro _ (And.intro (StepD.call (keys_fn _ _) rfl rfl rfl) (And.intro rfl (And.intro trivial ?_))))
        refine hK12 _ _ ?_
        clear hK12
        refine AWPD.seq fun K13 hK13 => ?_
        refine AWPD.seq fun K14 hK14 => ?_
        -- region 11
        refine AWPD.keep [0, 1, 8, 9, 10] rfl ?_
        refine AWPD.region tabOK rfl ?_
        refine hK14 _ _ ?_
        clear hK14
        first | refine AWPD.condP rfl (fun h3 => ?_) (fun h3 => ?_) | refine AWPD.condN rfl (fun h3 => ?_) (fun h3 => ?_) | refine AWPD.condAP rfl (fun h3 => ?_) (fun h3 => ?_) | refine AWPD.condOP rfl (fun h3 => ?_) (fun h3 => ?_) | refine AWPD.condONN rfl (fun h3 => ?_) (fun h3 => ?_) | refine AWPD.condOPN rfl (fun h3 => ?_) (fun h3 => ?_) | refine AWPD.condA rfl (fun h3 => ?_) (fun h3 => ?_) | refine AWPD.condO rfl (fun h3 => ?_) (fun h3 => ?_) | refine AWPD.cond rfl (fun h3 => ?_) (fun h3 => ?_)
        · try dsimp only [Ty.T] at h3
          try simp only [castL_self] at h3
          try simp only [Int.toNat_natCast] at h3
          try simp only [Int.toNat_zero] at h3
          have hno := keysE_no hc h3
          refine AWPD.seq fun K15 hK15 => ?_
          -- region 12
          refine AWPD.keep [1] rfl ?_
          refine AWPD.region tabOK rfl ?_
          repeat refine And.intro (by first | exact fun h => h | omega | ((try dsimp only [Ty.T]); (try simp only [castL_self]); (try simp only [Int.toNat_natCast]); (try simp only [Int.toNat_zero]); (try simp only [true_and]); omega) | (intros; (try dsimp only [Ty.T]); (try simp only [castL_self]); (try simp only [Int.toNat_natCast]); (try simp only [Int.toNat_zero]); (try simp only [true_and]); omega) | decide | (intros; simp_all; done) | (intros; simp_all; omega)) ?_
          refine hK15 _ _ ?_
          clear hK15
          refine AWPD.ret (And.intro (.inl rfl) ?_)
          -- result 1
          refine RetD.one ?_
          refine fitB rfl ?_
          rcases hno with h | h <;> simp [h]
        · try dsimp only [Ty.T] at h3
          try simp only [castL_self] at h3
          try simp only [Int.toNat_natCast] at h3
          try simp only [Int.toNat_zero] at h3
          have hs := keysE_in hc h3
          have hl := keysL_len hc hs
          refine AWPD.skip ?_
          refine hK13 _ _ ?_
          clear hK13
          refine AWPD.seq fun K16 hK16 => ?_
          refine AWPD.seq fun K17 hK17 => ?_
          -- region 13
          refine AWPD.keep [0, 8, 9] rfl ?_
          refine AWPD.region tabOK rfl ?_
          refine hK17 _ _ ?_
          clear hK17
          first | refine AWPD.condP rfl (fun h4 => ?_) (fun h4 => ?_) | refine AWPD.condN rfl (fun h4 => ?_) (fun h4 => ?_) | refine AWPD.condAP rfl (fun h4 => ?_) (fun h4 => ?_) | refine AWPD.condOP rfl (fun h4 => ?_) (fun h4 => ?_) | refine AWPD.condONN rfl (fun h4 => ?_) (fun h4 => ?_) | refine AWPD.condOPN rfl (fun h4 => ?_) (fun h4 => ?_) | refine AWPD.condA rfl (fun h4 => ?_) (fun h4 => ?_) | refine AWPD.condO rfl (fun h4 => ?_) (fun h4 => ?_) | refine AWPD.cond rfl (fun h4 => ?_) (fun h4 => ?_)
          · try dsimp only [Ty.T] at h4
            try simp only [castL_self] at h4
            try simp only [Int.toNat_natCast] at h4
            try simp only [Int.toNat_zero] at h4
            exact absurd (by rw [hl]) h4
          · try dsimp only [Ty.T] at h4
            try simp only [castL_self] at h4
            try simp only [Int.toNat_natCast] at h4
            try simp only [Int.toNat_zero] at h4
            refine AWPD.skip ?_
            refine hK16 _ _ ?_
            clear hK16
            refine AWPD.seq fun K18 hK18 => ?_
            refine AWPD.seq fun K19 hK19 => ?_
            -- region 15
            refine AWPD.keep [0, 8, 9] rfl ?_
            refine AWPD.region tabOK rfl ?_
            refine hK19 _ _ ?_
            clear hK19
            refine AWPD.block ?_
            -- LOOP 0 live [0, 8, 9, 11] changed [11]
            refine AWPD.loopK (σ := Nat) [0, 8, 9] (fun m base => (11, .i (m : Int)) :: base) (fun _ => []) (fun n m => 1 ≤ m ∧ n + m = (t.getD 0 []).length + 1) ((t.getD 0 []).length) 1 [] rfl rfl (by omega) (by decide) trivial (by repeat' first | exact True.intro | exact rfl | exact ⟨rfl, rfl⟩ | refine And.intro ?_ ?_) fun n0 m hI0 => ?_
            obtain ⟨hm1, hn0⟩ := hI0
            refine AWPD.seq fun K20 hK20 => ?_
            refine AWPD.seq fun K21 hK21 => ?_
            -- region 16
            refine AWPD.keep [0, 8, 9, 11] rfl ?_
            refine AWPD.region tabOK rfl ?_
            refine hK21 _ _ ?_
            clear hK21
            first | refine AWPD.condP rfl (fun h5 => ?_) (fun h5 => ?_) | refine AWPD.condN rfl (fun h5 => ?_) (fun h5 => ?_) | refine AWPD.condAP rfl (fun h5 => ?_) (fun h5 => ?_) | refine AWPD.condOP rfl (fun h5 => ?_) (fun h5 => ?_) | refine AWPD.condONN rfl (fun h5 => ?_) (fun h5 => ?_) | refine AWPD.condOPN rfl (fun h5 => ?_) (fun h5 => ?_) | refine AWPD.condA rfl (fun h5 => ?_) (fun h5 => ?_) | refine AWPD.condO rfl (fun h5 => ?_) (fun h5 => ?_) | refine AWPD.cond rfl (fun h5 => ?_) (fun h5 => ?_)
            · try dsimp only [Ty.T] at h5
              try simp only [castL_self] at h5
              try simp only [Int.toNat_natCast] at h5
              try simp only [Int.toNat_zero] at h5
              have hm := keysL_get hc hs (m := m) (by omega)
              have hz := keysL_get hc hs (m := 0) (by omega)
              refine AWPD.skip ?_
              refine hK20 _ _ ?_
              clear hK20
              refine AWPD.seq fun K22 hK22 => ?_
              refine AWPD.block ?_
              refine AWPD.seq fun K23 hK23 => ?_
              -- region 18
              refine AWPD.keep [0, 8, 9, 11] rfl ?_
              refine AWPD.draw tabOK none rfl (by kernel_rfl) ?_
              repeat refine And.intro (by first | exact fun h => h | omega | ((try dsimp only [Ty.T]); (try simp only [castL_self]); (try simp only [Int.toNat_natCast]); (try simp only [Int.toNat_zero]); (try simp only [true_and]); omega) | (intros; (try dsimp only [Ty.T]); (try simp only [castL_self]); (try simp only [Int.toNat_natCast]); (try simp only [Int.toNat_zero]); (try simp only [true_and]); omega) | decide | (intros; simp_all; done) | (intros; simp_all; omega)) ?_
              refine hK23 _ _ ?_
              clear hK23
              first | refine AWPD.condP rfl (fun h6 => ?_) (fun h6 => ?_) | refine AWPD.condN rfl (fun h6 => ?_) (fun h6 => ?_) | refine AWPD.condAP rfl (fun h6 => ?_) (fun h6 => ?_) | refine AWPD.condOP rfl (fun h6 => ?_) (fun h6 => ?_) | refine AWPD.condONN rfl (fun h6 => ?_) (fun h6 => ?_) | refine AWPD.condOPN rfl (fun h6 => ?_) (fun h6 => ?_) | refine AWPD.condA rfl (fun h6 => ?_) (fun h6 => ?_) | refine AWPD.condO rfl (fun h6 => ?_) (fun h6 => ?_) | refine AWPD.cond rfl (fun h6 => ?_) (fun h6 => ?_)
              · try dsimp only [Ty.T] at h6
                try simp only [castL_self] at h6
                try simp only [Int.toNat_natCast] at h6
                try simp only [Int.toNat_zero] at h6
                exact absurd (by rw [hm, hz]; exact perf_all hp hs (by omega)) h6
              · try dsimp only [Ty.T] at h6
                try simp only [castL_self] at h6
                try simp only [Int.toNat_natCast] at h6
                try simp only [Int.toNat_zero] at h6
                refine AWPD.skip ?_
                refine hK22 _ _ ?_
                clear hK22
                -- region 17
                refine AWPD.keep [0, 8, 9, 11] rfl ?_
                refine AWPD.region tabOK rfl ?_
                repeat refine And.intro (by first | exact fun h => h | omega | ((try dsimp only [Ty.T]); (try simp only [castL_self]); (try simp only [Int.toNat_natCast]); (try simp only [Int.toNat_zero]); (try simp only [true_and]); omega) | (intros; (try dsimp only [Ty.T]); (try simp only [castL_self]); (try simp only [Int.toNat_natCast]); (try simp only [Int.toNat_zero]); (try simp only [true_and]); omega) | decide | (intros; simp_all; done) | (intros; simp_all; omega)) ?_
                refine ⟨n0 - 1, m + 1, [], by omega, ⟨by omega, by omega⟩, by decide, trivial, ?_⟩
                repeat' first | exact True.intro | exact rfl | exact ⟨rfl, rfl⟩ | refine And.intro ?_ ?_
            · try dsimp only [Ty.T] at h5
              try simp only [castL_self] at h5
              try simp only [Int.toNat_natCast] at h5
              try simp only [Int.toNat_zero] at h5
              refine AWPD.exit ?_
              refine hK18 _ _ ?_
              clear hK18
              refine AWPD.seq fun K24 hK24 => ?_
              refine AWPD.seq fun K25 hK25 => ?_
              -- region 20
              refine AWPD.keep [0, 8, 9] rfl ?_
              refine AWPD.region tabOK rfl ?_
              repeat refine And.intro (by first | exact fun h => h | omega | ((try dsimp only [Ty.T]); (try simp only [castL_self]); (try simp only [Int.toNat_natCast]); (try simp only [Int.toNat_zero]); (try simp only [true_and]); omega) | (intros; (try dsimp only [Ty.T]); (try simp only [castL_self]); (try simp only [Int.toNat_natCast]); (try simp only [Int.toNat_zero]); (try simp only [true_and]); omega) | decide | (intros; simp_all; done) | (intros; simp_all; omega)) ?_
              refine hK25 _ _ ?_
              clear hK25
              first | refine AWPD.condP rfl (fun h7 => ?_) (fun h7 => ?_) | refine AWPD.condN rfl (fun h7 => ?_) (fun h7 => ?_) | refine AWPD.condAP rfl (fun h7 => ?_) (fun h7 => ?_) | refine AWPD.condOP rfl (fun h7 => ?_) (fun h7 => ?_) | refine AWPD.condONN rfl (fun h7 => ?_) (fun h7 => ?_) | refine AWPD.condOPN rfl (fun h7 => ?_) (fun h7 => ?_) | refine AWPD.condA rfl (fun h7 => ?_) (fun h7 => ?_) | refine AWPD.condO rfl (fun h7 => ?_) (fun h7 => ?_) | refine AWPD.cond rfl (fun h7 => ?_) (fun h7 => ?_)
              · try dsimp only [Ty.T] at h7
                try simp only [castL_self] at h7
                try simp only [Int.toNat_natCast] at h7
                try simp only [Int.toNat_zero] at h7
                refine AWPD.seq fun K26 hK26 => ?_
                -- region 21
                refine AWPD.keep [] rfl ?_
                refine AWPD.region tabOK rfl ?_
                refine hK26 _ _ ?_
                clear hK26
                refine AWPD.ret (And.intro (.inl rfl) ?_)
                -- result 2
                refine RetD.one ?_
                exact fitB rfl rfl
              · try dsimp only [Ty.T] at h7
                try simp only [castL_self] at h7
                try simp only [Int.toNat_natCast] at h7
                try simp only [Int.toNat_zero] at h7
                have hz := keysL_get hc hs (m := 0) (by omega)
                have hone := perf_one hp (by omega) s
                refine AWPD.skip ?_
                refine hK24 _ _ ?_
                clear hK24
                refine AWPD.seq fun K27 hK27 => ?_
                -- region 22
                refine AWPD.keep [9] rfl ?_
                refine AWPD.region tabOK rfl ?_
                repeat refine And.intro (by first | exact fun h => h | omega | ((try dsimp only [Ty.T]); (try simp only [castL_self]); (try simp only [Int.toNat_natCast]); (try simp only [Int.toNat_zero]); (try simp only [true_and]); omega) | (intros; (try dsimp only [Ty.T]); (try simp only [castL_self]); (try simp only [Int.toNat_natCast]); (try simp only [Int.toNat_zero]); (try simp only [true_and]); omega) | decide | (intros; simp_all; done) | (intros; simp_all; omega)) ?_
                refine hK27 _ _ ?_
                clear hK27
                refine AWPD.ret (And.intro (.inl rfl) ?_)
                -- result 3
                refine RetD.one ?_
                refine fitB rfl ?_
                show (bif decide ((keysL t s).getD 0 0 = 0) then true else decide ((keysL t s).getD 0 0 = 1)) = true
                rw [hz]
                rcases hone with h | h <;> simp [h]
end Go.Proofs.Ytdikoipldcjcpaa
