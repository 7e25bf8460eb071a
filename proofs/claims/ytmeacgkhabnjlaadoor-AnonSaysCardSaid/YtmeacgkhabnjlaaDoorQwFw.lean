/-
  WALKS of anon.fewest and Fewest: a map that counts, each order of its entries.
-/
import Derived.Test.YtmeacgkhabnjlaaDoorQwAn
namespace Go.Proofs.YtmeacgkhabnjlaaDoor
open Go Go.Qw
set_option maxRecDepth 10000
set_option linter.unusedSimpArgs false
set_option linter.unusedVariables false
set_option linter.unusedSectionVars false
set_option maxHeartbeats 2000000


theorem nodup_few : ∀ (n : Nat) (l : List Nat), l.Nodup → (∀ x ∈ l, x < n) → l.length ≤ n := by
  have key : ∀ (l L : List Nat), l.Nodup → (∀ x ∈ l, x ∈ L) → l.length ≤ L.length := by
    intro l
    induction l with
    | nil => intro L _ _; simp
    | cons x l ih =>
      intro L hn h
      have hx := h x (by simp)
      have hn' := List.nodup_cons.1 hn
      have := ih (L.erase x) hn'.2 fun y hy => (List.mem_erase_of_ne (fun e => hn'.1 (by rw [← e]; exact hy))).2 (h y (by simp [hy]))
      have hl := List.length_erase_of_mem hx
      have hp := List.length_pos_of_mem hx
      rw [List.length_cons]
      omega
  intro n l hn h
  have := key l (List.range n) hn fun x hx => List.mem_range.2 (h x hx)
  simpa using this
theorem keyAt_len (t : List (List Int)) (hs : List Int) (i : Nat) : (keyAt t hs i).length = 3 := blurP_len _ _ _
theorem cntC_lens (t : List (List Int)) (hs : List Int) : ∀ i, ∀ y ∈ cntC t hs i, y.1.length = 3
  | 0, y, hy => by cases hy
  | i + 1, y, hy => bump_lens (keyAt_len t hs i) (cntC_lens t hs i) y hy
/-- What is known of the entries that were met. -/
structure MetC (m : Nat) (ys : List CE) (s : List Nat × Int) : Prop where
  one : s.1.Nodup
  lt : ∀ j ∈ s.1, j < ys.length
  le : s.2 ≤ m
  all : ∀ j ∈ s.1, s.2 ≤ (ys.getD j ([], 0)).2
  is_ : s.2 = m ∨ ∃ j ∈ s.1, s.2 = (ys.getD j ([], 0)).2
theorem MetC.start (m : Nat) (ys : List CE) : MetC m ys ([], (m : Int)) := ⟨List.nodup_nil, fun j hj => (by cases hj), Int.le_refl _, fun j hj => (by cases hj), .inl rfl⟩
theorem MetC.more {m : Nat} {ys : List CE} {s : List Nat × Int} (c : MetC m ys s) {j : Nat} {y : CE} (hy : ys[j]? = some y) (hj : j ∉ s.1) : MetC m ys (s.1 ++ [j], min s.2 y.2) := by
  have hjl := (List.getElem?_eq_some_iff.1 hy).1
  have hg : ys.getD j ([], 0) = y := by rw [List.getD_eq_getElem?_getD, hy]; rfl
  refine ⟨?_, fun k hk => ?_, by have := c.le; show min s.2 y.2 ≤ _; omega, fun k hk => ?_, ?_⟩
  · rw [List.nodup_append]
    exact ⟨c.one, by simp, fun a ha b hb e => hj (by rw [List.mem_singleton] at hb; rw [← hb, ← e]; exact ha)⟩
  · rcases List.mem_append.1 hk with h | h
    · exact c.lt k h
    · rw [List.mem_singleton] at h; omega
  · show min s.2 y.2 ≤ _
    rcases List.mem_append.1 hk with h | h
    · have := c.all k h; omega
    · rw [List.mem_singleton] at h; rw [h, hg]; omega
  · show min s.2 y.2 = _ ∨ _
    by_cases h : s.2 ≤ y.2
    · rcases c.is_ with e | ⟨k, hk, e⟩
      · exact .inl (by omega)
      · exact .inr ⟨k, List.mem_append.2 (.inl hk), by show min s.2 y.2 = _; omega⟩
    · exact .inr ⟨j, List.mem_append.2 (.inr (List.mem_singleton.2 rfl)), by show min s.2 y.2 = _; rw [hg]; omega⟩
theorem MetC.few {m : Nat} {ys : List CE} {s : List Nat × Int} (c : MetC m ys s) {j : Nat} {y : CE} (hy : ys[j]? = some y) (hj : j ∉ s.1) : s.1.length + 1 ≤ ys.length := by
  have c2 := c.more hy hj
  have := nodup_few ys.length _ c2.one c2.lt
  simpa using this
theorem MetC.done {t : List (List Int)} {hs : List Int} {s : List Nat × Int} (c : MetC t.length (cntC t hs t.length) s) (h : ∀ j, j < (cntC t hs t.length).length → j ∈ s.1) : s.2 = (fewV t hs : Int) := by
  refine few_least c.le (fun y hy => ?_) ?_
  · obtain ⟨j, hj, e⟩ := List.getElem_of_mem hy
    have := c.all j (h j hj)
    rw [List.getD_eq_getElem?_getD, List.getElem?_eq_getElem hj, e] at this
    exact this
  · rcases c.is_ with e | ⟨j, hj, e⟩
    · exact .inl e
    · have hl := c.lt j hj
      refine .inr ⟨_, List.getElem_mem hl, ?_⟩
      rw [e, List.getD_eq_getElem?_getD, List.getElem?_eq_getElem hl]; rfl
theorem valC_small {n : Nat} {q : List Int} {ys : List CE} {b : Int} (hb : 0 ≤ b) (h : ∀ y ∈ ys, 0 ≤ y.2 ∧ y.2 ≤ b) : 0 ≤ valC n q ys ∧ valC n q ys ≤ b := by
  unfold valC
  cases hf : findC n q ys 0 with
  | none => exact ⟨Int.le_refl _, hb⟩
  | some z =>
    obtain ⟨i, v⟩ := z
    obtain ⟨j, y, _, h2, h3, _⟩ := findC_some hf
    have := h y (List.mem_of_getElem? h2)
    show 0 ≤ v ∧ v ≤ b
    omega
theorem cntC_small (t : List (List Int)) (hs : List Int) (i : Nat) : ∀ y ∈ cntC t hs i, 0 ≤ y.2 ∧ y.2 ≤ (i : Int) := fun y hy => by
  have := (cnt_ok t hs i).val y hy
  have h2 := cntTo_le (t := t) (hs := hs) (q := y.1) i
  omega

theorem fewest_fn (t : List (List Int)) (hs : List Int) (g : HeightsG t hs) : LiftsD Tryd.prog 44 [.sl (.sl .int) t, .sl .int hs] (.i (fewV t hs : Int)) := by
  have gr := g.rows
  have gf := gr.few
  have gc := gr.cols
  have gl := g.len
  have hhr := g.in_
  refine LiftsD.of_body 39 [.tmp 4] Tryd.func44 rfl Tryd.ntmps44 (by kernel_rfl) rfl rfl fun w0 X0 => ?_
  refine AWPD.seq fun K1 hK1 => ?_
  -- region 0
  refine AWPD.keep [0, 1] rfl ?_
  refine AWPD.region tabOK rfl ?_
  refine hK1 _ _ ?_
  clear hK1
  refine AWPD.seq fun K2 hK2 => ?_
  -- region 1
  refine AWPD.keep [0, 1] rfl ?_
  refine AWPD.region tabOK rfl ?_
  refine Exists.intro _ (Exists.intro _ (And.intro (StepD.makeMapC 3) (And.intro rfl (And.intro trivial ?_))))
  refine hK2 _ _ ?_
  clear hK2
  refine AWPD.seq fun K3 hK3 => ?_
  refine AWPD.seq fun K4 hK4 => ?_
  -- region 2
  refine AWPD.keep [0, 1, 5] rfl ?_
  refine AWPD.region tabOK rfl ?_
  refine hK4 _ _ ?_
  clear hK4
  refine AWPD.block ?_
  -- LOOP 0 live [0, 1, 5, 12, 13, 14] changed [14]
  refine AWPD.loopK (σ := Nat) [0, 1, 12, 13] (fun i base => (5, .ob 0) :: (14, .i (i : Int)) :: base) (fun i => [.cust (mapCR 3 (cntC t hs i))]) (fun n i => n + i = t.length) (t.length) 0 [0] rfl rfl (by omega) (by decide) ⟨rfl, trivial⟩ (by repeat' first | exact True.intro | exact rfl | exact ⟨rfl, rfl⟩ | refine And.intro ?_ ?_) fun n0 i hI0 => ?_
  have hn0 := hI0
  refine AWPD.seq fun K5 hK5 => ?_
  -- region 3
  refine AWPD.keep [0, 1, 5, 12, 13, 14] rfl ?_
  refine AWPD.region tabOK rfl ?_
  refine hK5 _ _ ?_
  clear hK5
  refine AWPD.seq fun K6 hK6 => ?_
  first | refine AWPD.condP rfl (fun h0 => ?_) (fun h0 => ?_) | refine AWPD.condN rfl (fun h0 => ?_) (fun h0 => ?_) | refine AWPD.condAP rfl (fun h0 => ?_) (fun h0 => ?_) | refine AWPD.condOP rfl (fun h0 => ?_) (fun h0 => ?_) | refine AWPD.condONN rfl (fun h0 => ?_) (fun h0 => ?_) | refine AWPD.condOPN rfl (fun h0 => ?_) (fun h0 => ?_) | refine AWPD.condA rfl (fun h0 => ?_) (fun h0 => ?_) | refine AWPD.condO rfl (fun h0 => ?_) (fun h0 => ?_) | refine AWPD.cond rfl (fun h0 => ?_) (fun h0 => ?_)
  · try dsimp only [Ty.T] at h0
    try simp only [castL_self] at h0
    try simp only [Int.toNat_natCast] at h0
    try simp only [Int.toNat_zero] at h0
    refine AWPD.skip ?_
    refine hK6 _ _ ?_
    clear hK6
    refine AWPD.seq fun K7 hK7 => ?_
    refine AWPD.block ?_
    refine AWPD.seq fun K8 hK8 => ?_
    -- region 4
    refine AWPD.keep [0, 1, 5, 12, 13, 14] rfl ?_
    refine AWPD.region tabOK rfl ?_
    repeat refine And.intro (by first | exact fun h => h | exact fun _ => rfl | (intro h; rw [h]; rfl) | omega | (intros; (try dsimp only [Ty.T, Ty.size]); (try simp only [castL_self, Int.toNat_natCast, Int.toNat_zero, Int.toNat_one, true_and, List.length_append, List.length_set, List.length_drop, List.length_take, List.length_replicate, List.length_cons, List.length_nil, Nat.zero_add, Nat.mul_one]); omega) | decide | (intros; simp_all; done) | (intros; simp_all; omega)) ?_
    refine hK8 _ _ ?_
    clear hK8
    -- region 5
    have hrl : (t.getD i []).length ≤ 3 := by have := gr.len i (by omega); omega
    have hrh : (t.getD i []).length ≤ hs.length := by have := gr.len i (by omega); omega
    have hkl := keyAt_len t hs i
    have hyl := cntC_lens t hs i
    have hvl := valC_small (n := 3) (q := keyAt t hs i) (b := (i : Int)) (by omega) (cntC_small t hs i)
    have hvt := valC_touch (n := 3) (q := keyAt t hs i) (ys := cntC t hs i)
    refine AWPD.keep [0, 1, 5, 7, 12, 13, 14] rfl ?_
    refine AWPD.drawXK tabOK [0, 1, 5, 12, 13, 14] [.cust (mapCR 3 (cntC t hs (i + 1)))] rfl rfl ?_ ?_
    · show XD _ _ _ _ _ _ _ _ _
      refine XD.step (i := 0) [1, 2] (by kernel_rfl) ?_
      refine ⟨?_, ?_, ?_, trivial⟩
      · show EV _ _ _ _ _ _ _ _ _ _
        show XD _ _ _ _ _ _ _ _ _
        refine XD.step (i := 1) [2] (by kernel_rfl) ?_
        refine ⟨?_, ?_, trivial⟩
        · show EV _ _ _ _ _ _ _ _ _ _
          show XD _ _ _ _ _ _ _ _ _
          refine XD.step (i := 2) [] (by kernel_rfl) ?_
          refine ⟨?_, trivial⟩
          · show EV _ _ _ _ _ _ _ _ _ _
            show XD _ _ _ _ _ _ _ _ _
            refine XD.step (i := 3) [] (by kernel_rfl) ?_
            refine ⟨?_, trivial⟩
            · show EV _ _ _ _ _ _ _ _ _ _
              refine Exists.intro _ (Exists.intro _ (And.intro (StepD.call (noG_toD (blur_fn _ _ hrl hrh hhr)) rfl rfl rfl) (And.intro rfl (And.intro trivial ?_))))
              show XD _ _ _ _ _ _ _ _ _
              refine XD.step (i := 4) [6] (by kernel_rfl) ?_
              refine ⟨?_, ?_, trivial⟩
              · show EV _ _ _ _ _ _ _ _ _ _
                refine Exists.intro _ (Exists.intro _ (And.intro (StepD.lookupC (n := 3) (q := keyAt t hs i) (mapC_ok (q := (75, 66)) (by kernel_rfl)) (keyN_ok (by kernel_rfl)) rfl rfl rfl) (And.intro rfl (And.intro trivial ?_))))
                show XD _ _ _ _ _ _ _ _ _
                refine XD.step (i := 5) [6] (by kernel_rfl) ?_
                refine ⟨?_, ?_, trivial⟩
                · show EV _ _ _ _ _ _ _ _ _ _
                  refine And.intro (by have := hvl; omega) ?_
                  show XD _ _ _ _ _ _ _ _ _
                  refine XD.step (i := 6) [] (by kernel_rfl) ?_
                  refine ⟨?_, trivial⟩
                  · show EV _ _ _ _ _ _ _ _ _ _
                    refine Exists.intro _ (Exists.intro _ (And.intro (StepD.mapEntryC (n := 3) (q := keyAt t hs i) (mapC_ok (q := (75, 66)) (by kernel_rfl)) (keyN_ok (by kernel_rfl)) rfl rfl rfl) (And.intro rfl (And.intro trivial ?_))))
                    show XD _ _ _ _ _ _ _ _ _
                    refine XD.step (i := 7) [] (by kernel_rfl) ?_
                    refine ⟨?_, trivial⟩
                    · show EV _ _ _ _ _ _ _ _ _ _
                      show XD _ _ _ _ _ _ _ _ _
                      refine XD.step (i := 8) [] (by kernel_rfl) ?_
                      refine ⟨?_, trivial⟩
                      · show EV _ _ _ _ _ _ _ _ _ _
                        refine Exists.intro _ (Exists.intro _ (And.intro (StepD.entryStoreC (placeC_lt _ _ _) rfl rfl rfl rfl rfl) (And.intro rfl (And.intro trivial ?_))))
                        show XD _ _ _ _ _ _ _ _ _
                        refine XD.end_ (by kernel_rfl) ⟨rfl, rfl, ?_⟩
                        first | exact congrArg (fun z => [OD.cust (mapCR 3 z)]) (bump_is hkl hyl rfl) | exact congrArg (fun z => [OD.cust (mapCR 3 z)]) (bump_is hkl hyl (congrArg (· + 1) valC_touch))
                · show EV _ _ _ _ _ _ _ _ _ _
                  refine Exists.intro _ (Exists.intro _ (And.intro (StepD.mapEntryC (n := 3) (q := keyAt t hs i) (mapC_ok (q := (75, 66)) (by kernel_rfl)) (keyN_ok (by kernel_rfl)) rfl rfl rfl) (And.intro rfl (And.intro trivial ?_))))
                  show XD _ _ _ _ _ _ _ _ _
                  refine XD.step (i := 5) [7] (by kernel_rfl) ?_
                  refine ⟨?_, ?_, trivial⟩
                  · show EV _ _ _ _ _ _ _ _ _ _
                    refine And.intro (by have := hvl; omega) ?_
                    show XD _ _ _ _ _ _ _ _ _
                    refine XD.step (i := 7) [] (by kernel_rfl) ?_
                    refine ⟨?_, trivial⟩
                    · show EV _ _ _ _ _ _ _ _ _ _
                      show XD _ _ _ _ _ _ _ _ _
                      refine XD.step (i := 8) [] (by kernel_rfl) ?_
                      refine ⟨?_, trivial⟩
                      · show EV _ _ _ _ _ _ _ _ _ _
                        refine Exists.intro _ (Exists.intro _ (And.intro (StepD.entryStoreC (placeC_lt _ _ _) rfl rfl rfl rfl rfl) (And.intro rfl (And.intro trivial ?_))))
                        show XD _ _ _ _ _ _ _ _ _
                        refine XD.end_ (by kernel_rfl) ⟨rfl, rfl, ?_⟩
                        first | exact congrArg (fun z => [OD.cust (mapCR 3 z)]) (bump_is hkl hyl rfl) | exact congrArg (fun z => [OD.cust (mapCR 3 z)]) (bump_is hkl hyl (congrArg (· + 1) valC_touch))
                  · show EV _ _ _ _ _ _ _ _ _ _
                    show XD _ _ _ _ _ _ _ _ _
                    refine XD.step (i := 5) [] (by kernel_rfl) ?_
                    refine ⟨?_, trivial⟩
                    · show EV _ _ _ _ _ _ _ _ _ _
                      refine And.intro (by have := hvl; omega) ?_
                      show XD _ _ _ _ _ _ _ _ _
                      refine XD.step (i := 8) [] (by kernel_rfl) ?_
                      refine ⟨?_, trivial⟩
                      · show EV _ _ _ _ _ _ _ _ _ _
                        refine Exists.intro _ (Exists.intro _ (And.intro (StepD.entryStoreC (placeC_lt _ _ _) rfl rfl rfl rfl rfl) (And.intro rfl (And.intro trivial ?_))))
                        show XD _ _ _ _ _ _ _ _ _
                        refine XD.end_ (by kernel_rfl) ⟨rfl, rfl, ?_⟩
                        first | exact congrArg (fun z => [OD.cust (mapCR 3 z)]) (bump_is hkl hyl rfl) | exact congrArg (fun z => [OD.cust (mapCR 3 z)]) (bump_is hkl hyl (congrArg (· + 1) valC_touch))
              · show EV _ _ _ _ _ _ _ _ _ _
                refine Exists.intro _ (Exists.intro _ (And.intro (StepD.mapEntryC (n := 3) (q := keyAt t hs i) (mapC_ok (q := (75, 66)) (by kernel_rfl)) (keyN_ok (by kernel_rfl)) rfl rfl rfl) (And.intro rfl (And.intro trivial ?_))))
                show XD _ _ _ _ _ _ _ _ _
                refine XD.step (i := 4) [7] (by kernel_rfl) ?_
                refine ⟨?_, ?_, trivial⟩
                · show EV _ _ _ _ _ _ _ _ _ _
                  refine Exists.intro _ (Exists.intro _ (And.intro (StepD.lookupC (n := 3) (q := keyAt t hs i) (mapC_ok (q := (75, 66)) (by kernel_rfl)) (keyN_ok (by kernel_rfl)) rfl rfl rfl) (And.intro rfl (And.intro trivial ?_))))
                  show XD _ _ _ _ _ _ _ _ _
                  refine XD.step (i := 5) [7] (by kernel_rfl) ?_
                  refine ⟨?_, ?_, trivial⟩
                  · show EV _ _ _ _ _ _ _ _ _ _
                    refine And.intro (by have := hvl; omega) ?_
                    show XD _ _ _ _ _ _ _ _ _
                    refine XD.step (i := 7) [] (by kernel_rfl) ?_
                    refine ⟨?_, trivial⟩
                    · show EV _ _ _ _ _ _ _ _ _ _
                      show XD _ _ _ _ _ _ _ _ _
                      refine XD.step (i := 8) [] (by kernel_rfl) ?_
                      refine ⟨?_, trivial⟩
                      · show EV _ _ _ _ _ _ _ _ _ _
                        refine Exists.intro _ (Exists.intro _ (And.intro (StepD.entryStoreC (placeC_lt _ _ _) rfl rfl rfl rfl rfl) (And.intro rfl (And.intro trivial ?_))))
                        show XD _ _ _ _ _ _ _ _ _
                        refine XD.end_ (by kernel_rfl) ⟨rfl, rfl, ?_⟩
                        first | exact congrArg (fun z => [OD.cust (mapCR 3 z)]) (bump_is hkl hyl rfl) | exact congrArg (fun z => [OD.cust (mapCR 3 z)]) (bump_is hkl hyl (congrArg (· + 1) valC_touch))
                  · show EV _ _ _ _ _ _ _ _ _ _
                    show XD _ _ _ _ _ _ _ _ _
                    refine XD.step (i := 5) [] (by kernel_rfl) ?_
                    refine ⟨?_, trivial⟩
                    · show EV _ _ _ _ _ _ _ _ _ _
                      refine And.intro (by have := hvl; omega) ?_
                      show XD _ _ _ _ _ _ _ _ _
                      refine XD.step (i := 8) [] (by kernel_rfl) ?_
                      refine ⟨?_, trivial⟩
                      · show EV _ _ _ _ _ _ _ _ _ _
                        refine Exists.intro _ (Exists.intro _ (And.intro (StepD.entryStoreC (placeC_lt _ _ _) rfl rfl rfl rfl rfl) (And.intro rfl (And.intro trivial ?_))))
                        show XD _ _ _ _ _ _ _ _ _
                        refine XD.end_ (by kernel_rfl) ⟨rfl, rfl, ?_⟩
                        first | exact congrArg (fun z => [OD.cust (mapCR 3 z)]) (bump_is hkl hyl rfl) | exact congrArg (fun z => [OD.cust (mapCR 3 z)]) (bump_is hkl hyl (congrArg (· + 1) valC_touch))
                · show EV _ _ _ _ _ _ _ _ _ _
                  show XD _ _ _ _ _ _ _ _ _
                  refine XD.step (i := 4) [] (by kernel_rfl) ?_
                  refine ⟨?_, trivial⟩
                  · show EV _ _ _ _ _ _ _ _ _ _
                    refine Exists.intro _ (Exists.intro _ (And.intro (StepD.lookupC (n := 3) (q := keyAt t hs i) (mapC_ok (q := (75, 66)) (by kernel_rfl)) (keyN_ok (by kernel_rfl)) rfl rfl rfl) (And.intro rfl (And.intro trivial ?_))))
                    show XD _ _ _ _ _ _ _ _ _
                    refine XD.step (i := 5) [] (by kernel_rfl) ?_
                    refine ⟨?_, trivial⟩
                    · show EV _ _ _ _ _ _ _ _ _ _
                      refine And.intro (by have := hvl; omega) ?_
                      show XD _ _ _ _ _ _ _ _ _
                      refine XD.step (i := 8) [] (by kernel_rfl) ?_
                      refine ⟨?_, trivial⟩
                      · show EV _ _ _ _ _ _ _ _ _ _
                        refine Exists.intro _ (Exists.intro _ (And.intro (StepD.entryStoreC (placeC_lt _ _ _) rfl rfl rfl rfl rfl) (And.intro rfl (And.intro trivial ?_))))
                        show XD _ _ _ _ _ _ _ _ _
                        refine XD.end_ (by kernel_rfl) ⟨rfl, rfl, ?_⟩
                        first | exact congrArg (fun z => [OD.cust (mapCR 3 z)]) (bump_is hkl hyl rfl) | exact congrArg (fun z => [OD.cust (mapCR 3 z)]) (bump_is hkl hyl (congrArg (· + 1) valC_touch))
        · show EV _ _ _ _ _ _ _ _ _ _
          show XD _ _ _ _ _ _ _ _ _
          refine XD.step (i := 1) [] (by kernel_rfl) ?_
          refine ⟨?_, trivial⟩
          · show EV _ _ _ _ _ _ _ _ _ _
            show XD _ _ _ _ _ _ _ _ _
            refine XD.step (i := 3) [] (by kernel_rfl) ?_
            refine ⟨?_, trivial⟩
            · show EV _ _ _ _ _ _ _ _ _ _
              refine Exists.intro _ (Exists.intro _ (And.intro (StepD.call (noG_toD (blur_fn _ _ hrl hrh hhr)) rfl rfl rfl) (And.intro rfl (And.intro trivial ?_))))
              show XD _ _ _ _ _ _ _ _ _
              refine XD.step (i := 4) [6] (by kernel_rfl) ?_
              refine ⟨?_, ?_, trivial⟩
              · show EV _ _ _ _ _ _ _ _ _ _
                refine Exists.intro _ (Exists.intro _ (And.intro (StepD.lookupC (n := 3) (q := keyAt t hs i) (mapC_ok (q := (75, 66)) (by kernel_rfl)) (keyN_ok (by kernel_rfl)) rfl rfl rfl) (And.intro rfl (And.intro trivial ?_))))
                show XD _ _ _ _ _ _ _ _ _
                refine XD.step (i := 5) [6] (by kernel_rfl) ?_
                refine ⟨?_, ?_, trivial⟩
                · show EV _ _ _ _ _ _ _ _ _ _
                  refine And.intro (by have := hvl; omega) ?_
                  show XD _ _ _ _ _ _ _ _ _
                  refine XD.step (i := 6) [] (by kernel_rfl) ?_
                  refine ⟨?_, trivial⟩
                  · show EV _ _ _ _ _ _ _ _ _ _
                    refine Exists.intro _ (Exists.intro _ (And.intro (StepD.mapEntryC (n := 3) (q := keyAt t hs i) (mapC_ok (q := (75, 66)) (by kernel_rfl)) (keyN_ok (by kernel_rfl)) rfl rfl rfl) (And.intro rfl (And.intro trivial ?_))))
                    show XD _ _ _ _ _ _ _ _ _
                    refine XD.step (i := 7) [] (by kernel_rfl) ?_
                    refine ⟨?_, trivial⟩
                    · show EV _ _ _ _ _ _ _ _ _ _
                      show XD _ _ _ _ _ _ _ _ _
                      refine XD.step (i := 8) [] (by kernel_rfl) ?_
                      refine ⟨?_, trivial⟩
                      · show EV _ _ _ _ _ _ _ _ _ _
                        refine Exists.intro _ (Exists.intro _ (And.intro (StepD.entryStoreC (placeC_lt _ _ _) rfl rfl rfl rfl rfl) (And.intro rfl (And.intro trivial ?_))))
                        show XD _ _ _ _ _ _ _ _ _
                        refine XD.end_ (by kernel_rfl) ⟨rfl, rfl, ?_⟩
                        first | exact congrArg (fun z => [OD.cust (mapCR 3 z)]) (bump_is hkl hyl rfl) | exact congrArg (fun z => [OD.cust (mapCR 3 z)]) (bump_is hkl hyl (congrArg (· + 1) valC_touch))
                · show EV _ _ _ _ _ _ _ _ _ _
                  refine Exists.intro _ (Exists.intro _ (And.intro (StepD.mapEntryC (n := 3) (q := keyAt t hs i) (mapC_ok (q := (75, 66)) (by kernel_rfl)) (keyN_ok (by kernel_rfl)) rfl rfl rfl) (And.intro rfl (And.intro trivial ?_))))
                  show XD _ _ _ _ _ _ _ _ _
                  refine XD.step (i := 5) [7] (by kernel_rfl) ?_
                  refine ⟨?_, ?_, trivial⟩
                  · show EV _ _ _ _ _ _ _ _ _ _
                    refine And.intro (by have := hvl; omega) ?_
                    show XD _ _ _ _ _ _ _ _ _
                    refine XD.step (i := 7) [] (by kernel_rfl) ?_
                    refine ⟨?_, trivial⟩
                    · show EV _ _ _ _ _ _ _ _ _ _
                      show XD _ _ _ _ _ _ _ _ _
                      refine XD.step (i := 8) [] (by kernel_rfl) ?_
                      refine ⟨?_, trivial⟩
                      · show EV _ _ _ _ _ _ _ _ _ _
                        refine Exists.intro _ (Exists.intro _ (And.intro (StepD.entryStoreC (placeC_lt _ _ _) rfl rfl rfl rfl rfl) (And.intro rfl (And.intro trivial ?_))))
                        show XD _ _ _ _ _ _ _ _ _
                        refine XD.end_ (by kernel_rfl) ⟨rfl, rfl, ?_⟩
                        first | exact congrArg (fun z => [OD.cust (mapCR 3 z)]) (bump_is hkl hyl rfl) | exact congrArg (fun z => [OD.cust (mapCR 3 z)]) (bump_is hkl hyl (congrArg (· + 1) valC_touch))
                  · show EV _ _ _ _ _ _ _ _ _ _
                    show XD _ _ _ _ _ _ _ _ _
                    refine XD.step (i := 5) [] (by kernel_rfl) ?_
                    refine ⟨?_, trivial⟩
                    · show EV _ _ _ _ _ _ _ _ _ _
                      refine And.intro (by have := hvl; omega) ?_
                      show XD _ _ _ _ _ _ _ _ _
                      refine XD.step (i := 8) [] (by kernel_rfl) ?_
                      refine ⟨?_, trivial⟩
                      · show EV _ _ _ _ _ _ _ _ _ _
                        refine Exists.intro _ (Exists.intro _ (And.intro (StepD.entryStoreC (placeC_lt _ _ _) rfl rfl rfl rfl rfl) (And.intro rfl (And.intro trivial ?_))))
                        show XD _ _ _ _ _ _ _ _ _
                        refine XD.end_ (by kernel_rfl) ⟨rfl, rfl, ?_⟩
                        first | exact congrArg (fun z => [OD.cust (mapCR 3 z)]) (bump_is hkl hyl rfl) | exact congrArg (fun z => [OD.cust (mapCR 3 z)]) (bump_is hkl hyl (congrArg (· + 1) valC_touch))
              · show EV _ _ _ _ _ _ _ _ _ _
                refine Exists.intro _ (Exists.intro _ (And.intro (StepD.mapEntryC (n := 3) (q := keyAt t hs i) (mapC_ok (q := (75, 66)) (by kernel_rfl)) (keyN_ok (by kernel_rfl)) rfl rfl rfl) (And.intro rfl (And.intro trivial ?_))))
                show XD _ _ _ _ _ _ _ _ _
                refine XD.step (i := 4) [7] (by kernel_rfl) ?_
                refine ⟨?_, ?_, trivial⟩
                · show EV _ _ _ _ _ _ _ _ _ _
                  refine Exists.intro _ (Exists.intro _ (And.intro (StepD.lookupC (n := 3) (q := keyAt t hs i) (mapC_ok (q := (75, 66)) (by kernel_rfl)) (keyN_ok (by kernel_rfl)) rfl rfl rfl) (And.intro rfl (And.intro trivial ?_))))
                  show XD _ _ _ _ _ _ _ _ _
                  refine XD.step (i := 5) [7] (by kernel_rfl) ?_
                  refine ⟨?_, ?_, trivial⟩
                  · show EV _ _ _ _ _ _ _ _ _ _
                    refine And.intro (by have := hvl; omega) ?_
                    show XD _ _ _ _ _ _ _ _ _
                    refine XD.step (i := 7) [] (by kernel_rfl) ?_
                    refine ⟨?_, trivial⟩
                    · show EV _ _ _ _ _ _ _ _ _ _
                      show XD _ _ _ _ _ _ _ _ _
                      refine XD.step (i := 8) [] (by kernel_rfl) ?_
                      refine ⟨?_, trivial⟩
                      · show EV _ _ _ _ _ _ _ _ _ _
                        refine Exists.intro _ (Exists.intro _ (And.intro (StepD.entryStoreC (placeC_lt _ _ _) rfl rfl rfl rfl rfl) (And.intro rfl (And.intro trivial ?_))))
                        show XD _ _ _ _ _ _ _ _ _
                        refine XD.end_ (by kernel_rfl) ⟨rfl, rfl, ?_⟩
                        first | exact congrArg (fun z => [OD.cust (mapCR 3 z)]) (bump_is hkl hyl rfl) | exact congrArg (fun z => [OD.cust (mapCR 3 z)]) (bump_is hkl hyl (congrArg (· + 1) valC_touch))
                  · show EV _ _ _ _ _ _ _ _ _ _
                    show XD _ _ _ _ _ _ _ _ _
                    refine XD.step (i := 5) [] (by kernel_rfl) ?_
                    refine ⟨?_, trivial⟩
                    · show EV _ _ _ _ _ _ _ _ _ _
                      refine And.intro (by have := hvl; omega) ?_
                      show XD _ _ _ _ _ _ _ _ _
                      refine XD.step (i := 8) [] (by kernel_rfl) ?_
                      refine ⟨?_, trivial⟩
                      · show EV _ _ _ _ _ _ _ _ _ _
                        refine Exists.intro _ (Exists.intro _ (And.intro (StepD.entryStoreC (placeC_lt _ _ _) rfl rfl rfl rfl rfl) (And.intro rfl (And.intro trivial ?_))))
                        show XD _ _ _ _ _ _ _ _ _
                        refine XD.end_ (by kernel_rfl) ⟨rfl, rfl, ?_⟩
                        first | exact congrArg (fun z => [OD.cust (mapCR 3 z)]) (bump_is hkl hyl rfl) | exact congrArg (fun z => [OD.cust (mapCR 3 z)]) (bump_is hkl hyl (congrArg (· + 1) valC_touch))
                · show EV _ _ _ _ _ _ _ _ _ _
                  show XD _ _ _ _ _ _ _ _ _
                  refine XD.step (i := 4) [] (by kernel_rfl) ?_
                  refine ⟨?_, trivial⟩
                  · show EV _ _ _ _ _ _ _ _ _ _
                    refine Exists.intro _ (Exists.intro _ (And.intro (StepD.lookupC (n := 3) (q := keyAt t hs i) (mapC_ok (q := (75, 66)) (by kernel_rfl)) (keyN_ok (by kernel_rfl)) rfl rfl rfl) (And.intro rfl (And.intro trivial ?_))))
                    show XD _ _ _ _ _ _ _ _ _
                    refine XD.step (i := 5) [] (by kernel_rfl) ?_
                    refine ⟨?_, trivial⟩
                    · show EV _ _ _ _ _ _ _ _ _ _
                      refine And.intro (by have := hvl; omega) ?_
                      show XD _ _ _ _ _ _ _ _ _
                      refine XD.step (i := 8) [] (by kernel_rfl) ?_
                      refine ⟨?_, trivial⟩
                      · show EV _ _ _ _ _ _ _ _ _ _
                        refine Exists.intro _ (Exists.intro _ (And.intro (StepD.entryStoreC (placeC_lt _ _ _) rfl rfl rfl rfl rfl) (And.intro rfl (And.intro trivial ?_))))
                        show XD _ _ _ _ _ _ _ _ _
                        refine XD.end_ (by kernel_rfl) ⟨rfl, rfl, ?_⟩
                        first | exact congrArg (fun z => [OD.cust (mapCR 3 z)]) (bump_is hkl hyl rfl) | exact congrArg (fun z => [OD.cust (mapCR 3 z)]) (bump_is hkl hyl (congrArg (· + 1) valC_touch))
      · show EV _ _ _ _ _ _ _ _ _ _
        show XD _ _ _ _ _ _ _ _ _
        refine XD.step (i := 0) [2] (by kernel_rfl) ?_
        refine ⟨?_, ?_, trivial⟩
        · show EV _ _ _ _ _ _ _ _ _ _
          show XD _ _ _ _ _ _ _ _ _
          refine XD.step (i := 2) [] (by kernel_rfl) ?_
          refine ⟨?_, trivial⟩
          · show EV _ _ _ _ _ _ _ _ _ _
            show XD _ _ _ _ _ _ _ _ _
            refine XD.step (i := 3) [] (by kernel_rfl) ?_
            refine ⟨?_, trivial⟩
            · show EV _ _ _ _ _ _ _ _ _ _
              refine Exists.intro _ (Exists.intro _ (And.intro (StepD.call (noG_toD (blur_fn _ _ hrl hrh hhr)) rfl rfl rfl) (And.intro rfl (And.intro trivial ?_))))
              show XD _ _ _ _ _ _ _ _ _
              refine XD.step (i := 4) [6] (by kernel_rfl) ?_
              refine ⟨?_, ?_, trivial⟩
              · show EV _ _ _ _ _ _ _ _ _ _
                refine Exists.intro _ (Exists.intro _ (And.intro (StepD.lookupC (n := 3) (q := keyAt t hs i) (mapC_ok (q := (75, 66)) (by kernel_rfl)) (keyN_ok (by kernel_rfl)) rfl rfl rfl) (And.intro rfl (And.intro trivial ?_))))
                show XD _ _ _ _ _ _ _ _ _
                refine XD.step (i := 5) [6] (by kernel_rfl) ?_
                refine ⟨?_, ?_, trivial⟩
                · show EV _ _ _ _ _ _ _ _ _ _
                  refine And.intro (by have := hvl; omega) ?_
                  show XD _ _ _ _ _ _ _ _ _
                  refine XD.step (i := 6) [] (by kernel_rfl) ?_
                  refine ⟨?_, trivial⟩
                  · show EV _ _ _ _ _ _ _ _ _ _
                    refine Exists.intro _ (Exists.intro _ (And.intro (StepD.mapEntryC (n := 3) (q := keyAt t hs i) (mapC_ok (q := (75, 66)) (by kernel_rfl)) (keyN_ok (by kernel_rfl)) rfl rfl rfl) (And.intro rfl (And.intro trivial ?_))))
                    show XD _ _ _ _ _ _ _ _ _
                    refine XD.step (i := 7) [] (by kernel_rfl) ?_
                    refine ⟨?_, trivial⟩
                    · show EV _ _ _ _ _ _ _ _ _ _
                      show XD _ _ _ _ _ _ _ _ _
                      refine XD.step (i := 8) [] (by kernel_rfl) ?_
                      refine ⟨?_, trivial⟩
                      · show EV _ _ _ _ _ _ _ _ _ _
                        refine Exists.intro _ (Exists.intro _ (And.intro (StepD.entryStoreC (placeC_lt _ _ _) rfl rfl rfl rfl rfl) (And.intro rfl (And.intro trivial ?_))))
                        show XD _ _ _ _ _ _ _ _ _
                        refine XD.end_ (by kernel_rfl) ⟨rfl, rfl, ?_⟩
                        first | exact congrArg (fun z => [OD.cust (mapCR 3 z)]) (bump_is hkl hyl rfl) | exact congrArg (fun z => [OD.cust (mapCR 3 z)]) (bump_is hkl hyl (congrArg (· + 1) valC_touch))
                · show EV _ _ _ _ _ _ _ _ _ _
                  refine Exists.intro _ (Exists.intro _ (And.intro (StepD.mapEntryC (n := 3) (q := keyAt t hs i) (mapC_ok (q := (75, 66)) (by kernel_rfl)) (keyN_ok (by kernel_rfl)) rfl rfl rfl) (And.intro rfl (And.intro trivial ?_))))
                  show XD _ _ _ _ _ _ _ _ _
                  refine XD.step (i := 5) [7] (by kernel_rfl) ?_
                  refine ⟨?_, ?_, trivial⟩
                  · show EV _ _ _ _ _ _ _ _ _ _
                    refine And.intro (by have := hvl; omega) ?_
                    show XD _ _ _ _ _ _ _ _ _
                    refine XD.step (i := 7) [] (by kernel_rfl) ?_
                    refine ⟨?_, trivial⟩
                    · show EV _ _ _ _ _ _ _ _ _ _
                      show XD _ _ _ _ _ _ _ _ _
                      refine XD.step (i := 8) [] (by kernel_rfl) ?_
                      refine ⟨?_, trivial⟩
                      · show EV _ _ _ _ _ _ _ _ _ _
                        refine Exists.intro _ (Exists.intro _ (And.intro (StepD.entryStoreC (placeC_lt _ _ _) rfl rfl rfl rfl rfl) (And.intro rfl (And.intro trivial ?_))))
                        show XD _ _ _ _ _ _ _ _ _
                        refine XD.end_ (by kernel_rfl) ⟨rfl, rfl, ?_⟩
                        first | exact congrArg (fun z => [OD.cust (mapCR 3 z)]) (bump_is hkl hyl rfl) | exact congrArg (fun z => [OD.cust (mapCR 3 z)]) (bump_is hkl hyl (congrArg (· + 1) valC_touch))
                  · show EV _ _ _ _ _ _ _ _ _ _
                    show XD _ _ _ _ _ _ _ _ _
                    refine XD.step (i := 5) [] (by kernel_rfl) ?_
                    refine ⟨?_, trivial⟩
                    · show EV _ _ _ _ _ _ _ _ _ _
                      refine And.intro (by have := hvl; omega) ?_
                      show XD _ _ _ _ _ _ _ _ _
                      refine XD.step (i := 8) [] (by kernel_rfl) ?_
                      refine ⟨?_, trivial⟩
                      · show EV _ _ _ _ _ _ _ _ _ _
                        refine Exists.intro _ (Exists.intro _ (And.intro (StepD.entryStoreC (placeC_lt _ _ _) rfl rfl rfl rfl rfl) (And.intro rfl (And.intro trivial ?_))))
                        show XD _ _ _ _ _ _ _ _ _
                        refine XD.end_ (by kernel_rfl) ⟨rfl, rfl, ?_⟩
                        first | exact congrArg (fun z => [OD.cust (mapCR 3 z)]) (bump_is hkl hyl rfl) | exact congrArg (fun z => [OD.cust (mapCR 3 z)]) (bump_is hkl hyl (congrArg (· + 1) valC_touch))
              · show EV _ _ _ _ _ _ _ _ _ _
                refine Exists.intro _ (Exists.intro _ (And.intro (StepD.mapEntryC (n := 3) (q := keyAt t hs i) (mapC_ok (q := (75, 66)) (by kernel_rfl)) (keyN_ok (by kernel_rfl)) rfl rfl rfl) (And.intro rfl (And.intro trivial ?_))))
                show XD _ _ _ _ _ _ _ _ _
                refine XD.step (i := 4) [7] (by kernel_rfl) ?_
                refine ⟨?_, ?_, trivial⟩
                · show EV _ _ _ _ _ _ _ _ _ _
                  refine Exists.intro _ (Exists.intro _ (And.intro (StepD.lookupC (n := 3) (q := keyAt t hs i) (mapC_ok (q := (75, 66)) (by kernel_rfl)) (keyN_ok (by kernel_rfl)) rfl rfl rfl) (And.intro rfl (And.intro trivial ?_))))
                  show XD _ _ _ _ _ _ _ _ _
                  refine XD.step (i := 5) [7] (by kernel_rfl) ?_
                  refine ⟨?_, ?_, trivial⟩
                  · show EV _ _ _ _ _ _ _ _ _ _
                    refine And.intro (by have := hvl; omega) ?_
                    show XD _ _ _ _ _ _ _ _ _
                    refine XD.step (i := 7) [] (by kernel_rfl) ?_
                    refine ⟨?_, trivial⟩
                    · show EV _ _ _ _ _ _ _ _ _ _
                      show XD _ _ _ _ _ _ _ _ _
                      refine XD.step (i := 8) [] (by kernel_rfl) ?_
                      refine ⟨?_, trivial⟩
                      · show EV _ _ _ _ _ _ _ _ _ _
                        refine Exists.intro _ (Exists.intro _ (And.intro (StepD.entryStoreC (placeC_lt _ _ _) rfl rfl rfl rfl rfl) (And.intro rfl (And.intro trivial ?_))))
                        show XD _ _ _ _ _ _ _ _ _
                        refine XD.end_ (by kernel_rfl) ⟨rfl, rfl, ?_⟩
                        first | exact congrArg (fun z => [OD.cust (mapCR 3 z)]) (bump_is hkl hyl rfl) | exact congrArg (fun z => [OD.cust (mapCR 3 z)]) (bump_is hkl hyl (congrArg (· + 1) valC_touch))
                  · show EV _ _ _ _ _ _ _ _ _ _
                    show XD _ _ _ _ _ _ _ _ _
                    refine XD.step (i := 5) [] (by kernel_rfl) ?_
                    refine ⟨?_, trivial⟩
                    · show EV _ _ _ _ _ _ _ _ _ _
                      refine And.intro (by have := hvl; omega) ?_
                      show XD _ _ _ _ _ _ _ _ _
                      refine XD.step (i := 8) [] (by kernel_rfl) ?_
                      refine ⟨?_, trivial⟩
                      · show EV _ _ _ _ _ _ _ _ _ _
                        refine Exists.intro _ (Exists.intro _ (And.intro (StepD.entryStoreC (placeC_lt _ _ _) rfl rfl rfl rfl rfl) (And.intro rfl (And.intro trivial ?_))))
                        show XD _ _ _ _ _ _ _ _ _
                        refine XD.end_ (by kernel_rfl) ⟨rfl, rfl, ?_⟩
                        first | exact congrArg (fun z => [OD.cust (mapCR 3 z)]) (bump_is hkl hyl rfl) | exact congrArg (fun z => [OD.cust (mapCR 3 z)]) (bump_is hkl hyl (congrArg (· + 1) valC_touch))
                · show EV _ _ _ _ _ _ _ _ _ _
                  show XD _ _ _ _ _ _ _ _ _
                  refine XD.step (i := 4) [] (by kernel_rfl) ?_
                  refine ⟨?_, trivial⟩
                  · show EV _ _ _ _ _ _ _ _ _ _
                    refine Exists.intro _ (Exists.intro _ (And.intro (StepD.lookupC (n := 3) (q := keyAt t hs i) (mapC_ok (q := (75, 66)) (by kernel_rfl)) (keyN_ok (by kernel_rfl)) rfl rfl rfl) (And.intro rfl (And.intro trivial ?_))))
                    show XD _ _ _ _ _ _ _ _ _
                    refine XD.step (i := 5) [] (by kernel_rfl) ?_
                    refine ⟨?_, trivial⟩
                    · show EV _ _ _ _ _ _ _ _ _ _
                      refine And.intro (by have := hvl; omega) ?_
                      show XD _ _ _ _ _ _ _ _ _
                      refine XD.step (i := 8) [] (by kernel_rfl) ?_
                      refine ⟨?_, trivial⟩
                      · show EV _ _ _ _ _ _ _ _ _ _
                        refine Exists.intro _ (Exists.intro _ (And.intro (StepD.entryStoreC (placeC_lt _ _ _) rfl rfl rfl rfl rfl) (And.intro rfl (And.intro trivial ?_))))
                        show XD _ _ _ _ _ _ _ _ _
                        refine XD.end_ (by kernel_rfl) ⟨rfl, rfl, ?_⟩
                        first | exact congrArg (fun z => [OD.cust (mapCR 3 z)]) (bump_is hkl hyl rfl) | exact congrArg (fun z => [OD.cust (mapCR 3 z)]) (bump_is hkl hyl (congrArg (· + 1) valC_touch))
        · show EV _ _ _ _ _ _ _ _ _ _
          show XD _ _ _ _ _ _ _ _ _
          refine XD.step (i := 0) [3] (by kernel_rfl) ?_
          refine ⟨?_, ?_, trivial⟩
          · show EV _ _ _ _ _ _ _ _ _ _
            show XD _ _ _ _ _ _ _ _ _
            refine XD.step (i := 3) [] (by kernel_rfl) ?_
            refine ⟨?_, trivial⟩
            · show EV _ _ _ _ _ _ _ _ _ _
              refine Exists.intro _ (Exists.intro _ (And.intro (StepD.call (noG_toD (blur_fn _ _ hrl hrh hhr)) rfl rfl rfl) (And.intro rfl (And.intro trivial ?_))))
              show XD _ _ _ _ _ _ _ _ _
              refine XD.step (i := 4) [6] (by kernel_rfl) ?_
              refine ⟨?_, ?_, trivial⟩
              · show EV _ _ _ _ _ _ _ _ _ _
                refine Exists.intro _ (Exists.intro _ (And.intro (StepD.lookupC (n := 3) (q := keyAt t hs i) (mapC_ok (q := (75, 66)) (by kernel_rfl)) (keyN_ok (by kernel_rfl)) rfl rfl rfl) (And.intro rfl (And.intro trivial ?_))))
                show XD _ _ _ _ _ _ _ _ _
                refine XD.step (i := 5) [6] (by kernel_rfl) ?_
                refine ⟨?_, ?_, trivial⟩
                · show EV _ _ _ _ _ _ _ _ _ _
                  refine And.intro (by have := hvl; omega) ?_
                  show XD _ _ _ _ _ _ _ _ _
                  refine XD.step (i := 6) [] (by kernel_rfl) ?_
                  refine ⟨?_, trivial⟩
                  · show EV _ _ _ _ _ _ _ _ _ _
                    refine Exists.intro _ (Exists.intro _ (And.intro (StepD.mapEntryC (n := 3) (q := keyAt t hs i) (mapC_ok (q := (75, 66)) (by kernel_rfl)) (keyN_ok (by kernel_rfl)) rfl rfl rfl) (And.intro rfl (And.intro trivial ?_))))
                    show XD _ _ _ _ _ _ _ _ _
                    refine XD.step (i := 7) [] (by kernel_rfl) ?_
                    refine ⟨?_, trivial⟩
                    · show EV _ _ _ _ _ _ _ _ _ _
                      show XD _ _ _ _ _ _ _ _ _
                      refine XD.step (i := 8) [] (by kernel_rfl) ?_
                      refine ⟨?_, trivial⟩
                      · show EV _ _ _ _ _ _ _ _ _ _
                        refine Exists.intro _ (Exists.intro _ (And.intro (StepD.entryStoreC (placeC_lt _ _ _) rfl rfl rfl rfl rfl) (And.intro rfl (And.intro trivial ?_))))
                        show XD _ _ _ _ _ _ _ _ _
                        refine XD.end_ (by kernel_rfl) ⟨rfl, rfl, ?_⟩
                        first | exact congrArg (fun z => [OD.cust (mapCR 3 z)]) (bump_is hkl hyl rfl) | exact congrArg (fun z => [OD.cust (mapCR 3 z)]) (bump_is hkl hyl (congrArg (· + 1) valC_touch))
                · show EV _ _ _ _ _ _ _ _ _ _
                  refine Exists.intro _ (Exists.intro _ (And.intro (StepD.mapEntryC (n := 3) (q := keyAt t hs i) (mapC_ok (q := (75, 66)) (by kernel_rfl)) (keyN_ok (by kernel_rfl)) rfl rfl rfl) (And.intro rfl (And.intro trivial ?_))))
                  show XD _ _ _ _ _ _ _ _ _
                  refine XD.step (i := 5) [7] (by kernel_rfl) ?_
                  refine ⟨?_, ?_, trivial⟩
                  · show EV _ _ _ _ _ _ _ _ _ _
                    refine And.intro (by have := hvl; omega) ?_
                    show XD _ _ _ _ _ _ _ _ _
                    refine XD.step (i := 7) [] (by kernel_rfl) ?_
                    refine ⟨?_, trivial⟩
                    · show EV _ _ _ _ _ _ _ _ _ _
                      show XD _ _ _ _ _ _ _ _ _
                      refine XD.step (i := 8) [] (by kernel_rfl) ?_
                      refine ⟨?_, trivial⟩
                      · show EV _ _ _ _ _ _ _ _ _ _
                        refine Exists.intro _ (Exists.intro _ (And.intro (StepD.entryStoreC (placeC_lt _ _ _) rfl rfl rfl rfl rfl) (And.intro rfl (And.intro trivial ?_))))
                        show XD _ _ _ _ _ _ _ _ _
                        refine XD.end_ (by kernel_rfl) ⟨rfl, rfl, ?_⟩
                        first | exact congrArg (fun z => [OD.cust (mapCR 3 z)]) (bump_is hkl hyl rfl) | exact congrArg (fun z => [OD.cust (mapCR 3 z)]) (bump_is hkl hyl (congrArg (· + 1) valC_touch))
                  · show EV _ _ _ _ _ _ _ _ _ _
                    show XD _ _ _ _ _ _ _ _ _
                    refine XD.step (i := 5) [] (by kernel_rfl) ?_
                    refine ⟨?_, trivial⟩
                    · show EV _ _ _ _ _ _ _ _ _ _
                      refine And.intro (by have := hvl; omega) ?_
                      show XD _ _ _ _ _ _ _ _ _
                      refine XD.step (i := 8) [] (by kernel_rfl) ?_
                      refine ⟨?_, trivial⟩
                      · show EV _ _ _ _ _ _ _ _ _ _
                        refine Exists.intro _ (Exists.intro _ (And.intro (StepD.entryStoreC (placeC_lt _ _ _) rfl rfl rfl rfl rfl) (And.intro rfl (And.intro trivial ?_))))
                        show XD _ _ _ _ _ _ _ _ _
                        refine XD.end_ (by kernel_rfl) ⟨rfl, rfl, ?_⟩
                        first | exact congrArg (fun z => [OD.cust (mapCR 3 z)]) (bump_is hkl hyl rfl) | exact congrArg (fun z => [OD.cust (mapCR 3 z)]) (bump_is hkl hyl (congrArg (· + 1) valC_touch))
              · show EV _ _ _ _ _ _ _ _ _ _
                refine Exists.intro _ (Exists.intro _ (And.intro (StepD.mapEntryC (n := 3) (q := keyAt t hs i) (mapC_ok (q := (75, 66)) (by kernel_rfl)) (keyN_ok (by kernel_rfl)) rfl rfl rfl) (And.intro rfl (And.intro trivial ?_))))
                show XD _ _ _ _ _ _ _ _ _
                refine XD.step (i := 4) [7] (by kernel_rfl) ?_
                refine ⟨?_, ?_, trivial⟩
                · show EV _ _ _ _ _ _ _ _ _ _
                  refine Exists.intro _ (Exists.intro _ (And.intro (StepD.lookupC (n := 3) (q := keyAt t hs i) (mapC_ok (q := (75, 66)) (by kernel_rfl)) (keyN_ok (by kernel_rfl)) rfl rfl rfl) (And.intro rfl (And.intro trivial ?_))))
                  show XD _ _ _ _ _ _ _ _ _
                  refine XD.step (i := 5) [7] (by kernel_rfl) ?_
                  refine ⟨?_, ?_, trivial⟩
                  · show EV _ _ _ _ _ _ _ _ _ _
                    refine And.intro (by have := hvl; omega) ?_
                    show XD _ _ _ _ _ _ _ _ _
                    refine XD.step (i := 7) [] (by kernel_rfl) ?_
                    refine ⟨?_, trivial⟩
                    · show EV _ _ _ _ _ _ _ _ _ _
                      show XD _ _ _ _ _ _ _ _ _
                      refine XD.step (i := 8) [] (by kernel_rfl) ?_
                      refine ⟨?_, trivial⟩
                      · show EV _ _ _ _ _ _ _ _ _ _
                        refine Exists.intro _ (Exists.intro _ (And.intro (StepD.entryStoreC (placeC_lt _ _ _) rfl rfl rfl rfl rfl) (And.intro rfl (And.intro trivial ?_))))
                        show XD _ _ _ _ _ _ _ _ _
                        refine XD.end_ (by kernel_rfl) ⟨rfl, rfl, ?_⟩
                        first | exact congrArg (fun z => [OD.cust (mapCR 3 z)]) (bump_is hkl hyl rfl) | exact congrArg (fun z => [OD.cust (mapCR 3 z)]) (bump_is hkl hyl (congrArg (· + 1) valC_touch))
                  · show EV _ _ _ _ _ _ _ _ _ _
                    show XD _ _ _ _ _ _ _ _ _
                    refine XD.step (i := 5) [] (by kernel_rfl) ?_
                    refine ⟨?_, trivial⟩
                    · show EV _ _ _ _ _ _ _ _ _ _
                      refine And.intro (by have := hvl; omega) ?_
                      show XD _ _ _ _ _ _ _ _ _
                      refine XD.step (i := 8) [] (by kernel_rfl) ?_
                      refine ⟨?_, trivial⟩
                      · show EV _ _ _ _ _ _ _ _ _ _
                        refine Exists.intro _ (Exists.intro _ (And.intro (StepD.entryStoreC (placeC_lt _ _ _) rfl rfl rfl rfl rfl) (And.intro rfl (And.intro trivial ?_))))
                        show XD _ _ _ _ _ _ _ _ _
                        refine XD.end_ (by kernel_rfl) ⟨rfl, rfl, ?_⟩
                        first | exact congrArg (fun z => [OD.cust (mapCR 3 z)]) (bump_is hkl hyl rfl) | exact congrArg (fun z => [OD.cust (mapCR 3 z)]) (bump_is hkl hyl (congrArg (· + 1) valC_touch))
                · show EV _ _ _ _ _ _ _ _ _ _
                  show XD _ _ _ _ _ _ _ _ _
                  refine XD.step (i := 4) [] (by kernel_rfl) ?_
                  refine ⟨?_, trivial⟩
                  · show EV _ _ _ _ _ _ _ _ _ _
                    refine Exists.intro _ (Exists.intro _ (And.intro (StepD.lookupC (n := 3) (q := keyAt t hs i) (mapC_ok (q := (75, 66)) (by kernel_rfl)) (keyN_ok (by kernel_rfl)) rfl rfl rfl) (And.intro rfl (And.intro trivial ?_))))
                    show XD _ _ _ _ _ _ _ _ _
                    refine XD.step (i := 5) [] (by kernel_rfl) ?_
                    refine ⟨?_, trivial⟩
                    · show EV _ _ _ _ _ _ _ _ _ _
                      refine And.intro (by have := hvl; omega) ?_
                      show XD _ _ _ _ _ _ _ _ _
                      refine XD.step (i := 8) [] (by kernel_rfl) ?_
                      refine ⟨?_, trivial⟩
                      · show EV _ _ _ _ _ _ _ _ _ _
                        refine Exists.intro _ (Exists.intro _ (And.intro (StepD.entryStoreC (placeC_lt _ _ _) rfl rfl rfl rfl rfl) (And.intro rfl (And.intro trivial ?_))))
                        show XD _ _ _ _ _ _ _ _ _
                        refine XD.end_ (by kernel_rfl) ⟨rfl, rfl, ?_⟩
                        first | exact congrArg (fun z => [OD.cust (mapCR 3 z)]) (bump_is hkl hyl rfl) | exact congrArg (fun z => [OD.cust (mapCR 3 z)]) (bump_is hkl hyl (congrArg (· + 1) valC_touch))
          · show EV _ _ _ _ _ _ _ _ _ _
            refine Exists.intro _ (Exists.intro _ (And.intro (StepD.call (noG_toD (blur_fn _ _ hrl hrh hhr)) rfl rfl rfl) (And.intro rfl (And.intro trivial ?_))))
            show XD _ _ _ _ _ _ _ _ _
            refine XD.step (i := 0) [] (by kernel_rfl) ?_
            refine ⟨?_, trivial⟩
            · show EV _ _ _ _ _ _ _ _ _ _
              show XD _ _ _ _ _ _ _ _ _
              refine XD.step (i := 4) [6] (by kernel_rfl) ?_
              refine ⟨?_, ?_, trivial⟩
              · show EV _ _ _ _ _ _ _ _ _ _
                refine Exists.intro _ (Exists.intro _ (And.intro (StepD.lookupC (n := 3) (q := keyAt t hs i) (mapC_ok (q := (75, 66)) (by kernel_rfl)) (keyN_ok (by kernel_rfl)) rfl rfl rfl) (And.intro rfl (And.intro trivial ?_))))
                show XD _ _ _ _ _ _ _ _ _
                refine XD.step (i := 5) [6] (by kernel_rfl) ?_
                refine ⟨?_, ?_, trivial⟩
                · show EV _ _ _ _ _ _ _ _ _ _
                  refine And.intro (by have := hvl; omega) ?_
                  show XD _ _ _ _ _ _ _ _ _
                  refine XD.step (i := 6) [] (by kernel_rfl) ?_
                  refine ⟨?_, trivial⟩
                  · show EV _ _ _ _ _ _ _ _ _ _
                    refine Exists.intro _ (Exists.intro _ (And.intro (StepD.mapEntryC (n := 3) (q := keyAt t hs i) (mapC_ok (q := (75, 66)) (by kernel_rfl)) (keyN_ok (by kernel_rfl)) rfl rfl rfl) (And.intro rfl (And.intro trivial ?_))))
                    show XD _ _ _ _ _ _ _ _ _
                    refine XD.step (i := 7) [] (by kernel_rfl) ?_
                    refine ⟨?_, trivial⟩
                    · show EV _ _ _ _ _ _ _ _ _ _
                      show XD _ _ _ _ _ _ _ _ _
                      refine XD.step (i := 8) [] (by kernel_rfl) ?_
                      refine ⟨?_, trivial⟩
                      · show EV _ _ _ _ _ _ _ _ _ _
                        refine Exists.intro _ (Exists.intro _ (And.intro (StepD.entryStoreC (placeC_lt _ _ _) rfl rfl rfl rfl rfl) (And.intro rfl (And.intro trivial ?_))))
                        show XD _ _ _ _ _ _ _ _ _
                        refine XD.end_ (by kernel_rfl) ⟨rfl, rfl, ?_⟩
                        first | exact congrArg (fun z => [OD.cust (mapCR 3 z)]) (bump_is hkl hyl rfl) | exact congrArg (fun z => [OD.cust (mapCR 3 z)]) (bump_is hkl hyl (congrArg (· + 1) valC_touch))
                · show EV _ _ _ _ _ _ _ _ _ _
                  refine Exists.intro _ (Exists.intro _ (And.intro (StepD.mapEntryC (n := 3) (q := keyAt t hs i) (mapC_ok (q := (75, 66)) (by kernel_rfl)) (keyN_ok (by kernel_rfl)) rfl rfl rfl) (And.intro rfl (And.intro trivial ?_))))
                  show XD _ _ _ _ _ _ _ _ _
                  refine XD.step (i := 5) [7] (by kernel_rfl) ?_
                  refine ⟨?_, ?_, trivial⟩
                  · show EV _ _ _ _ _ _ _ _ _ _
                    refine And.intro (by have := hvl; omega) ?_
                    show XD _ _ _ _ _ _ _ _ _
                    refine XD.step (i := 7) [] (by kernel_rfl) ?_
                    refine ⟨?_, trivial⟩
                    · show EV _ _ _ _ _ _ _ _ _ _
                      show XD _ _ _ _ _ _ _ _ _
                      refine XD.step (i := 8) [] (by kernel_rfl) ?_
                      refine ⟨?_, trivial⟩
                      · show EV _ _ _ _ _ _ _ _ _ _
                        refine Exists.intro _ (Exists.intro _ (And.intro (StepD.entryStoreC (placeC_lt _ _ _) rfl rfl rfl rfl rfl) (And.intro rfl (And.intro trivial ?_))))
                        show XD _ _ _ _ _ _ _ _ _
                        refine XD.end_ (by kernel_rfl) ⟨rfl, rfl, ?_⟩
                        first | exact congrArg (fun z => [OD.cust (mapCR 3 z)]) (bump_is hkl hyl rfl) | exact congrArg (fun z => [OD.cust (mapCR 3 z)]) (bump_is hkl hyl (congrArg (· + 1) valC_touch))
                  · show EV _ _ _ _ _ _ _ _ _ _
                    show XD _ _ _ _ _ _ _ _ _
                    refine XD.step (i := 5) [] (by kernel_rfl) ?_
                    refine ⟨?_, trivial⟩
                    · show EV _ _ _ _ _ _ _ _ _ _
                      refine And.intro (by have := hvl; omega) ?_
                      show XD _ _ _ _ _ _ _ _ _
                      refine XD.step (i := 8) [] (by kernel_rfl) ?_
                      refine ⟨?_, trivial⟩
                      · show EV _ _ _ _ _ _ _ _ _ _
                        refine Exists.intro _ (Exists.intro _ (And.intro (StepD.entryStoreC (placeC_lt _ _ _) rfl rfl rfl rfl rfl) (And.intro rfl (And.intro trivial ?_))))
                        show XD _ _ _ _ _ _ _ _ _
                        refine XD.end_ (by kernel_rfl) ⟨rfl, rfl, ?_⟩
                        first | exact congrArg (fun z => [OD.cust (mapCR 3 z)]) (bump_is hkl hyl rfl) | exact congrArg (fun z => [OD.cust (mapCR 3 z)]) (bump_is hkl hyl (congrArg (· + 1) valC_touch))
              · show EV _ _ _ _ _ _ _ _ _ _
                refine Exists.intro _ (Exists.intro _ (And.intro (StepD.mapEntryC (n := 3) (q := keyAt t hs i) (mapC_ok (q := (75, 66)) (by kernel_rfl)) (keyN_ok (by kernel_rfl)) rfl rfl rfl) (And.intro rfl (And.intro trivial ?_))))
                show XD _ _ _ _ _ _ _ _ _
                refine XD.step (i := 4) [7] (by kernel_rfl) ?_
                refine ⟨?_, ?_, trivial⟩
                · show EV _ _ _ _ _ _ _ _ _ _
                  refine Exists.intro _ (Exists.intro _ (And.intro (StepD.lookupC (n := 3) (q := keyAt t hs i) (mapC_ok (q := (75, 66)) (by kernel_rfl)) (keyN_ok (by kernel_rfl)) rfl rfl rfl) (And.intro rfl (And.intro trivial ?_))))
                  show XD _ _ _ _ _ _ _ _ _
                  refine XD.step (i := 5) [7] (by kernel_rfl) ?_
                  refine ⟨?_, ?_, trivial⟩
                  · show EV _ _ _ _ _ _ _ _ _ _
                    refine And.intro (by have := hvl; omega) ?_
                    show XD _ _ _ _ _ _ _ _ _
                    refine XD.step (i := 7) [] (by kernel_rfl) ?_
                    refine ⟨?_, trivial⟩
                    · show EV _ _ _ _ _ _ _ _ _ _
                      show XD _ _ _ _ _ _ _ _ _
                      refine XD.step (i := 8) [] (by kernel_rfl) ?_
                      refine ⟨?_, trivial⟩
                      · show EV _ _ _ _ _ _ _ _ _ _
                        refine Exists.intro _ (Exists.intro _ (And.intro (StepD.entryStoreC (placeC_lt _ _ _) rfl rfl rfl rfl rfl) (And.intro rfl (And.intro trivial ?_))))
                        show XD _ _ _ _ _ _ _ _ _
                        refine XD.end_ (by kernel_rfl) ⟨rfl, rfl, ?_⟩
                        first | exact congrArg (fun z => [OD.cust (mapCR 3 z)]) (bump_is hkl hyl rfl) | exact congrArg (fun z => [OD.cust (mapCR 3 z)]) (bump_is hkl hyl (congrArg (· + 1) valC_touch))
                  · show EV _ _ _ _ _ _ _ _ _ _
                    show XD _ _ _ _ _ _ _ _ _
                    refine XD.step (i := 5) [] (by kernel_rfl) ?_
                    refine ⟨?_, trivial⟩
                    · show EV _ _ _ _ _ _ _ _ _ _
                      refine And.intro (by have := hvl; omega) ?_
                      show XD _ _ _ _ _ _ _ _ _
                      refine XD.step (i := 8) [] (by kernel_rfl) ?_
                      refine ⟨?_, trivial⟩
                      · show EV _ _ _ _ _ _ _ _ _ _
                        refine Exists.intro _ (Exists.intro _ (And.intro (StepD.entryStoreC (placeC_lt _ _ _) rfl rfl rfl rfl rfl) (And.intro rfl (And.intro trivial ?_))))
                        show XD _ _ _ _ _ _ _ _ _
                        refine XD.end_ (by kernel_rfl) ⟨rfl, rfl, ?_⟩
                        first | exact congrArg (fun z => [OD.cust (mapCR 3 z)]) (bump_is hkl hyl rfl) | exact congrArg (fun z => [OD.cust (mapCR 3 z)]) (bump_is hkl hyl (congrArg (· + 1) valC_touch))
                · show EV _ _ _ _ _ _ _ _ _ _
                  show XD _ _ _ _ _ _ _ _ _
                  refine XD.step (i := 4) [] (by kernel_rfl) ?_
                  refine ⟨?_, trivial⟩
                  · show EV _ _ _ _ _ _ _ _ _ _
                    refine Exists.intro _ (Exists.intro _ (And.intro (StepD.lookupC (n := 3) (q := keyAt t hs i) (mapC_ok (q := (75, 66)) (by kernel_rfl)) (keyN_ok (by kernel_rfl)) rfl rfl rfl) (And.intro rfl (And.intro trivial ?_))))
                    show XD _ _ _ _ _ _ _ _ _
                    refine XD.step (i := 5) [] (by kernel_rfl) ?_
                    refine ⟨?_, trivial⟩
                    · show EV _ _ _ _ _ _ _ _ _ _
                      refine And.intro (by have := hvl; omega) ?_
                      show XD _ _ _ _ _ _ _ _ _
                      refine XD.step (i := 8) [] (by kernel_rfl) ?_
                      refine ⟨?_, trivial⟩
                      · show EV _ _ _ _ _ _ _ _ _ _
                        refine Exists.intro _ (Exists.intro _ (And.intro (StepD.entryStoreC (placeC_lt _ _ _) rfl rfl rfl rfl rfl) (And.intro rfl (And.intro trivial ?_))))
                        show XD _ _ _ _ _ _ _ _ _
                        refine XD.end_ (by kernel_rfl) ⟨rfl, rfl, ?_⟩
                        first | exact congrArg (fun z => [OD.cust (mapCR 3 z)]) (bump_is hkl hyl rfl) | exact congrArg (fun z => [OD.cust (mapCR 3 z)]) (bump_is hkl hyl (congrArg (· + 1) valC_touch))
      · show EV _ _ _ _ _ _ _ _ _ _
        show XD _ _ _ _ _ _ _ _ _
        refine XD.step (i := 0) [1] (by kernel_rfl) ?_
        refine ⟨?_, ?_, trivial⟩
        · show EV _ _ _ _ _ _ _ _ _ _
          show XD _ _ _ _ _ _ _ _ _
          refine XD.step (i := 1) [] (by kernel_rfl) ?_
          refine ⟨?_, trivial⟩
          · show EV _ _ _ _ _ _ _ _ _ _
            show XD _ _ _ _ _ _ _ _ _
            refine XD.step (i := 3) [] (by kernel_rfl) ?_
            refine ⟨?_, trivial⟩
            · show EV _ _ _ _ _ _ _ _ _ _
              refine Exists.intro _ (Exists.intro _ (And.intro (StepD.call (noG_toD (blur_fn _ _ hrl hrh hhr)) rfl rfl rfl) (And.intro rfl (And.intro trivial ?_))))
              show XD _ _ _ _ _ _ _ _ _
              refine XD.step (i := 4) [6] (by kernel_rfl) ?_
              refine ⟨?_, ?_, trivial⟩
              · show EV _ _ _ _ _ _ _ _ _ _
                refine Exists.intro _ (Exists.intro _ (And.intro (StepD.lookupC (n := 3) (q := keyAt t hs i) (mapC_ok (q := (75, 66)) (by kernel_rfl)) (keyN_ok (by kernel_rfl)) rfl rfl rfl) (And.intro rfl (And.intro trivial ?_))))
                show XD _ _ _ _ _ _ _ _ _
                refine XD.step (i := 5) [6] (by kernel_rfl) ?_
                refine ⟨?_, ?_, trivial⟩
                · show EV _ _ _ _ _ _ _ _ _ _
                  refine And.intro (by have := hvl; omega) ?_
                  show XD _ _ _ _ _ _ _ _ _
                  refine XD.step (i := 6) [] (by kernel_rfl) ?_
                  refine ⟨?_, trivial⟩
                  · show EV _ _ _ _ _ _ _ _ _ _
                    refine Exists.intro _ (Exists.intro _ (And.intro (StepD.mapEntryC (n := 3) (q := keyAt t hs i) (mapC_ok (q := (75, 66)) (by kernel_rfl)) (keyN_ok (by kernel_rfl)) rfl rfl rfl) (And.intro rfl (And.intro trivial ?_))))
                    show XD _ _ _ _ _ _ _ _ _
                    refine XD.step (i := 7) [] (by kernel_rfl) ?_
                    refine ⟨?_, trivial⟩
                    · show EV _ _ _ _ _ _ _ _ _ _
                      show XD _ _ _ _ _ _ _ _ _
                      refine XD.step (i := 8) [] (by kernel_rfl) ?_
                      refine ⟨?_, trivial⟩
                      · show EV _ _ _ _ _ _ _ _ _ _
                        refine Exists.intro _ (Exists.intro _ (And.intro (StepD.entryStoreC (placeC_lt _ _ _) rfl rfl rfl rfl rfl) (And.intro rfl (And.intro trivial ?_))))
                        show XD _ _ _ _ _ _ _ _ _
                        refine XD.end_ (by kernel_rfl) ⟨rfl, rfl, ?_⟩
                        first | exact congrArg (fun z => [OD.cust (mapCR 3 z)]) (bump_is hkl hyl rfl) | exact congrArg (fun z => [OD.cust (mapCR 3 z)]) (bump_is hkl hyl (congrArg (· + 1) valC_touch))
                · show EV _ _ _ _ _ _ _ _ _ _
                  refine Exists.intro _ (Exists.intro _ (And.intro (StepD.mapEntryC (n := 3) (q := keyAt t hs i) (mapC_ok (q := (75, 66)) (by kernel_rfl)) (keyN_ok (by kernel_rfl)) rfl rfl rfl) (And.intro rfl (And.intro trivial ?_))))
                  show XD _ _ _ _ _ _ _ _ _
                  refine XD.step (i := 5) [7] (by kernel_rfl) ?_
                  refine ⟨?_, ?_, trivial⟩
                  · show EV _ _ _ _ _ _ _ _ _ _
                    refine And.intro (by have := hvl; omega) ?_
                    show XD _ _ _ _ _ _ _ _ _
                    refine XD.step (i := 7) [] (by kernel_rfl) ?_
                    refine ⟨?_, trivial⟩
                    · show EV _ _ _ _ _ _ _ _ _ _
                      show XD _ _ _ _ _ _ _ _ _
                      refine XD.step (i := 8) [] (by kernel_rfl) ?_
                      refine ⟨?_, trivial⟩
                      · show EV _ _ _ _ _ _ _ _ _ _
                        refine Exists.intro _ (Exists.intro _ (And.intro (StepD.entryStoreC (placeC_lt _ _ _) rfl rfl rfl rfl rfl) (And.intro rfl (And.intro trivial ?_))))
                        show XD _ _ _ _ _ _ _ _ _
                        refine XD.end_ (by kernel_rfl) ⟨rfl, rfl, ?_⟩
                        first | exact congrArg (fun z => [OD.cust (mapCR 3 z)]) (bump_is hkl hyl rfl) | exact congrArg (fun z => [OD.cust (mapCR 3 z)]) (bump_is hkl hyl (congrArg (· + 1) valC_touch))
                  · show EV _ _ _ _ _ _ _ _ _ _
                    show XD _ _ _ _ _ _ _ _ _
                    refine XD.step (i := 5) [] (by kernel_rfl) ?_
                    refine ⟨?_, trivial⟩
                    · show EV _ _ _ _ _ _ _ _ _ _
                      refine And.intro (by have := hvl; omega) ?_
                      show XD _ _ _ _ _ _ _ _ _
                      refine XD.step (i := 8) [] (by kernel_rfl) ?_
                      refine ⟨?_, trivial⟩
                      · show EV _ _ _ _ _ _ _ _ _ _
                        refine Exists.intro _ (Exists.intro _ (And.intro (StepD.entryStoreC (placeC_lt _ _ _) rfl rfl rfl rfl rfl) (And.intro rfl (And.intro trivial ?_))))
                        show XD _ _ _ _ _ _ _ _ _
                        refine XD.end_ (by kernel_rfl) ⟨rfl, rfl, ?_⟩
                        first | exact congrArg (fun z => [OD.cust (mapCR 3 z)]) (bump_is hkl hyl rfl) | exact congrArg (fun z => [OD.cust (mapCR 3 z)]) (bump_is hkl hyl (congrArg (· + 1) valC_touch))
              · show EV _ _ _ _ _ _ _ _ _ _
                refine Exists.intro _ (Exists.intro _ (And.intro (StepD.mapEntryC (n := 3) (q := keyAt t hs i) (mapC_ok (q := (75, 66)) (by kernel_rfl)) (keyN_ok (by kernel_rfl)) rfl rfl rfl) (And.intro rfl (And.intro trivial ?_))))
                show XD _ _ _ _ _ _ _ _ _
                refine XD.step (i := 4) [7] (by kernel_rfl) ?_
                refine ⟨?_, ?_, trivial⟩
                · show EV _ _ _ _ _ _ _ _ _ _
                  refine Exists.intro _ (Exists.intro _ (And.intro (StepD.lookupC (n := 3) (q := keyAt t hs i) (mapC_ok (q := (75, 66)) (by kernel_rfl)) (keyN_ok (by kernel_rfl)) rfl rfl rfl) (And.intro rfl (And.intro trivial ?_))))
                  show XD _ _ _ _ _ _ _ _ _
                  refine XD.step (i := 5) [7] (by kernel_rfl) ?_
                  refine ⟨?_, ?_, trivial⟩
                  · show EV _ _ _ _ _ _ _ _ _ _
                    refine And.intro (by have := hvl; omega) ?_
                    show XD _ _ _ _ _ _ _ _ _
                    refine XD.step (i := 7) [] (by kernel_rfl) ?_
                    refine ⟨?_, trivial⟩
                    · show EV _ _ _ _ _ _ _ _ _ _
                      show XD _ _ _ _ _ _ _ _ _
                      refine XD.step (i := 8) [] (by kernel_rfl) ?_
                      refine ⟨?_, trivial⟩
                      · show EV _ _ _ _ _ _ _ _ _ _
                        refine Exists.intro _ (Exists.intro _ (And.intro (StepD.entryStoreC (placeC_lt _ _ _) rfl rfl rfl rfl rfl) (And.intro rfl (And.intro trivial ?_))))
                        show XD _ _ _ _ _ _ _ _ _
                        refine XD.end_ (by kernel_rfl) ⟨rfl, rfl, ?_⟩
                        first | exact congrArg (fun z => [OD.cust (mapCR 3 z)]) (bump_is hkl hyl rfl) | exact congrArg (fun z => [OD.cust (mapCR 3 z)]) (bump_is hkl hyl (congrArg (· + 1) valC_touch))
                  · show EV _ _ _ _ _ _ _ _ _ _
                    show XD _ _ _ _ _ _ _ _ _
                    refine XD.step (i := 5) [] (by kernel_rfl) ?_
                    refine ⟨?_, trivial⟩
                    · show EV _ _ _ _ _ _ _ _ _ _
                      refine And.intro (by have := hvl; omega) ?_
                      show XD _ _ _ _ _ _ _ _ _
                      refine XD.step (i := 8) [] (by kernel_rfl) ?_
                      refine ⟨?_, trivial⟩
                      · show EV _ _ _ _ _ _ _ _ _ _
                        refine Exists.intro _ (Exists.intro _ (And.intro (StepD.entryStoreC (placeC_lt _ _ _) rfl rfl rfl rfl rfl) (And.intro rfl (And.intro trivial ?_))))
                        show XD _ _ _ _ _ _ _ _ _
                        refine XD.end_ (by kernel_rfl) ⟨rfl, rfl, ?_⟩
                        first | exact congrArg (fun z => [OD.cust (mapCR 3 z)]) (bump_is hkl hyl rfl) | exact congrArg (fun z => [OD.cust (mapCR 3 z)]) (bump_is hkl hyl (congrArg (· + 1) valC_touch))
                · show EV _ _ _ _ _ _ _ _ _ _
                  show XD _ _ _ _ _ _ _ _ _
                  refine XD.step (i := 4) [] (by kernel_rfl) ?_
                  refine ⟨?_, trivial⟩
                  · show EV _ _ _ _ _ _ _ _ _ _
                    refine Exists.intro _ (Exists.intro _ (And.intro (StepD.lookupC (n := 3) (q := keyAt t hs i) (mapC_ok (q := (75, 66)) (by kernel_rfl)) (keyN_ok (by kernel_rfl)) rfl rfl rfl) (And.intro rfl (And.intro trivial ?_))))
                    show XD _ _ _ _ _ _ _ _ _
                    refine XD.step (i := 5) [] (by kernel_rfl) ?_
                    refine ⟨?_, trivial⟩
                    · show EV _ _ _ _ _ _ _ _ _ _
                      refine And.intro (by have := hvl; omega) ?_
                      show XD _ _ _ _ _ _ _ _ _
                      refine XD.step (i := 8) [] (by kernel_rfl) ?_
                      refine ⟨?_, trivial⟩
                      · show EV _ _ _ _ _ _ _ _ _ _
                        refine Exists.intro _ (Exists.intro _ (And.intro (StepD.entryStoreC (placeC_lt _ _ _) rfl rfl rfl rfl rfl) (And.intro rfl (And.intro trivial ?_))))
                        show XD _ _ _ _ _ _ _ _ _
                        refine XD.end_ (by kernel_rfl) ⟨rfl, rfl, ?_⟩
                        first | exact congrArg (fun z => [OD.cust (mapCR 3 z)]) (bump_is hkl hyl rfl) | exact congrArg (fun z => [OD.cust (mapCR 3 z)]) (bump_is hkl hyl (congrArg (· + 1) valC_touch))
        · show EV _ _ _ _ _ _ _ _ _ _
          show XD _ _ _ _ _ _ _ _ _
          refine XD.step (i := 0) [3] (by kernel_rfl) ?_
          refine ⟨?_, ?_, trivial⟩
          · show EV _ _ _ _ _ _ _ _ _ _
            show XD _ _ _ _ _ _ _ _ _
            refine XD.step (i := 3) [] (by kernel_rfl) ?_
            refine ⟨?_, trivial⟩
            · show EV _ _ _ _ _ _ _ _ _ _
              refine Exists.intro _ (Exists.intro _ (And.intro (StepD.call (noG_toD (blur_fn _ _ hrl hrh hhr)) rfl rfl rfl) (And.intro rfl (And.intro trivial ?_))))
              show XD _ _ _ _ _ _ _ _ _
              refine XD.step (i := 4) [6] (by kernel_rfl) ?_
              refine ⟨?_, ?_, trivial⟩
              · show EV _ _ _ _ _ _ _ _ _ _
                refine Exists.intro _ (Exists.intro _ (And.intro (StepD.lookupC (n := 3) (q := keyAt t hs i) (mapC_ok (q := (75, 66)) (by kernel_rfl)) (keyN_ok (by kernel_rfl)) rfl rfl rfl) (And.intro rfl (And.intro trivial ?_))))
                show XD _ _ _ _ _ _ _ _ _
                refine XD.step (i := 5) [6] (by kernel_rfl) ?_
                refine ⟨?_, ?_, trivial⟩
                · show EV _ _ _ _ _ _ _ _ _ _
                  refine And.intro (by have := hvl; omega) ?_
                  show XD _ _ _ _ _ _ _ _ _
                  refine XD.step (i := 6) [] (by kernel_rfl) ?_
                  refine ⟨?_, trivial⟩
                  · show EV _ _ _ _ _ _ _ _ _ _
                    refine Exists.intro _ (Exists.intro _ (And.intro (StepD.mapEntryC (n := 3) (q := keyAt t hs i) (mapC_ok (q := (75, 66)) (by kernel_rfl)) (keyN_ok (by kernel_rfl)) rfl rfl rfl) (And.intro rfl (And.intro trivial ?_))))
                    show XD _ _ _ _ _ _ _ _ _
                    refine XD.step (i := 7) [] (by kernel_rfl) ?_
                    refine ⟨?_, trivial⟩
                    · show EV _ _ _ _ _ _ _ _ _ _
                      show XD _ _ _ _ _ _ _ _ _
                      refine XD.step (i := 8) [] (by kernel_rfl) ?_
                      refine ⟨?_, trivial⟩
                      · show EV _ _ _ _ _ _ _ _ _ _
                        refine Exists.intro _ (Exists.intro _ (And.intro (StepD.entryStoreC (placeC_lt _ _ _) rfl rfl rfl rfl rfl) (And.intro rfl (And.intro trivial ?_))))
                        show XD _ _ _ _ _ _ _ _ _
                        refine XD.end_ (by kernel_rfl) ⟨rfl, rfl, ?_⟩
                        first | exact congrArg (fun z => [OD.cust (mapCR 3 z)]) (bump_is hkl hyl rfl) | exact congrArg (fun z => [OD.cust (mapCR 3 z)]) (bump_is hkl hyl (congrArg (· + 1) valC_touch))
                · show EV _ _ _ _ _ _ _ _ _ _
                  refine Exists.intro _ (Exists.intro _ (And.intro (StepD.mapEntryC (n := 3) (q := keyAt t hs i) (mapC_ok (q := (75, 66)) (by kernel_rfl)) (keyN_ok (by kernel_rfl)) rfl rfl rfl) (And.intro rfl (And.intro trivial ?_))))
                  show XD _ _ _ _ _ _ _ _ _
                  refine XD.step (i := 5) [7] (by kernel_rfl) ?_
                  refine ⟨?_, ?_, trivial⟩
                  · show EV _ _ _ _ _ _ _ _ _ _
                    refine And.intro (by have := hvl; omega) ?_
                    show XD _ _ _ _ _ _ _ _ _
                    refine XD.step (i := 7) [] (by kernel_rfl) ?_
                    refine ⟨?_, trivial⟩
                    · show EV _ _ _ _ _ _ _ _ _ _
                      show XD _ _ _ _ _ _ _ _ _
                      refine XD.step (i := 8) [] (by kernel_rfl) ?_
                      refine ⟨?_, trivial⟩
                      · show EV _ _ _ _ _ _ _ _ _ _
                        refine Exists.intro _ (Exists.intro _ (And.intro (StepD.entryStoreC (placeC_lt _ _ _) rfl rfl rfl rfl rfl) (And.intro rfl (And.intro trivial ?_))))
                        show XD _ _ _ _ _ _ _ _ _
                        refine XD.end_ (by kernel_rfl) ⟨rfl, rfl, ?_⟩
                        first | exact congrArg (fun z => [OD.cust (mapCR 3 z)]) (bump_is hkl hyl rfl) | exact congrArg (fun z => [OD.cust (mapCR 3 z)]) (bump_is hkl hyl (congrArg (· + 1) valC_touch))
                  · show EV _ _ _ _ _ _ _ _ _ _
                    show XD _ _ _ _ _ _ _ _ _
                    refine XD.step (i := 5) [] (by kernel_rfl) ?_
                    refine ⟨?_, trivial⟩
                    · show EV _ _ _ _ _ _ _ _ _ _
                      refine And.intro (by have := hvl; omega) ?_
                      show XD _ _ _ _ _ _ _ _ _
                      refine XD.step (i := 8) [] (by kernel_rfl) ?_
                      refine ⟨?_, trivial⟩
                      · show EV _ _ _ _ _ _ _ _ _ _
                        refine Exists.intro _ (Exists.intro _ (And.intro (StepD.entryStoreC (placeC_lt _ _ _) rfl rfl rfl rfl rfl) (And.intro rfl (And.intro trivial ?_))))
                        show XD _ _ _ _ _ _ _ _ _
                        refine XD.end_ (by kernel_rfl) ⟨rfl, rfl, ?_⟩
                        first | exact congrArg (fun z => [OD.cust (mapCR 3 z)]) (bump_is hkl hyl rfl) | exact congrArg (fun z => [OD.cust (mapCR 3 z)]) (bump_is hkl hyl (congrArg (· + 1) valC_touch))
              · show EV _ _ _ _ _ _ _ _ _ _
                refine Exists.intro _ (Exists.intro _ (And.intro (StepD.mapEntryC (n := 3) (q := keyAt t hs i) (mapC_ok (q := (75, 66)) (by kernel_rfl)) (keyN_ok (by kernel_rfl)) rfl rfl rfl) (And.intro rfl (And.intro trivial ?_))))
                show XD _ _ _ _ _ _ _ _ _
                refine XD.step (i := 4) [7] (by kernel_rfl) ?_
                refine ⟨?_, ?_, trivial⟩
                · show EV _ _ _ _ _ _ _ _ _ _
                  refine Exists.intro _ (Exists.intro _ (And.intro (StepD.lookupC (n := 3) (q := keyAt t hs i) (mapC_ok (q := (75, 66)) (by kernel_rfl)) (keyN_ok (by kernel_rfl)) rfl rfl rfl) (And.intro rfl (And.intro trivial ?_))))
                  show XD _ _ _ _ _ _ _ _ _
                  refine XD.step (i := 5) [7] (by kernel_rfl) ?_
                  refine ⟨?_, ?_, trivial⟩
                  · show EV _ _ _ _ _ _ _ _ _ _
                    refine And.intro (by have := hvl; omega) ?_
                    show XD _ _ _ _ _ _ _ _ _
                    refine XD.step (i := 7) [] (by kernel_rfl) ?_
                    refine ⟨?_, trivial⟩
                    · show EV _ _ _ _ _ _ _ _ _ _
                      show XD _ _ _ _ _ _ _ _ _
                      refine XD.step (i := 8) [] (by kernel_rfl) ?_
                      refine ⟨?_, trivial⟩
                      · show EV _ _ _ _ _ _ _ _ _ _
                        refine Exists.intro _ (Exists.intro _ (And.intro (StepD.entryStoreC (placeC_lt _ _ _) rfl rfl rfl rfl rfl) (And.intro rfl (And.intro trivial ?_))))
                        show XD _ _ _ _ _ _ _ _ _
                        refine XD.end_ (by kernel_rfl) ⟨rfl, rfl, ?_⟩
                        first | exact congrArg (fun z => [OD.cust (mapCR 3 z)]) (bump_is hkl hyl rfl) | exact congrArg (fun z => [OD.cust (mapCR 3 z)]) (bump_is hkl hyl (congrArg (· + 1) valC_touch))
                  · show EV _ _ _ _ _ _ _ _ _ _
                    show XD _ _ _ _ _ _ _ _ _
                    refine XD.step (i := 5) [] (by kernel_rfl) ?_
                    refine ⟨?_, trivial⟩
                    · show EV _ _ _ _ _ _ _ _ _ _
                      refine And.intro (by have := hvl; omega) ?_
                      show XD _ _ _ _ _ _ _ _ _
                      refine XD.step (i := 8) [] (by kernel_rfl) ?_
                      refine ⟨?_, trivial⟩
                      · show EV _ _ _ _ _ _ _ _ _ _
                        refine Exists.intro _ (Exists.intro _ (And.intro (StepD.entryStoreC (placeC_lt _ _ _) rfl rfl rfl rfl rfl) (And.intro rfl (And.intro trivial ?_))))
                        show XD _ _ _ _ _ _ _ _ _
                        refine XD.end_ (by kernel_rfl) ⟨rfl, rfl, ?_⟩
                        first | exact congrArg (fun z => [OD.cust (mapCR 3 z)]) (bump_is hkl hyl rfl) | exact congrArg (fun z => [OD.cust (mapCR 3 z)]) (bump_is hkl hyl (congrArg (· + 1) valC_touch))
                · show EV _ _ _ _ _ _ _ _ _ _
                  show XD _ _ _ _ _ _ _ _ _
                  refine XD.step (i := 4) [] (by kernel_rfl) ?_
                  refine ⟨?_, trivial⟩
                  · show EV _ _ _ _ _ _ _ _ _ _
                    refine Exists.intro _ (Exists.intro _ (And.intro (StepD.lookupC (n := 3) (q := keyAt t hs i) (mapC_ok (q := (75, 66)) (by kernel_rfl)) (keyN_ok (by kernel_rfl)) rfl rfl rfl) (And.intro rfl (And.intro trivial ?_))))
                    show XD _ _ _ _ _ _ _ _ _
                    refine XD.step (i := 5) [] (by kernel_rfl) ?_
                    refine ⟨?_, trivial⟩
                    · show EV _ _ _ _ _ _ _ _ _ _
                      refine And.intro (by have := hvl; omega) ?_
                      show XD _ _ _ _ _ _ _ _ _
                      refine XD.step (i := 8) [] (by kernel_rfl) ?_
                      refine ⟨?_, trivial⟩
                      · show EV _ _ _ _ _ _ _ _ _ _
                        refine Exists.intro _ (Exists.intro _ (And.intro (StepD.entryStoreC (placeC_lt _ _ _) rfl rfl rfl rfl rfl) (And.intro rfl (And.intro trivial ?_))))
                        show XD _ _ _ _ _ _ _ _ _
                        refine XD.end_ (by kernel_rfl) ⟨rfl, rfl, ?_⟩
                        first | exact congrArg (fun z => [OD.cust (mapCR 3 z)]) (bump_is hkl hyl rfl) | exact congrArg (fun z => [OD.cust (mapCR 3 z)]) (bump_is hkl hyl (congrArg (· + 1) valC_touch))
          · show EV _ _ _ _ _ _ _ _ _ _
            refine Exists.intro _ (Exists.intro _ (And.intro (StepD.call (noG_toD (blur_fn _ _ hrl hrh hhr)) rfl rfl rfl) (And.intro rfl (And.intro trivial ?_))))
            show XD _ _ _ _ _ _ _ _ _
            refine XD.step (i := 0) [] (by kernel_rfl) ?_
            refine ⟨?_, trivial⟩
            · show EV _ _ _ _ _ _ _ _ _ _
              show XD _ _ _ _ _ _ _ _ _
              refine XD.step (i := 4) [6] (by kernel_rfl) ?_
              refine ⟨?_, ?_, trivial⟩
              · show EV _ _ _ _ _ _ _ _ _ _
                refine Exists.intro _ (Exists.intro _ (And.intro (StepD.lookupC (n := 3) (q := keyAt t hs i) (mapC_ok (q := (75, 66)) (by kernel_rfl)) (keyN_ok (by kernel_rfl)) rfl rfl rfl) (And.intro rfl (And.intro trivial ?_))))
                show XD _ _ _ _ _ _ _ _ _
                refine XD.step (i := 5) [6] (by kernel_rfl) ?_
                refine ⟨?_, ?_, trivial⟩
                · show EV _ _ _ _ _ _ _ _ _ _
                  refine And.intro (by have := hvl; omega) ?_
                  show XD _ _ _ _ _ _ _ _ _
                  refine XD.step (i := 6) [] (by kernel_rfl) ?_
                  refine ⟨?_, trivial⟩
                  · show EV _ _ _ _ _ _ _ _ _ _
                    refine Exists.intro _ (Exists.intro _ (And.intro (StepD.mapEntryC (n := 3) (q := keyAt t hs i) (mapC_ok (q := (75, 66)) (by kernel_rfl)) (keyN_ok (by kernel_rfl)) rfl rfl rfl) (And.intro rfl (And.intro trivial ?_))))
                    show XD _ _ _ _ _ _ _ _ _
                    refine XD.step (i := 7) [] (by kernel_rfl) ?_
                    refine ⟨?_, trivial⟩
                    · show EV _ _ _ _ _ _ _ _ _ _
                      show XD _ _ _ _ _ _ _ _ _
                      refine XD.step (i := 8) [] (by kernel_rfl) ?_
                      refine ⟨?_, trivial⟩
                      · show EV _ _ _ _ _ _ _ _ _ _
                        refine Exists.intro _ (Exists.intro _ (And.intro (StepD.entryStoreC (placeC_lt _ _ _) rfl rfl rfl rfl rfl) (And.intro rfl (And.intro trivial ?_))))
                        show XD _ _ _ _ _ _ _ _ _
                        refine XD.end_ (by kernel_rfl) ⟨rfl, rfl, ?_⟩
                        first | exact congrArg (fun z => [OD.cust (mapCR 3 z)]) (bump_is hkl hyl rfl) | exact congrArg (fun z => [OD.cust (mapCR 3 z)]) (bump_is hkl hyl (congrArg (· + 1) valC_touch))
                · show EV _ _ _ _ _ _ _ _ _ _
                  refine Exists.intro _ (Exists.intro _ (And.intro (StepD.mapEntryC (n := 3) (q := keyAt t hs i) (mapC_ok (q := (75, 66)) (by kernel_rfl)) (keyN_ok (by kernel_rfl)) rfl rfl rfl) (And.intro rfl (And.intro trivial ?_))))
                  show XD _ _ _ _ _ _ _ _ _
                  refine XD.step (i := 5) [7] (by kernel_rfl) ?_
                  refine ⟨?_, ?_, trivial⟩
                  · show EV _ _ _ _ _ _ _ _ _ _
                    refine And.intro (by have := hvl; omega) ?_
                    show XD _ _ _ _ _ _ _ _ _
                    refine XD.step (i := 7) [] (by kernel_rfl) ?_
                    refine ⟨?_, trivial⟩
                    · show EV _ _ _ _ _ _ _ _ _ _
                      show XD _ _ _ _ _ _ _ _ _
                      refine XD.step (i := 8) [] (by kernel_rfl) ?_
                      refine ⟨?_, trivial⟩
                      · show EV _ _ _ _ _ _ _ _ _ _
                        refine Exists.intro _ (Exists.intro _ (And.intro (StepD.entryStoreC (placeC_lt _ _ _) rfl rfl rfl rfl rfl) (And.intro rfl (And.intro trivial ?_))))
                        show XD _ _ _ _ _ _ _ _ _
                        refine XD.end_ (by kernel_rfl) ⟨rfl, rfl, ?_⟩
                        first | exact congrArg (fun z => [OD.cust (mapCR 3 z)]) (bump_is hkl hyl rfl) | exact congrArg (fun z => [OD.cust (mapCR 3 z)]) (bump_is hkl hyl (congrArg (· + 1) valC_touch))
                  · show EV _ _ _ _ _ _ _ _ _ _
                    show XD _ _ _ _ _ _ _ _ _
                    refine XD.step (i := 5) [] (by kernel_rfl) ?_
                    refine ⟨?_, trivial⟩
                    · show EV _ _ _ _ _ _ _ _ _ _
                      refine And.intro (by have := hvl; omega) ?_
                      show XD _ _ _ _ _ _ _ _ _
                      refine XD.step (i := 8) [] (by kernel_rfl) ?_
                      refine ⟨?_, trivial⟩
                      · show EV _ _ _ _ _ _ _ _ _ _
                        refine Exists.intro _ (Exists.intro _ (And.intro (StepD.entryStoreC (placeC_lt _ _ _) rfl rfl rfl rfl rfl) (And.intro rfl (And.intro trivial ?_))))
                        show XD _ _ _ _ _ _ _ _ _
                        refine XD.end_ (by kernel_rfl) ⟨rfl, rfl, ?_⟩
                        first | exact congrArg (fun z => [OD.cust (mapCR 3 z)]) (bump_is hkl hyl rfl) | exact congrArg (fun z => [OD.cust (mapCR 3 z)]) (bump_is hkl hyl (congrArg (· + 1) valC_touch))
              · show EV _ _ _ _ _ _ _ _ _ _
                refine Exists.intro _ (Exists.intro _ (And.intro (StepD.mapEntryC (n := 3) (q := keyAt t hs i) (mapC_ok (q := (75, 66)) (by kernel_rfl)) (keyN_ok (by kernel_rfl)) rfl rfl rfl) (And.intro rfl (And.intro trivial ?_))))
                show XD _ _ _ _ _ _ _ _ _
                refine XD.step (i := 4) [7] (by kernel_rfl) ?_
                refine ⟨?_, ?_, trivial⟩
                · show EV _ _ _ _ _ _ _ _ _ _
                  refine Exists.intro _ (Exists.intro _ (And.intro (StepD.lookupC (n := 3) (q := keyAt t hs i) (mapC_ok (q := (75, 66)) (by kernel_rfl)) (keyN_ok (by kernel_rfl)) rfl rfl rfl) (And.intro rfl (And.intro trivial ?_))))
                  show XD _ _ _ _ _ _ _ _ _
                  refine XD.step (i := 5) [7] (by kernel_rfl) ?_
                  refine ⟨?_, ?_, trivial⟩
                  · show EV _ _ _ _ _ _ _ _ _ _
                    refine And.intro (by have := hvl; omega) ?_
                    show XD _ _ _ _ _ _ _ _ _
                    refine XD.step (i := 7) [] (by kernel_rfl) ?_
                    refine ⟨?_, trivial⟩
                    · show EV _ _ _ _ _ _ _ _ _ _
                      show XD _ _ _ _ _ _ _ _ _
                      refine XD.step (i := 8) [] (by kernel_rfl) ?_
                      refine ⟨?_, trivial⟩
                      · show EV _ _ _ _ _ _ _ _ _ _
                        refine Exists.intro _ (Exists.intro _ (And.intro (StepD.entryStoreC (placeC_lt _ _ _) rfl rfl rfl rfl rfl) (And.intro rfl (And.intro trivial ?_))))
                        show XD _ _ _ _ _ _ _ _ _
                        refine XD.end_ (by kernel_rfl) ⟨rfl, rfl, ?_⟩
                        first | exact congrArg (fun z => [OD.cust (mapCR 3 z)]) (bump_is hkl hyl rfl) | exact congrArg (fun z => [OD.cust (mapCR 3 z)]) (bump_is hkl hyl (congrArg (· + 1) valC_touch))
                  · show EV _ _ _ _ _ _ _ _ _ _
                    show XD _ _ _ _ _ _ _ _ _
                    refine XD.step (i := 5) [] (by kernel_rfl) ?_
                    refine ⟨?_, trivial⟩
                    · show EV _ _ _ _ _ _ _ _ _ _
                      refine And.intro (by have := hvl; omega) ?_
                      show XD _ _ _ _ _ _ _ _ _
                      refine XD.step (i := 8) [] (by kernel_rfl) ?_
                      refine ⟨?_, trivial⟩
                      · show EV _ _ _ _ _ _ _ _ _ _
                        refine Exists.intro _ (Exists.intro _ (And.intro (StepD.entryStoreC (placeC_lt _ _ _) rfl rfl rfl rfl rfl) (And.intro rfl (And.intro trivial ?_))))
                        show XD _ _ _ _ _ _ _ _ _
                        refine XD.end_ (by kernel_rfl) ⟨rfl, rfl, ?_⟩
                        first | exact congrArg (fun z => [OD.cust (mapCR 3 z)]) (bump_is hkl hyl rfl) | exact congrArg (fun z => [OD.cust (mapCR 3 z)]) (bump_is hkl hyl (congrArg (· + 1) valC_touch))
                · show EV _ _ _ _ _ _ _ _ _ _
                  show XD _ _ _ _ _ _ _ _ _
                  refine XD.step (i := 4) [] (by kernel_rfl) ?_
                  refine ⟨?_, trivial⟩
                  · show EV _ _ _ _ _ _ _ _ _ _
                    refine Exists.intro _ (Exists.intro _ (And.intro (StepD.lookupC (n := 3) (q := keyAt t hs i) (mapC_ok (q := (75, 66)) (by kernel_rfl)) (keyN_ok (by kernel_rfl)) rfl rfl rfl) (And.intro rfl (And.intro trivial ?_))))
                    show XD _ _ _ _ _ _ _ _ _
                    refine XD.step (i := 5) [] (by kernel_rfl) ?_
                    refine ⟨?_, trivial⟩
                    · show EV _ _ _ _ _ _ _ _ _ _
                      refine And.intro (by have := hvl; omega) ?_
                      show XD _ _ _ _ _ _ _ _ _
                      refine XD.step (i := 8) [] (by kernel_rfl) ?_
                      refine ⟨?_, trivial⟩
                      · show EV _ _ _ _ _ _ _ _ _ _
                        refine Exists.intro _ (Exists.intro _ (And.intro (StepD.entryStoreC (placeC_lt _ _ _) rfl rfl rfl rfl rfl) (And.intro rfl (And.intro trivial ?_))))
                        show XD _ _ _ _ _ _ _ _ _
                        refine XD.end_ (by kernel_rfl) ⟨rfl, rfl, ?_⟩
                        first | exact congrArg (fun z => [OD.cust (mapCR 3 z)]) (bump_is hkl hyl rfl) | exact congrArg (fun z => [OD.cust (mapCR 3 z)]) (bump_is hkl hyl (congrArg (· + 1) valC_touch))
    refine hK7 _ _ ?_
    clear hK7
    -- region 6
    refine AWPD.keep [0, 1, 5, 12, 13, 14] rfl ?_
    refine AWPD.region tabOK rfl ?_
    repeat refine And.intro (by first | exact fun h => h | exact fun _ => rfl | (intro h; rw [h]; rfl) | omega | (intros; (try dsimp only [Ty.T, Ty.size]); (try simp only [castL_self, Int.toNat_natCast, Int.toNat_zero, Int.toNat_one, true_and, List.length_append, List.length_set, List.length_drop, List.length_take, List.length_replicate, List.length_cons, List.length_nil, Nat.zero_add, Nat.mul_one]); omega) | decide | (intros; simp_all; done) | (intros; simp_all; omega)) ?_
    refine ⟨n0 - 1, i + 1, [0], by omega, by omega, ⟨by decide, rfl⟩, ⟨rfl, trivial⟩, ?_⟩
    repeat' first | exact True.intro | exact rfl | exact ⟨rfl, rfl⟩ | refine And.intro ?_ ?_
  · try dsimp only [Ty.T] at h0
    try simp only [castL_self] at h0
    try simp only [Int.toNat_natCast] at h0
    try simp only [Int.toNat_zero] at h0
    have hit : i = t.length := by omega
    refine AWPD.exit ?_
    refine hK3 _ _ ?_
    clear hK3
    refine AWPD.seq fun K9 hK9 => ?_
    -- region 7
    refine AWPD.keep [0, 5] rfl ?_
    refine AWPD.region tabOK rfl ?_
    refine hK9 _ _ ?_
    clear hK9
    refine AWPD.seq fun K10 hK10 => ?_
    refine AWPD.seq fun K11 hK11 => ?_
    -- region 8
    refine AWPD.keep [5, 8] rfl ?_
    refine AWPD.region tabOK rfl ?_
    refine Exists.intro _ (Exists.intro _ (And.intro (StepD.rangeC (mapC_ok (q := (75, 66)) (by kernel_rfl)) rfl rfl) (And.intro rfl (And.intro trivial ?_))))
    refine hK11 _ _ ?_
    clear hK11
    refine AWPD.block ?_
    -- LOOP 1 live [8, 30] changed [8]
    subst hit
    refine AWPD.loopK (σ := List Nat × Int) [] (fun z base => (8, .i z.2) :: (30, .ob 0) :: base) (fun z => [.cust (iterR 3 (cntC t hs t.length) z.1)]) (fun n z => n + z.1.length = (cntC t hs t.length).length ∧ MetC t.length (cntC t hs t.length) z) (cntC t hs t.length).length ([], (t.length : Int)) [1] rfl rfl (⟨by simp, MetC.start _ _⟩) (by decide) ⟨rfl, trivial⟩ (by repeat' first | exact True.intro | exact rfl | exact ⟨rfl, rfl⟩ | refine And.intro ?_ ?_) fun n1 z hI1 => ?_
    refine AWPD.seq fun K12 hK12 => ?_
    -- region 9
    refine AWPD.keep [8, 30] rfl ?_
    refine AWPD.nextR (n := 3) (ys := cntC t hs t.length) (seen := z.1) (i := 0) tabOK rfl rfl rfl rfl (fun hall => ?_) (fun j y hy hj => ?_)
    · show EV _ _ _ _ _ _ _ _ _ _
      refine hK12 _ _ ?_
      clear hK12
      refine AWPD.seq fun K13 hK13 => ?_
      first | refine AWPD.cond rfl (fun h1 => ?_) (fun h1 => ?_)
      · try dsimp only [Ty.T] at h1
        try simp only [castL_self] at h1
        try simp only [Int.toNat_natCast] at h1
        try simp only [Int.toNat_zero] at h1
        try (cases h1; done)
        all_goals
          have hfw := hI1.2.few hy hj
          have hI := hI1.1
          refine AWPD.skip ?_
          refine hK13 _ _ ?_
          clear hK13
          refine AWPD.block ?_
          refine AWPD.seq fun K14 hK14 => ?_
          -- region 10
          refine AWPD.keep [8, 30] rfl ?_
          refine AWPD.region tabOK rfl ?_
          refine Exists.intro _ (Exists.intro _ (And.intro (StepD.entryC hy rfl rfl) (And.intro rfl (And.intro trivial ?_))))
          refine hK14 _ _ ?_
          clear hK14
          -- region 11
          refine AWPD.keep [8, 10, 30] rfl ?_
          refine AWPD.region tabOK rfl ?_
          refine ⟨n1 - 1, (z.1 ++ [j], min z.2 y.2), [0], by omega, ⟨by simp; omega, hI1.2.more hy hj⟩, ⟨by decide, rfl⟩, ⟨rfl, trivial⟩, ?_⟩
          repeat' first | (show (if y.2 < z.2 then y.2 else z.2) = min z.2 y.2; split <;> omega) | exact True.intro | exact rfl | exact ⟨rfl, rfl⟩ | refine And.intro ?_ ?_
      · try dsimp only [Ty.T] at h1
        try simp only [castL_self] at h1
        try simp only [Int.toNat_natCast] at h1
        try simp only [Int.toNat_zero] at h1
        try (cases h1; done)
        all_goals
          refine AWPD.exit ?_
          refine hK10 _ _ ?_
          clear hK10
          refine AWPD.seq fun K15 hK15 => ?_
          -- region 12
          refine AWPD.keep [8] rfl ?_
          refine AWPD.region tabOK rfl ?_
          refine hK15 _ _ ?_
          clear hK15
          refine AWPD.ret (And.intro (.inl rfl) ?_)
          -- result 0
          refine RetD.one ?_
          exact fitI rfl (hI1.2.done hall)
    · show EV _ _ _ _ _ _ _ _ _ _
      refine hK12 _ _ ?_
      clear hK12
      refine AWPD.seq fun K16 hK16 => ?_
      first | refine AWPD.cond rfl (fun h1 => ?_) (fun h1 => ?_)
      · try dsimp only [Ty.T] at h1
        try simp only [castL_self] at h1
        try simp only [Int.toNat_natCast] at h1
        try simp only [Int.toNat_zero] at h1
        try (cases h1; done)
        all_goals
          have hfw := hI1.2.few hy hj
          have hI := hI1.1
          refine AWPD.skip ?_
          refine hK16 _ _ ?_
          clear hK16
          refine AWPD.block ?_
          refine AWPD.seq fun K17 hK17 => ?_
          -- region 10
          refine AWPD.keep [8, 30] rfl ?_
          refine AWPD.region tabOK rfl ?_
          refine Exists.intro _ (Exists.intro _ (And.intro (StepD.entryC hy rfl rfl) (And.intro rfl (And.intro trivial ?_))))
          refine hK17 _ _ ?_
          clear hK17
          -- region 11
          refine AWPD.keep [8, 10, 30] rfl ?_
          refine AWPD.region tabOK rfl ?_
          refine ⟨n1 - 1, (z.1 ++ [j], min z.2 y.2), [0], by omega, ⟨by simp; omega, hI1.2.more hy hj⟩, ⟨by decide, rfl⟩, ⟨rfl, trivial⟩, ?_⟩
          repeat' first | (show (if y.2 < z.2 then y.2 else z.2) = min z.2 y.2; split <;> omega) | exact True.intro | exact rfl | exact ⟨rfl, rfl⟩ | refine And.intro ?_ ?_
      · try dsimp only [Ty.T] at h1
        try simp only [castL_self] at h1
        try simp only [Int.toNat_natCast] at h1
        try simp only [Int.toNat_zero] at h1
        try (cases h1; done)
        all_goals
          refine AWPD.exit ?_
          refine hK10 _ _ ?_
          clear hK10
          refine AWPD.seq fun K18 hK18 => ?_
          -- region 12
          refine AWPD.keep [8] rfl ?_
          refine AWPD.region tabOK rfl ?_
          refine hK18 _ _ ?_
          clear hK18
          refine AWPD.ret (And.intro (.inl rfl) ?_)
          -- result 1
          refine RetD.one ?_
          exact fitI rfl (hI1.2.done hall)
theorem Fewest_fn (t : List (List Int)) (hs : List Int) : LiftsD Tryd.prog 26 [.sl (.sl .int) t, .sl .int hs] (.tup [.i (if heightsE t hs = 0 then (fewV t hs : Int) else 0), .er 56 (heightsE t hs)]) := by
  refine LiftsD.of_body 16 [.tmp 4, .tmp 5] Tryd.func26 rfl Tryd.ntmps26 (by kernel_rfl) rfl rfl fun w0 X0 => ?_
  refine AWPD.seq fun K1 hK1 => ?_
  -- region 0
  refine AWPD.keep [0, 1] rfl ?_
  refine AWPD.region tabOK rfl ?_
  refine hK1 _ _ ?_
  clear hK1
  refine AWPD.seq fun K2 hK2 => ?_
  refine AWPD.seq fun K3 hK3 => ?_
  -- region 1
  refine AWPD.keep [0, 1] rfl ?_
  refine AWPD.region tabOK rfl ?_
  refine Exists.intro _ (Exists.intro _ (And.intro (StepD.call (ancheck_fn _ _) rfl rfl rfl) (And.intro rfl (And.intro trivial ?_))))
  refine hK3 _ _ ?_
  clear hK3
  refine AWPD.seq fun K4 hK4 => ?_
  -- region 2
  refine AWPD.keep [0, 1, 6] rfl ?_
  refine AWPD.region tabOK rfl ?_
  refine hK4 _ _ ?_
  clear hK4
  first | refine AWPD.condP rfl (fun h0 => ?_) (fun h0 => ?_) | refine AWPD.condN rfl (fun h0 => ?_) (fun h0 => ?_) | refine AWPD.condAP rfl (fun h0 => ?_) (fun h0 => ?_) | refine AWPD.condOP rfl (fun h0 => ?_) (fun h0 => ?_) | refine AWPD.condONN rfl (fun h0 => ?_) (fun h0 => ?_) | refine AWPD.condOPN rfl (fun h0 => ?_) (fun h0 => ?_) | refine AWPD.condA rfl (fun h0 => ?_) (fun h0 => ?_) | refine AWPD.condO rfl (fun h0 => ?_) (fun h0 => ?_) | refine AWPD.cond rfl (fun h0 => ?_) (fun h0 => ?_)
  · try dsimp only [Ty.T] at h0
    try simp only [castL_self] at h0
    try simp only [Int.toNat_natCast] at h0
    try simp only [Int.toNat_zero] at h0
    have h0 : heightsE t hs ≠ 0 := by simpa using h0
    refine AWPD.seq fun K5 hK5 => ?_
    -- region 3
    refine AWPD.keep [6] rfl ?_
    refine AWPD.region tabOK rfl ?_
    refine hK5 _ _ ?_
    clear hK5
    refine AWPD.ret (And.intro (.inl rfl) ?_)
    -- result 0
    exact ⟨fitI rfl (by rw [if_neg h0]), fitE rfl rfl⟩
  · try dsimp only [Ty.T] at h0
    try simp only [castL_self] at h0
    try simp only [Int.toNat_natCast] at h0
    try simp only [Int.toNat_zero] at h0
    have h0 : heightsE t hs = 0 := by simpa using h0
    have g := heights_good h0
    refine AWPD.skip ?_
    refine hK2 _ _ ?_
    clear hK2
    refine AWPD.seq fun K6 hK6 => ?_
    -- region 4
    refine AWPD.keep [0, 1] rfl ?_
    refine AWPD.region tabOK rfl ?_
    refine Exists.intro _ (Exists.intro _ (And.intro (StepD.call (fewest_fn _ _ (by assumption)) rfl rfl rfl) (And.intro rfl (And.intro trivial ?_))))
    refine hK6 _ _ ?_
    clear hK6
    refine AWPD.ret (And.intro (.inl rfl) ?_)
    -- result 1
    exact ⟨fitI rfl (by rw [if_pos h0]), fitE rfl h0.symm⟩
end Go.Proofs.YtmeacgkhabnjlaaDoor
