/-
  An abstract machine over the model's own code, part F: calls that are handed memory of the caller's own; objects told otherwise (given up, renamed). No program is named here.
-/
import Derived.Test.YtmeacgkhabnjlaaDoorQwE
set_option linter.unusedSimpArgs false
set_option linter.unusedVariables false
set_option linter.unusedSectionVars false
namespace Go.Qw
open Go.RowKit

/-- An argument as the callee reads it: a slice of the caller's own is a slice that is only read. -/
def snapA (H : List Ob) : AV → Option AV
  | .ob i => match H[i]? with
    | some (.row _ size cs) => if AV.frees cs then some (.rd size cs) else none
    | _ => none
  | .op _ _ => none
  | a => if a.free then some a else none
def snapL (H : List Ob) : List AV → Option (List AV)
  | [] => some []
  | a :: l => match snapA H a with
    | some b => match snapL H l with
      | some r => some (b :: r)
      | none => none
    | none => none

mutual
/-- It holds no memory at all. -/
def AV.flat : AV → Bool
  | .v _ => true
  | .tup l => AV.flats l
  | .agg l => AV.flats l
  | .fn _ l => AV.flats l
  | .top => true
  | _ => false
def AV.flats : List AV → Bool
  | [] => true
  | a :: l => AV.flat a && AV.flats l
end
section
variable {ok ok' : Nat → Prop} {w w' : World} {V V' : List Value}
mutual
theorem VRep.flat : ∀ (a : AV) (x : Value), a.flat = true → VRep ok w V a x → VRep ok' w' V' a x
  | .v _, _, _, h => by unfold VRep at h ⊢; exact h
  | .rd _ _, _, hf, _ => by simp [AV.flat] at hf
  | .rp _ _, _, hf, _ => by simp [AV.flat] at hf
  | .ob _, _, hf, _ => by simp [AV.flat] at hf
  | .op _ _, _, hf, _ => by simp [AV.flat] at hf
  | .tup l, _, hf, h => by
    unfold VRep at h ⊢
    obtain ⟨us, h1, h2⟩ := h
    exact ⟨us, h1, VReps.flatV l _ (by simpa [AV.flat] using hf) h2⟩
  | .agg l, _, hf, h => by
    unfold VRep at h ⊢
    obtain ⟨us, h1, h2⟩ := h
    exact ⟨us, h1, VReps.flatV l _ (by simpa [AV.flat] using hf) h2⟩
  | .opt _ _, _, hf, _ => by simp [AV.flat] at hf
  | .top, _, _, _ => by unfold VRep; trivial
  | .fn _ l, _, hf, h => by
    unfold VRep at h ⊢
    obtain ⟨us, h1, h2⟩ := h
    exact ⟨us, h1, VReps.flatV l _ (by simpa [AV.flat] using hf) h2⟩
theorem VReps.flatV : ∀ (l : List AV) (us : List Value), AV.flats l = true → VReps ok w V l us → VReps ok' w' V' l us
  | [], _, _, h => by unfold VReps at h ⊢; exact h
  | a :: l, _, hf, h => by
    simp only [AV.flats, Bool.and_eq_true] at hf
    unfold VReps at h ⊢
    obtain ⟨u, r, h1, h2, h3⟩ := h
    exact ⟨u, r, h1, VRep.flat a u hf.1 h2, VReps.flatV l r hf.2 h3⟩
end
end

section
variable {P : Program} {C : Ctx} {ρ : Operand → Option AV} {H : List Ob} {d : Option Nat} {t : TypeId} {p : String} {af : Array Edge} {g : Option (Nat × Bool)}

theorem own_read {ok ok' : Nat → Prop} {w : World} {V V' : List Value} {x : Value} {f : List Nat} {e : TypeId} {size : Nat} {cs : List AV} (h : ORep ok w V x f (.row e size cs)) (hfree : AV.frees cs = true) (hok : ∀ b, ok b → ok' b) (hf : ∀ b ∈ f, ok' b) : VRep ok' w V' (.rd size cs) x := by
  unfold ORep at h
  obtain ⟨h0, n, us, ho, hl, hr, hfe⟩ := h
  unfold VRep
  refine ⟨h0, ?_⟩
  rcases ho.2 with ⟨rfl, rfl⟩ | ⟨gb, cap, cur, rfl, _, hg, hnc, hcm, hcs, htake⟩
  · refine ⟨none, 0, 0, rfl, hl, Nat.le_refl _, Nat.zero_le _, fun hne => ?_⟩
    exfalso
    apply hne
    apply List.eq_nil_of_length_eq_zero
    rw [hl]; omega
  · exact ⟨_, n, cap, rfl, hl, hnc, hcm, fun _ => ⟨_, us, rfl, hf gb (by rw [hfe]; simp [Value.ownBlock]), ho.cells rfl, (hr.anyV cs us hfree (V' := V')).ext (fun _ _ h => h) fun b hb => ⟨hok b hb, rfl⟩⟩⟩

theorem snapA_rep {V : List Value} {F : List (List Nat)} {w : World} (m : Mem C H V F w) {ok' : Nat → Prop} (hok : ∀ b, okB C w F b → ok' b) (hF : ∀ f ∈ F, ∀ b ∈ f, ok' b) : ∀ {a b : AV} {x : Value}, snapA H a = some b → VRep (okB C w F) w V a x → VRep ok' w [] b x := by
  have plain : ∀ {a b : AV} {x : Value}, (if a.free then some a else none) = some b → VRep (okB C w F) w V a x → VRep ok' w [] b x := fun {a b x} h hr => by
    split at h
    · rename_i hfree
      cases h
      exact (hr.anyV _ _ hfree (V' := [])).ext (fun _ _ h => h) fun b hb => ⟨hok b hb, rfl⟩
    · cases h
  intro a b x h hr
  cases a with
  | ob i =>
    simp only [snapA] at h
    split at h
    · rename_i e size cs hH
      split at h
      · rename_i hfree
        cases h
        obtain ⟨y, f, hy, hf, ho⟩ := m.get hH
        unfold VRep at hr
        rw [hy] at hr
        cases hr
        exact own_read ho hfree hok (hF f (mem_of_get hf))
      · cases h
    · cases h
  | op i c => cases h
  | v u => exact plain (a := .v u) h hr
  | rd n cs => exact plain h hr
  | rp cs c => exact plain h hr
  | tup l => exact plain h hr
  | agg l => exact plain h hr
  | opt c q => exact plain (a := .opt c q) h hr
  | top => exact plain (a := .top) h hr
  | fn f l => exact plain (a := .fn f l) h hr
theorem snapL_rep {V : List Value} {F : List (List Nat)} {w : World} (m : Mem C H V F w) {ok' : Nat → Prop} (hok : ∀ b, okB C w F b → ok' b) (hF : ∀ f ∈ F, ∀ b ∈ f, ok' b) : ∀ {l r : List AV} {us : List Value}, snapL H l = some r → VReps (okB C w F) w V l us → VReps ok' w [] r us
  | [], _, _, h, hr => by cases h; unfold VReps at hr ⊢; exact hr
  | a :: l, r, us, h, hr => by
    simp only [snapL] at h
    cases h1 : snapA H a with
    | none => rw [h1] at h; cases h
    | some b =>
      rw [h1] at h
      simp only at h
      cases h2 : snapL H l with
      | none => rw [h2] at h; cases h
      | some r' =>
        rw [h2] at h
        cases h
        unfold VReps at hr ⊢
        obtain ⟨u, us', rfl, h3, h4⟩ := hr
        exact ⟨u, us', rfl, snapA_rep m hok hF h1 h3, snapL_rep m hok hF h2 h4⟩

/-- A CALL THAT IS HANDED SLICES OF THE CALLER's OWN TO READ, and gives back no memory. -/
theorem VStep.callS {f : FuncId} {args : Array Operand} {ats : Array TypeId} {avs bs : List AV} {r : AV} (hf0 : ρ (.func f) = some (.v (.func (.func f) #[] #[]))) (hargs : evs ρ args.toList = some avs) (hs : snapL H avs = some bs) (hfn : Lifts P f bs [] r []) (hr : r.flat = true) :
    VStep P C ⟨d, .call { callee := .value (.func f), args := args, argTypes := ats }, t, p, af, g⟩ ρ H r H := fun σ w V F m hρ => by
  have hσ : σ (.func f) = .func (.func f) #[] #[] := VRep.v_iff.1 (hρ (.func f) (by simp [Op.operands, Call.operands]) _ hf0)
  obtain ⟨⟨fn, hf, hname, hb⟩, hfn⟩ := hfn
  have hv : VReps (okB C w F) w V avs (args.toList.map σ) := evs_get hargs fun x hx b hb => hρ x (by simp [Op.operands, Call.operands]; exact .inr (by simpa using hx)) b hb
  have hv' : VReps (okB ⟨w, fun b => b < w.heap.size, [], [], 0⟩ w []) w [] bs (args.map σ).toList := by
    rw [Array.toList_map]
    exact snapL_rep m (fun b hb => ⟨.inl hb.2.1, hb.2.1, by simp⟩) (fun f hf b hb => ⟨.inl (m.own f hf b hb).1, (m.own f hf b hb).1, by simp⟩) hs hv
  refine .inr ⟨f, args.map σ, ?_, (hfn w (fun b => b < w.heap.size) [] [] (args.map σ) (Mem.start w _ 0) hv').mono ?_⟩
  · simp only [execOp, resolve, hσ, Deferred.ofValue, invoke, Sem.run_bind, Sem.run_pure, Result.andThen_ok]
    simpa using run_call hf hname hb (args.map σ) w
  · rintro e w' ⟨u, rfl, V', F', m', e', hu⟩
    obtain ⟨m2, e2⟩ := m.more m'.os m'.tape m'.output m'.size (fun b hb => m'.kept b hb (by simp))
    exact ⟨u, rfl, V, F, m2, e2, hu.flat r u hr⟩

/-! ### A call that writes one object of the caller's -/

/-- An argument as the callee has it: object i is its object 0. -/
def renA (i : Nat) : AV → Option AV
  | .ob j => if j = i then some (.ob 0) else none
  | .op j c => if j = i then some (.op 0 c) else none
  | a => if a.free then some a else none
def renL (i : Nat) : List AV → Option (List AV)
  | [] => some []
  | a :: l => match renA i a with
    | some b => match renL i l with
      | some r => some (b :: r)
      | none => none
    | none => none
def Ob.free : Ob → Bool
  | .row _ _ cs => AV.frees cs
  | .box _ cs => AV.frees cs
  | .cust _ => true
  | .dead => true

theorem ORep.anyV {ok : Nat → Prop} {w : World} {V V' : List Value} {x : Value} {f : List Nat} : ∀ (o : Ob), o.free = true → ORep ok w V x f o → ORep ok w V' x f o
  | .row e size cs, hf, h => by
    unfold ORep at h ⊢
    obtain ⟨h0, n, us, ho, hl, hr, he⟩ := h
    exact ⟨h0, n, us, ho, hl, hr.anyV cs us hf, he⟩
  | .box T cs, hf, h => by
    unfold ORep at h ⊢
    obtain ⟨gb, us, hx, hg, hr, he⟩ := h
    exact ⟨gb, us, hx, hg, hr.anyV cs _ hf, he⟩
  | .cust R, _, h => by unfold ORep at h ⊢; exact h
  | .dead, _, h => by unfold ORep at h ⊢; exact h

theorem renA_rep {ok ok' : Nat → Prop} {w : World} {V : List Value} {i : Nat} {y : Value} (hy : V[i]? = some y) (hok : ∀ b, ok b → ok' b) : ∀ {a b : AV} {x : Value}, renA i a = some b → VRep ok w V a x → VRep ok' w [y] b x := by
  have plain : ∀ {a b : AV} {x : Value}, (if a.free then some a else none) = some b → VRep ok w V a x → VRep ok' w [y] b x := fun {a b x} h hr => by
    split at h
    · rename_i hfree
      cases h
      exact (hr.anyV _ _ hfree (V' := [y])).ext (fun _ _ h => h) fun b hb => ⟨hok b hb, rfl⟩
    · cases h
  intro a b x h hr
  cases a with
  | ob j =>
    simp only [renA] at h
    split at h
    · rename_i hj
      subst hj
      cases h
      unfold VRep at hr ⊢
      rw [hy] at hr
      simpa using hr
    · cases h
  | op j c =>
    simp only [renA] at h
    split at h
    · rename_i hj
      subst hj
      cases h
      unfold VRep at hr ⊢
      rw [hy] at hr
      simpa using hr
    · cases h
  | v u => exact plain (a := .v u) h hr
  | rd n cs => exact plain h hr
  | rp cs c => exact plain h hr
  | tup l => exact plain h hr
  | agg l => exact plain h hr
  | opt c q => exact plain (a := .opt c q) h hr
  | top => exact plain (a := .top) h hr
  | fn f l => exact plain (a := .fn f l) h hr
theorem renL_rep {ok ok' : Nat → Prop} {w : World} {V : List Value} {i : Nat} {y : Value} (hy : V[i]? = some y) (hok : ∀ b, ok b → ok' b) : ∀ {l r : List AV} {us : List Value}, renL i l = some r → VReps ok w V l us → VReps ok' w [y] r us
  | [], _, _, h, hr => by cases h; unfold VReps at hr ⊢; exact hr
  | a :: l, r, us, h, hr => by
    simp only [renL] at h
    cases h1 : renA i a with
    | none => rw [h1] at h; cases h
    | some b =>
      rw [h1] at h
      simp only at h
      cases h2 : renL i l with
      | none => rw [h2] at h; cases h
      | some r' =>
        rw [h2] at h
        cases h
        unfold VReps at hr ⊢
        obtain ⟨u, us', rfl, h3, h4⟩ := hr
        exact ⟨u, us', rfl, renA_rep hy hok h1 h3, renL_rep hy hok h2 h4⟩

theorem VStep.callE {f : FuncId} {args : Array Operand} {ats : Array TypeId} {avs bs : List AV} {r : AV} {i : Nat} {o o' : Ob} (hf0 : ρ (.func f) = some (.v (.func (.func f) #[] #[]))) (hargs : evs ρ args.toList = some avs) (hs : renL i avs = some bs) (hH : H[i]? = some o) (hfn : Lifts P f bs [o] r [o']) (hr : r.free = true) (hof : o.free = true) (hof' : o'.free = true) :
    VStep P C ⟨d, .call { callee := .value (.func f), args := args, argTypes := ats }, t, p, af, g⟩ ρ H r (H.set i o') := fun σ w V F m hρ => by
  have hσ : σ (.func f) = .func (.func f) #[] #[] := VRep.v_iff.1 (hρ (.func f) (by simp [Op.operands, Call.operands]) _ hf0)
  obtain ⟨⟨fn, hf, hname, hb⟩, hfn⟩ := hfn
  obtain ⟨y, fp, hy, hfp, ho⟩ := m.get hH
  have hv : VReps (okB C w F) w V avs (args.toList.map σ) := evs_get hargs fun x hx b hb => hρ x (by simp [Op.operands, Call.operands]; exact .inr (by simpa using hx)) b hb
  have hokb : ∀ b, okB C w F b → okB ⟨w, okB C w F, [fp].flatten, [y], 0⟩ w [fp] b := fun b hb => ⟨.inl hb, hb.2.1, fun q hq hbq => by simp at hq; subst hq; exact hb.2.2 _ (mem_of_get hfp) hbq⟩
  have hv' : VReps (okB ⟨w, okB C w F, [fp].flatten, [y], 0⟩ w [fp]) w [y] bs (args.map σ).toList := by
    rw [Array.toList_map]
    exact renL_rep hy hokb hs hv
  have m0 : Mem ⟨w, okB C w F, [fp].flatten, [y], 0⟩ [o] [y] [fp] w :=
    ⟨rfl, rfl, rfl, Nat.le_refl _, fun _ _ _ => rfl, rfl, rfl, fun j o1 x q h1 h2 h3 => by
      cases j with
      | zero =>
        simp at h1 h2 h3
        subst h1 h2 h3
        exact (ho.anyV o hof (V' := [y])).ext (fun _ _ h => h) (fun b hb => ⟨hokb b hb, rfl⟩) (fun _ _ => rfl) o
      | succ j => simp at h1, fun j x h => by
      cases j with
      | zero => simp at h; subst h; exact m.one _ _ hy
      | succ j => simp at h, fun a b q q' c h1 h2 _ _ => by
      have h3 := (List.getElem?_eq_some_iff.1 h1).1
      have h4 := (List.getElem?_eq_some_iff.1 h2).1
      simp at h3 h4
      omega, fun q hq b hb => by
      simp at hq
      subst hq
      exact ⟨(m.own q (mem_of_get hfp) b hb).1, .inl (by simpa using hb)⟩, fun _ _ h => h⟩
  refine .inr ⟨f, args.map σ, ?_, (hfn w (okB C w F) [y] [fp] (args.map σ) m0 hv').mono ?_⟩
  · simp only [execOp, resolve, hσ, Deferred.ofValue, invoke, Sem.run_bind, Sem.run_pure, Result.andThen_ok]
    simpa using run_call hf hname hb (args.map σ) w
  · rintro e w' ⟨u, rfl, V', F', m', e', hu⟩
    have hV1 : V' = [y] := by
      have h1 : V'.length = 1 := m'.lenV
      have h2 := m'.car 0 y (by simp)
      match V', h1, h2 with
      | [z], _, h2 => simp at h2; rw [h2]
    subst hV1
    have hF1 : ∃ fp', F' = [fp'] := by
      have h1 : F'.length = 1 := m'.lenF
      match F', h1 with
      | [q], _ => exact ⟨q, rfl⟩
    obtain ⟨fp', rfl⟩ := hF1
    have ho' := m'.obs 0 o' y fp' (by simp) (by simp) (by simp)
    have hown' : ∀ b ∈ fp', b < w'.heap.size ∧ (b ∈ fp ∨ w.heap.size ≤ b) := fun b hb => by
      have := m'.own fp' (by simp) b hb
      exact ⟨this.1, this.2.imp (fun h => by simpa using h) id⟩
    have hoks : ∀ b, okB ⟨w, okB C w F, [fp].flatten, [y], 0⟩ w' [fp'] b → okB C w' (F.set i fp') b := by
      intro b ⟨h1, h2, h3⟩
      refine ⟨?_, h2, fun q hq hbq => ?_⟩
      · rcases h1 with h1 | h1
        · exact h1.1
        · have hle : w.heap.size ≤ b := h1
          exact .inr (Nat.le_trans m.size hle)
      · obtain ⟨j, hj⟩ := List.getElem?_of_mem hq
        rw [List.getElem?_set] at hj
        split at hj
        · split at hj
          · cases hj; exact h3 _ (by simp) hbq
          · cases hj
        · rcases h1 with h1 | h1
          · exact h1.2.2 q (mem_of_get hj) hbq
          · have hle : w.heap.size ≤ b := h1
            have := (m.own q (mem_of_get hj) b hbq).1
            omega
    obtain ⟨m2, e2⟩ := m.set (w' := w') i o' fp fp' y hy hfp m'.os m'.tape m'.output m'.size (fun b hbl hbf => m'.kept b hbl (by simpa using hbf)) hown'
      (fun _ => (ho'.anyV o' hof' (V' := V)).ext (fun _ _ h => h) (fun b hb => ⟨hoks b hb, rfl⟩) (fun _ _ => rfl) o')
    exact ⟨u, rfl, V, F.set i fp', m2, e2, (hu.anyV r u hr (V' := V)).ext (fun _ _ h => h) fun b hb => ⟨hoks b hb, rfl⟩⟩

/-! ### Objects given up, objects renamed -/

/-- What was owned is only read from now on: the slot 'a' that held it holds a slice that is read. -/
theorem Conv.freeze {fr : Fr} {a i : Nat} {e : TypeId} {size : Nat} {cs : List AV} (hC : C.F0 = []) (h : look fr a = some (.ob i)) (hH : H[i]? = some (.row e size cs)) (hfree : AV.frees cs = true) : Conv C ⟨fr, H⟩ ⟨(a, .rd size cs) :: fr, H.set i .dead⟩ := by
  rintro rd ac w ⟨V, F, m, hd, hsz, hf⟩
  obtain ⟨y, fp, hy, hfp, ho⟩ := m.get hH
  obtain ⟨m', e'⟩ := m.set (w' := w) i .dead fp [] y hy hfp rfl rfl rfl (Nat.le_refl _) (fun _ _ _ => rfl) (fun b hb => by simp at hb) (fun _ => rfl)
  refine ⟨_, _, m', hd.ext e', hsz, fun t av ht => ?_⟩
  rw [look_cons] at ht
  by_cases hat : a = t
  · subst hat
    rw [if_pos rfl] at ht
    cases ht
    obtain ⟨x, hx, hr⟩ := hf _ _ h
    unfold VRep at hr
    rw [hy] at hr
    cases hr
    refine ⟨_, hx, own_read ho hfree (fun b hb => (e'.blk b hb).1) fun b hb => ?_⟩
    refine ⟨?_, (m.own fp (mem_of_get hfp) b hb).1, fun q hq hbq => ?_⟩
    · rcases (m.own fp (mem_of_get hfp) b hb).2 with h1 | h1
      · rw [hC] at h1; simp at h1
      · exact .inr h1
    · obtain ⟨j, hj⟩ := List.getElem?_of_mem hq
      rw [List.getElem?_set] at hj
      split at hj
      · split at hj
        · cases hj; simp at hbq
        · cases hj
      · rename_i hij
        exact hij (m.apart i j fp q b hfp hj hb hbq)
  · rw [if_neg hat] at ht
    exact (hf.ext e') t av ht

theorem box_read {ok ok' : Nat → Prop} {w : World} {V V' : List Value} {x y : Value} {f : List Nat} {T : TypeId} {cs : List AV} (h : ORep ok w V y f (.box T cs)) (hfree : AV.frees cs = true) (hok : ∀ b, ok b → ok' b) (hf : ∀ b ∈ f, ok' b) {ad : Addr} (hb : baseOf y = some ad) (hx : x = .pointer (some (ad.add 0))) : VRep ok' w V' (.rp cs 0) x := by
  obtain ⟨us, hus, hcell⟩ := box_cells h hb
  unfold ORep at h
  obtain ⟨g, us2, rfl, hg, hr, rfl⟩ := h
  unfold VRep
  refine ⟨ad, us, hx, ?_, hcell, (hus.anyV cs us hfree (V' := V')).ext (fun _ _ h => h) fun b hb => ⟨hok b hb, rfl⟩⟩
  simp [baseOf] at hb
  subst hb
  exact hf g (by simp)
theorem Conv.freezeB {fr : Fr} {a i : Nat} {T : TypeId} {cs : List AV} (hC : C.F0 = []) (h : look fr a = some (.op i 0)) (hH : H[i]? = some (.box T cs)) (hfree : AV.frees cs = true) : Conv C ⟨fr, H⟩ ⟨(a, .rp cs 0) :: fr, H.set i .dead⟩ := by
  rintro rd ac w ⟨V, F, m, hd, hsz, hf⟩
  obtain ⟨y, fp, hy, hfp, ho⟩ := m.get hH
  obtain ⟨m', e'⟩ := m.set (w' := w) i .dead fp [] y hy hfp rfl rfl rfl (Nat.le_refl _) (fun _ _ _ => rfl) (fun b hb => by simp at hb) (fun _ => rfl)
  refine ⟨_, _, m', hd.ext e', hsz, fun t av ht => ?_⟩
  rw [look_cons] at ht
  by_cases hat : a = t
  · subst hat
    rw [if_pos rfl] at ht
    cases ht
    obtain ⟨x, hx, hr⟩ := hf _ _ h
    unfold VRep at hr
    obtain ⟨ad, hb, hxx⟩ := hr
    rw [hy] at hb
    refine ⟨_, hx, box_read ho hfree (fun b hb => (e'.blk b hb).1) (fun b hb => ?_) hb hxx⟩
    refine ⟨?_, (m.own fp (mem_of_get hfp) b hb).1, fun q hq hbq => ?_⟩
    · rcases (m.own fp (mem_of_get hfp) b hb).2 with h1 | h1
      · rw [hC] at h1; simp at h1
      · exact .inr h1
    · obtain ⟨j, hj⟩ := List.getElem?_of_mem hq
      rw [List.getElem?_set] at hj
      split at hj
      · split at hj
        · cases hj; simp at hbq
        · cases hj
      · rename_i hij
        exact hij (m.apart i j fp q b hfp hj hb hbq)
  · rw [if_neg hat] at ht
    exact (hf.ext e') t av ht

/-- A frame over renamed objects: the new object k is the old object 'ren[k]'. -/
def subR (ren : List Nat) (fr : Fr) : Fr → Prop
  | [] => True
  | (t, .ob k) :: r => (∃ j, ren[k]? = some j ∧ look fr t = some (.ob j)) ∧ subR ren fr r
  | (t, .op k c) :: r => (∃ j, ren[k]? = some j ∧ look fr t = some (.op j c)) ∧ subR ren fr r
  | (t, .rp [.ob k] c) :: r => (∃ j, ren[k]? = some j ∧ look fr t = some (.rp [.ob j] c)) ∧ subR ren fr r
  | (t, a) :: r => (a.free = true ∧ look fr t = some a) ∧ subR ren fr r
theorem subR_rp {ren : List Nat} {fr : Fr} {t : Nat} {cs : List AV} {c : Nat} {r : Fr} (h : ∀ k, cs ≠ [.ob k]) : subR ren fr ((t, .rp cs c) :: r) = (((AV.rp cs c).free = true ∧ look fr t = some (.rp cs c)) ∧ subR ren fr r) := by
  cases cs with
  | nil => rfl
  | cons a l =>
    cases l with
    | nil => cases a <;> first | rfl | exact absurd rfl (h _)
    | cons b l => cases a <;> rfl
theorem subR_tail {ren : List Nat} {fr : Fr} {q : Nat × AV} {r : Fr} (h : subR ren fr (q :: r)) : subR ren fr r := by
  obtain ⟨t, a⟩ := q
  cases a with
  | rp cs c =>
    by_cases hc : ∃ k, cs = [.ob k]
    · obtain ⟨k, rfl⟩ := hc; exact h.2
    · rw [subR_rp (fun k e => hc ⟨k, e⟩)] at h; exact h.2
  | _ => exact h.2
def subH (H : List Ob) : List Nat → List Ob → Prop
  | [], [] => True
  | j :: ren, o :: H' => (H[j]? = some o ∧ o.free = true) ∧ subH H ren H'
  | _, _ => False
theorem subH.len {H : List Ob} : ∀ {ren : List Nat} {H' : List Ob}, subH H ren H' → H'.length = ren.length
  | [], [], _ => rfl
  | _ :: ren, _ :: H', h => by simp [subH.len h.2]
  | [], _ :: _, h => h.elim
  | _ :: _, [], h => h.elim
theorem subH.get {H : List Ob} : ∀ {ren : List Nat} {H' : List Ob}, subH H ren H' → ∀ (k j : Nat), ren[k]? = some j → ∃ o, H'[k]? = some o ∧ H[j]? = some o ∧ o.free = true
  | [], _, _, k, j, hk => by simp at hk
  | i :: ren, [], h, _, _, _ => h.elim
  | i :: ren, o :: H', h, k, j, hk => by
    cases k with
    | zero => simp at hk; subst hk; exact ⟨o, by simp, h.1.1, h.1.2⟩
    | succ k =>
      simp at hk
      obtain ⟨o', h1, h2, h3⟩ := subH.get h.2 k j hk
      exact ⟨o', by simpa using h1, h2, h3⟩

/-- The object that came in stays the first one. -/
def carN : Nat → List Value → List Nat → Bool
  | _, [], _ => true
  | k, _ :: V, j :: r => Nat.beq j k && carN (k + 1) V r
  | _, _ :: _, [] => false
def carB (V0 : List Value) (ren : List Nat) : Bool := carN 0 V0 ren
theorem carN_get : ∀ {V0 : List Value} {k : Nat} {ren : List Nat}, carN k V0 ren = true → ∀ (i : Nat) (x : Value), V0[i]? = some x → ren[i]? = some (k + i)
  | [], _, _, _, i, x, hx => by simp at hx
  | _ :: V, k, [], h, _, _, _ => by cases h
  | _ :: V, k, j :: r, h, i, x, hx => by
    simp only [carN, Bool.and_eq_true] at h
    cases i with
    | zero => simp [Nat.eq_of_beq_eq_true h.1]
    | succ i =>
      have := carN_get h.2 i x (by simpa using hx)
      simp only [List.getElem?_cons_succ, this]
      congr 1; omega
theorem carB_get {V0 : List Value} {ren : List Nat} (h : carB V0 ren = true) (i : Nat) (x : Value) (hx : V0[i]? = some x) : ren[i]? = some i := by
  have := carN_get h i x hx
  rwa [Nat.zero_add] at this
theorem Conv.ren {fr fr' : Fr} {H' : List Ob} (ren : List Nat) (hC : carB C.V0 ren = true) (hnd : ren.Nodup) (hH : subH H ren H') (hF : subR ren fr fr') : Conv C ⟨fr, H⟩ ⟨fr', H'⟩ := by
  rintro rd a w ⟨V, F, m, hd, hsz, hf⟩
  have hlt : ∀ (k j : Nat), ren[k]? = some j → j < H.length := fun k j hk => by
    obtain ⟨o, _, h2, _⟩ := hH.get k j hk
    exact (List.getElem?_eq_some_iff.1 h2).1
  let V' := ren.map fun j => V.getD j undef
  let F' := ren.map fun j => F.getD j []
  have hVg : ∀ (k j : Nat), ren[k]? = some j → V'[k]? = V[j]? := fun k j hk => by
    have h1 : j < V.length := by rw [m.lenV]; exact hlt k j hk
    simp [V', hk, h1]
  have hFg : ∀ (k j : Nat), ren[k]? = some j → F'[k]? = F[j]? := fun k j hk => by
    have h1 : j < F.length := by rw [m.lenF]; exact hlt k j hk
    simp [F', hk, h1]
  have hren : ∀ (k : Nat) (x : List Nat), F'[k]? = some x → ∃ j, ren[k]? = some j ∧ F[j]? = some x := fun k x hk => by
    have hkl : k < ren.length := by have := (List.getElem?_eq_some_iff.1 hk).1; simpa [F'] using this
    have h1 : ren[k]? = some ren[k] := List.getElem?_eq_getElem hkl
    exact ⟨_, h1, by rw [← hFg k _ h1]; exact hk⟩
  have hok : ∀ b, okB C w F b → okB C w F' b := fun b hb => ⟨hb.1, hb.2.1, fun f hf hbf => by
    obtain ⟨k, hk⟩ := List.getElem?_of_mem hf
    obtain ⟨j, _, hj⟩ := hren k f hk
    exact hb.2.2 f (mem_of_get hj) hbf⟩
  have rep : ∀ {av : AV} {x : Value}, av.free = true → VRep (okB C w F) w V av x → VRep (okB C w F') w V' av x := fun hfree hr => (hr.anyV _ _ hfree (V' := V')).ext (fun _ _ h => h) fun b hb => ⟨hok b hb, rfl⟩
  refine ⟨V', F', ⟨m.os, m.tape, m.output, m.size, m.kept, by simp [V', hH.len], by simp [F', hH.len], fun k o x f h1 h2 h3 => ?_, fun k x hx => ?_, fun p q f g b h1 h2 h3 h4 => ?_, fun f hf b hb => ?_, fun i x h => by rw [hVg i i (carB_get hC i x h)]; exact m.car i x h⟩, hd.sub (fun f' hf' b hb => by
    obtain ⟨k, hk⟩ := List.getElem?_of_mem hf'
    obtain ⟨j, _, hj⟩ := hren k f' hk
    exact ⟨f', mem_of_get hj, hb⟩), hsz, ?_⟩
  · obtain ⟨j, hj, hFj⟩ := hren k f h3
    obtain ⟨o', h4, h5, h6⟩ := hH.get k j hj
    rw [h1] at h4
    cases h4
    rw [hVg k j hj] at h2
    exact ((m.obs j o x f h5 h2 hFj).anyV o h6 (V' := V')).ext (fun _ _ h => h) (fun b hb => ⟨hok b hb, rfl⟩) (fun _ _ => rfl) o
  · have hkl : k < ren.length := by have := (List.getElem?_eq_some_iff.1 hx).1; simpa [V'] using this
    rw [hVg k _ (List.getElem?_eq_getElem hkl)] at hx
    exact m.one _ x hx
  · obtain ⟨i, hi, hFi⟩ := hren p f h1
    obtain ⟨j, hj, hFj⟩ := hren q g h2
    have hij := m.apart i j f g b hFi hFj h3 h4
    subst hij
    have e1 := (List.getElem?_eq_some_iff.1 hi)
    have e2 := (List.getElem?_eq_some_iff.1 hj)
    obtain ⟨l1, g1⟩ := e1
    obtain ⟨l2, g2⟩ := e2
    have hp := List.pairwise_iff_getElem.1 hnd
    rcases Nat.lt_trichotomy p q with h | h | h
    · exact absurd (g1.trans g2.symm) (hp p q l1 l2 h)
    · exact h
    · exact absurd (g2.trans g1.symm) (hp q p l2 l1 h)
  · obtain ⟨k, hk⟩ := List.getElem?_of_mem hf
    obtain ⟨j, _, hj⟩ := hren k f hk
    exact m.own f (mem_of_get hj) b hb
  · have go : ∀ (fr' : Fr), subR ren fr fr' → Frm C fr' V' F' a w := by
      intro fr'
      induction fr' with
      | nil => intro _ t av ht; cases ht
      | cons q r ih =>
        obtain ⟨t0, a0⟩ := q
        intro hs t av ht
        rw [look_cons] at ht
        by_cases h0 : t0 = t
        · subst h0
          rw [if_pos rfl] at ht
          cases ht
          cases a0 with
          | ob k =>
            simp only [subR] at hs
            obtain ⟨⟨j, hj, hl⟩, _⟩ := hs
            obtain ⟨x, hx, hr⟩ := hf _ _ hl
            refine ⟨x, hx, ?_⟩
            unfold VRep at hr ⊢
            rw [hVg k j hj]; exact hr
          | op k c =>
            simp only [subR] at hs
            obtain ⟨⟨j, hj, hl⟩, _⟩ := hs
            obtain ⟨x, hx, hr⟩ := hf _ _ hl
            refine ⟨x, hx, ?_⟩
            unfold VRep at hr ⊢
            rw [hVg k j hj]; exact hr
          | v u => simp only [subR] at hs; obtain ⟨x, hx, hr⟩ := hf _ _ hs.1.2; exact ⟨x, hx, rep hs.1.1 hr⟩
          | rd n cs => simp only [subR] at hs; obtain ⟨x, hx, hr⟩ := hf _ _ hs.1.2; exact ⟨x, hx, rep hs.1.1 hr⟩
          | rp cs c =>
            by_cases hc : ∃ k, cs = [.ob k]
            · obtain ⟨k, rfl⟩ := hc
              simp only [subR] at hs
              obtain ⟨⟨j, hj, hl⟩, _⟩ := hs
              obtain ⟨x, hx, hr⟩ := hf _ _ hl
              refine ⟨x, hx, ?_⟩
              unfold VRep at hr ⊢
              obtain ⟨ad, us, h1, h2, h3, h4⟩ := hr
              refine ⟨ad, us, h1, hok _ h2, h3, ?_⟩
              unfold VReps at h4 ⊢
              obtain ⟨u, rest, e1, e2, e3⟩ := h4
              refine ⟨u, rest, e1, ?_, by unfold VReps at e3 ⊢; exact e3⟩
              unfold VRep at e2 ⊢
              rw [hVg k j hj]; exact e2
            · rw [subR_rp (fun k e => hc ⟨k, e⟩)] at hs
              obtain ⟨x, hx, hr⟩ := hf _ _ hs.1.2; exact ⟨x, hx, rep hs.1.1 hr⟩
          | tup l => simp only [subR] at hs; obtain ⟨x, hx, hr⟩ := hf _ _ hs.1.2; exact ⟨x, hx, rep hs.1.1 hr⟩
          | opt c q => simp only [subR] at hs; obtain ⟨x, hx, hr⟩ := hf _ _ hs.1.2; exact ⟨x, hx, rep hs.1.1 hr⟩
          | agg l => simp only [subR] at hs; obtain ⟨x, hx, hr⟩ := hf _ _ hs.1.2; exact ⟨x, hx, rep hs.1.1 hr⟩
          | top => simp only [subR] at hs; obtain ⟨x, hx, hr⟩ := hf _ _ hs.1.2; exact ⟨x, hx, rep hs.1.1 hr⟩
          | fn _ _ => simp only [subR] at hs; obtain ⟨x, hx, hr⟩ := hf _ _ hs.1.2; exact ⟨x, hx, rep hs.1.1 hr⟩
        · rw [if_neg h0] at ht
          exact ih (subR_tail hs) t av ht
    exact go fr' hF

/-! ### What Lean computes of lists -/

theorem frees_append : ∀ (l r : List AV), AV.frees (l ++ r) = (AV.frees l && AV.frees r)
  | [], r => by simp [AV.frees]
  | a :: l, r => by simp [AV.frees, frees_append l r, Bool.and_assoc]
theorem frees_flatMap {α : Type} {gg : α → List AV} (h : ∀ x, AV.frees (gg x) = true) : ∀ xs : List α, AV.frees (xs.flatMap gg) = true
  | [] => rfl
  | x :: xs => by rw [List.flatMap_cons, frees_append, h, frees_flatMap h xs]; rfl
theorem cells1_flatMap {α : Type} {gg : α → List AV} (h : ∀ x, AV.cells1 (gg x) = true) : ∀ xs : List α, AV.cells1 (xs.flatMap gg) = true
  | [] => rfl
  | x :: xs => by
    have h1 := h x
    have h2 := cells1_flatMap h xs
    simp only [AV.cells1] at *
    rw [List.flatMap_cons, List.all_append, h1, h2]; rfl
end
end Go.Qw
