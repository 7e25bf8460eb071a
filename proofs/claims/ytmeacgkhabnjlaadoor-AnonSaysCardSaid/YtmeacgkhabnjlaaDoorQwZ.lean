/-
  An abstract machine over the model's own code, part Z: a range over a function whose rounds do not leave early ('for i := range core.Bits(set)'). No program is named here.
-/
import Derived.Test.YtmeacgkhabnjlaaDoorQwW
import Derived.RangeFuncNested
set_option linter.unusedSimpArgs false
set_option linter.unusedVariables false
set_option linter.unusedSectionVars false
namespace Go.Qw
open Go.RowKit

/-- A word on the world that holds wherever the call may come. -/
def CtxG (G : World → Prop) (C : Ctx) : Prop := ∀ (H : List Ob) (V : List Value) (F : List (List Nat)) (w : World), Mem C H V F w → G w
theorem CtxG.start {G : World → Prop} (hst : StaysG G) {C : Ctx} (hF0 : C.F0 = []) (hG : G C.w0) : CtxG G C := fun _ _ _ _ m => m.stillG hst hF0 hG
theorem CtxG.weaken {G G' : World → Prop} {C : Ctx} (h : CtxG G C) (hw : ∀ w, G w → G' w) : CtxG G' C := fun _ _ _ _ m => hw _ (h _ _ _ _ m)

/-- A CONTEXT WITHIN: what is owned is pinned, what is read is what may be read now. -/
def subC (C : Ctx) (w : World) (V : List Value) (F : List (List Nat)) : Ctx := ⟨w, fun b => okB C w F b ∨ b ∈ F.flatten, F.flatten, V, C.N⟩
/-- What the walk of a round may lean on: the word on the world, and that what it owns it may give up. -/
def CtxR (G : World → Prop) (C : Ctx) : Prop := CtxG G C ∧ ∀ b ∈ C.F0, C.X0 b
theorem CtxR.start {G : World → Prop} (hst : StaysG G) {C : Ctx} (hF0 : C.F0 = []) (hG : G C.w0) : CtxR G C := ⟨CtxG.start hst hF0 hG, by rw [hF0]; simp⟩

section
variable {P : Program} {C : Ctx} {H H' : List Ob} {V V' : List Value} {F F' : List (List Nat)} {w w' : World}

theorem okB_enter {b : Nat} (h : okB C w F b) : okB (subC C w V F) w F b := ⟨.inl (.inl h), h.2.1, h.2.2⟩
theorem Mem.enter (m : Mem C H V F w) : Mem (subC C w V F) H V F w :=
  ⟨rfl, rfl, rfl, Nat.le_refl _, fun _ _ _ => rfl, m.lenV, m.lenF, fun i o x f h1 h2 h3 => (m.obs i o x f h1 h2 h3).ext (fun _ _ h => h) (fun b hb => ⟨okB_enter hb, rfl⟩) (fun _ _ => rfl) o, m.one, m.apart,
   fun f hf b hb => ⟨(m.own f hf b hb).1, .inl (List.mem_flatten.2 ⟨f, hf, hb⟩)⟩, fun _ _ h => h⟩
theorem okB_leave (ho : ∀ b ∈ C.F0, C.X0 b) (m : Mem C H V F w) {b : Nat} (h : okB (subC C w V F) w' F' b) : okB C w' F' b := by
  obtain ⟨h1, h2, h3⟩ := h
  refine ⟨?_, h2, h3⟩
  rcases h1 with (h1 | h1) | h1
  · exact h1.1
  · obtain ⟨f, hf, hbf⟩ := List.mem_flatten.1 h1
    rcases (m.own f hf b hbf).2 with h | h
    · exact .inl (ho b h)
    · exact .inr h
  · have hle : w.heap.size ≤ b := h1
    exact .inr (Nat.le_trans m.size hle)
theorem Mem.leave (ho : ∀ b ∈ C.F0, C.X0 b) (m : Mem C H V F w) (m' : Mem (subC C w V F) H' V' F' w') : Mem C H' V' F' w' ∧ Ext C V F w V' F' w' := by
  have hsz : w.heap.size ≤ w'.heap.size := m'.size
  have nfl : ∀ b, okB C w F b → b ∉ F.flatten := fun b hb hm => by
    obtain ⟨f, hf, hbf⟩ := List.mem_flatten.1 hm
    exact hb.2.2 f hf hbf
  refine ⟨⟨m'.os.trans m.os, m'.tape.trans m.tape, m'.output.trans m.output, Nat.le_trans m.size hsz, fun b hb hn => ?_, m'.lenV, m'.lenF, fun i o x f h1 h2 h3 => (m'.obs i o x f h1 h2 h3).ext (fun _ _ h => h) (fun b hb => ⟨okB_leave ho m hb, rfl⟩) (fun _ _ => rfl) o, m'.one, m'.apart, fun f hf b hb => ?_, fun i x h => m'.car i x (m.car i x h)⟩,
    ⟨fun i x h => m'.car i x h, fun b hb => ⟨⟨hb.1, Nat.lt_of_lt_of_le hb.2.1 hsz, fun f' hf' hbf => ?_⟩, m'.kept b hb.2.1 (nfl b hb)⟩⟩⟩
  · refine (m'.kept b (Nat.lt_of_lt_of_le hb m.size) fun hm => ?_).trans (m.kept b hb hn)
    obtain ⟨f, hf, hbf⟩ := List.mem_flatten.1 hm
    rcases (m.own f hf b hbf).2 with h | h
    · exact hn h
    · omega
  · have h := m'.own f hf b hb
    refine ⟨h.1, ?_⟩
    rcases h.2 with h | h
    · obtain ⟨f0, hf0, hbf⟩ := List.mem_flatten.1 h
      exact (m.own f0 hf0 b hbf).2
    · have hle : w.heap.size ≤ b := h
      exact .inr (Nat.le_trans m.size hle)
  · rcases (m'.own f' hf' b hbf).2 with h | h
    · exact nfl b hb h
    · have hle : w.heap.size ≤ b := h
      have := hb.2.1
      omega
theorem CtxR.sub {G : World → Prop} (h : CtxR G C) (m : Mem C H V F w) : CtxR G (subC C w V F) := ⟨fun _ _ _ _ m' => h.1 _ _ _ _ (m.leave h.2 m').1, fun _ hb => .inr hb⟩

/-! ### The loop's record is turned -/

theorem cell_putL {l : Nat} {r r' : Loop} (h : w.heap[l]? = some (.loop r)) (a : Addr) : (w.putObj l (.loop r')).cell? a = w.cell? a := by
  unfold World.cell?
  by_cases hb : a.block = l
  · rw [hb, h, World.putObj_heap_same (Array.getElem?_eq_some_iff.1 h).1]
  · rw [World.putObj_heap_other hb]
theorem okB_put {l : Nat} {o : Obj} {b : Nat} (h : okB C w F b) : okB C (w.putObj l o) F b := ⟨h.1, by rw [World.putObj_size]; exact h.2.1, h.2.2⟩
theorem Mem.turnL (m : Mem C H V F w) {l : Nat} {r : Loop} (r' : Loop) (h0 : C.w0.heap.size ≤ l) (hok : okB C w F l) (h : w.heap[l]? = some (.loop r)) : Mem C H V F (w.putObj l (.loop r')) := by
  have hb : ∀ b, okB C w F b → okB C (w.putObj l (.loop r')) F b ∧ ∀ a : Addr, a.block = b → (w.putObj l (.loop r')).cell? a = w.cell? a := fun b hb => ⟨okB_put hb, fun a _ => cell_putL h a⟩
  refine ⟨m.os, m.tape, m.output, by rw [World.putObj_size]; exact m.size, fun b hb hn => ?_, m.lenV, m.lenF, fun i o x f h1 h2 h3 => ?_, m.one, m.apart, fun f hf b hb => by rw [World.putObj_size]; exact m.own f hf b hb, m.car⟩
  · rw [World.putObj_heap_other (by omega)]; exact m.kept b hb hn
  · refine (m.obs i o x f h1 h2 h3).extC (fun _ _ h => h) hb (fun b hbf => ?_) o
    rw [World.putObj_heap_other]
    intro e
    subst e
    exact hok.2.2 f (mem_of_get h3) hbf

/-- WHAT IS READ STAYS, but for the loop's record. -/
structure KeepL (C : Ctx) (F : List (List Nat)) (w : World) (F' : List (List Nat)) (w' : World) (l : Nat) : Prop where
  ok : ∀ b, okB C w F b → okB C w' F' b
  same : ∀ b, okB C w F b → b ≠ l → w'.heap[b]? = w.heap[b]?
  cell : ∀ b, okB C w F b → ∀ a : Addr, a.block = b → w'.cell? a = w.cell? a
theorem KeepL.trans {F'' : List (List Nat)} {w'' : World} {l : Nat} (h : KeepL C F w F' w' l) (k : KeepL C F' w' F'' w'' l) : KeepL C F w F'' w'' l :=
  ⟨fun b hb => k.ok b (h.ok b hb), fun b hb hn => (k.same b (h.ok b hb) hn).trans (h.same b hb hn), fun b hb a ha => (k.cell b (h.ok b hb) a ha).trans (h.cell b hb a ha)⟩
theorem KeepL.of_ext {l : Nat} (h : Ext C V F w V' F' w') : KeepL C F w F' w' l :=
  ⟨fun b hb => (h.blk b hb).1, fun b hb _ => (h.blk b hb).2, fun b hb a ha => World.cell?_of_block (by rw [ha]; exact (h.blk b hb).2)⟩
theorem KeepL.turn {l : Nat} {r r' : Loop} (h : w.heap[l]? = some (.loop r)) : KeepL C F w F (w.putObj l (.loop r')) l :=
  ⟨fun _ hb => okB_put hb, fun _ _ hn => World.putObj_heap_other hn, fun _ _ a _ => cell_putL h a⟩
theorem KeepL.sub {l : Nat} (h : ∀ b, okB C w F b → okB C w F' b) : KeepL C F w F' w l := ⟨h, fun _ _ _ => rfl, fun _ _ _ _ => rfl⟩
theorem KeepL.frm {l : Nat} {fr : Fr} {a : Act} (k : KeepL C F w F' w' l) (h : Frm C fr V F a w) : Frm C fr V F' a w' := fun t av ht =>
  let ⟨x, hx, hr⟩ := h t av ht
  ⟨x, hx, hr.extC (fun _ _ h => h) (fun b hb => ⟨k.ok b hb, k.cell b hb⟩) av x⟩
theorem KeepL.def {rd : Option Nat} {l : Nat} {ds : List Deferred} (k : KeepL C F w F' w' l) (hl : ∃ r, w.heap[l]? = some (.loop r)) (hl' : ∃ r, w'.heap[l]? = some (.loop r)) (h : DefOK rd C F ds w) : DefOK rd C F' ds w' := by
  obtain ⟨⟨Ds, h1, h2, h3⟩, h4⟩ := h
  refine ⟨⟨Ds, h1, h2, fun D hD => ?_⟩, fun q hq => ?_⟩
  · obtain ⟨a, b, c⟩ := h3 D hD
    have hne : D ≠ l := fun e => by obtain ⟨r, hr⟩ := hl; rw [e, hr] at c; cases c
    exact ⟨a, k.ok D b, (k.same D b hne).trans c⟩
  · obtain ⟨e, a, r, b⟩ := h4 q hq
    refine ⟨e, k.ok q a, ?_⟩
    by_cases hne : q = l
    · subst hne; exact hl'
    · exact ⟨r, (k.same q a hne).trans b⟩

/-- Objects given up, renamed. -/
theorem Mem.ren (m : Mem C H V F w) (ren : List Nat) (hcar : ∀ (i : Nat) (x : Value), C.V0[i]? = some x → ren[i]? = some i) (hnd : ren.Nodup) (hH : subH H ren H') :
    Mem C H' (ren.map fun j => V.getD j undef) (ren.map fun j => F.getD j []) w ∧ ∀ b, okB C w F b → okB C w (ren.map fun j => F.getD j []) b := by
  have hlt : ∀ (k j : Nat), ren[k]? = some j → j < H.length := fun k j hk => by
    obtain ⟨o, _, h2, _⟩ := hH.get k j hk
    exact (List.getElem?_eq_some_iff.1 h2).1
  let V' := ren.map fun j => V.getD j undef
  let F' := ren.map fun j => F.getD j []
  have hVg : ∀ (k j : Nat), ren[k]? = some j → V'[k]? = V[j]? := fun k j hk => by
    have h1 : j < V.length := by rw [m.lenV]; exact hlt k j hk
    simp [V', hk, h1]
  have hFg : ∀ (k j : Nat), ren[k]? = some j → F'[k]? = F[j]? := fun k j hk => by
    have h1 : j < F.length := by rw [m.lenF]; exact hlt k j hk
    simp [F', hk, h1]
  have hren : ∀ (k : Nat) (x : List Nat), F'[k]? = some x → ∃ j, ren[k]? = some j ∧ F[j]? = some x := fun k x hk => by
    have hkl : k < ren.length := by have := (List.getElem?_eq_some_iff.1 hk).1; simpa [F'] using this
    have h1 : ren[k]? = some ren[k] := List.getElem?_eq_getElem hkl
    exact ⟨_, h1, by rw [← hFg k _ h1]; exact hk⟩
  have hok : ∀ b, okB C w F b → okB C w F' b := fun b hb => ⟨hb.1, hb.2.1, fun f hf hbf => by
    obtain ⟨k, hk⟩ := List.getElem?_of_mem hf
    obtain ⟨j, _, hj⟩ := hren k f hk
    exact hb.2.2 f (mem_of_get hj) hbf⟩
  refine ⟨⟨m.os, m.tape, m.output, m.size, m.kept, by simp [hH.len], by simp [hH.len], fun k o x f h1 h2 h3 => ?_, fun k x hx => ?_, fun p q f g b h1 h2 h3 h4 => ?_, fun f hf b hb => ?_, fun i x h => (hVg i i (hcar i x h)).trans (m.car i x h)⟩, hok⟩
  · obtain ⟨j, hj, hFj⟩ := hren k f h3
    obtain ⟨o', h4, h5, h6⟩ := hH.get k j hj
    rw [h1] at h4
    cases h4
    have h2' : V'[k]? = some x := h2
    rw [hVg k j hj] at h2'
    exact ((m.obs j o x f h5 h2' hFj).anyV o h6 (V' := V')).ext (fun _ _ h => h) (fun b hb => ⟨hok b hb, rfl⟩) (fun _ _ => rfl) o
  · have hx' : V'[k]? = some x := hx
    have hkl : k < ren.length := by have := (List.getElem?_eq_some_iff.1 hx').1; simpa [V'] using this
    rw [hVg k _ (List.getElem?_eq_getElem hkl)] at hx'
    exact m.one _ x hx'
  · obtain ⟨i, hi, hFi⟩ := hren p f h1
    obtain ⟨j, hj, hFj⟩ := hren q g h2
    have hij := m.apart i j f g b hFi hFj h3 h4
    subst hij
    obtain ⟨l1, g1⟩ := List.getElem?_eq_some_iff.1 hi
    obtain ⟨l2, g2⟩ := List.getElem?_eq_some_iff.1 hj
    have hp := List.pairwise_iff_getElem.1 hnd
    rcases Nat.lt_trichotomy p q with h | h | h
    · exact absurd (g1.trans g2.symm) (hp p q l1 l2 h)
    · exact h
    · exact absurd (g2.trans g1.symm) (hp q p l2 l1 h)
  · obtain ⟨k, hk⟩ := List.getElem?_of_mem hf
    obtain ⟨j, _, hj⟩ := hren k f hk
    exact m.own f (mem_of_get hj) b hb

/-! ### The iterator, and the loop over it -/

/-- AN ITERATOR THAT HANDS OUT THE NUMBERS OF L, one by one, and reads no more than 'Gp' tells; no round leaves early. -/
def SeqG (P : Program) (gf : Nat) (lb : Array Value) (Gp : World → Prop) (L : List Nat) : Prop :=
  ∀ (rd : Option Nat) (l : Nat) (J : Nat → World → Prop) (W : World), (∀ k W, J k W → Gp W) →
    (∀ k W, k < L.length → J k W → YieldAt (wideR rd) 0 P l #[.int .i64 ((L.getD k 0 : Nat) : Int)] W fun e W' => e = .returned (.bool true) ∧ J (k + 1) W') → J 0 W →
    CallsIn (wideR rd) 0 P gf (#[.func (.yield l) #[] #[]] ++ lb) W fun e W' => (∃ v, e = .returned v) ∧ J L.length W'
/-- A closure that has captured one number in a cell of its own. -/
def seqR (gf : Nat) (T : TypeId) (set : Nat) (w : World) (x : Value) (f : List Nat) : Prop := ∃ b, x = .func (.func gf) #[] #[.pointer (some ⟨b, 0, none⟩)] ∧ f = [b] ∧ w.heap[b]? = some (.cells #[.int .i64 (set : Int)] T (0, 0))
theorem seqR_stays {gf : Nat} {T : TypeId} {set : Nat} {x : Value} {f : List Nat} (w₁ w₂ : World) (hb : ∀ b ∈ f, w₂.heap[b]? = w₁.heap[b]?) (h : seqR gf T set w₁ x f) : seqR gf T set w₂ x f := by
  obtain ⟨b, h1, rfl, h3⟩ := h
  exact ⟨b, h1, rfl, by rw [hb b (by simp)]; exact h3⟩
theorem lenN {α : Type} {n : Nat} {l : List α} (h : l.length = n) : l.length = n := h

theorem AWP.rangeF {G : World → Prop} (hCR : CtxR G C) {gf : Nat} {T : TypeId} {set : Nat} {L : List Nat} (hseq : ∀ b, SeqG P gf #[.pointer (some ⟨b, 0, none⟩)] (fun W => W.cell? ⟨b, 0, none⟩ = some (.int .i64 (set : Int)) ∧ G W) L)
    (heg : ∀ args w, (callFunc gf args).run P w = .ok (.enter gf args) w) {t p j n : Nat} {assign body : Code} {fr : Fr} (hp : p < C.N) (hg : look fr t = some (.ob j)) {σ : Type} (Hs : σ → List Ob) (I : Nat → σ → Prop) (s0 : σ)
    (hHs : ∀ s, (Hs s)[j]? = some (.cust (seqR gf T set))) (hlen : ∀ s, (Hs s).length = n) (h0 : I 0 s0) {Q : Exit → AS → Prop}
    (hround : ∀ (k : Nat) (s : σ), k < L.length → I k s → ∀ (w1 : World) (X1 : Nat → Prop) (F1 : List Nat) (V1 : List Value), V1.length = n → CtxR G ⟨w1, X1, F1, V1, C.N⟩ → ∀ K : AS → Prop,
      (∀ st : AS, (∀ (w2 : World) (X2 : Nat → Prop) (F2 : List Nat) (V2 : List Value), V2.length = st.H.length → CtxR G ⟨w2, X2, F2, V2, C.N⟩ →
        AWP P ⟨w2, X2, F2, V2, C.N⟩ body (fun e st' => e = .normal ∧ ∃ s2 ren2, I (k + 1) s2 ∧ (List.Nodup ren2 ∧ carB (V2.take n) ren2 = true) ∧ subH st'.H ren2 (Hs s2)) st) → K st) →
      AWP P ⟨w1, X1, F1, V1, C.N⟩ assign (thenA K fun _ _ => False) ⟨(p, .v (.int .i64 ((L.getD k 0 : Nat) : Int))) :: fr, Hs s⟩)
    (hdone : ∀ s, I L.length s → Q .normal ⟨fr, Hs s⟩) : AWP P C (.rangeFunc (.tmp t) #[p] assign body) Q ⟨fr, Hs s0⟩ := by
  rintro rd a w ⟨V, F, m, hd, hsz, hf⟩
  obtain ⟨y, fp, hy, hfp, ho⟩ := m.get (hHs s0)
  unfold ORep at ho
  obtain ⟨b, rfl, _, _⟩ := ho.2
  have hev : a.eval (.tmp t) = .func (.func gf) #[] #[.pointer (some ⟨b, 0, none⟩)] := by
    obtain ⟨u, hu, hr⟩ := hf t _ hg
    unfold VRep at hr
    rw [hy] at hr
    cases hr
    simp [Act.eval, hu]
  have hVn : V.length = n := by rw [m.lenV]; exact hlen s0
  refine wpIn_rangeFunc (F := wideR rd) (n := 0) fun fn hfn => ?_
  -- the loop is entered
  obtain ⟨l, mark, w1, D, hent, hlW, hl0, m1, e1, hokl, hd1⟩ : ∃ (l : Nat) (mark : List Deferred) (w1 : World) (D : Nat), (Instr.enterLoop fn a.tmps #[p] assign body (wideR rd).round).run P w = .ok (l, mark) w1 ∧
      w1.heap[l]? = some (.loop { state := .ready, pending := none, fn, tmps := a.tmps, params := #[p], assign, body, defers := D }) ∧ C.w0.heap.size ≤ l ∧ Mem C (Hs s0) V F w1 ∧ Ext C V F w V F w1 ∧ okB C w1 F l ∧ DefOK rd C F (mark ++ a.defers) w1 := by
    cases rd with
    | none =>
      have hb : ∀ k, k < w.heap.size → ((w.alloc (.deferred (some []))).alloc (.loop { state := .ready, pending := none, fn, tmps := a.tmps, params := #[p], assign, body, defers := w.heap.size })).heap[k]? = w.heap[k]? := fun k hk =>
        (Below.heap_alloc _ _ k (by simp; omega)).trans (Below.heap_alloc w _ k hk)
      obtain ⟨m1, e1⟩ := m.more (w' := (w.alloc (.deferred (some []))).alloc (.loop { state := .ready, pending := none, fn, tmps := a.tmps, params := #[p], assign, body, defers := w.heap.size })) rfl rfl rfl (by simp; omega) hb
      have hnew : ∀ q, w.heap.size ≤ q → ∀ f ∈ F, q ∉ f := fun q hq f hf' hqf => by have := (m.own f hf' q hqf).1; omega
      have hKd : ((w.alloc (.deferred (some []))).alloc (.loop { state := .ready, pending := none, fn, tmps := a.tmps, params := #[p], assign, body, defers := w.heap.size })).heap[w.heap.size]? = some (.deferred (some [])) :=
        (Below.heap_alloc _ _ _ (by simp)).trans (World.alloc_heap_new w _)
      refine ⟨w.heap.size + 1, [mark1 w.heap.size], _, w.heap.size, run_enterLoop_outer _ _ _ _ _, ?_, by have := m.size; omega, m1, e1, ⟨.inr (by have := m.size; omega), by simp, hnew _ (by omega)⟩, ?_⟩
      · have := World.alloc_heap_new (w.alloc (.deferred (some []))) (.loop { state := .ready, pending := none, fn, tmps := a.tmps, params := #[p], assign, body, defers := w.heap.size })
        rwa [World.size_alloc] at this
      · obtain ⟨⟨Ds, h1, h2, h3⟩, _⟩ := hd.ext e1
        obtain ⟨⟨Ds0, h1', _, h3'⟩, _⟩ := hd
        refine ⟨⟨w.heap.size :: Ds, by rw [h1]; rfl, List.nodup_cons.2 ⟨fun hm => ?_, h2⟩, fun D hD => ?_⟩, fun q hq => by cases hq⟩
        · have hDs : Ds = Ds0 := by
            have := h1.symm.trans h1'
            have inj : ∀ x y : Nat, mark1 x = mark1 y → x = y := fun x y e => by unfold mark1 at e; injection e with e1 e2; injection e1
            exact List.map_inj_right inj |>.1 this
          subst hDs
          have := (h3' _ hm).2.1.2.1
          omega
        · rcases List.mem_cons.1 hD with rfl | hD
          · exact ⟨m.size, ⟨.inr m.size, by simp; omega, hnew _ (Nat.le_refl _)⟩, hKd⟩
          · exact h3 D hD
    | some l0 =>
      obtain ⟨e0, ok0, r0, hr0⟩ := hd.2 l0 rfl
      have hb : ∀ k, k < w.heap.size → (w.alloc (.loop { state := .ready, pending := none, fn, tmps := a.tmps, params := #[p], assign, body, defers := r0.defers })).heap[k]? = w.heap[k]? := fun k hk => Below.heap_alloc w _ k hk
      obtain ⟨m1, e1⟩ := m.more (w' := w.alloc (.loop { state := .ready, pending := none, fn, tmps := a.tmps, params := #[p], assign, body, defers := r0.defers })) rfl rfl rfl (by simp) hb
      refine ⟨w.heap.size, [], _, r0.defers, run_enterLoop_inner hr0 _ _ _ _ _, World.alloc_heap_new w _, m.size, m1, e1, ⟨.inr m.size, by simp, fun f hf' hqf => by have := (m.own f hf' _ hqf).1; omega⟩, hd.ext e1⟩
  refine ⟨l, mark, w1, { target := .fn (.func gf) #[.pointer (some ⟨b, 0, none⟩)], args := #[.func (.yield l) #[] #[]] }, w1, gf, #[.func (.yield l) #[] #[]] ++ #[.pointer (some ⟨b, 0, none⟩)], w1, hent, ?_, ?_, ?_, fun h => by simp [wideR, Fence.wide] at h, ?_⟩
  · simp only [resolve, hev]
    simp [go_sem]
  · intro f' _; trivial
  · simp [invoke, go_sem, heg]
  -- the iterator's contract
  refine (hseq b rd l (fun k W => ∃ s F, I k s ∧ Mem C (Hs s) V F W ∧ Frm C fr V F a W ∧ W.heap[l]? = some (.loop { state := .ready, pending := none, fn, tmps := a.tmps, params := #[p], assign, body, defers := D }) ∧ okB C W F l ∧ DefOK rd C F (mark ++ a.defers) W) w1 ?_ ?_
    ⟨s0, F, h0, m1, hf.ext e1, hlW, hokl, hd1⟩).mono ?_
  · rintro k W ⟨s, F, _, m, _, _, _, _⟩
    refine ⟨?_, hCR.1 _ _ _ _ m⟩
    obtain ⟨y', fp', hy', hfp', ho'⟩ := m.get (hHs s)
    rw [hy] at hy'
    cases hy'
    unfold ORep at ho'
    obtain ⟨b', e', _, hb'⟩ := ho'.2
    injection e' with _ _ e'
    simp at e'
    subst e'
    simp [World.cell?, hb']
  · -- one round
    rintro k W hk ⟨s, F, hI, m, hf, hl, hokl, hd⟩
    have hy : (Instr.yield l #[.int .i64 ((L.getD k 0 : Nat) : Int)]).run P W = .ok (.round l fn (a.tmps.setIfInBounds p (.int .i64 ((L.getD k 0 : Nat) : Int))) assign body) W := (run_yield (P := P) (args := #[.int .i64 ((L.getD k 0 : Nat) : Int)]) hl rfl).trans (by simp)
    refine ⟨fn, _, assign, body, hy, ?_⟩
    refine roundIn_of_wpIn (F := wideR rd) trivial ?_
    have r1 : Rel (some l) (subC C W V F) ⟨(p, .v (.int .i64 ((L.getD k 0 : Nat) : Int))) :: fr, Hs s⟩ { tmps := a.tmps.setIfInBounds p (.int .i64 ((L.getD k 0 : Nat) : Int)), defers := [] } W := by
      refine ⟨V, F, m.enter, ⟨⟨[], rfl, List.nodup_nil, fun _ h => by cases h⟩, fun l' hl' => ?_⟩, by simp [hsz]; rfl, fun t av ht => ?_⟩
      · cases hl'
        exact ⟨rfl, okB_enter hokl, _, hl⟩
      · rw [look_cons] at ht
        by_cases hpt : p = t
        · subst hpt
          rw [if_pos rfl] at ht
          cases ht
          exact ⟨.int .i64 ((L.getD k 0 : Nat) : Int), by simp [hsz, hp], by unfold VRep; rfl⟩
        · rw [if_neg hpt] at ht
          obtain ⟨x, hx, hr⟩ := hf t av ht
          exact ⟨x, by simp only; rw [Array.getElem?_setIfInBounds, if_neg hpt]; exact hx, hr.ext (fun _ _ h => h) (fun b hb => ⟨okB_enter hb, rfl⟩) av x⟩
    refine wpIn_mono (hround k s hk hI W (fun b => okB C W F b ∨ b ∈ F.flatten) F.flatten V hVn (hCR.sub m) (fun st => ∀ (w2 : World) (X2 : Nat → Prop) (F2 : List Nat) (V2 : List Value), V2.length = st.H.length → CtxR G ⟨w2, X2, F2, V2, C.N⟩ →
        AWP P ⟨w2, X2, F2, V2, C.N⟩ body (fun e st' => e = .normal ∧ ∃ s2 ren2, I (k + 1) s2 ∧ (List.Nodup ren2 ∧ carB (V2.take n) ren2 = true) ∧ subH st'.H ren2 (Hs s2)) st) (fun _ h => h) (some l) _ W r1) ?_
    rintro e a1 W1 ⟨s1, hq, V1, F1, m1, hd1, hsz1, hf1⟩
    cases e with
    | normal =>
      obtain ⟨mc1, e1⟩ := m.leave hCR.2 m1
      have hl1 := (e1.blk l hokl).2.trans hl
      have hok1 := (e1.blk l hokl).1
      refine ⟨_, run_beginRound hl1 rfl, ?_⟩
      have m2 := mc1.turnL { state := .busy, pending := none, fn, tmps := a.tmps, params := #[p], assign, body, defers := D } hl0 hok1 hl1
      have hl2 : (W1.putObj l (.loop { state := .busy, pending := none, fn, tmps := a.tmps, params := #[p], assign, body, defers := D })).heap[l]? = some (.loop { state := .busy, pending := none, fn, tmps := a.tmps, params := #[p], assign, body, defers := D }) := World.putObj_heap_same (Array.getElem?_eq_some_iff.1 hl1).1
      have r2 : Rel (some l) (subC C (W1.putObj l (.loop { state := .busy, pending := none, fn, tmps := a.tmps, params := #[p], assign, body, defers := D })) V1 F1) s1 a1 (W1.putObj l (.loop { state := .busy, pending := none, fn, tmps := a.tmps, params := #[p], assign, body, defers := D })) := by
        obtain ⟨_, hd1b⟩ := hd1
        obtain ⟨hdn, _, _⟩ := hd1b l rfl
        refine ⟨V1, F1, m2.enter, ⟨⟨[], by rw [hdn]; rfl, List.nodup_nil, fun _ h => by cases h⟩, fun l' hl' => ?_⟩, hsz1, fun t av ht => ?_⟩
        · cases hl'
          exact ⟨hdn, okB_enter (okB_put hok1), _, hl2⟩
        · obtain ⟨x, hx, hr⟩ := hf1 t av ht
          exact ⟨x, hx, hr.extC (fun _ _ h => h) (fun b hb => ⟨okB_enter (okB_put (okB_leave hCR.2 m hb)), fun ad _ => cell_putL hl1 ad⟩) av x⟩
      refine wpIn_mono (hq _ _ _ V1 m1.lenV (hCR.sub m2) (some l) a1 _ r2) ?_
      rintro e a3 W3 ⟨s3, ⟨rfl, s2, ren2, hI2, ⟨hnd2, hcar2⟩, hsub2⟩, V3, F3, m3, _, _, _⟩
      obtain ⟨mc3, e3⟩ := m2.leave hCR.2 m3
      have hl3 := (e3.blk l (okB_put hok1)).2.trans hl2
      have hok3 := (e3.blk l (okB_put hok1)).1
      refine ⟨_, _, run_endRound none hl3, rfl, ?_⟩
      have m4 := mc3.turnL { state := .ready, pending := none, fn, tmps := a.tmps, params := #[p], assign, body, defers := D } hl0 hok3 hl3
      have hVV1 : ∀ (i : Nat) (x : Value), V[i]? = some x → V1[i]? = some x := e1.car
      have hVV3 : ∀ (i : Nat) (x : Value), V[i]? = some x → V3[i]? = some x := fun i x h => e3.car i x (e1.car i x h)
      have hn1 : n ≤ V1.length := by
        rcases Nat.eq_zero_or_pos n with h | h
        · omega
        · have hlt : n - 1 < V.length := by omega
          have := (List.getElem?_eq_some_iff.1 (hVV1 (n - 1) _ (List.getElem?_eq_getElem hlt))).1
          omega
      have hren : ∀ i, i < n → ren2[i]? = some i := fun i hi => carB_get hcar2 i V1[i] (by rw [List.getElem?_take, if_pos hi, List.getElem?_eq_getElem (by omega)])
      obtain ⟨m5, ok5⟩ := m4.ren ren2 (fun i x h => hren i (by have := (List.getElem?_eq_some_iff.1 (m.car i x h)).1; omega)) hnd2 hsub2
      have hlr : ren2.length = n := by rw [← hsub2.len]; exact hlen s2
      have hV5 : (ren2.map fun j => V3.getD j undef) = V := by
        apply List.ext_getElem?
        intro i
        by_cases hi : i < n
        · have hlt : i < V.length := by omega
          have h3 := hVV3 i _ (List.getElem?_eq_getElem hlt)
          rw [List.getElem?_map, hren i hi, List.getElem?_eq_getElem hlt]
          simp [List.getD, h3]
        · rw [List.getElem?_eq_none (by simp; omega), List.getElem?_eq_none (by omega)]
      rw [hV5] at m5
      have kp : KeepL C F W (ren2.map fun j => F3.getD j []) (W3.putObj l (.loop { state := .ready, pending := none, fn, tmps := a.tmps, params := #[p], assign, body, defers := D })) l :=
        (((KeepL.of_ext e1).trans (KeepL.turn hl1)).trans ((KeepL.of_ext e3).trans (KeepL.turn hl3))).trans (KeepL.sub ok5)
      have hl4 : (W3.putObj l (.loop { state := .ready, pending := none, fn, tmps := a.tmps, params := #[p], assign, body, defers := D })).heap[l]? = some (.loop { state := .ready, pending := none, fn, tmps := a.tmps, params := #[p], assign, body, defers := D }) := World.putObj_heap_same (Array.getElem?_eq_some_iff.1 hl3).1
      exact ⟨s2, _, hI2, m5, kp.frm hf, hl4, kp.ok l hokl, kp.def ⟨_, hl⟩ ⟨_, hl4⟩ hd⟩
    | exit id => exact hq.elim
    | goto l => exact hq.elim
    | ret => exact hq.elim
    | panic ch => exact hq.elim
    | outgrown => exact hq.elim
  · -- behind the iterator
    rintro e W ⟨⟨v, rfl⟩, s, F, hI, m, hf, hl, hokl, hd⟩
    refine ⟨none, _, run_endLoop hl (by simp), ⟨fr, Hs s⟩, hdone s hI, V, F, m.turnL _ hl0 hokl hl, ?_, hsz, (KeepL.turn hl).frm hf⟩
    exact (KeepL.turn hl).def ⟨_, hl⟩ ⟨_, World.putObj_heap_same (Array.getElem?_eq_some_iff.1 hl).1⟩ hd

/-! ### The same over the walks' own frames -/

theorem AWPD.rangeF {G : World → Prop} {fr : DF} {H : List OD} {Q : Exit → DF → List OD → Prop} (hCR : CtxR G C) {gf : Nat} {T : TypeId} {set : Nat} {L : List Nat} (hseq : ∀ b, SeqG P gf #[.pointer (some ⟨b, 0, none⟩)] (fun W => W.cell? ⟨b, 0, none⟩ = some (.int .i64 (set : Int)) ∧ G W) L)
    (heg : ∀ args w, (callFunc gf args).run P w = .ok (.enter gf args) w) {t p : Nat} {assign body : Code} (hp : Nat.blt p C.N = true) {σ : Type} (ts : List Nat) {base : DF} (ch : DF → DF) (Hs : σ → List OD) (I : Nat → σ → Prop) (s0 : σ) (ren : List Nat) (j n : Nat)
    (hC : carB C.V0 ren = true) (_hk : keepF fr ts [] = some base) (h0 : I 0 s0) (hnd : ren.Nodup) (hH : matchH H ren (Hs s0)) (hF : matchR ren fr (ch base)) (hg : lookD (ch base) t = some (.ob j)) (hHs : ∀ s, getOD (Hs s) j = some (.cust (seqR gf T set))) (hlen : ∀ s, lenOD (Hs s) = n)
    (hround : ∀ (k : Nat) (s : σ), k < L.length → I k s → ∀ (w1 : World) (X1 : Nat → Prop) (F1 : List Nat) (V1 : List Value), V1.length = n → CtxR G ⟨w1, X1, F1, V1, C.N⟩ → ∀ K : DF → List OD → Prop,
      (∀ (fr' : DF) (H' : List OD), (∀ (w2 : World) (X2 : Nat → Prop) (F2 : List Nat) (V2 : List Value), V2.length = lenOD H' → CtxR G ⟨w2, X2, F2, V2, C.N⟩ →
        AWPD P ⟨w2, X2, F2, V2, C.N⟩ body (fun e _ H2 => ∃ s2 ren2, e = .normal ∧ I (k + 1) s2 ∧ (List.Nodup ren2 ∧ carB (V2.take n) ren2 = true) ∧ matchH H2 ren2 (Hs s2)) fr' H') → K fr' H') →
      AWPD P ⟨w1, X1, F1, V1, C.N⟩ assign (thenD K fun _ _ _ => False) ((p, .i ((L.getD k 0 : Nat) : Int)) :: ch base) (Hs s))
    (hdone : ∀ s, I L.length s → Q .normal (ch base) (Hs s)) : AWPD P C (.rangeFunc (.tmp t) #[p] assign body) Q fr H := by
  refine AWPD.to ren _ (Hs s0) hC hnd hH hF ?_
  refine AWP.rangeF hCR hseq heg (Nat.le_of_ble_eq_true hp) (j := j) (n := n) (by rw [frA_look, hg]; rfl) (fun s => (Hs s).map OD.ob) I s0 (fun s => by have := getOD_map (hHs s); simpa [OD.ob] using this) (fun s => by rw [← lenOD_map, hlen]) h0 ?_ ?_
  · intro k s hk hI w1 X1 F1 V1 hV1 hR1 K hK
    refine AWP.mono (hround k s hk hI w1 X1 F1 V1 hV1 hR1 (fun fr' H' => K ⟨frA fr', H'.map OD.ob⟩) fun fr' H' hb => hK _ fun w2 X2 F2 V2 hV2 hR2 => ?_) ?_
    · refine AWP.mono (hb w2 X2 F2 V2 (by rw [hV2, ← lenOD_map]) hR2) ?_
      rintro e _ ⟨fr2, H2, ⟨s2, ren2, h1, h2, h3, h4⟩, rfl⟩
      exact ⟨h1, s2, ren2, h2, h3, matchH_sub h4⟩
    · rintro e _ ⟨fr2, H2, h1, rfl⟩
      cases e <;> exact h1
  · intro s hI
    exact ⟨_, _, hdone s hI, rfl⟩

/-! ### What a round owns may be given up -/

theorem Conv.freezeR {fr : Fr} {a i : Nat} {T : TypeId} {cs : List AV} (hC : ∀ b ∈ C.F0, C.X0 b) (h : look fr a = some (.op i 0)) (hH : H[i]? = some (.box T cs)) : Conv C ⟨fr, H⟩ ⟨(a, .rp cs 0) :: fr, H.set i .dead⟩ := by
  rintro rd ac w ⟨V, F, m, hd, hsz, hf⟩
  obtain ⟨y, fp, hy, hfp, ho⟩ := m.get hH
  obtain ⟨m', e'⟩ := m.set (w' := w) i .dead fp [] y hy hfp rfl rfl rfl (Nat.le_refl _) (fun _ _ _ => rfl) (fun b hb => by simp at hb) (fun _ => rfl)
  refine ⟨_, _, m', hd.ext e', hsz, fun t av ht => ?_⟩
  rw [look_cons] at ht
  by_cases hat : a = t
  · subst hat
    rw [if_pos rfl] at ht
    cases ht
    obtain ⟨x, hx, hr⟩ := hf _ _ h
    unfold VRep at hr
    obtain ⟨ad, hb, hxx⟩ := hr
    rw [hy] at hb
    refine ⟨_, hx, ?_⟩
    obtain ⟨us, hus, hcell⟩ := box_cells ho hb
    have ho2 := ho
    unfold ORep at ho2
    obtain ⟨g, us2, rfl, hg, hr, rfl⟩ := ho2
    simp [baseOf] at hb
    subst hb
    have hbm : g ∈ ([g] : List Nat) := by simp
    have hok : okB C w (F.set i []) g := by
      refine ⟨?_, (m.own [g] (mem_of_get hfp) g hbm).1, fun q hq hbq => ?_⟩
      · rcases (m.own [g] (mem_of_get hfp) g hbm).2 with h1 | h1
        · exact .inl (hC g h1)
        · exact .inr h1
      · obtain ⟨j, hj⟩ := List.getElem?_of_mem hq
        rw [List.getElem?_set] at hj
        split at hj
        · split at hj
          · cases hj; simp at hbq
          · cases hj
        · rename_i hij
          exact hij (m.apart i j [g] q g hfp hj hbm hbq)
    unfold VRep
    exact ⟨_, us, hxx, hok, hcell, hus.ext (fun _ _ h => h) fun b hb => e'.blk b hb⟩
  · rw [if_neg hat] at ht
    exact (hf.ext e') t av ht
/-- A box of the call's own, or of the round's, is only read from here on. -/
theorem AWPD.freezeR {fr : DF} {H : List OD} {Q : Exit → DF → List OD → Prop} {c : Code} (t : Nat) {i : Nat} {T : TypeId} {l : List DV} (hC : ∀ b ∈ C.F0, C.X0 b) (hl : lookD fr t = some (.op i 0)) (hH : getOD H i = some (.box T l)) (h : AWPD P C c Q ((t, .bp l 0) :: fr) (setOD H i .dead)) : AWPD P C c Q fr H := by
  refine AWP.conv (Conv.freezeR (a := t) hC (by rw [frA_look, hl]; rfl) (getOD_map hH)) ?_
  have h' := h
  unfold AWPD at h'
  rw [setOD_map] at h'
  exact h'
end
theorem lenV1 {V : List Value} (h : V.length = 1) : ∃ a0, V = [a0] := by
  match V, h with
  | [a0], _ => exact ⟨a0, rfl⟩
theorem lenV2 {V : List Value} (h : V.length = 2) : ∃ a0 a1, V = [a0, a1] := by
  match V, h with
  | [a0, a1], _ => exact ⟨a0, a1, rfl⟩
theorem lenV3 {V : List Value} (h : V.length = 3) : ∃ a0 a1 a2, V = [a0, a1, a2] := by
  match V, h with
  | [a0, a1, a2], _ => exact ⟨a0, a1, a2, rfl⟩
theorem lenV4 {V : List Value} (h : V.length = 4) : ∃ a0 a1 a2 a3, V = [a0, a1, a2, a3] := by
  match V, h with
  | [a0, a1, a2, a3], _ => exact ⟨a0, a1, a2, a3, rfl⟩
theorem lenV5 {V : List Value} (h : V.length = 5) : ∃ a0 a1 a2 a3 a4, V = [a0, a1, a2, a3, a4] := by
  match V, h with
  | [a0, a1, a2, a3, a4], _ => exact ⟨a0, a1, a2, a3, a4, rfl⟩
theorem lenV6 {V : List Value} (h : V.length = 6) : ∃ a0 a1 a2 a3 a4 a5, V = [a0, a1, a2, a3, a4, a5] := by
  match V, h with
  | [a0, a1, a2, a3, a4, a5], _ => exact ⟨a0, a1, a2, a3, a4, a5, rfl⟩
theorem lenV7 {V : List Value} (h : V.length = 7) : ∃ a0 a1 a2 a3 a4 a5 a6, V = [a0, a1, a2, a3, a4, a5, a6] := by
  match V, h with
  | [a0, a1, a2, a3, a4, a5, a6], _ => exact ⟨a0, a1, a2, a3, a4, a5, a6, rfl⟩
theorem lenV8 {V : List Value} (h : V.length = 8) : ∃ a0 a1 a2 a3 a4 a5 a6 a7, V = [a0, a1, a2, a3, a4, a5, a6, a7] := by
  match V, h with
  | [a0, a1, a2, a3, a4, a5, a6, a7], _ => exact ⟨a0, a1, a2, a3, a4, a5, a6, a7, rfl⟩
theorem lenV9 {V : List Value} (h : V.length = 9) : ∃ a0 a1 a2 a3 a4 a5 a6 a7 a8, V = [a0, a1, a2, a3, a4, a5, a6, a7, a8] := by
  match V, h with
  | [a0, a1, a2, a3, a4, a5, a6, a7, a8], _ => exact ⟨a0, a1, a2, a3, a4, a5, a6, a7, a8, rfl⟩
theorem lenV10 {V : List Value} (h : V.length = 10) : ∃ a0 a1 a2 a3 a4 a5 a6 a7 a8 a9, V = [a0, a1, a2, a3, a4, a5, a6, a7, a8, a9] := by
  match V, h with
  | [a0, a1, a2, a3, a4, a5, a6, a7, a8, a9], _ => exact ⟨a0, a1, a2, a3, a4, a5, a6, a7, a8, a9, rfl⟩
theorem lenV11 {V : List Value} (h : V.length = 11) : ∃ a0 a1 a2 a3 a4 a5 a6 a7 a8 a9 a10, V = [a0, a1, a2, a3, a4, a5, a6, a7, a8, a9, a10] := by
  match V, h with
  | [a0, a1, a2, a3, a4, a5, a6, a7, a8, a9, a10], _ => exact ⟨a0, a1, a2, a3, a4, a5, a6, a7, a8, a9, a10, rfl⟩
theorem lenV12 {V : List Value} (h : V.length = 12) : ∃ a0 a1 a2 a3 a4 a5 a6 a7 a8 a9 a10 a11, V = [a0, a1, a2, a3, a4, a5, a6, a7, a8, a9, a10, a11] := by
  match V, h with
  | [a0, a1, a2, a3, a4, a5, a6, a7, a8, a9, a10, a11], _ => exact ⟨a0, a1, a2, a3, a4, a5, a6, a7, a8, a9, a10, a11, rfl⟩
theorem lenV13 {V : List Value} (h : V.length = 13) : ∃ a0 a1 a2 a3 a4 a5 a6 a7 a8 a9 a10 a11 a12, V = [a0, a1, a2, a3, a4, a5, a6, a7, a8, a9, a10, a11, a12] := by
  match V, h with
  | [a0, a1, a2, a3, a4, a5, a6, a7, a8, a9, a10, a11, a12], _ => exact ⟨a0, a1, a2, a3, a4, a5, a6, a7, a8, a9, a10, a11, a12, rfl⟩
theorem lenV14 {V : List Value} (h : V.length = 14) : ∃ a0 a1 a2 a3 a4 a5 a6 a7 a8 a9 a10 a11 a12 a13, V = [a0, a1, a2, a3, a4, a5, a6, a7, a8, a9, a10, a11, a12, a13] := by
  match V, h with
  | [a0, a1, a2, a3, a4, a5, a6, a7, a8, a9, a10, a11, a12, a13], _ => exact ⟨a0, a1, a2, a3, a4, a5, a6, a7, a8, a9, a10, a11, a12, a13, rfl⟩
theorem lenV15 {V : List Value} (h : V.length = 15) : ∃ a0 a1 a2 a3 a4 a5 a6 a7 a8 a9 a10 a11 a12 a13 a14, V = [a0, a1, a2, a3, a4, a5, a6, a7, a8, a9, a10, a11, a12, a13, a14] := by
  match V, h with
  | [a0, a1, a2, a3, a4, a5, a6, a7, a8, a9, a10, a11, a12, a13, a14], _ => exact ⟨a0, a1, a2, a3, a4, a5, a6, a7, a8, a9, a10, a11, a12, a13, a14, rfl⟩
theorem lenV16 {V : List Value} (h : V.length = 16) : ∃ a0 a1 a2 a3 a4 a5 a6 a7 a8 a9 a10 a11 a12 a13 a14 a15, V = [a0, a1, a2, a3, a4, a5, a6, a7, a8, a9, a10, a11, a12, a13, a14, a15] := by
  match V, h with
  | [a0, a1, a2, a3, a4, a5, a6, a7, a8, a9, a10, a11, a12, a13, a14, a15], _ => exact ⟨a0, a1, a2, a3, a4, a5, a6, a7, a8, a9, a10, a11, a12, a13, a14, a15, rfl⟩
theorem lenV17 {V : List Value} (h : V.length = 17) : ∃ a0 a1 a2 a3 a4 a5 a6 a7 a8 a9 a10 a11 a12 a13 a14 a15 a16, V = [a0, a1, a2, a3, a4, a5, a6, a7, a8, a9, a10, a11, a12, a13, a14, a15, a16] := by
  match V, h with
  | [a0, a1, a2, a3, a4, a5, a6, a7, a8, a9, a10, a11, a12, a13, a14, a15, a16], _ => exact ⟨a0, a1, a2, a3, a4, a5, a6, a7, a8, a9, a10, a11, a12, a13, a14, a15, a16, rfl⟩
theorem lenV18 {V : List Value} (h : V.length = 18) : ∃ a0 a1 a2 a3 a4 a5 a6 a7 a8 a9 a10 a11 a12 a13 a14 a15 a16 a17, V = [a0, a1, a2, a3, a4, a5, a6, a7, a8, a9, a10, a11, a12, a13, a14, a15, a16, a17] := by
  match V, h with
  | [a0, a1, a2, a3, a4, a5, a6, a7, a8, a9, a10, a11, a12, a13, a14, a15, a16, a17], _ => exact ⟨a0, a1, a2, a3, a4, a5, a6, a7, a8, a9, a10, a11, a12, a13, a14, a15, a16, a17, rfl⟩
end Go.Qw
