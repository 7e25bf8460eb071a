/-
  An abstract machine over the model's own code, part A: abstract values, what it means that a value reads as one, the abstract memory, and how both are kept when the world grows. No program is named here.
-/
import Derived.WalkKit
import Derived.Maps.AppendAt
set_option linter.unusedSimpArgs false
set_option linter.unusedVariables false
set_option linter.unusedSectionVars false
namespace Go.Qw
open Go.RowKit

/-- ABSTRACT VALUES: a known value; a slice that is only read, as the list of its cells (each element takes 'size' of them); an address into such memory; the carrier of an object that the call owns; an address into it; tuples and structs of these; something under a condition; anything. -/
inductive AV where
  | v (u : Value)
  | rd (size : Nat) (cs : List AV)
  | rp (cs : List AV) (c : Nat)
  | ob (i : Nat)
  | op (i c : Nat)
  | tup (l : List AV)
  | agg (l : List AV)
  | opt (b : Bool) (a : AV)
  | top
  | fn (f : FuncId) (l : List AV)

def baseOf : Value → Option Addr
  | .slice a _ _ => a
  | .pointer a => a
  | _ => none

mutual
/-- WHAT A VALUE READS AS, in a world, through blocks of 'ok'; 'V': the carriers of the owned objects. -/
def VRep (ok : Nat → Prop) (w : World) (V : List Value) : AV → Value → Prop
  | .v u, x => x = u
  | .rd size cs, x => 0 < size ∧ ∃ A n c, x = .slice A n c ∧ cs.length = n * size ∧ n ≤ c ∧ c ≤ maxLen ∧
      (cs ≠ [] → ∃ (ad : Addr) (us : List Value), A = some ad ∧ ok ad.block ∧ (∀ (j : Nat) (u : Value), us[j]? = some u → w.cell? (ad.add j) = some u) ∧ VReps ok w V cs us)
  | .rp cs c, x => ∃ (ad : Addr) (us : List Value), x = .pointer (some (ad.add c)) ∧ ok ad.block ∧ (∀ (j : Nat) (u : Value), us[j]? = some u → w.cell? (ad.add j) = some u) ∧ VReps ok w V cs us
  | .ob i, x => V[i]? = some x
  | .op i c, x => ∃ ad : Addr, (V[i]?).bind baseOf = some ad ∧ x = .pointer (some (ad.add c))
  | .tup l, x => ∃ us : Array Value, x = .tuple us ∧ VReps ok w V l us.toList
  | .agg l, x => ∃ us : Array Value, x = .agg us ∧ VReps ok w V l us.toList
  | .opt b a, x => b = true → VRep ok w V a x
  | .top, _ => True
  | .fn f l, x => ∃ us : Array Value, x = .func (.func f) #[] us ∧ VReps ok w V l us.toList
def VReps (ok : Nat → Prop) (w : World) (V : List Value) : List AV → List Value → Prop
  | [], us => us = []
  | a :: l, us => ∃ u rest, us = u :: rest ∧ VRep ok w V a u ∧ VReps ok w V l rest
end

section
variable {ok ok' : Nat → Prop} {w w' : World} {V V' : List Value}

mutual
theorem VRep.ext (hV : ∀ (i : Nat) (x : Value), V[i]? = some x → V'[i]? = some x) (hb : ∀ b, ok b → ok' b ∧ w'.heap[b]? = w.heap[b]?) : ∀ (av : AV) (x : Value), VRep ok w V av x → VRep ok' w' V' av x
  | .v _, _, h => h
  | .rd _ cs, _, h => by
    unfold VRep at h ⊢
    obtain ⟨hs, A, n, c, hx, hl, hn, hc, hr⟩ := h
    refine ⟨hs, A, n, c, hx, hl, hn, hc, fun hne => ?_⟩
    obtain ⟨ad, us, hA, ho, hcell, hus⟩ := hr hne
    exact ⟨ad, us, hA, (hb _ ho).1, fun j u hu => by
      have hbl : ∀ j, (ad.add j).block = ad.block := fun j => by unfold Addr.add; split <;> rfl
      rw [World.cell?_of_block (w := w) (by rw [hbl]; exact (hb _ ho).2)]
      exact hcell j u hu, VReps.ext hV hb cs us hus⟩
  | .rp cs _, _, h => by
    unfold VRep at h ⊢
    obtain ⟨ad, us, hx, ho, hcell, hus⟩ := h
    exact ⟨ad, us, hx, (hb _ ho).1, fun j u hu => by
      have hbl : ∀ j, (ad.add j).block = ad.block := fun j => by unfold Addr.add; split <;> rfl
      rw [World.cell?_of_block (w := w) (by rw [hbl]; exact (hb _ ho).2)]
      exact hcell j u hu, VReps.ext hV hb cs us hus⟩
  | .ob _, _, h => by unfold VRep at h ⊢; exact hV _ _ h
  | .op i _, _, h => by
    unfold VRep at h ⊢
    obtain ⟨ad, ha, hx⟩ := h
    refine ⟨ad, ?_, hx⟩
    cases hi : V[i]? with
    | none => rw [hi] at ha; cases ha
    | some y => rw [hi] at ha; rw [hV _ _ hi]; exact ha
  | .tup l, _, h => by
    unfold VRep at h ⊢
    obtain ⟨us, hx, hus⟩ := h
    exact ⟨us, hx, VReps.ext hV hb l _ hus⟩
  | .agg l, _, h => by
    unfold VRep at h ⊢
    obtain ⟨us, hx, hus⟩ := h
    exact ⟨us, hx, VReps.ext hV hb l _ hus⟩
  | .opt _ a, _, h => by
    unfold VRep at h ⊢
    exact fun hc => VRep.ext hV hb a _ (h hc)
  | .top, _, _ => by unfold VRep; trivial
  | .fn _ l, _, h => by
    unfold VRep at h ⊢
    obtain ⟨us, hx, hus⟩ := h
    exact ⟨us, hx, VReps.ext hV hb l _ hus⟩
theorem VReps.ext (hV : ∀ (i : Nat) (x : Value), V[i]? = some x → V'[i]? = some x) (hb : ∀ b, ok b → ok' b ∧ w'.heap[b]? = w.heap[b]?) : ∀ (l : List AV) (us : List Value), VReps ok w V l us → VReps ok' w' V' l us
  | [], _, h => by unfold VReps at h ⊢; exact h
  | a :: l, _, h => by
    unfold VReps at h ⊢
    obtain ⟨u, rest, hu, h1, h2⟩ := h
    exact ⟨u, rest, hu, VRep.ext hV hb a u h1, VReps.ext hV hb l rest h2⟩
end

-- The same, where only what lies in cells is as it was.
mutual
theorem VRep.extC (hV : ∀ (i : Nat) (x : Value), V[i]? = some x → V'[i]? = some x) (hb : ∀ b, ok b → ok' b ∧ ∀ a : Addr, a.block = b → w'.cell? a = w.cell? a) : ∀ (av : AV) (x : Value), VRep ok w V av x → VRep ok' w' V' av x
  | .v _, _, h => h
  | .rd _ cs, _, h => by
    unfold VRep at h ⊢
    obtain ⟨hs, A, n, c, hx, hl, hn, hc, hr⟩ := h
    refine ⟨hs, A, n, c, hx, hl, hn, hc, fun hne => ?_⟩
    obtain ⟨ad, us, hA, ho, hcell, hus⟩ := hr hne
    exact ⟨ad, us, hA, (hb _ ho).1, fun j u hu => by
      have hbl : ∀ j, (ad.add j).block = ad.block := fun j => by unfold Addr.add; split <;> rfl
      rw [(hb _ ho).2 _ (hbl j)]
      exact hcell j u hu, VReps.extC hV hb cs us hus⟩
  | .rp cs _, _, h => by
    unfold VRep at h ⊢
    obtain ⟨ad, us, hx, ho, hcell, hus⟩ := h
    exact ⟨ad, us, hx, (hb _ ho).1, fun j u hu => by
      have hbl : ∀ j, (ad.add j).block = ad.block := fun j => by unfold Addr.add; split <;> rfl
      rw [(hb _ ho).2 _ (hbl j)]
      exact hcell j u hu, VReps.extC hV hb cs us hus⟩
  | .ob _, _, h => by unfold VRep at h ⊢; exact hV _ _ h
  | .op i _, _, h => by
    unfold VRep at h ⊢
    obtain ⟨ad, ha, hx⟩ := h
    refine ⟨ad, ?_, hx⟩
    cases hi : V[i]? with
    | none => rw [hi] at ha; cases ha
    | some y => rw [hi] at ha; rw [hV _ _ hi]; exact ha
  | .tup l, _, h => by
    unfold VRep at h ⊢
    obtain ⟨us, hx, hus⟩ := h
    exact ⟨us, hx, VReps.extC hV hb l _ hus⟩
  | .agg l, _, h => by
    unfold VRep at h ⊢
    obtain ⟨us, hx, hus⟩ := h
    exact ⟨us, hx, VReps.extC hV hb l _ hus⟩
  | .opt _ a, _, h => by
    unfold VRep at h ⊢
    exact fun hc => VRep.extC hV hb a _ (h hc)
  | .top, _, _ => by unfold VRep; trivial
  | .fn _ l, _, h => by
    unfold VRep at h ⊢
    obtain ⟨us, hx, hus⟩ := h
    exact ⟨us, hx, VReps.extC hV hb l _ hus⟩
theorem VReps.extC (hV : ∀ (i : Nat) (x : Value), V[i]? = some x → V'[i]? = some x) (hb : ∀ b, ok b → ok' b ∧ ∀ a : Addr, a.block = b → w'.cell? a = w.cell? a) : ∀ (l : List AV) (us : List Value), VReps ok w V l us → VReps ok' w' V' l us
  | [], _, h => by unfold VReps at h ⊢; exact h
  | a :: l, _, h => by
    unfold VReps at h ⊢
    obtain ⟨u, rest, hu, h1, h2⟩ := h
    exact ⟨u, rest, hu, VRep.extC hV hb a u h1, VReps.extC hV hb l rest h2⟩
end

theorem VReps.length : ∀ {l : List AV} {us : List Value}, VReps ok w V l us → us.length = l.length
  | [], _, h => by unfold VReps at h; subst h; rfl
  | a :: l, _, h => by
    unfold VReps at h
    obtain ⟨u, rest, rfl, _, h2⟩ := h
    simp [VReps.length h2]

theorem VReps.get : ∀ {l : List AV} {us : List Value}, VReps ok w V l us → ∀ (i : Nat) (a : AV), l[i]? = some a → ∃ u, us[i]? = some u ∧ VRep ok w V a u
  | [], _, _, i, a, hi => by simp at hi
  | b :: l, _, h, i, a, hi => by
    unfold VReps at h
    obtain ⟨u, rest, rfl, h1, h2⟩ := h
    cases i with
    | zero =>
      simp at hi
      subst hi
      exact ⟨u, by simp, h1⟩
    | succ i =>
      simp at hi
      obtain ⟨x, hx, hr⟩ := VReps.get h2 i a hi
      exact ⟨x, by simpa using hx, hr⟩

theorem VReps.mk : ∀ {l : List AV} {us : List Value}, us.length = l.length → (∀ (i : Nat) (a : AV) (u : Value), l[i]? = some a → us[i]? = some u → VRep ok w V a u) → VReps ok w V l us
  | [], us, hl, _ => by unfold VReps; exact List.eq_nil_of_length_eq_zero (by simpa using hl)
  | a :: l, [], hl, _ => by simp at hl
  | a :: l, u :: us, hl, h => by
    unfold VReps
    exact ⟨u, us, rfl, h 0 a u (by simp) (by simp), VReps.mk (by simpa using hl) fun i b x hb hx => h (i + 1) b x (by simpa using hb) (by simpa using hx)⟩

theorem VReps.app {l l2 : List AV} {us us2 : List Value} (h : VReps ok w V l us) (h2 : VReps ok w V l2 us2) : VReps ok w V (l ++ l2) (us ++ us2) := by
  refine VReps.mk (by simp [h.length, h2.length]) fun i a u ha hu => ?_
  have hl := h.length
  by_cases hi : i < l.length
  · rw [List.getElem?_append_left hi] at ha
    rw [List.getElem?_append_left (by omega)] at hu
    obtain ⟨x, hx, hr⟩ := h.get i a ha
    rw [hu] at hx
    cases hx
    exact hr
  · rw [List.getElem?_append_right (by omega)] at ha
    rw [List.getElem?_append_right (by omega), hl] at hu
    obtain ⟨x, hx, hr⟩ := h2.get _ a ha
    rw [hu] at hx
    cases hx
    exact hr

theorem VReps.drop {l : List AV} {us : List Value} (h : VReps ok w V l us) (n : Nat) : VReps ok w V (l.drop n) (us.drop n) := by
  refine VReps.mk (by simp [h.length]) fun i a u ha hu => ?_
  rw [List.getElem?_drop] at ha hu
  obtain ⟨x, hx, hr⟩ := h.get _ a ha
  rw [hu] at hx
  cases hx
  exact hr

theorem VReps.take {l : List AV} {us : List Value} (h : VReps ok w V l us) (n : Nat) : VReps ok w V (l.take n) (us.take n) := by
  refine VReps.mk (by simp [h.length]) fun i a u ha hu => ?_
  rw [List.getElem?_take] at ha hu
  split at ha
  · rename_i hi
    rw [if_pos hi] at hu
    obtain ⟨x, hx, hr⟩ := h.get _ a ha
    rw [hu] at hx
    cases hx
    exact hr
  · cases ha

theorem VReps.set {l : List AV} {us : List Value} (h : VReps ok w V l us) (n : Nat) {a : AV} {u : Value} (ha : VRep ok w V a u) : VReps ok w V (l.set n a) (us.set n u) := by
  refine VReps.mk (by simp [h.length]) fun i b x hb hx => ?_
  rw [List.getElem?_set] at hb hx
  split at hb
  · rename_i hn
    subst hn
    rw [if_pos rfl] at hx
    split at hb
    · cases hb
      split at hx
      · cases hx
        exact ha
      · cases hx
    · cases hb
  · rename_i hn
    rw [if_neg hn] at hx
    obtain ⟨y, hy, hr⟩ := h.get _ b hb
    rw [hx] at hy
    cases hy
    exact hr
end

/-- OBJECTS THAT THE CALL OWNS: a slice (its cells up to its length), a block behind a pointer, something told by a law of its own, nothing any more. -/
inductive Ob where
  | row (e : TypeId) (size : Nat) (cs : List AV)
  | box (t : TypeId) (cs : List AV)
  | cust (R : World → Value → List Nat → Prop)
  | dead

def ORep (ok : Nat → Prop) (w : World) (V : List Value) (x : Value) (f : List Nat) : Ob → Prop
  | .row e size cs => 0 < size ∧ ∃ n us, w.ownsRow 0 e size x n us ∧ cs.length = n * size ∧ VReps ok w V cs us ∧ f = x.ownBlock.toList
  | .box t cs => ∃ (g : Nat) (us : Array Value), x = .pointer (some ⟨g, 0, none⟩) ∧ w.heap[g]? = some (.cells us t (0, 0)) ∧ VReps ok w V cs us.toList ∧ f = [g]
  | .cust R => (∀ w₁ w₂ : World, (∀ b ∈ f, w₂.heap[b]? = w₁.heap[b]?) → R w₁ x f → R w₂ x f) ∧ R w x f
  | .dead => f = []

theorem ownsRow_of_blocks {w w' : World} {base : Nat} {e : TypeId} {size n : Nat} {x : Value} {us : List Value} (h : w.ownsRow base e size x n us) (hb : ∀ b ∈ x.ownBlock.toList, w'.heap[b]? = w.heap[b]?) : w'.ownsRow base e size x n us := by
  refine ⟨h.1, ?_⟩
  rcases h.2 with h0 | ⟨g, cap, cur, rfl, hg, hh, rest⟩
  · exact .inl h0
  · exact .inr ⟨g, cap, cur, rfl, hg, by rw [hb g (by simp [Value.ownBlock])]; exact hh, rest⟩

theorem ORep.ext {ok ok' : Nat → Prop} {w w' : World} {V V' : List Value} {x : Value} {f : List Nat} (hV : ∀ (i : Nat) (y : Value), V[i]? = some y → V'[i]? = some y) (hb : ∀ b, ok b → ok' b ∧ w'.heap[b]? = w.heap[b]?)
    (hf : ∀ b ∈ f, w'.heap[b]? = w.heap[b]?) : ∀ (o : Ob), ORep ok w V x f o → ORep ok' w' V' x f o
  | .row e size cs, h => by
    unfold ORep at h ⊢
    obtain ⟨h0, n, us, ho, hl, hr, he⟩ := h
    exact ⟨h0, n, us, ownsRow_of_blocks ho (fun b hbm => hf b (by rw [he]; exact hbm)), hl, hr.ext hV hb, he⟩
  | .box t cs, h => by
    unfold ORep at h ⊢
    obtain ⟨g, us, hx, hg, hr, he⟩ := h
    exact ⟨g, us, hx, by rw [hf g (by rw [he]; simp)]; exact hg, hr.ext hV hb, he⟩
  | .cust R, h => by
    unfold ORep at h ⊢
    exact ⟨h.1, h.1 w w' hf h.2⟩
  | .dead, h => by unfold ORep at h ⊢; exact h

theorem ORep.extC {ok ok' : Nat → Prop} {w w' : World} {V V' : List Value} {x : Value} {f : List Nat} (hV : ∀ (i : Nat) (y : Value), V[i]? = some y → V'[i]? = some y) (hb : ∀ b, ok b → ok' b ∧ ∀ a : Addr, a.block = b → w'.cell? a = w.cell? a)
    (hf : ∀ b ∈ f, w'.heap[b]? = w.heap[b]?) : ∀ (o : Ob), ORep ok w V x f o → ORep ok' w' V' x f o
  | .row e size cs, h => by
    unfold ORep at h ⊢
    obtain ⟨h0, n, us, ho, hl, hr, he⟩ := h
    exact ⟨h0, n, us, ownsRow_of_blocks ho (fun b hbm => hf b (by rw [he]; exact hbm)), hl, hr.extC hV hb, he⟩
  | .box t cs, h => by
    unfold ORep at h ⊢
    obtain ⟨g, us, hx, hg, hr, he⟩ := h
    exact ⟨g, us, hx, by rw [hf g (by rw [he]; simp)]; exact hg, hr.extC hV hb, he⟩
  | .cust R, h => by
    unfold ORep at h ⊢
    exact ⟨h.1, h.1 w w' hf h.2⟩
  | .dead, h => by unfold ORep at h ⊢; exact h

/-- WHERE A CALL RUNS: the world in which it began, the old blocks that it may read, those that it was given to write, the carriers that it was given, how many temporaries it has. -/
structure Ctx where
  w0 : World
  X0 : Nat → Prop
  F0 : List Nat
  V0 : List Value
  N : Nat

/-- The blocks that may be read as what they are: old ones that are let, and new ones, but for those that are owned. -/
def okB (C : Ctx) (w : World) (F : List (List Nat)) (b : Nat) : Prop := (C.X0 b ∨ C.w0.heap.size ≤ b) ∧ b < w.heap.size ∧ ∀ f ∈ F, b ∉ f

structure Mem (C : Ctx) (H : List Ob) (V : List Value) (F : List (List Nat)) (w : World) : Prop where
  os : w.os = C.w0.os
  tape : w.tape = C.w0.tape
  output : w.output = C.w0.output
  size : C.w0.heap.size ≤ w.heap.size
  kept : ∀ b, b < C.w0.heap.size → b ∉ C.F0 → w.heap[b]? = C.w0.heap[b]?
  lenV : V.length = H.length
  lenF : F.length = H.length
  obs : ∀ (i : Nat) (o : Ob) (x : Value) (f : List Nat), H[i]? = some o → V[i]? = some x → F[i]? = some f → ORep (okB C w F) w V x f o
  one : ∀ (i : Nat) (x : Value), V[i]? = some x → x.oneCell' = true
  apart : ∀ (i j : Nat) (f g : List Nat) (b : Nat), F[i]? = some f → F[j]? = some g → b ∈ f → b ∈ g → i = j
  own : ∀ f ∈ F, ∀ b ∈ f, b < w.heap.size ∧ (b ∈ C.F0 ∨ C.w0.heap.size ≤ b)
  car : ∀ (i : Nat) (x : Value), C.V0[i]? = some x → V[i]? = some x

/-- WHAT STAYS, from one state of the memory to a later one. -/
structure Ext (C : Ctx) (V : List Value) (F : List (List Nat)) (w : World) (V' : List Value) (F' : List (List Nat)) (w' : World) : Prop where
  car : ∀ (i : Nat) (x : Value), V[i]? = some x → V'[i]? = some x
  blk : ∀ b, okB C w F b → okB C w' F' b ∧ w'.heap[b]? = w.heap[b]?

theorem Ext.refl (C : Ctx) (V : List Value) (F : List (List Nat)) (w : World) : Ext C V F w V F w := ⟨fun _ _ h => h, fun _ h => ⟨h, rfl⟩⟩
theorem Ext.rep {C : Ctx} {V V' : List Value} {F F' : List (List Nat)} {w w' : World} (h : Ext C V F w V' F' w') {av : AV} {x : Value} (hr : VRep (okB C w F) w V av x) : VRep (okB C w' F') w' V' av x := hr.ext h.car h.blk
theorem Ext.reps {C : Ctx} {V V' : List Value} {F F' : List (List Nat)} {w w' : World} (h : Ext C V F w V' F' w') {l : List AV} {us : List Value} (hr : VReps (okB C w F) w V l us) : VReps (okB C w' F') w' V' l us := hr.ext h.car h.blk
theorem Ext.trans {C : Ctx} {V V' V'' : List Value} {F F' F'' : List (List Nat)} {w w' w'' : World} (h : Ext C V F w V' F' w') (k : Ext C V' F' w' V'' F'' w'') : Ext C V F w V'' F'' w'' :=
  ⟨fun i x hx => k.car i x (h.car i x hx), fun b hb => ⟨(k.blk b (h.blk b hb).1).1, (k.blk b (h.blk b hb).1).2.trans (h.blk b hb).2⟩⟩

/-- THE GENERAL STEP of the memory: old blocks that nobody owns are as they were; each object is as it was, or is told anew. -/
theorem Mem.upd {C : Ctx} {H H' : List Ob} {V V' : List Value} {F F' : List (List Nat)} {w w' : World} (m : Mem C H V F w)
    (hos : w'.os = w.os) (htape : w'.tape = w.tape) (hout : w'.output = w.output) (hsz : w.heap.size ≤ w'.heap.size)
    (hoth : ∀ b, b < w.heap.size → (∀ f ∈ F, b ∉ f) → w'.heap[b]? = w.heap[b]?)
    (lenV : V'.length = H'.length) (lenF : F'.length = H'.length)
    (hV : ∀ (i : Nat) (x : Value), V[i]? = some x → V'[i]? = some x)
    (hF : ∀ f' ∈ F', ∀ b ∈ f', b < w'.heap.size ∧ ((∃ f ∈ F, b ∈ f) ∨ w.heap.size ≤ b))
    (hap : ∀ (i j : Nat) (f g : List Nat) (b : Nat), F'[i]? = some f → F'[j]? = some g → b ∈ f → b ∈ g → i = j)
    (hone : ∀ (i : Nat) (x : Value), V'[i]? = some x → x.oneCell' = true)
    (hob : Ext C V F w V' F' w' → ∀ (i : Nat) (o : Ob) (x : Value) (f : List Nat), H'[i]? = some o → V'[i]? = some x → F'[i]? = some f →
      (H[i]? = some o ∧ V[i]? = some x ∧ F[i]? = some f ∧ ∀ b ∈ f, w'.heap[b]? = w.heap[b]?) ∨ ORep (okB C w' F') w' V' x f o) :
    Mem C H' V' F' w' ∧ Ext C V F w V' F' w' := by
  have hext : Ext C V F w V' F' w' := by
    refine ⟨hV, fun b hb => ⟨⟨hb.1, Nat.lt_of_lt_of_le hb.2.1 hsz, fun f' hf' hbf => ?_⟩, hoth b hb.2.1 hb.2.2⟩⟩
    rcases (hF f' hf' b hbf).2 with ⟨f, hf, hbf2⟩ | hge
    · exact hb.2.2 f hf hbf2
    · have := hb.2.1; omega
  refine ⟨⟨hos.trans m.os, htape.trans m.tape, hout.trans m.output, Nat.le_trans m.size hsz, fun b hb hn => ?_, lenV, lenF, fun i o x f ho hx hf => ?_, hone, hap, fun f' hf' b hb => ?_, fun i x h => hV i x (m.car i x h)⟩, hext⟩
  · refine (hoth b (Nat.lt_of_lt_of_le hb m.size) fun f hf hbf => ?_).trans (m.kept b hb hn)
    rcases (m.own f hf b hbf).2 with h | h
    · exact hn h
    · omega
  · rcases hob hext i o x f ho hx hf with ⟨h1, h2, h3, h4⟩ | h
    · exact (m.obs i o x f h1 h2 h3).ext hext.car hext.blk h4
    · exact h
  · obtain ⟨h1, h2⟩ := hF f' hf' b hb
    refine ⟨h1, ?_⟩
    rcases h2 with ⟨f, hf, hbf⟩ | hge
    · exact (m.own f hf b hbf).2
    · have := m.size; exact .inr (by omega)

section
variable {C : Ctx} {H : List Ob} {V : List Value} {F : List (List Nat)} {w w' : World}

theorem mem_of_get {α : Type} {l : List α} {i : Nat} {a : α} (h : l[i]? = some a) : a ∈ l := List.mem_of_getElem? h

/-- The world has drawn, or has new blocks that nobody owns. -/
theorem Mem.more (m : Mem C H V F w) (hos : w'.os = w.os) (htape : w'.tape = w.tape) (hout : w'.output = w.output) (hsz : w.heap.size ≤ w'.heap.size) (hb : ∀ b, b < w.heap.size → w'.heap[b]? = w.heap[b]?) :
    Mem C H V F w' ∧ Ext C V F w V F w' :=
  m.upd hos htape hout hsz (fun b h _ => hb b h) m.lenV m.lenF (fun _ _ h => h) (fun f hf b hbf => ⟨Nat.lt_of_lt_of_le (m.own f hf b hbf).1 hsz, .inl ⟨f, hf, hbf⟩⟩) m.apart m.one
    (fun _ _ _ _ f ho hx hf => .inl ⟨ho, hx, hf, fun b hbf => hb b (m.own f (mem_of_get hf) b hbf).1⟩)

theorem Mem.drew (m : Mem C H V F w) : Mem C H V F w.drew ∧ Ext C V F w V F w.drew := m.more rfl rfl rfl (Nat.le_refl _) (fun _ _ => rfl)

theorem Mem.alloc (m : Mem C H V F w) (o : Obj) : Mem C H V F (w.alloc o) ∧ Ext C V F w V F (w.alloc o) :=
  m.more rfl rfl rfl (by simp) (fun b hb => Below.heap_alloc w o b hb)

/-- Object i has turned; what it owns now it owned before, or is new. -/
theorem Mem.set (m : Mem C H V F w) (i : Nat) (o' : Ob) (f f' : List Nat) (x : Value) (hi : V[i]? = some x) (hf : F[i]? = some f)
    (hos : w'.os = w.os) (htape : w'.tape = w.tape) (hout : w'.output = w.output) (hsz : w.heap.size ≤ w'.heap.size)
    (hoth : ∀ b, b < w.heap.size → b ∉ f → w'.heap[b]? = w.heap[b]?)
    (hf' : ∀ b ∈ f', b < w'.heap.size ∧ (b ∈ f ∨ w.heap.size ≤ b))
    (hob : Ext C V F w V (F.set i f') w' → ORep (okB C w' (F.set i f')) w' V x f' o') :
    Mem C (H.set i o') V (F.set i f') w' ∧ Ext C V F w V (F.set i f') w' := by
  have hiF : i < F.length := (List.getElem?_eq_some_iff.1 hf).1
  refine m.upd hos htape hout hsz (fun b h hn => hoth b h (hn f (mem_of_get hf))) (by simp [m.lenV]) (by simp [m.lenF]) (fun _ _ h => h) ?_ ?_ m.one ?_
  · intro g hg b hb
    obtain ⟨j, hj⟩ := List.getElem?_of_mem hg
    rw [List.getElem?_set] at hj
    split at hj
    · cases hj
      exact ⟨(hf' b hb).1, (hf' b hb).2.imp (fun h => ⟨f, mem_of_get hf, h⟩) id⟩
    · exact ⟨Nat.lt_of_lt_of_le (m.own g (mem_of_get hj) b hb).1 hsz, .inl ⟨g, mem_of_get hj, hb⟩⟩
  · intro p q g k b hp hq hbg hbk
    rw [List.getElem?_set] at hp hq
    by_cases hip : i = p
    · subst hip
      rw [if_pos rfl, if_pos hiF] at hp
      cases hp
      by_cases hiq : i = q
      · exact hiq
      · rw [if_neg hiq] at hq
        rcases (hf' b hbg).2 with h | h
        · exact m.apart i q f k b hf hq h hbk
        · have := (m.own k (mem_of_get hq) b hbk).1; omega
    · rw [if_neg hip] at hp
      by_cases hiq : i = q
      · subst hiq
        rw [if_pos rfl, if_pos hiF] at hq
        cases hq
        rcases (hf' b hbk).2 with h | h
        · exact m.apart p i g f b hp hf hbg h
        · have := (m.own g (mem_of_get hp) b hbg).1; omega
      · rw [if_neg hiq] at hq
        exact m.apart p q g k b hp hq hbg hbk
  · intro hext j o y g ho hy hg
    rw [List.getElem?_set] at ho hg
    by_cases hij : i = j
    · subst hij
      rw [if_pos rfl] at ho hg
      rw [if_pos (by rw [← m.lenF]; exact hiF)] at ho
      rw [if_pos hiF] at hg
      cases ho
      cases hg
      rw [hi] at hy
      cases hy
      exact .inr (hob hext)
    · rw [if_neg hij] at ho hg
      refine .inl ⟨ho, hy, hg, fun b hb => hoth b (m.own g (mem_of_get hg) b hb).1 fun hbf => hij (m.apart i j f g b hf hg hbf hb)⟩

/-- A new object, in new memory (or in none). -/
theorem Mem.push (m : Mem C H V F w) (o' : Ob) (f' : List Nat) (x : Value) (hx1 : x.oneCell' = true)
    (hos : w'.os = w.os) (htape : w'.tape = w.tape) (hout : w'.output = w.output) (hsz : w.heap.size ≤ w'.heap.size)
    (hoth : ∀ b, b < w.heap.size → w'.heap[b]? = w.heap[b]?)
    (hf' : ∀ b ∈ f', b < w'.heap.size ∧ w.heap.size ≤ b)
    (hob : Ext C V F w (V ++ [x]) (F ++ [f']) w' → ORep (okB C w' (F ++ [f'])) w' (V ++ [x]) x f' o') :
    Mem C (H ++ [o']) (V ++ [x]) (F ++ [f']) w' ∧ Ext C V F w (V ++ [x]) (F ++ [f']) w' := by
  refine m.upd hos htape hout hsz (fun b h _ => hoth b h) (by simp [m.lenV]) (by simp [m.lenF]) (fun i y h => by rw [List.getElem?_append_left (List.getElem?_eq_some_iff.1 h).1]; exact h) ?_ ?_ ?_ ?_
  · intro g hg b hb
    rcases List.mem_append.1 hg with h | h
    · exact ⟨Nat.lt_of_lt_of_le (m.own g h b hb).1 hsz, .inl ⟨g, h, hb⟩⟩
    · simp at h
      subst h
      exact ⟨(hf' b hb).1, .inr (hf' b hb).2⟩
  · intro p q g k b hp hq hbg hbk
    rw [List.getElem?_append] at hp hq
    split at hp
    · split at hq
      · exact m.apart p q g k b hp hq hbg hbk
      · have h1 := (m.own g (mem_of_get hp) b hbg).1
        have h2 := mem_of_get hq
        simp at h2
        subst h2
        have := (hf' b hbk).2
        omega
    · split at hq
      · have h1 := (m.own k (mem_of_get hq) b hbk).1
        have h2 := mem_of_get hp
        simp at h2
        subst h2
        have := (hf' b hbg).2
        omega
      · have h1 := (List.getElem?_eq_some_iff.1 hp).1
        have h2 := (List.getElem?_eq_some_iff.1 hq).1
        simp at h1 h2
        omega
  · intro i y hy
    rw [List.getElem?_append] at hy
    split at hy
    · exact m.one i y hy
    · have h2 := mem_of_get hy
      simp at h2
      subst h2
      exact hx1
  · intro hext j o y g ho hy hg
    rw [List.getElem?_append] at ho hy hg
    by_cases hj : j < H.length
    · rw [if_pos hj] at ho
      rw [if_pos (by rw [m.lenV]; exact hj)] at hy
      rw [if_pos (by rw [m.lenF]; exact hj)] at hg
      exact .inl ⟨ho, hy, hg, fun b hb => hoth b (m.own g (mem_of_get hg) b hb).1⟩
    · rw [if_neg hj] at ho
      rw [if_neg (by rw [m.lenV]; exact hj)] at hy
      rw [if_neg (by rw [m.lenF]; exact hj)] at hg
      have h1 := mem_of_get ho
      have h2 := mem_of_get hy
      have h3 := mem_of_get hg
      simp at h1 h2 h3
      subst h1 h2 h3
      exact .inr (hob hext)

/-- Object i is given up; a new one stands in its memory, or in new memory ('append'). -/
theorem Mem.move (m : Mem C H V F w) (i : Nat) (o' : Ob) (f f' : List Nat) (x : Value) (hx1 : x.oneCell' = true) (hf : F[i]? = some f)
    (hos : w'.os = w.os) (htape : w'.tape = w.tape) (hout : w'.output = w.output) (hsz : w.heap.size ≤ w'.heap.size)
    (hoth : ∀ b, b < w.heap.size → b ∉ f → w'.heap[b]? = w.heap[b]?)
    (hf' : ∀ b ∈ f', b < w'.heap.size ∧ (b ∈ f ∨ w.heap.size ≤ b))
    (hob : Ext C V F w (V ++ [x]) (F.set i [] ++ [f']) w' → ORep (okB C w' (F.set i [] ++ [f'])) w' (V ++ [x]) x f' o') :
    Mem C (H.set i .dead ++ [o']) (V ++ [x]) (F.set i [] ++ [f']) w' ∧
      (∀ b, okB C w F b → okB C w' (F.set i [] ++ [f']) b ∧ w'.heap[b]? = w.heap[b]?) ∧ Ext C V F w (V ++ [x]) (F.set i [] ++ [f']) w' := by
  have hiF : i < F.length := (List.getElem?_eq_some_iff.1 hf).1
  have hin : ∀ g ∈ F.set i [], ∀ b ∈ g, ∃ j, j ≠ i ∧ F[j]? = some g := by
    intro g hg b hb
    obtain ⟨j, hj⟩ := List.getElem?_of_mem hg
    rw [List.getElem?_set] at hj
    split at hj
    · cases hj
      simp at hb
    · rename_i hij
      exact ⟨j, fun e => hij e.symm, hj⟩
  have hres := m.upd (H' := H.set i .dead ++ [o']) (V' := V ++ [x]) (F' := F.set i [] ++ [f']) hos htape hout hsz (fun b h hn => hoth b h (hn f (mem_of_get hf))) (by simp [m.lenV]) (by simp [m.lenF])
    (fun i y h => by rw [List.getElem?_append_left (List.getElem?_eq_some_iff.1 h).1]; exact h) ?_ ?_ ?_ ?_
  · exact ⟨hres.1, hres.2.blk, hres.2⟩
  · intro g hg b hb
    rcases List.mem_append.1 hg with h | h
    · obtain ⟨j, _, hj⟩ := hin g h b hb
      exact ⟨Nat.lt_of_lt_of_le (m.own g (mem_of_get hj) b hb).1 hsz, .inl ⟨g, mem_of_get hj, hb⟩⟩
    · simp at h
      subst h
      exact ⟨(hf' b hb).1, (hf' b hb).2.imp (fun h => ⟨f, mem_of_get hf, h⟩) id⟩
  · have old : ∀ (p : Nat) (g : List Nat) (b : Nat), (F.set i [])[p]? = some g → b ∈ g → p ≠ i ∧ F[p]? = some g := by
      intro p g b hp hb
      rw [List.getElem?_set] at hp
      split at hp
      · cases hp
        simp at hb
      · rename_i hip
        exact ⟨fun e => hip e.symm, hp⟩
    have clash : ∀ (p : Nat) (g : List Nat) (b : Nat), (F.set i [])[p]? = some g → b ∈ g → b ∈ f' → False := by
      intro p g b hp hb hb'
      obtain ⟨hne, hp'⟩ := old p g b hp hb
      rcases (hf' b hb').2 with h | h
      · exact hne (m.apart p i g f b hp' hf hb h)
      · have := (m.own g (mem_of_get hp') b hb).1; omega
    intro p q g k b hp hq hbg hbk
    rw [List.getElem?_append] at hp hq
    split at hp
    · split at hq
      · exact m.apart p q g k b (old p g b hp hbg).2 (old q k b hq hbk).2 hbg hbk
      · have h2 := mem_of_get hq
        simp at h2
        subst h2
        exact (clash p g b hp hbg hbk).elim
    · split at hq
      · have h2 := mem_of_get hp
        simp at h2
        subst h2
        exact (clash q k b hq hbk hbg).elim
      · rename_i n1 n2
        have h1 := (List.getElem?_eq_some_iff.1 hp).1
        have h2 := (List.getElem?_eq_some_iff.1 hq).1
        simp only [List.length_singleton] at h1 h2
        omega
  · intro j y hy
    rw [List.getElem?_append] at hy
    split at hy
    · exact m.one j y hy
    · have h2 := mem_of_get hy
      simp at h2
      subst h2
      exact hx1
  · intro hext j o y g ho hy hg
    rw [List.getElem?_append] at ho hy hg
    by_cases hj : j < H.length
    · rw [if_pos (by simpa using hj)] at ho
      rw [if_pos (by rw [m.lenV]; exact hj)] at hy
      rw [if_pos (by simp [m.lenF]; exact hj)] at hg
      rw [List.getElem?_set] at ho hg
      by_cases hij : i = j
      · subst hij
        rw [if_pos rfl, if_pos hj] at ho
        rw [if_pos rfl, if_pos hiF] at hg
        cases ho
        cases hg
        exact .inr rfl
      · rw [if_neg hij] at ho hg
        exact .inl ⟨ho, hy, hg, fun b hb => hoth b (m.own g (mem_of_get hg) b hb).1 fun hbf => hij (m.apart i j f g b hf hg hbf hb)⟩
    · rw [if_neg (by simp; omega)] at ho
      rw [if_neg (by rw [m.lenV]; exact hj)] at hy
      rw [if_neg (by simp [m.lenF]; omega)] at hg
      have h1 := mem_of_get ho
      have h2 := mem_of_get hy
      have h3 := mem_of_get hg
      simp at h1 h2 h3
      subst h1 h2 h3
      exact .inr (hob hext)
end
end Go.Qw
