/-
  An abstract machine over the model's own code, part O: loops that keep what they do not turn; conditions; ways that meet. No program is named here.
-/
import Derived.Test.YtmeacgkhabnjlaaDoorQwN
set_option linter.unusedSimpArgs false
set_option linter.unusedVariables false
set_option linter.unusedSectionVars false
namespace Go.Qw
open Go.RowKit

section
variable {P : Program} {C : Ctx} {tb : Tab} {Q : Exit → DF → List OD → Prop} {fr : DF} {H : List OD}

theorem AWPD.condN {c : Operand} {x y : Code} {p : Prop} [Decidable p] (hc : evD 0 fr c = some (.b (!decide p))) (ht : ¬p → AWPD P C x Q fr H) (hf : p → AWPD P C y Q fr H) : AWPD P C (.cond c x y) Q fr H :=
  AWPD.cond hc (fun h => ht (by simpa using h)) (fun h => hf (by simpa using h))
/-- 'a && b', 'a || b'. -/
theorem AWPD.condA {c : Operand} {x y : Code} {p : Prop} [Decidable p] {b : Bool} (hc : evD 0 fr c = some (.b (bif decide p then b else false))) (ht : p ∧ b = true → AWPD P C x Q fr H) (hf : ¬(p ∧ b = true) → AWPD P C y Q fr H) : AWPD P C (.cond c x y) Q fr H :=
  AWPD.cond hc (fun h => ht (by simpa using h)) (fun h => hf (by simpa using h))
theorem AWPD.condO {c : Operand} {x y : Code} {p : Prop} [Decidable p] {b : Bool} (hc : evD 0 fr c = some (.b (bif decide p then true else b))) (ht : p ∨ b = true → AWPD P C x Q fr H) (hf : ¬p ∧ b = false → AWPD P C y Q fr H) : AWPD P C (.cond c x y) Q fr H :=
  AWPD.cond hc (fun h => ht (by simpa using h)) (fun h => hf (by simpa using h))

theorem AWPD.condAP {c : Operand} {x y : Code} {p q : Prop} [Decidable p] [Decidable q] (hc : evD 0 fr c = some (.b (bif decide p then decide q else false))) (ht : p ∧ q → AWPD P C x Q fr H) (hf : ¬(p ∧ q) → AWPD P C y Q fr H) : AWPD P C (.cond c x y) Q fr H :=
  AWPD.cond hc (fun h => ht (by simpa using h)) (fun h => hf (by simpa using h))
theorem AWPD.condOP {c : Operand} {x y : Code} {p q : Prop} [Decidable p] [Decidable q] (hc : evD 0 fr c = some (.b (bif decide p then true else decide q))) (ht : p ∨ q → AWPD P C x Q fr H) (hf : ¬p ∧ ¬q → AWPD P C y Q fr H) : AWPD P C (.cond c x y) Q fr H :=
  AWPD.cond hc (fun h => ht (by simpa using h)) (fun h => hf (by
    simp only [Bool.cond_true_left, Bool.or_eq_false_iff, decide_eq_false_iff_not] at h
    exact h))
theorem AWPD.condONN {c : Operand} {x y : Code} {p q : Prop} [Decidable p] [Decidable q] (hc : evD 0 fr c = some (.b (bif !decide p then true else !decide q))) (ht : ¬p ∨ ¬q → AWPD P C x Q fr H) (hf : p ∧ q → AWPD P C y Q fr H) : AWPD P C (.cond c x y) Q fr H :=
  AWPD.cond hc (fun h => ht (by simpa [Decidable.or_iff_not_imp_left] using h)) (fun h => hf (by simpa using h))
theorem AWPD.condOPN {c : Operand} {x y : Code} {p q : Prop} [Decidable p] [Decidable q] (hc : evD 0 fr c = some (.b (bif decide p then true else !decide q))) (ht : p ∨ ¬q → AWPD P C x Q fr H) (hf : ¬p ∧ q → AWPD P C y Q fr H) : AWPD P C (.cond c x y) Q fr H :=
  AWPD.cond hc (fun h => ht (by simpa using h)) (fun h => hf (by simpa using h))
theorem RetD.one {t : Nat} {r : DV} (h : fitO H (lookD fr t) r) : RetD fr H [.tmp t] r := h
theorem fitI {t : Nat} {a b : Int} (h : lookD fr t = some (.i a)) (e : a = b) : fitO H (lookD fr t) (.i b) := by rw [h]; exact e
theorem fitB {t : Nat} {a b : Bool} (h : lookD fr t = some (.b a)) (e : a = b) : fitO H (lookD fr t) (.b b) := by rw [h]; exact e
theorem fitE {t : Nat} {T : TypeId} {a b : Int} (h : lookD fr t = some (.er T a)) (e : a = b) : fitO H (lookD fr t) (.er T b) := by rw [h]; exact ⟨rfl, e⟩
theorem fitS {t : Nat} {τ : Ty} {a b : List τ.T} (h : lookD fr t = some (.sl τ a)) (e : a = b) : fitO H (lookD fr t) (.sl τ b) := by rw [h]; exact ⟨rfl, e⟩
theorem fitN {t : Nat} {τ : Ty} {b : List τ.T} (h : lookD fr t = some .nil) (e : b = []) (hs : 0 < τ.size) : fitO H (lookD fr t) (.sl τ b) := by rw [h]; exact ⟨e, hs⟩
theorem fitR {t k : Nat} {T : TypeId} {τ : Ty} {a b : List τ.T} (h : lookD fr t = some (.ob k)) (hk : getOD H k = some (.row T τ a)) (e : a = b) : fitO H (lookD fr t) (.sl τ b) := by
  rw [h]
  simp only [fitO, snapD, hk]
  exact ⟨rfl, e⟩
/-- A LOOP: the slots 'ts' stay as they are; 'ch s' tells the others; in the state s at most n rounds are to come. -/
def backD {σ : Type} (V0 : List Value) (base : DF) (ch : σ → DF → DF) (Hs : σ → List OD) (I : Nat → σ → Prop) (n : Nat) (fr : DF) (H : List OD) : Prop :=
  ∃ m s ren, m < n ∧ I m s ∧ (List.Nodup ren ∧ carB V0 ren = true) ∧ matchH H ren (Hs s) ∧ matchR ren fr (ch s base)
theorem AWPD.loopK {σ : Type} {c : Code} (ts : List Nat) {base : DF} (ch : σ → DF → DF) (Hs : σ → List OD) (I : Nat → σ → Prop) (n : Nat) (s0 : σ) (ren : List Nat) (hC : carB C.V0 ren = true) (_hk : keepF fr ts [] = some base) (h0 : I n s0) (hnd : ren.Nodup) (hH : matchH H ren (Hs s0)) (hF : matchR ren fr (ch s0 base))
    (hround : ∀ n s, I n s → AWPD P C c (thenD (backD C.V0 base ch Hs I n) Q) (ch s base) (Hs s)) : AWPD P C (.loop c) Q fr H :=
  AWPD.loop (fun s => ch s base) Hs I n s0 ren hC h0 hnd hH hF hround
/-- WHERE WAYS MEET: one state in place of each. -/
def meetD {σ : Type} (V0 : List Value) (base : DF) (ch : σ → DF → DF) (Hs : σ → List OD) (I : σ → Prop) (fr : DF) (H : List OD) : Prop :=
  ∃ s ren, I s ∧ (List.Nodup ren ∧ carB V0 ren = true) ∧ matchH H ren (Hs s) ∧ matchR ren fr (ch s base)
theorem AWPD.meet {σ : Type} {x y : Code} (ts : List Nat) {base : DF} (ch : σ → DF → DF) (Hs : σ → List OD) (I : σ → Prop) (_hk : keepF fr ts [] = some base) (hx : AWPD P C x (thenD (meetD C.V0 base ch Hs I) Q) fr H)
    (hy : ∀ s, I s → AWPD P C y Q (ch s base) (Hs s)) : AWPD P C (.seq x y) Q fr H :=
  AWPD.seq fun _ hK => AWPD.mono hx fun e fr' H' h => by
    cases e with
    | normal =>
      obtain ⟨s, ren, h1, h2, h3, h4⟩ := h
      exact hK fr' H' (AWPD.to ren _ _ h2.2 h2.1 h3 h4 (hy s h1))
    | exit id => exact h
    | goto l => exact h
    | ret => exact h
    | panic ch => exact h
    | outgrown => exact h
end

theorem castL_self {τ : Ty} (h : τ = τ) (xs : List τ.T) : castL h xs = xs := rfl
theorem drop_cons {α : Type} {l : List α} {i : Nat} (h : i < l.length) (d : α) : l.drop i = l.getD i d :: l.drop (i + 1) := by
  rw [List.drop_eq_getElem_cons h]
  simp [List.getD, h]
theorem take_getD {α : Type} {l : List α} {k j : Nat} (h : k < j) (d : α) : (l.take j).getD k d = l.getD k d := by
  simp [List.getD, h]
theorem in_take {α : Type} {l : List α} {k j : Nat} (h : k < j) (hl : k < l.length) {d : α} : l.getD k d ∈ l.take j := by
  rw [← take_getD h]
  have : k < (l.take j).length := by rw [List.length_take]; omega
  simp only [List.getD, List.getElem?_eq_getElem this, Option.getD_some]
  exact List.getElem_mem this
theorem not_in_take {α : Type} {l : List α} {j : Nat} {c d : α} (hj : j ≤ l.length) (h : ∀ q, q < j → l.getD q d ≠ c) : c ∉ l.take j := fun hm => by
  obtain ⟨q, hq, rfl⟩ := List.mem_iff_getElem.1 hm
  rw [List.length_take] at hq
  refine h q (by omega) ?_
  simp [List.getD, show q < l.length by omega]
theorem take_snoc {α : Type} {l : List α} {i : Nat} (h : i < l.length) (d : α) : l.take (i + 1) = l.take i ++ [l.getD i d] := by
  rw [List.take_succ_eq_append_getElem h]
  simp [List.getD, h]
end Go.Qw
