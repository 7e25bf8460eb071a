/-
  An abstract machine over the model's own code, part K: what the function says of any operation is so. No program is named here.
-/
import Derived.Test.YtmeacgkhabnjlaaDoorQwJ
set_option linter.unusedSimpArgs false
set_option linter.unusedVariables false
set_option linter.unusedSectionVars false
namespace Go.Qw
open Go.RowKit

section
variable {P : Program} {C : Ctx} {tb : Tab} {ρ : Operand → Option DV} {ρA : Operand → Option AV} {H H' : List OD} {d : Option Nat} {t : TypeId} {p : String} {af : Array Edge} {g : Option (Nat × Bool)}

theorem toList_one {α : Type} {a : Array α} {x : α} (h : a.toList = [x]) : a = #[x] := by rw [← Array.toArray_toList (xs := a), h]
theorem toList_two {α : Type} {a : Array α} {x y : α} (h : a.toList = [x, y]) : a = #[x, y] := by rw [← Array.toArray_toList (xs := a), h]
theorem min_int (a b : Int) : (if b < a then b else a) = min a b := by
  rw [Int.min_def]; split <;> split <;> omega

theorem opF_sound (ok : TabOK P tb) (hρ : Told ρ ρA) {op : Op} {a : DV} {q : Option Prop} {ch : Bool} (h : opF tb ρ H op = some (a, H', q, ch)) (hq : holdsO q) :
    VStep P C ⟨d, op, t, p, af, g⟩ ρA (H.map OD.ob) a.av (H'.map OD.ob) ∧ (ch = false → H' = H) := by
  unfold opF at h
  split at h
  -- move, assign
  · split at h
    · rename_i hx; cases h; exact ⟨VStep.move (hρ.1 _ _ hx), fun _ => rfl⟩
    · cases h
  · split at h
    · rename_i hx; cases h; exact ⟨VStep.assign (hρ.1 _ _ hx), fun _ => rfl⟩
    · cases h
  -- pick
  · split at h
    · rename_i bb hc
      split at h
      · rename_i b1 b2 hx hy
        cases h
        refine ⟨?_, fun _ => rfl⟩
        cases bb with
        | true => exact VStep.pickT (hρ.1 _ _ hc) rfl (hρ.1 _ _ hx)
        | false => exact VStep.pickF (hρ.1 _ _ hc) rfl (hρ.1 _ _ hy)
      · cases h
    · cases h
  -- binOp
  · split at h
    · rename_i a hx
      split at h
      · rename_i r q hE
        cases h
        exact ⟨binE_ok ok hE (hρ.1 _ _ hx) hρ.2, fun _ => rfl⟩
      · split at h
        · rename_i b hy
          split at h
          · rename_i r q hB
            cases h
            exact ⟨binF_ok ok hB hq (hρ.1 _ _ hx) (hρ.1 _ _ hy), fun _ => rfl⟩
          · cases h
        · cases h
    · cases h
  -- not
  · split at h
    · rename_i hx; cases h; exact ⟨VStep.not (hρ.1 _ _ hx), fun _ => rfl⟩
    · cases h
  -- makeInterface
  · split at h
    · rename_i n hx
      obtain ⟨h1, h9⟩ := bif_some h
      clear h
      cases h9
      have h1 := Nat.eq_of_beq_eq_true h1
      subst h1
      exact ⟨VStep.mkErr (hρ.1 _ _ hx) ok.errno hq, fun _ => rfl⟩
    · cases h
  -- extract
  · split at h
    · rename_i l hx
      split at h
      · rename_i a hl
        cases h
        exact ⟨VStep.extract (hρ.1 _ _ hx) (avs_get _ _ _ (by rw [← getL_eq]; exact hl)), fun _ => rfl⟩
      · cases h
    · cases h
  -- nilCheck
  · split at h
    · rename_i hx; cases h; exact ⟨VStep.nilCheckR (hρ.1 _ _ hx), fun _ => rfl⟩
    · rename_i hx; cases h; exact ⟨VStep.nilCheckR (hρ.1 _ _ hx), fun _ => rfl⟩
    · rename_i hx; cases h; exact ⟨VStep.nilCheckP (hρ.1 _ _ hx), fun _ => rfl⟩
    · rename_i hx; cases h; exact ⟨VStep.nilCheckP (hρ.1 _ _ hx), fun _ => rfl⟩
    · cases h
  -- len
  · split at h
    · rename_i x T e1 e2
      rw [toList_one e1, toList_one e2]
      exact lenF_ok ok hρ h
    · cases h
  -- min, max
  · split at h
    · rename_i x y e1
      rw [toList_two e1]
      split at h
      · rename_i a b hx hy
        cases h
        refine ⟨?_, fun _ => rfl⟩
        exact VStep.min2 (hρ.1 _ _ hx) (hρ.1 _ _ hy)
      · cases h
    · cases h
  · split at h
    · rename_i x y e1
      rw [toList_two e1]
      split at h
      · rename_i a b hx hy
        cases h
        refine ⟨?_, fun _ => rfl⟩
        exact VStep.max2 (hρ.1 _ _ hx) (hρ.1 _ _ hy)
      · cases h
    · cases h
  -- append
  · split at h
    · rename_i s x T T' e1 e2
      obtain ⟨h1, h9⟩ := bif_some h
      clear h
      have h1 := Nat.eq_of_beq_eq_true h1
      subst h1
      rw [toList_two e1, toList_two e2]
      exact appF_ok ok hρ h9 hq
    · cases h
  -- indexAddr
  · split at h
    · rename_i b n hx hy
      split at h
      · rename_i hF
        cases h
        exact ⟨addrF_ok ok hρ hx hy hF hq, fun _ => rfl⟩
      · cases h
    · cases h
  -- fieldAddr
  · split at h
    · rename_i off hf
      have hT := ok.fld _ (findF_mem hf)
      split at h
      · rename_i τ xs k j hx
        cases h
        refine ⟨?_, fun _ => rfl⟩
        exact VStep.fieldAddr (hρ.1 _ _ hx) hT
      · rename_i l c hx
        cases h
        refine ⟨?_, fun _ => rfl⟩
        have := VStep.fieldAddr (P := P) (C := C) (d := d) (t := t) (p := p) (af := af) (g := g) (H := H.map OD.ob) (cs := DV.avs l) (c := c) (j := 0) (hρ.1 _ _ hx) hT
        simpa [DV.av] using this
      · rename_i hx
        cases h
        refine ⟨?_, fun _ => rfl⟩
        exact VStep.fieldAddrO (hρ.1 _ _ hx) hT
      · rename_i n c hx
        cases h
        refine ⟨?_, fun _ => rfl⟩
        have := VStep.fieldAddrO (P := P) (C := C) (d := d) (t := t) (p := p) (af := af) (g := g) (H := H.map OD.ob) (n := n) (c := c) (j := 0) (hρ.1 _ _ hx) hT
        simpa [DV.av] using this
      · cases h
    · cases h
  -- load
  · split at h
    · rename_i b hx
      split at h
      · rename_i hF
        cases h
        exact ⟨loadF_ok ok hρ hx hF hq, fun _ => rfl⟩
      · cases h
    · cases h
  -- store
  · split at h
    · rename_i b v hx hy
      split at h
      · rename_i hF
        cases h
        exact ⟨storeF_ok ok hρ hx hy hF hq, fun h => by cases h⟩
      · cases h
    · cases h
  -- slice
  · split at h
    · rename_i b hx
      split at h
      · rename_i lo hi
        split at h
        · rename_i hF
          split at h
          · rename_i hl hh
            cases h
            rw [hl, hh] at hF
            exact ⟨sliceF_ok2 ok hρ hx hl hh hF hq, fun _ => rfl⟩
          · cases h
        · cases h
      · split at h
        · rename_i hl
          split at h
          · rename_i hF
            cases h
            exact ⟨sliceF_ok1 ok hρ hx hl hF hq, fun _ => rfl⟩
          · cases h
        · cases h
      · split at h
        · rename_i hh
          split at h
          · rename_i hF
            cases h
            exact ⟨sliceF_ok0 ok hρ hx hh hF hq, fun _ => rfl⟩
          · cases h
        · cases h
      · cases h
    · cases h
  -- box
  · split at h
    · rename_i l hx
      cases h
      exact ⟨VStep.box (hρ.1 _ _ hx), fun _ => rfl⟩
    · rename_i q hn hx
      cases hc : isCell q with
      | true =>
        rw [hc] at h
        cases h
        exact ⟨VStep.box1 (hρ.1 _ _ hx) (isCell_av hc), fun _ => rfl⟩
      | false => rw [hc] at h; cases h
    · cases h
  -- alloc
  · split at h
    · rename_i l hf
      cases h
      refine ⟨?_, fun h => by cases h⟩
      have := VStep.alloc (P := P) (C := C) (d := d) (t := t) (p := p) (af := af) (g := g) (ρ := ρA) (H := H.map OD.ob) (ok.zer _ (findT_mem hf))
      simpa [DV.av, lenOD_map, OD.ob] using this
    · split at h
      · rename_i n hf
        cases h
        refine ⟨?_, fun h => by cases h⟩
        have := VStep.alloc (P := P) (C := C) (d := d) (t := t) (p := p) (af := af) (g := g) (ρ := ρA) (H := H.map OD.ob) (ok.zar _ (findT_mem hf))
        have hr : (List.replicate n (0 : Int)).flatMap (gT .int) = List.replicate n (iv 0) := rep_flat (gg := gT .int) (q := (0 : Int)) rfl n
        rw [← hr] at this
        have e2 : (DV.op (lenOD H) 0).av = AV.op (H.map OD.ob).length (0 + 0) := by rw [← lenOD_map]; rfl
        rw [e2, List.map_append]
        exact this
      · cases h
  -- build
  · split at h
    · rename_i hp
      split at h
      · rename_i n hf
        cases h
        refine ⟨?_, fun _ => rfl⟩
        exact VStep.buildZ hp (ok.bz _ (findT_mem hf))
      · cases h
    · rename_i x0 l0 hp
      rw [← hp] at h
      split at h
      · rename_i n hf
        split at h
        · rename_i l hl
          obtain ⟨h1, h9⟩ := bif_some h
          clear h
          simp only [Bool.and_eq_true] at h1
          cases h9
          have u2 := allFlat_av h1.2
          have hlen := evsD_len hl
          have e1 := Nat.eq_of_beq_eq_true h1.1.2
          rw [lenL_eq] at e1
          have hix := idxOK_range _ _ h1.1.1
          simp only [List.length_map] at hlen
          rw [← hlen, e1] at hix
          refine ⟨?_, fun _ => rfl⟩
          have := VStep.build (P := P) (C := C) (d := d) (t := t) (p := p) (af := af) (g := g) (H := H.map OD.ob) (evsD_evs hρ hl) (by rw [hix, List.range_eq_range']) (ok.bld _ (findT_mem hf)) u2
          exact this
        · cases h
      · cases h
  -- buildSlice
  · split at h
    · rename_i e τ bytes hf
      split at h
      · rename_i l hl
        split at h
        · rename_i xs hxs
          obtain ⟨h1, h9⟩ := bif_some h
          clear h
          simp only [Bool.and_eq_true, Nat.blt_eq, Nat.ble_eq] at h1
          cases h9
          have hlen := evsD_len hl
          obtain ⟨⟨⟨⟨h1, h2⟩, h3⟩, h4⟩, h5⟩ := h1
          have e1 := Nat.eq_of_beq_eq_true h2
          rw [lenL_eq] at e1
          have hix := idxOK_range _ _ h1
          simp only [List.length_map] at hlen
          rw [← hlen, e1] at hix
          obtain ⟨c1, c2⟩ := toTs_avs hxs
          refine ⟨?_, fun _ => rfl⟩
          exact VStep.buildSlice (evsD_evs hρ hl) (by rw [hix, List.range_eq_range']) (ok.sl _ (findT_mem hf)).2 c1 (cells1_flatMap (gT_cells1 τ) xs) c2 ⟨h3, h4, h5⟩
        · cases h
      · cases h
    · cases h
  -- makeSlice
  · split at h
    · rename_i e τ bytes hf
      split at h
      · rename_i e' z hm
        split at h
        · rename_i q0 hz
          split at h
          · rename_i n m hx hy
            obtain ⟨h1, h9⟩ := bif_some h
            clear h
            cases h9
            simp only [Bool.and_eq_true] at h1
            have e1 := Nat.eq_of_beq_eq_true h1.1
            have e2 := Nat.eq_of_beq_eq_true h1.2
            subst e1
            simp only [holdsO] at hq
            obtain ⟨rfl, h0, hb', hb⟩ := hq
            have hT := (ok.sl _ (findT_mem hf)).2
            simp only at hT
            rw [e2] at hT
            have hz1 : z.oneCell' = true ∧ gT τ q0 = [.v z] := by
              unfold zT at hz
              split at hz
              · cases hz; exact ⟨rfl, rfl⟩
              · cases hz; exact ⟨rfl, rfl⟩
              · cases hz
            refine ⟨?_, fun h => by cases h⟩
            have hxA := hρ.1 _ _ hx
            have hyA := hρ.1 _ _ hy
            rw [show (DV.i m).av = .v (.int .i64 ((m.toNat : Nat) : Int)) by rw [toNat_eq h0]; rfl] at hxA hyA
            have := VStep.make (P := P) (C := C) (d := d) (t := t) (p := p) (af := af) (g := g) (H := H.map OD.ob) q0 hxA hyA hT (ok.made _ (findT_mem hm)) hz1.1 hz1.2 hb (by unfold maxLen; omega)
            simpa [DV.av, lenOD_map, OD.ob, e2] using this
          · cases h
        · cases h
      · cases h
    · cases h
  -- index
  · split at h
    · rename_i e sz hf
      have hT := ok.arr _ (findT_mem hf)
      split at h
      · rename_i l n hx hy
        split at h
        · rename_i a hl
          cases h
          exact ⟨VStep.indexArr (hρ.1 _ _ hx) (hρ.1 _ _ hy) hT.1 hT.2 hq (avs_get _ _ _ (by rw [← getL_eq]; exact hl)), fun _ => rfl⟩
        · cases h
      · cases h
    · cases h
  -- field
  · split at h
    · rename_i off hf
      have hT := ok.fld _ (findF_mem hf)
      split at h
      · rename_i l hx
        split at h
        · rename_i a hl
          cases h
          exact ⟨VStep.field (hρ.1 _ _ hx) hT (avs_get _ _ _ (by rw [← getL_eq]; exact hl)), fun _ => rfl⟩
        · cases h
      · cases h
    · cases h
  · cases h

theorem lenF_ch {x : Operand} {T : TypeId} {a : DV} {q : Option Prop} {ch : Bool} (h : lenF tb ρ H x T = some (a, H', q, ch)) : H' = H := by
  unfold lenF at h
  repeat' split at h
  all_goals first | (cases h; rfl) | cases h
theorem appF_ch {s x : Operand} {T : TypeId} {a : DV} {q : Option Prop} {ch : Bool} (h : appF tb ρ H s x T = some (a, H', q, ch)) : ch = true := by
  unfold appF at h
  repeat' split at h
  all_goals first | (cases h; rfl) | (cases (bif_some h).2; rfl) | cases h
theorem opF_ch {op : Op} {a : DV} {q : Option Prop} {ch : Bool} (h : opF tb ρ H op = some (a, H', q, ch)) (hc : ch = false) : H' = H := by
  subst hc
  unfold opF at h
  split at h
  case h_9 => 
    split at h
    · exact lenF_ch h
    · cases h
  case h_12 =>
    split at h
    · cases appF_ch (bif_some h).2
    · cases h
  all_goals repeat' split at h
  all_goals first | (cases h; rfl) | (cases (bif_some h).2; rfl) | (cases (bif_some h).2) | cases h

/-- Literals that are to be rows of the call's own: by the slot that they are for. -/
def inN : List Nat → Option Nat → Bool
  | [], _ => false
  | _, none => false
  | k :: r, some d => bif Nat.beq k d then true else inN r (some d)
def ownB (tb : Tab) (ρ : Operand → Option DV) (H : List OD) (T : TypeId) (n : Nat) (parts : Array (Nat × Operand)) : Option Res :=
  match findT tb.sl T with
  | some (e, τ, _) => match evsD ρ (parts.toList.map (·.2)) with
    | some l => match toTs τ l with
      | some xs => bif idxOK 0 parts.toList && Nat.beq (lenL l) n && Nat.blt 0 n && Nat.ble n 65536 && Nat.ble (n * τ.size) 16777216 then some (.ob (lenOD H), H ++ [.row e τ xs], none, true) else none
      | none => none
    | none => none
  | none => none
def opG (tb : Tab) (ρ : Operand → Option DV) (H : List OD) (dst : Option Nat) (op : Op) : Option Res := match inN tb.own dst with
  | true => match op with
    | .buildSlice T n parts => ownB tb ρ H T n parts
    | op => opF tb ρ H op
  | false => opF tb ρ H op
theorem ownB_ch {T : TypeId} {n : Nat} {parts : Array (Nat × Operand)} {a : DV} {q : Option Prop} {ch : Bool} (h : ownB tb ρ H T n parts = some (a, H', q, ch)) : ch = true := by
  unfold ownB at h
  repeat' split at h
  all_goals first | (cases h; rfl) | (cases (bif_some h).2; rfl) | cases h
theorem opG_ch {dst : Option Nat} {op : Op} {a : DV} {q : Option Prop} {ch : Bool} (h : opG tb ρ H dst op = some (a, H', q, ch)) (hc : ch = false) : H' = H := by
  unfold opG at h
  split at h
  · split at h
    · have := ownB_ch h
      subst hc
      cases this
    · exact opF_ch h hc
  · exact opF_ch h hc
theorem opG_sound (ok : TabOK P tb) (hρ : Told ρ ρA) {dst : Option Nat} {op : Op} {a : DV} {q : Option Prop} {ch : Bool} (h : opG tb ρ H dst op = some (a, H', q, ch)) (hq : holdsO q) :
    VStep P C ⟨d, op, t, p, af, g⟩ ρA (H.map OD.ob) a.av (H'.map OD.ob) ∧ (ch = false → H' = H) := by
  unfold opG at h
  split at h
  · split at h
    · unfold ownB at h
      split at h
      · rename_i e τ bytes hf
        split at h
        · rename_i l hl
          split at h
          · rename_i xs hxs
            obtain ⟨h1, h9⟩ := bif_some h
            clear h
            simp only [Bool.and_eq_true, Nat.blt_eq, Nat.ble_eq] at h1
            cases h9
            have hlen := evsD_len hl
            obtain ⟨⟨⟨⟨h1, h2⟩, h3⟩, h4⟩, h5⟩ := h1
            have e1 := Nat.eq_of_beq_eq_true h2
            rw [lenL_eq] at e1
            have hix := idxOK_range _ _ h1
            simp only [List.length_map] at hlen
            rw [← hlen, e1] at hix
            obtain ⟨c1, c2⟩ := toTs_avs hxs
            refine ⟨?_, fun h => by cases h⟩
            have := VStep.buildOwn (P := P) (C := C) (d := d) (t := t) (p := p) (af := af) (g := g) (H := H.map OD.ob) (evsD_evs hρ hl) (by rw [hix, List.range_eq_range']) (ok.sl _ (findT_mem hf)).2 c1 (cells1_flatMap (gT_cells1 τ) xs) c2 ⟨h3, h4, h5⟩
            have e2 : (DV.ob (lenOD H)).av = AV.ob (H.map OD.ob).length := by rw [← lenOD_map]; rfl
            rw [e2, List.map_append]
            exact this
          · cases h
        · cases h
      · cases h
    · exact opF_sound ok hρ h hq
  · exact opF_sound ok hρ h hq
/-- What neither looks at the world nor turns it does so whatever the objects are. -/
theorem opG_pure (ok : TabOK P tb) (hρ : Told ρ ρA) {dst : Option Nat} {op : Op} {a : DV} {q : Option Prop} {ch : Bool} (h : opG tb ρ H dst op = some (a, H', q, ch)) (hq : holdsO q) (hp : pureK op = true) (H2 : List Ob) : VStep P C ⟨d, op, t, p, af, g⟩ ρA H2 a.av H2 := by
  have h' : opF tb ρ H op = some (a, H', q, ch) := by
    unfold opG at h
    split at h
    · split at h
      · cases hp
      · exact h
    · exact h
  clear h
  by_cases hsl : ∃ T x lo hi, op = .slice T x lo hi none
  · obtain ⟨T, x, lo, hi, rfl⟩ := hsl
    simp only [opF] at h'
    split at h'
    · rename_i b hx
      split at h'
      · rename_i lo hi
        split at h'
        · rename_i hF
          split at h'
          · rename_i hl hh
            cases h'
            rw [hl, hh] at hF
            exact sliceF_ok2 ok hρ hx hl hh hF hq
          · cases h'
        · cases h'
      · split at h'
        · rename_i hl
          split at h'
          · rename_i hF
            cases h'
            exact sliceF_ok1 ok hρ hx hl hF hq
          · cases h'
        · cases h'
      · split at h'
        · rename_i hh
          split at h'
          · rename_i hF
            cases h'
            exact sliceF_ok0 ok hρ hx hh hF hq
          · cases h'
        · cases h'
      · cases h'
    · cases h'
  have hns : ∀ T x lo hi mx, op ≠ .slice T x lo hi mx := fun T x lo hi mx e => by
    subst e
    cases mx with
    | none => exact hsl ⟨_, _, _, _, rfl⟩
    | some m => cases hp
  cases op <;> simp only [pureK] at hp <;> try cases hp
  all_goals try (exact absurd rfl (hns _ _ _ _ _))
  all_goals simp only [opF] at h'
  · split at h'
    · rename_i hx; cases h'; exact VStep.move (hρ.1 _ _ hx)
    · cases h'
  · split at h'
    · rename_i hx; cases h'; exact VStep.nilCheckR (hρ.1 _ _ hx)
    · rename_i hx; cases h'; exact VStep.nilCheckR (hρ.1 _ _ hx)
    · rename_i hx; cases h'; exact VStep.nilCheckP (hρ.1 _ _ hx)
    · rename_i hx; cases h'; exact VStep.nilCheckP (hρ.1 _ _ hx)
    · cases h'
  · split at h'
    · rename_i hf
      have hT := ok.fld _ (findF_mem hf)
      split at h'
      · rename_i hx
        cases h'
        exact VStep.fieldAddr (hρ.1 _ _ hx) hT
      · rename_i l c hx
        cases h'
        simpa [DV.av] using VStep.fieldAddr (P := P) (C := C) (d := d) (t := t) (p := p) (af := af) (g := g) (H := H2) (cs := DV.avs l) (c := c) (j := 0) (hρ.1 _ _ hx) hT
      · rename_i hx
        cases h'
        exact VStep.fieldAddrO (hρ.1 _ _ hx) hT
      · rename_i n c hx
        cases h'
        simpa [DV.av] using VStep.fieldAddrO (P := P) (C := C) (d := d) (t := t) (p := p) (af := af) (g := g) (H := H2) (n := n) (c := c) (j := 0) (hρ.1 _ _ hx) hT
      · cases h'
    · cases h'
end
end Go.Qw
