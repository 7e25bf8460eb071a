/-
  An abstract machine over the model's own code, part G: a region that draws its order: the text's order serves every order, if a table of who waits for whom says so. No program is named here.
-/
import Derived.Test.YtmeacgkhabnjlaaDoorQwF
set_option linter.unusedSimpArgs false
set_option linter.unusedVariables false
set_option linter.unusedSectionVars false
namespace Go.Qw
open Go.RowKit

def afterB (o : Oper) : List Nat := (o.after.toList.filter fun e => Region.binds .any e).map (·.on)
/-- Of each operation all that come ahead of it, in whatever order. -/
def orAll (acc : List Nat) : List Nat → Nat
  | [] => 0
  | j :: r => (2 ^ j ||| acc.getD j 0) ||| orAll acc r
theorem orAll_bit {acc : List Nat} {j : Nat} : ∀ {l : List Nat}, (orAll acc l).testBit j = true → ∃ m ∈ l, j = m ∨ (acc.getD m 0).testBit j = true
  | [], h => by simp [orAll] at h
  | m :: r, h => by
    rw [orAll, Nat.testBit_or, Nat.testBit_or, Bool.or_eq_true, Bool.or_eq_true, Nat.testBit_two_pow, decide_eq_true_eq] at h
    rcases h with (h | h) | h
    · exact ⟨m, List.mem_cons_self, .inl h.symm⟩
    · exact ⟨m, List.mem_cons_self, .inr h⟩
    · obtain ⟨q, h1, h2⟩ := orAll_bit h
      exact ⟨q, List.mem_cons_of_mem _ h1, h2⟩
def ancs : List Oper → List Nat → List Nat
  | [], acc => acc
  | o :: r, acc => ancs r (acc ++ [orAll acc (afterB o)])
/-- 'E': the operations that may turn objects. -/
def dagOK (ops : Array Oper) (E : List Nat) : Bool :=
  let A := ancs ops.toList []
  (List.range ops.size).all fun i => match ops[i]? with
    | none => true
    | some o => (afterB o).all (fun m => Nat.blt m i) && (List.range ops.size).all fun j => match ops[j]? with
      | none => true
      | some oj => (match oj.dst with
          | none => true
          | some dj => (!(o.looksAt ops).contains dj || (if j < i then (A.getD i 0).testBit j else (A.getD j 0).testBit i && i != j)) && (i == j || o.dst != some dj)) &&
        (!nIn E j || (i != j && pureE (some E) i o.op) || (i == j && !pureE (some E) i o.op) || (if i < j then (A.getD j 0).testBit i else (A.getD i 0).testBit j && i != j))

section
variable {P : Program} {C : Ctx} {ops : Array Oper}

def closedL (ops : Array Oper) (L : Nat → Prop) : Prop := ∀ i o, ops[i]? = some o → L i → ∀ m ∈ afterB o, L m

theorem ancs_sub {L : Nat → Prop} (hc : closedL ops L) : ∀ (r : List Oper) (acc : List Nat), (∀ j, r[j]? = ops[acc.length + j]?) →
    (∀ (i : Nat) (l : Nat) (o : Oper), acc[i]? = some l → ops[i]? = some o → (∀ m ∈ afterB o, L m) → ∀ j, l.testBit j = true → L j) →
    ∀ (i : Nat) (l : Nat) (o : Oper), (ancs r acc)[i]? = some l → ops[i]? = some o → (∀ m ∈ afterB o, L m) → ∀ j, l.testBit j = true → L j
  | [], acc, _, h => h
  | o :: r, acc, hr, h => by
    refine ancs_sub hc r _ (fun j => by have := hr (j + 1); simp only [List.getElem?_cons_succ] at this; rw [this]; simp; congr 1; omega) ?_
    intro i l o' hi ho' hL j hj
    rw [List.getElem?_append] at hi
    split at hi
    · exact h i l o' hi ho' hL j hj
    · rename_i hlt
      have h0 : i = acc.length := by
        have := (List.getElem?_eq_some_iff.1 hi).1
        simp at this
        omega
      subst h0
      simp at hi
      subst hi
      have h1 := hr 0
      simp only [List.getElem?_cons_zero, Nat.add_zero] at h1
      rw [ho'] at h1
      cases h1
      obtain ⟨m, hm, hjm⟩ := orAll_bit hj
      rcases hjm with rfl | hjm
      · exact hL _ hm
      · by_cases hml : m < acc.length
        · have hget : acc[m]? = some acc[m] := List.getElem?_eq_getElem hml
          rw [List.getD_eq_getElem?_getD, hget] at hjm
          cases hom : ops[m]? with
          | none =>
            have h2 := (List.getElem?_eq_none_iff (l := ops.toList) (i := m)).1 (by simpa using hom)
            have h3 : acc.length < ops.size := (Array.getElem?_eq_some_iff.1 ho').1
            simp at h2
            omega
          | some om => exact h m _ om hget hom (hc m om hom (hL m hm)) j (by simpa using hjm)
        · rw [List.getD_eq_getElem?_getD, List.getElem?_eq_none (by omega)] at hjm
          simp at hjm

theorem ancs_in {L : Nat → Prop} (hc : closedL ops L) {i : Nat} {o : Oper} (ho : ops[i]? = some o) (hL : ∀ m ∈ afterB o, L m) {j : Nat} (hj : ((ancs ops.toList []).getD i 0).testBit j = true) : L j := by
  rw [List.getD_eq_getElem?_getD] at hj
  cases hA : (ancs ops.toList [])[i]? with
  | none => rw [hA] at hj; simp at hj
  | some l =>
    rw [hA] at hj
    exact ancs_sub hc ops.toList [] (by simp) (fun i l o h => by simp at h) i l o hA ho hL j (by simpa using hj)

def eTop : List Nat → (Nat → Bool) → Nat
  | [], _ => 0
  | j :: r, p => if p j = true then max (j + 1) (eTop r p) else eTop r p
theorem eTop_congr {p q : Nat → Bool} : ∀ (E : List Nat), (∀ j, nIn E j = true → p j = q j) → eTop E p = eTop E q
  | [], _ => rfl
  | j :: r, h => by
    have h1 : p j = q j := h j (by simp [nIn])
    have h2 := eTop_congr r fun k hk => h k (by simp only [nIn]; cases Nat.beq j k <;> simp [hk])
    simp only [eTop, h1, h2]
theorem eTop_le {i : Nat} : ∀ (E : List Nat), eTop E (fun j => decide (j < i)) ≤ i
  | [] => Nat.zero_le _
  | j :: r => by
    have := eTop_le (i := i) r
    simp only [eTop]
    split
    · rename_i h; have := of_decide_eq_true h; omega
    · exact this
theorem eTop_in {i : Nat} : ∀ (E : List Nat), nIn E i = true → eTop E (fun j => decide (j < i + 1)) = i + 1
  | j :: r, h => by
    have h1 := eTop_le (i := i + 1) r
    simp only [nIn] at h
    simp only [eTop]
    cases hb : Nat.beq j i with
    | true =>
      rw [Nat.eq_of_beq_eq_true hb, if_pos (by simp)]
      omega
    | false =>
      rw [hb] at h
      have := eTop_in r h
      rw [this]
      split
      · rename_i hj
        have := of_decide_eq_true hj
        omega
      · rfl
/-- What a run in the text's order shows, operation by operation. -/
def Yes (ops : Array Oper) (o : Oper) (fr : Fr) : Prop := o.guard = none ∨ ∃ j want d u, o.guard = some (j, want) ∧ (ops[j]?).bind (·.dst) = some d ∧ look fr d = some (.v u) ∧ boolOf u = some want
def No (ops : Array Oper) (o : Oper) (fr : Fr) : Prop := ∃ j want d u, o.guard = some (j, want) ∧ (ops[j]?).bind (·.dst) = some d ∧ look fr d = some (.v u) ∧ boolOf u ≠ some want

theorem ARun.trace {e : List Nat} {K : AS → Prop} : ∀ (l : List Oper) (k : Nat) (s : AS), ARun P C ops (some e) k l s K → ∃ (S : Nat → AS) (A : Nat → AV), S 0 = s ∧ K (S l.length) ∧
    ∀ (i : Nat) (o : Oper), l[i]? = some o → (∀ d, o.dst = some d → d < C.N) ∧ (S (i + 1)).fr = putF (S i).fr o.dst (A i) ∧ hOK (some e) (k + i) (S i).H (S (i + 1)).H ∧
      ((Yes ops o (S i).fr ∧ VStep P C o (ev (S i).fr) (S i).H (A i) (S (i + 1)).H ∧ (pureE (some e) (k + i) o.op = true → ∀ H2, VStep P C o (ev (S i).fr) H2 (A i) H2)) ∨ (No ops o (S i).fr ∧ A i = .v undef ∧ (S (i + 1)).H = (S i).H))
  | [], _, s, h => ⟨fun _ => s, fun _ => .top, rfl, h, fun i o hi => by simp at hi⟩
  | o :: rest, k, s, h => by
    unfold ARun at h
    obtain ⟨hd, h⟩ := h
    have build : ∀ (av : AV) (H' : List Ob), hOK (some e) k s.H H' → ((Yes ops o s.fr ∧ VStep P C o (ev s.fr) s.H av H' ∧ (pureE (some e) k o.op = true → ∀ H2, VStep P C o (ev s.fr) H2 av H2)) ∨ (No ops o s.fr ∧ av = .v undef ∧ H' = s.H)) → ARun P C ops (some e) (k + 1) rest ⟨putF s.fr o.dst av, H'⟩ K →
        ∃ (S : Nat → AS) (A : Nat → AV), S 0 = s ∧ K (S (o :: rest).length) ∧
          ∀ (i : Nat) (o' : Oper), (o :: rest)[i]? = some o' → (∀ d, o'.dst = some d → d < C.N) ∧ (S (i + 1)).fr = putF (S i).fr o'.dst (A i) ∧ hOK (some e) (k + i) (S i).H (S (i + 1)).H ∧
            ((Yes ops o' (S i).fr ∧ VStep P C o' (ev (S i).fr) (S i).H (A i) (S (i + 1)).H ∧ (pureE (some e) (k + i) o'.op = true → ∀ H2, VStep P C o' (ev (S i).fr) H2 (A i) H2)) ∨ (No ops o' (S i).fr ∧ A i = .v undef ∧ (S (i + 1)).H = (S i).H)) := by
      intro av H' hH hstep hrest
      obtain ⟨S, A, h0, hK, hall⟩ := ARun.trace rest (k + 1) _ hrest
      refine ⟨fun i => match i with | 0 => s | i + 1 => S i, fun i => match i with | 0 => av | i + 1 => A i, rfl, hK, fun i o' hi => ?_⟩
      cases i with
      | zero =>
        simp at hi
        subst hi
        simp only [h0]
        exact ⟨hd, trivial, hH, hstep⟩
      | succ i =>
        simp at hi
        have := hall i o' hi
        rw [show k + 1 + i = k + (i + 1) by omega] at this
        exact this
    cases hg : o.guard with
    | none =>
      rw [hg] at h
      obtain ⟨av, H', hv, hH, hrest⟩ := h
      exact build av H' hH.1 (.inl ⟨.inl hg, hv, hH.2⟩) hrest
    | some g =>
      obtain ⟨j, want⟩ := g
      rw [hg] at h
      obtain ⟨d, u, hd2, hl, hy, hn⟩ := h
      by_cases hb : boolOf u = some want
      · obtain ⟨av, H', hv, hH, hrest⟩ := hy hb
        exact build av H' hH.1 (.inl ⟨.inr ⟨j, want, d, u, hg, hd2, hl, hb⟩, hv, hH.2⟩) hrest
      · exact build (.v undef) s.H (.inr rfl) (.inr ⟨⟨j, want, d, u, hg, hd2, hl, hb⟩, rfl, rfl⟩) (hn hb)

theorem countP_lt {p q : Nat → Bool} (hpq : ∀ x, p x = true → q x = true) {i : Nat} (hq : q i = true) (hp : p i = false) : ∀ (l : List Nat), i ∈ l → l.countP p < l.countP q
  | [], h => by simp at h
  | a :: l, h => by
    have mono : ∀ l : List Nat, l.countP p ≤ l.countP q := fun l => List.countP_mono_left fun x _ => hpq x
    rw [List.countP_cons, List.countP_cons]
    rcases List.mem_cons.1 h with rfl | h
    · rw [hp, hq]
      have := mono l
      simp
      omega
    · have ih := countP_lt hpq hq hp l h
      have := hpq a
      cases hpa : p a <;> cases hqa : q a <;> simp_all <;> omega

theorem ARun.any {rd : Option Nat} {e : List Nat} {s : AS} {K : AS → Prop} {Q : Exit → Act → World → Prop} (hdag : dagOK ops e = true) (h : ARun P C ops (some e) 0 ops.toList s K) {a : Act} {w : World} (hr : Rel rd C s a w)
    (hQ : ∀ s' a' w', K s' → Rel rd C s' a' w' → Q .normal a' w') : wpAnyIn (wideR rd) 0 P .any ops Q ops.size (Array.replicate ops.size false) a w := by
  obtain ⟨S, A, hS0, hK, hall0⟩ := h.trace
  have hlen : ops.toList.length = ops.size := by simp
  rw [hlen] at hK
  have hall : ∀ (i : Nat) (o : Oper), ops[i]? = some o → (∀ d, o.dst = some d → d < C.N) ∧ (S (i + 1)).fr = putF (S i).fr o.dst (A i) ∧ hOK (some e) i (S i).H (S (i + 1)).H ∧
      ((Yes ops o (S i).fr ∧ VStep P C o (ev (S i).fr) (S i).H (A i) (S (i + 1)).H ∧ (pureE (some e) i o.op = true → ∀ H2, VStep P C o (ev (S i).fr) H2 (A i) H2)) ∨ (No ops o (S i).fr ∧ A i = .v undef ∧ (S (i + 1)).H = (S i).H)) := fun i o ho => by
    have := hall0 i o (by simpa using ho)
    rwa [Nat.zero_add] at this
  have some_of : ∀ i, i < ops.size → ∃ o, ops[i]? = some o := fun i hi => ⟨ops[i], Array.getElem?_eq_getElem hi⟩
  have lt_of : ∀ (i : Nat) (o : Oper), ops[i]? = some o → i < ops.size := fun i o ho => (Array.getElem?_eq_some_iff.1 ho).1
  -- the table, read
  simp only [dagOK, List.all_eq_true, List.mem_range] at hdag
  have dag : ∀ (i : Nat) (o : Oper), ops[i]? = some o → (∀ m ∈ afterB o, m < i) ∧ ∀ (j : Nat) (oj : Oper), ops[j]? = some oj →
      (∀ dj, oj.dst = some dj → (dj ∈ o.looksAt ops → (j < i → ((ancs ops.toList []).getD i 0).testBit j = true) ∧ (¬ j < i → ((ancs ops.toList []).getD j 0).testBit i = true ∧ i ≠ j)) ∧ (i ≠ j → o.dst ≠ some dj)) ∧
      (nIn e j = true → (i = j ∧ pureE (some e) i o.op = false) ∨ (i ≠ j ∧ pureE (some e) i o.op = true) ∨ (i ≠ j ∧ (i < j → ((ancs ops.toList []).getD j 0).testBit i = true) ∧ (¬ i < j → ((ancs ops.toList []).getD i 0).testBit j = true))) := by
    intro i o ho
    have h1 := hdag i (lt_of i o ho)
    rw [ho] at h1
    simp only [Bool.and_eq_true, List.all_eq_true, List.mem_range] at h1
    refine ⟨fun m hm => by simpa [Nat.blt_eq] using h1.1 m hm, fun j oj hoj => ?_⟩
    have h2 := h1.2 j (lt_of j oj hoj)
    rw [hoj] at h2
    simp only [Bool.and_eq_true] at h2
    refine ⟨fun dj hdj => ?_, fun he => ?_⟩
    · have h3 := h2.1
      rw [hdj] at h3
      simp only [Bool.and_eq_true, Bool.or_eq_true] at h3
      refine ⟨fun hm => ?_, fun hij => ?_⟩
      · have h4 : (if j < i then ((ancs ops.toList []).getD i 0).testBit j else ((ancs ops.toList []).getD j 0).testBit i && i != j) = true := by
          rcases h3.1 with h | h
          · rw [Bool.not_eq_true', List.contains_eq_mem] at h
            simp [hm] at h
          · exact h
        refine ⟨fun hlt => by rwa [if_pos hlt] at h4, fun hlt => ?_⟩
        rw [if_neg hlt] at h4
        simp only [Bool.and_eq_true] at h4
        exact ⟨h4.1, by simpa using h4.2⟩
      · rcases h3.2 with h | h
        · exact absurd (by simpa using h) hij
        · simpa using h
    · have h3 := h2.2
      simp only [he, Bool.not_true, Bool.false_or, Bool.or_eq_true, Bool.and_eq_true, bne_iff_ne, ne_eq, beq_iff_eq, Bool.not_eq_true'] at h3
      rcases h3 with (h | h) | h
      · exact .inr (.inl h)
      · exact .inl h
      · refine .inr (.inr ?_)
        by_cases hij : i < j
        · rw [if_pos hij] at h
          exact ⟨by omega, fun _ => h, fun hn => absurd hij hn⟩
        · rw [if_neg hij] at h
          simp only [Bool.and_eq_true, bne_iff_ne, ne_eq] at h
          exact ⟨h.2, fun hn => absurd hn hij, fun _ => h.1⟩
  -- the objects: they turn at e alone
  have hHs : ∀ i, i ≤ ops.size → (S i).H = (S (eTop e fun j => decide (j < i))).H := by
    intro i
    induction i with
    | zero =>
      intro _
      have : eTop e (fun j => decide (j < 0)) = 0 := by have := eTop_le (i := 0) e; omega
      rw [this]
    | succ i ih =>
      intro hi
      obtain ⟨o, ho⟩ := some_of i (by omega)
      cases hin : nIn e i with
      | true => rw [eTop_in e hin]
      | false =>
        have h1 := (hall i o ho).2.2.1
        rcases h1 with h1 | h1
        · rw [hin] at h1; cases h1
        · rw [h1, ih (by omega)]
          have : eTop e (fun j => decide (j < i)) = eTop e (fun j => decide (j < i + 1)) := eTop_congr e fun j hj => by
            have hne : j ≠ i := fun h => by subst h; rw [hin] at hj; cases hj
            exact decide_eq_decide.2 (by omega)
          rw [this]
  -- what the text's order knows of a temporary
  have hlookS : ∀ (i : Nat), i ≤ ops.size → ∀ (t : Nat) (b : AV), look (S i).fr t = some b → (∃ j o, j < i ∧ ops[j]? = some o ∧ o.dst = some t ∧ b = A j) ∨ (look s.fr t = some b ∧ ∀ j o, j < i → ops[j]? = some o → o.dst ≠ some t) := by
    intro i
    induction i with
    | zero => intro _ t b hb; rw [hS0] at hb; exact .inr ⟨hb, fun j o hj => by omega⟩
    | succ i ih =>
      intro hi t b hb
      obtain ⟨o, ho⟩ := some_of i (by omega)
      rw [(hall i o ho).2.1] at hb
      have old : o.dst ≠ some t → look (S i).fr t = some b → (∃ j o, j < i + 1 ∧ ops[j]? = some o ∧ o.dst = some t ∧ b = A j) ∨ (look s.fr t = some b ∧ ∀ j o, j < i + 1 → ops[j]? = some o → o.dst ≠ some t) := fun hne hb => by
        rcases ih (by omega) t b hb with ⟨j, oj, h1, h2, h3, h4⟩ | ⟨h1, h2⟩
        · exact .inl ⟨j, oj, by omega, h2, h3, h4⟩
        · refine .inr ⟨h1, fun j oj hj hoj => ?_⟩
          by_cases hji : j = i
          · subst hji; rw [ho] at hoj; cases hoj; exact hne
          · exact h2 j oj (by omega) hoj
      cases hd : o.dst with
      | none => rw [hd] at hb; exact old (by rw [hd]; simp) hb
      | some d =>
        rw [hd] at hb
        simp only [putF, look_cons] at hb
        by_cases hdt : d = t
        · subst hdt
          rw [if_pos rfl] at hb
          cases hb
          exact .inl ⟨i, o, by omega, ho, hd, rfl⟩
        · rw [if_neg hdt] at hb
          exact old (by rw [hd]; simpa using hdt) hb
  -- the state behind a set of operations
  let HL : Array Bool → List Ob := fun listed => (S (eTop e fun j => listed.getD j false)).H
  let Inv : Array Bool → Act → World → Prop := fun listed a w => listed.size = ops.size ∧ closedL ops (fun i => listed.getD i false = true) ∧ ∃ V F, Mem C (HL listed) V F w ∧ DefOK rd C F a.defers w ∧ a.tmps.size = C.N ∧
    (∀ j o, ops[j]? = some o → listed.getD j false = true → ∀ d, o.dst = some d → ∃ x, a.tmps[d]? = some x ∧ VRep (okB C w F) w V (A j) x) ∧
    (∀ t b, look s.fr t = some b → (∀ j o, ops[j]? = some o → listed.getD j false = true → o.dst ≠ some t) → ∃ x, a.tmps[t]? = some x ∧ VRep (okB C w F) w V b x)
  have fin : ∀ (listed : Array Bool) (a : Act) (w : World), Inv listed a w → (∀ i, i < ops.size → listed.getD i false = true) → Q .normal a w := by
    rintro listed a w ⟨hsz, _, V, F, m, hd, hn, f1, f2⟩ hfull
    refine hQ (S ops.size) a w hK ⟨V, F, ?_, hd, hn, fun t b hb => ?_⟩
    · have : HL listed = (S ops.size).H := by
        rw [hHs ops.size (Nat.le_refl _)]
        simp only [HL]
        have : eTop e (fun j => listed.getD j false) = eTop e (fun j => decide (j < ops.size)) := eTop_congr e fun j _ => by
          by_cases hj : j < ops.size
          · simp only [hj, decide_true]; exact hfull j hj
          · simp only [hj, decide_false, Array.getD_eq_getD_getElem?]
            rw [Array.getElem?_eq_none (by omega)]; rfl
        rw [this]
      rw [← this]; exact m
    · rcases hlookS ops.size (Nat.le_refl _) t b hb with ⟨j, o, h1, h2, h3, rfl⟩ | ⟨h1, h2⟩
      · exact f1 j o h2 (hfull j h1) t h3
      · exact f2 t b h1 fun j o ho _ => h2 j o (lt_of j o ho) ho
  have ready_nil : ∀ (listed : Array Bool), listed.size = ops.size → Region.ready .any ops listed = [] → ∀ i, i < ops.size → listed.getD i false = true := by
    intro listed hsz hnil i
    induction i using Nat.strongRecOn with
    | _ i ih =>
      intro hi
      cases hli : listed.getD i false with
      | true => rfl
      | false =>
        exfalso
        obtain ⟨o, ho⟩ := some_of i hi
        have hmem : i ∈ Region.ready .any ops listed := by
          unfold Region.ready
          refine List.mem_filter.2 ⟨List.mem_range.2 hi, ?_⟩
          have h1 : listed.getD i true = false := by
            have hlt : i < listed.size := by omega
            simp only [Array.getD_eq_getD_getElem?, Array.getElem?_eq_getElem hlt] at hli ⊢
            simpa using hli
          rw [h1, ho]
          simp only [Bool.not_false, Bool.true_and, Option.map_some, Option.getD_some]
          rw [Array.all_eq_true']
          intro ed hed
          cases hbd : Region.binds .any ed with
          | false => simp
          | true =>
            have hm : ed.on ∈ afterB o := List.mem_map.2 ⟨ed, List.mem_filter.2 ⟨by simpa using hed, hbd⟩, rfl⟩
            have hlt := (dag i o ho).1 _ hm
            simp only [Bool.not_true, Bool.false_or]
            exact ih _ hlt (by omega)
        rw [hnil] at hmem
        simp at hmem
  -- the walk over every order
  have key : ∀ (fuel : Nat) (listed : Array Bool) (a : Act) (w : World), (List.range ops.size).countP (fun i => !listed.getD i false) ≤ fuel → Inv listed a w → wpAnyIn (wideR rd) 0 P .any ops Q fuel listed a w := by
    intro fuel
    induction fuel with
    | zero =>
      intro listed a w hcnt hI
      have hfull : ∀ i, i < ops.size → listed.getD i false = true := fun i hi => by
        have h0 : (List.range ops.size).countP (fun i => !listed.getD i false) = 0 := by omega
        have := (List.countP_eq_zero.1 h0) i (List.mem_range.2 hi)
        simpa using this
      refine ⟨?_, fin listed a w hI hfull⟩
      unfold Region.ready
      rw [List.filter_eq_nil_iff]
      intro i hi
      have h1 := hfull i (List.mem_range.1 hi)
      have hlt : i < listed.size := by rw [hI.1]; exact List.mem_range.1 hi
      have h2 : listed.getD i true = true := by
        simp only [Array.getD_eq_getD_getElem?, Array.getElem?_eq_getElem hlt] at h1 ⊢
        simpa using h1
      rw [h2]; simp
    | succ fuel ih =>
      intro listed a w hcnt hI
      refine ⟨fun hnil => fin listed a w hI (ready_nil listed hI.1 hnil), fun i hi => ?_⟩
      unfold Region.ready at hi
      obtain ⟨hir, hi2⟩ := List.mem_filter.1 hi
      have hin : i < ops.size := List.mem_range.1 hir
      obtain ⟨o, ho⟩ := some_of i hin
      obtain ⟨hsz, hcl, V, F, m, hdef, hn, f1, f2⟩ := hI
      have hlt : i < listed.size := by omega
      rw [ho] at hi2
      simp only [Option.map_some, Option.getD_some, Bool.and_eq_true, Bool.not_eq_true'] at hi2
      have hun : listed.getD i false = false := by
        have := hi2.1
        simp only [Array.getD_eq_getD_getElem?, Array.getElem?_eq_getElem hlt] at this ⊢
        simpa using this
      have haft : ∀ mm ∈ afterB o, listed.getD mm false = true := fun mm hm => by
        obtain ⟨ed, hed, rfl⟩ := List.mem_map.1 hm
        obtain ⟨hed1, hed2⟩ := List.mem_filter.1 hed
        have := Array.all_eq_true'.1 hi2.2 ed (by simpa using hed1)
        rw [hed2] at this
        simpa using this
      have anc : ∀ j, ((ancs ops.toList []).getD i 0).testBit j = true → listed.getD j false = true := fun j hj => ancs_in (L := fun i => listed.getD i false = true) hcl ho haft hj
      have ancOf : ∀ j oj, ops[j]? = some oj → listed.getD j false = true → ∀ k, ((ancs ops.toList []).getD j 0).testBit k = true → listed.getD k false = true := fun j oj hoj hj k hk =>
        ancs_in (L := fun i => listed.getD i false = true) hcl hoj (hcl j oj hoj hj) hk
      obtain ⟨hdst, hfr, hHok, hstep⟩ := hall i o ho
      -- what it reads reads as in the text's order
      have reads : ∀ t ∈ o.looksAt ops, ∀ b, look (S i).fr t = some b → ∃ x, a.tmps[t]? = some x ∧ VRep (okB C w F) w V b x := by
        intro t ht b hb
        rcases hlookS i (by omega) t b hb with ⟨j, oj, hji, hoj, hdj, rfl⟩ | ⟨h1, h2⟩
        · exact f1 j oj hoj (anc j ((((dag i o ho).2 j oj hoj).1 t hdj).1 ht |>.1 hji)) t hdj
        · refine f2 t b h1 fun j oj hoj hlj hdj => ?_
          by_cases hji : j < i
          · exact h2 j oj hji hoj hdj
          · have h3 := ((((dag i o ho).2 j oj hoj).1 t hdj).1 ht).2 hji
            have h4 := ancOf j oj hoj hlj i h3.1
            rw [hun] at h4
            cases h4
      have hHL : pureE (some e) i o.op = false → HL listed = (S i).H := by
        intro hpu
        rw [hHs i (by omega)]
        simp only [HL]
        have : eTop e (fun j => listed.getD j false) = eTop e (fun j => decide (j < i)) := eTop_congr e fun j hj => by
          by_cases hjs : j < ops.size
          · obtain ⟨oj, hoj⟩ := some_of j hjs
            rcases ((dag i o ho).2 j oj hoj).2 hj with ⟨rfl, _⟩ | ⟨_, h⟩ | ⟨hij, h3, h4⟩
            · rw [hun]; simp
            · rw [hpu] at h; cases h
            · by_cases hlt2 : i < j
              · rw [show decide (j < i) = false from decide_eq_false (by omega)]
                cases hlj : listed.getD j false with
                | false => rfl
                | true =>
                  have h5 := ancOf j oj hoj hlj i (h3 hlt2)
                  rw [hun] at h5
                  cases h5
              · rw [show decide (j < i) = true from decide_eq_true (by omega)]
                exact anc j (h4 hlt2)
          · rw [show decide (j < i) = false from decide_eq_false (by omega)]
            simp only [Array.getD_eq_getD_getElem?]
            rw [Array.getElem?_eq_none (by omega)]; rfl
        rw [this]
      have hnew : ∀ k, (listed.setIfInBounds i true).getD k false = true ↔ (k = i ∨ listed.getD k false = true) := fun k => by
        simp only [Array.getD_eq_getD_getElem?, Array.getElem?_setIfInBounds]
        by_cases hk : i = k
        · subst hk
          simp [hlt]
        · rw [if_neg hk]
          constructor
          · exact .inr
          · rintro (h | h)
            · exact absurd h.symm hk
            · exact h
      have hnewB : ∀ k, k ≠ i → (listed.setIfInBounds i true).getD k false = listed.getD k false := fun k hk => by
        simp only [Array.getD_eq_getD_getElem?, Array.getElem?_setIfInBounds]
        rw [if_neg (fun h => hk h.symm)]
      have hnewI : (listed.setIfInBounds i true).getD i false = true := (hnew i).2 (.inl rfl)
      have hHL' : pureE (some e) i o.op = false → HL (listed.setIfInBounds i true) = (S (i + 1)).H := by
        intro hpu
        rw [hHs (i + 1) (by omega)]
        simp only [HL]
        have : eTop e (fun j => (listed.setIfInBounds i true).getD j false) = eTop e (fun j => decide (j < i + 1)) := eTop_congr e fun j hj => by
          by_cases hjs : j < ops.size
          · obtain ⟨oj, hoj⟩ := some_of j hjs
            rcases ((dag i o ho).2 j oj hoj).2 hj with ⟨rfl, _⟩ | ⟨_, h⟩ | ⟨hij, h3, h4⟩
            · rw [hnewI, decide_eq_true (by omega)]
            · rw [hpu] at h; cases h
            · rw [hnewB j (fun h => hij h.symm)]
              by_cases hlt2 : i < j
              · rw [show decide (j < i + 1) = false from decide_eq_false (by omega)]
                cases hlj : listed.getD j false with
                | false => rfl
                | true =>
                  have h5 := ancOf j oj hoj hlj i (h3 hlt2)
                  rw [hun] at h5
                  cases h5
              · rw [show decide (j < i + 1) = true from decide_eq_true (by omega)]
                exact anc j (h4 hlt2)
          · rw [hnewB j (by omega), show decide (j < i + 1) = false from decide_eq_false (by omega)]
            simp only [Array.getD_eq_getD_getElem?]
            rw [Array.getElem?_eq_none (by omega)]; rfl
        rw [this]
      have hpure : pureE (some e) i o.op = true → HL (listed.setIfInBounds i true) = HL listed := by
        intro hpu
        simp only [HL]
        have : eTop e (fun j => (listed.setIfInBounds i true).getD j false) = eTop e (fun j => listed.getD j false) := eTop_congr e fun j hj => by
          refine hnewB j fun hji => ?_
          subst hji
          rcases ((dag j o ho).2 j o ho).2 hj with ⟨_, h⟩ | ⟨h, _⟩ | ⟨h, _⟩
          · rw [hpu] at h; cases h
          · exact h rfl
          · exact h rfl
        rw [this]
      have hcnt' : (List.range ops.size).countP (fun k => !(listed.setIfInBounds i true).getD k false) ≤ fuel := by
        have := countP_lt (p := fun k => !(listed.setIfInBounds i true).getD k false) (q := fun k => !listed.getD k false) (i := i) (fun x hx => by
          cases hlx : listed.getD x false with
          | false => rfl
          | true =>
            have := (hnew x).2 (.inr hlx)
            rw [this] at hx
            cases hx) (by rw [hun]; rfl) (by rw [(hnew i).2 (.inl rfl)]; rfl) (List.range ops.size) hir
        omega
      have next : ∀ (u : Value) (w' : World) (V' : List Value) (F' : List (List Nat)), Mem C (HL (listed.setIfInBounds i true)) V' F' w' → Ext C V F w V' F' w' → VRep (okB C w' F') w' V' (A i) u → Inv (listed.setIfInBounds i true) (a.put o.dst u) w' := by
        intro u w' V' F' m' he hu
        have ht : ∀ t, o.dst ≠ some t → (a.put o.dst u).tmps[t]? = a.tmps[t]? := fun t hne => by
          cases hd : o.dst with
          | none => rfl
          | some d =>
            rw [hd] at hne
            simp only [Act.put]
            rw [Array.getElem?_setIfInBounds, if_neg (by simpa using hne)]
        refine ⟨by simp [hsz], fun k ok hok hk mm hmm => ?_, V', F', m', by cases o.dst <;> exact hdef.ext he, by cases o.dst <;> simp [Act.put, hn], fun j oj hoj hj d hd => ?_, fun t b hb hno => ?_⟩
        · rcases (hnew k).1 hk with rfl | hk
          · rw [ho] at hok; cases hok; exact (hnew mm).2 (.inr (haft mm hmm))
          · exact (hnew mm).2 (.inr (hcl k ok hok hk mm hmm))
        · rcases (hnew j).1 hj with rfl | hj
          · rw [ho] at hoj
            cases hoj
            refine ⟨u, ?_, hu⟩
            rw [hd]
            simp [Act.put, show d < a.tmps.size by rw [hn]; exact hdst d hd]
          · have hij : i ≠ j := fun h => by subst h; rw [hun] at hj; cases hj
            obtain ⟨x, hx, hrx⟩ := f1 j oj hoj hj d hd
            exact ⟨x, by rw [ht d ((((dag i o ho).2 j oj hoj).1 d hd).2 hij)]; exact hx, he.rep hrx⟩
        · obtain ⟨x, hx, hrx⟩ := f2 t b hb fun j oj hoj hj => hno j oj hoj ((hnew j).2 (.inr hj))
          exact ⟨x, by rw [ht t (hno i o ho ((hnew i).2 (.inl rfl)))]; exact hx, he.rep hrx⟩
      unfold wpOpIn
      rw [ho]
      simp only
      have gread : ∀ j want d u, o.guard = some (j, want) → (ops[j]?).bind (·.dst) = some d → look (S i).fr d = some (.v u) → Region.wanted o (yielded ops a.tmps) = (boolOf u == some want) := by
        intro j want d u hg hd hl
        obtain ⟨x, hx, hrx⟩ := reads d (by
          unfold Oper.looksAt
          refine List.mem_append_right _ ?_
          rw [hg]
          simp only [hd]
          simp) _ hl
        unfold VRep at hrx
        subst hrx
        exact wanted_rel hg hd hx
      have hstep' : (Yes ops o (S i).fr ∧ VStep P C o (ev (S i).fr) (HL listed) (A i) (HL (listed.setIfInBounds i true))) ∨ (No ops o (S i).fr ∧ A i = .v undef ∧ HL (listed.setIfInBounds i true) = HL listed) := by
        cases hpu : pureE (some e) i o.op with
        | true =>
          rw [hpure hpu]
          rcases hstep with ⟨h1, _, h3⟩ | ⟨h1, h2, _⟩
          · exact .inl ⟨h1, h3 hpu _⟩
          · exact .inr ⟨h1, h2, rfl⟩
        | false =>
          rw [hHL hpu, hHL' hpu]
          rcases hstep with ⟨h1, h2, _⟩ | h
          · exact .inl ⟨h1, h2⟩
          · exact .inr h
      rcases hstep' with ⟨hy, hv⟩ | ⟨⟨j, want, d, u, hg, hd, hl, hb⟩, hA, hHeq⟩
      · rw [if_pos (by
          rcases hy with hg | ⟨j, want, d, u, hg, hd, hl, hb⟩
          · simp [Region.wanted, hg]
          · rw [gread j want d u hg hd hl, hb]; simp)]
        refine ((hv a.eval w V F m fun x hx b hb => ?_).wp fun u w' ⟨V', F', m', he, hu⟩ => ih _ _ _ hcnt' (next u w' V' F' m' he hu))
        cases x with
        | tmp t =>
          obtain ⟨y, hy, hry⟩ := reads t (by
            unfold Oper.looksAt
            exact List.mem_append_left _ (List.mem_filterMap.2 ⟨.tmp t, by simpa using hx, rfl⟩)) b hb
          have : a.eval (.tmp t) = y := by simp [Act.eval, hy]
          rw [this]; exact hry
        | const u => simp only [Qw.ev, Option.some.injEq] at hb; subst hb; unfold VRep; rfl
        | func f => simp only [Qw.ev, Option.some.injEq] at hb; subst hb; unfold VRep; rfl
        | global g => cases hb
      · rw [if_neg (by rw [gread j want d u hg hd hl]; simpa using hb)]
        exact ⟨fun _ _ => trivial, ih _ _ _ hcnt' (next undef w V F (by rw [hHeq]; exact m) (Ext.refl _ _ _ _) (by rw [hA]; unfold VRep; rfl))⟩
  refine key ops.size _ a w (Nat.le_trans (List.countP_le_length) (by simp)) ?_
  obtain ⟨V, F, m, hd, hn, hf⟩ := hr
  have hnone : ∀ j, (Array.replicate ops.size false).getD j false = false := fun j => by
    simp only [Array.getD_eq_getD_getElem?, Array.getElem?_replicate]
    split <;> rfl
  refine ⟨by simp, (fun i o _ hi => by
    have hi' : (Array.replicate ops.size false).getD i false = true := hi
    rw [hnone i] at hi'
    cases hi'), V, F, ?_, hd, hn, (fun j o _ hj => by rw [hnone j] at hj; cases hj), fun t b hb _ => hf t b hb⟩
  have : HL (Array.replicate ops.size false) = s.H := by
    simp only [HL]
    have h0 : eTop e (fun j => (Array.replicate ops.size false).getD j false) = eTop e (fun j => decide (j < 0)) := eTop_congr e fun j _ => by rw [hnone j]; rfl
    have h1 : eTop e (fun j => decide (j < 0)) = 0 := by have := eTop_le (i := 0) e; omega
    rw [h0, h1, hS0]
  rw [this]; exact m

/-- A REGION THAT DRAWS ITS ORDER. -/
theorem AWP.draw {id : Nat} {l : List Oper} {Q : Exit → AS → Prop} {s : AS} (e : List Nat) (hm : P.follows .mixedOrders = true) (hdag : dagOK l.toArray e = true) (h : ARun P C l.toArray (some e) 0 l s (Q .normal)): AWP P C (.region id l.toArray true) Q s := fun rd a w hr => by
  refine wpIn_region_any hm ?_
  have hr' : Rel rd C s a { w with drawn := w.drawn + 1 } := by
    obtain ⟨V, F, m, hd, hn, hf⟩ := hr
    obtain ⟨m', e'⟩ := m.drew
    exact ⟨V, F, m', hd.ext e', hn, hf.ext e'⟩
  exact ARun.any hdag (by simpa using h) hr' fun s' a' w' hk hr2 => ⟨s', hk, hr2⟩
end
end Go.Qw
