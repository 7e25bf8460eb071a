/-
  core.Bits: the iterator that it hands out, and what that hands out. Conditions: the table that math/bits.TrailingZeros64 reads lies as its own initialiser lays it.
-/
import Derived.Test.YtkdihpajgmiolaaDoorQwX
import Derived.Test.YtkdihpajgmiolaaDoorQwTab
import Derived.Test.YtkdihpajgmiolaaDoorQwW
import Derived.Shelf.Spec.TrailingZeros
import Derived.Shelf.Lay
import Derived.WalkKit
import Derived.TacticsInMore
import Derived.LoopNIn
import Derived.LoopIn
set_option linter.unusedSimpArgs false
set_option linter.unusedVariables false
set_option linter.unusedSectionVars false
namespace Go.Proofs
shelf_lay Lays7.n27 Nm7 27 at Tryd as Tryd.lays27
namespace YtkdihpajgmiolaaDoor
open Go.RowKit Go.Qw

theorem tz_fn (x : Nat) (hx : x < 18446744073709551616) (w : World) (hT : x ≠ 0 → TabAt 2 Lib.deBruijn64tab w) :
    Calls Tryd.prog 81 #[.int .u64 x] w fun e w' => e = .returned (.int .i64 (Lib.ctz 64 x)) ∧ w' = w := Any7.bits_TrailingZeros Tryd.lays27 x hx w hT
/-- The table lies as it was laid. -/
def tabG (w : World) : Prop := TabAt 2 Lib.deBruijn64tab w
theorem tabG_stays : StaysG tabG := fun w w' hb h j hj => by
  have hc := h j hj
  have hlt : 2 < w.heap.size := by
    apply Nat.lt_of_not_le
    intro hle
    unfold World.cell? at hc
    rw [show w.heap[(⟨2, (j : Nat), none⟩ : Addr).block]? = none from Array.getElem?_eq_none hle] at hc
    cases hc
  rw [World.cell?_of_block (w := w) (w' := w') (hb 2 hlt)]
  exact hc

def restV : Value → Nat
  | .int _ r => r.toNat
  | _ => 0
set_option maxRecDepth 100000 in
set_option maxHeartbeats 1000000 in
theorem bits1_in (l b x : Nat) (hx : x < 2 ^ 63) (J : Nat → World → Prop) (hJ : ∀ k W, J k W → W.cell? ⟨b, 0, none⟩ = some (.int .i64 (x : Int)) ∧ tabG W)
    (hY : ∀ k W, k < (bitsL x).length → J k W → YieldAt Fence.wide 4 Tryd.prog l #[.int .i64 (((bitsL x).getD k 0 : Nat) : Int)] W fun e W' => e = .returned (.bool true) ∧ J (k + 1) W')
    (W : World) (h0 : J 0 W) : CallsIn Fence.wide 5 Tryd.prog 80 #[.func (.yield l) #[] #[], .pointer (some ⟨b, 0, none⟩)] W fun e W' => (∃ v, e = .returned v) ∧ J (bitsL x).length W' := by
  have hn : 1 ≤ 5 := by omega
  have hb0 := (hJ 0 W h0).1
  have ew : IntKind.u64.wrap (x : Int) = (x : Int) := by rw [IntKind.wrap_u64]; omega
  refine callsIn_of_wp Tryd.func80 rfl trivial ?_ rfl
  simp only [Tryd.ntmps80, List.size_toArray, List.length_cons, List.length_nil, Nat.reduceAdd, Nat.reduceSub, Array.replicate_succ, Array.replicate_zero, List.push_toArray, List.append_toArray, List.nil_append, List.cons_append]
  gi_wp2_with (simp only [ew])
  gi_loopw [3] (fun p wr => ∃ (k r : Nat), p = .int .u64 (r : Int) ∧ k ≤ (bitsL x).length ∧ r < 2 ^ 63 ∧ (bitsL x).drop k = bitsL r ∧ J k wr)
    (fun p _ => restV p)
  case atStart =>
    exact ⟨0, x, rfl, by omega, hx, by simp, h0⟩
  case round =>
    obtain ⟨k, r, rfl, hk, hr, hd, hJk⟩ := hrel
    by_cases hr0 : r = 0
    · subst hr0
      obtain rfl := bitsL_drop_end hk hd
      gi_wp2
      go_end0
      exact ⟨⟨_, rfl⟩, hJk⟩
    · obtain ⟨hk1, hg, hd1⟩ := bitsL_drop_step hr hr0 hd
      have hrne : ((r : Int) == 0) = false := by simp; omega
      have hy := hY k wr hk1 hJk
      rw [hg] at hy
      obtain ⟨fn, tmps, assign, body, hyy, hR⟩ := hy
      have es : IntKind.u64.wrap ((r : Int) - 1) = ((r - 1 : Nat) : Int) := by rw [IntKind.wrap_u64]; omega
      have ea := bits_and_u64 hr
      have tz : CallsIn Fence.wide 4 Tryd.prog 81 #[.int .u64 (r : Int)] wr fun e w' => e = .returned (.int .i64 (Lib.ctz 64 r)) ∧ w' = wr := callsIn_wide.2 (tz_fn r (by omega) wr fun _ => (hJ k wr hJk).2)
      gi_wp2_with (refine ⟨trivial, ?_⟩; gi_at_call 81; refine tz.mono ?_; rintro e w' ⟨rfl, rfl⟩)
      refine hR.mono ?_
      rintro e W3 ⟨rfl, hJ3⟩
      gi_wp2_with (simp only [es, ea])
      go_roundw
      case rel => exact ⟨k + 1, r &&& (r - 1), rfl, hk1, Nat.lt_of_le_of_lt Nat.and_le_left hr, hd1, hJ3⟩
      case measure =>
        have : r &&& (r - 1) ≤ r - 1 := Nat.and_le_right
        simp only [restV, Int.toNat_natCast]
        omega
theorem bits1_seq (x : Nat) (hx : x < 2 ^ 63) (b : Nat) : SeqG Tryd.prog 80 #[.pointer (some ⟨b, 0, none⟩)] (fun W => W.cell? ⟨b, 0, none⟩ = some (.int .i64 (x : Int)) ∧ tabG W) (bitsL x) := fun rd l J W hJ hY h0 => by
  have hr := bits1_in l b x hx J hJ (fun k W hk hj => by
    obtain ⟨fn, tmps, assign, body, h1, h2⟩ := hY k W hk hj
    refine ⟨fn, tmps, assign, body, h1, trivial, fun c cs _ => ?_⟩
    have h3 := h2.2 c cs (by cases rd <;> exact room_wide _)
    cases rd <;> exact h3) W h0
  refine ⟨trivial, fun cs _ => ?_⟩
  have h3 := hr.2 cs (room_wide _)
  cases rd <;> exact h3
theorem bits1_enters : ∀ args w, (callFunc 80 args).run Tryd.prog w = .ok (.enter 80 args) w := enters_of Tryd.func80 (by kernel_rfl) rfl
/-- The iterator over the bits of x. -/
def bitsO (x : Nat) : OD := .cust (seqR 80 3 x)
theorem bitsO_ob (x : Nat) : (bitsO x).ob = .cust (seqR 80 3 x) := rfl
theorem bits_run (x : Int) (w : World) : Calls Tryd.prog 76 #[.int .i64 x] w fun e w' => e = .returned (.func (.func 80) #[] #[.pointer (some ⟨w.heap.size, 0, none⟩)]) ∧ w' = w.alloc (.cells #[.int .i64 x] 3) := by
  go_enter Tryd.func76, Tryd.ntmps76
  go_wp2
  go_ret
  exact ⟨rfl, rfl⟩
/-- core.Bits. -/
theorem bitsC_fn (x : Nat) : LiftsN Tryd.prog 76 [.i (x : Int)] (bitsO x) := by
  refine ⟨⟨_, Tryd.func76, by kernel_rfl, rfl⟩, fun w X V F vs m hv => ?_⟩
  obtain ⟨y, hy, rfl⟩ : ∃ y, vs = #[y] ∧ y = .int .i64 (x : Int) := by
    have hl := hv.length
    obtain ⟨l, hl'⟩ : ∃ l, vs.toList = l := ⟨_, rfl⟩
    have hvl : vs = l.toArray := by rw [← hl']
    rw [hl'] at hv hl
    match l, hv, hl with
    | [y], hv, _ =>
      have := hv.get 0 _ rfl
      obtain ⟨z, hz, hr⟩ := this
      cases hz
      unfold VRep at hr
      exact ⟨y, hvl, hr⟩
  subst hy
  refine (bits_run _ w).mono ?_
  rintro e w' ⟨rfl, rfl⟩
  obtain ⟨m2, e2⟩ := m.push (w' := w.alloc (.cells #[.int .i64 (x : Int)] 3)) (bitsO x).ob [w.heap.size] (.func (.func 80) #[] #[.pointer (some ⟨w.heap.size, 0, none⟩)]) rfl rfl rfl rfl (by simp) (fun b hb => Below.heap_alloc w _ b hb)
    (fun b hb => by obtain rfl := List.mem_singleton.1 hb; simp) fun _ => by
      show ORep _ _ _ _ _ (.cust _)
      unfold ORep
      exact ⟨fun _ _ hb h => seqR_stays _ _ hb h, w.heap.size, rfl, rfl, World.alloc_heap_new w _⟩
  have hV0 : V = [] := List.eq_nil_of_length_eq_zero (by rw [m.lenV]; rfl)
  subst hV0
  refine ⟨_, rfl, _, _, m2, e2, ?_⟩
  unfold VRep
  rfl
end YtkdihpajgmiolaaDoor
end Go.Proofs
