/-
  core.Many of a small set: how many of its bits are 1.
-/
import Derived.Test.YtmeacgkhabnjlaaDoorQwX
import Derived.Test.YtmeacgkhabnjlaaDoorQwTab
import Derived.Test.YtmeacgkhabnjlaaDoorQwW
import Derived.WalkKit
import Derived.TacticsInMore
import Derived.LoopNIn
import Derived.LoopIn
namespace Go.Proofs
namespace YtmeacgkhabnjlaaDoor
open Go.RowKit Go.Qw
set_option maxRecDepth 100000

section
variable {P : Program} {C : Ctx} {tb : Tab} {fr : DF} {H : List OD} {x y : Operand} {xT yT : TypeId} {d : Option Nat} {t : TypeId} {p : String} {af : Array Edge} {g : Option (Nat × Bool)}
theorem StepD.u64b {op : BinOp} {a b c : Nat} (hx : evS tb.E fr x = some (.u (.int .u64 (a : Int)))) (hy : evS tb.E fr y = some (.u (.int .u64 (b : Int)))) (hr : ∀ w : World, (binOp op xT (.int .u64 (a : Int)) (.int .u64 (b : Int))).run P w = .ok (.int .u64 (c : Int)) w) :
    StepD P C tb fr ⟨d, .binOp op xT x y yT, t, p, af, g⟩ H (.u (.int .u64 (c : Int))) H := fun _ hρ => VStep.int2 (hρ.1 _ _ hx) (hρ.1 _ _ hy) hr
theorem StepD.conv {k k' : IntKind} {n : Int} {s q : TypeId} {dd : TypeDesc} {r : DV} (b : DV) (hx : evS tb.E fr x = some b) (hb : b.av = .v (.int k n)) (hs : P.underlying s = some dd) (hq : P.underlying q = some (.int k')) (hr : r.av = .v (.int k' (k'.wrap n))) :
    StepD P C tb fr ⟨d, .convert s q x, t, p, af, g⟩ H r H := fun _ hρ => by
  rw [hr]
  exact VStep.convert (by rw [hρ.1 _ _ hx, hb]) hs hq
end
theorem u64_nat {n : Nat} (h : n < 4294967296) : IntKind.u64.wrap (n : Int) = (n : Int) := by rw [IntKind.wrap_u64]; omega
theorem u64_and {a b : Nat} (ha : a < 4294967296) (hb : b < 18446744073709551616) : bits .and .u64 (a : Int) (b : Int) = ((a &&& b : Nat) : Int) := _root_.Go.bits_and_u64_nat a b (by omega) (by omega)
theorem run_and {P : Program} {xT : TypeId} {a b : Nat} (ha : a < 4294967296) (hb : b < 18446744073709551616) (w : World) : (binOp .and xT (.int .u64 (a : Int)) (.int .u64 (b : Int))).run P w = .ok (.int .u64 ((a &&& b : Nat) : Int)) w := by rw [← u64_and ha hb]; rfl
theorem run_add {P : Program} {xT : TypeId} {a b : Nat} (h : a + b < 4294967296) (w : World) : (binOp .add xT (.int .u64 (a : Int)) (.int .u64 (b : Int))).run P w = .ok (.int .u64 ((a + b : Nat) : Int)) w := by rw [← u64_nat h]; rfl
theorem run_shr {P : Program} {xT : TypeId} {a k : Nat} (hk : k < 64) (w : World) : (binOp .shr xT (.int .u64 (a : Int)) (.int .u64 (k : Int))).run P w = .ok (.int .u64 ((a / 2 ^ k : Nat) : Int)) w := by
  have hp : (0 : Int) ≤ 2 ^ k := by exact_mod_cast Nat.zero_le (2 ^ k)
  simp [binOp, Op.shift, IntKind.bits]
theorem land_le_l {a b n : Nat} (h : a ≤ n) : a &&& b ≤ n := Nat.le_trans Nat.and_le_left h
def ones1 (x : Nat) : Nat := (x / 2 &&& 6148914691236517205) + (x &&& 6148914691236517205)
def ones2 (x : Nat) : Nat := (x / 4 &&& 3689348814741910323) + (x &&& 3689348814741910323)
def ones3 (x : Nat) : Nat := (x / 16 + x) &&& 1085102592571150095
def ones4 (x : Nat) : Nat := x + x / 256
def ones5 (x : Nat) : Nat := x + x / 65536
def ones6 (x : Nat) : Nat := x + x / 4294967296
def pop12 (x : Nat) : Nat := x % 2 + x / 2 % 2 + x / 4 % 2 + x / 8 % 2 + x / 16 % 2 + x / 32 % 2 + x / 64 % 2 + x / 128 % 2 + x / 256 % 2 + x / 512 % 2 + x / 1024 % 2 + x / 2048 % 2
theorem pop_half' (n : Nat) : popN n = n % 2 + popN (n / 2) := by
  cases Nat.eq_zero_or_pos n with
  | inl h => subst h; simp [popN]
  | inr h => exact popN_eq h
theorem pop_small : ∀ k x, x < 2 ^ k → popN x = ((List.range k).map fun i => x / 2 ^ i % 2).sum
  | 0, x, h => by
    have : x = 0 := by simpa using h
    subst this; simp [popN]
  | k + 1, x, h => by
    rw [pop_half' x, pop_small k (x / 2) (by rw [Nat.pow_succ] at h; omega), List.range_succ_eq_map, List.map_cons, List.map_map, List.sum_cons]
    congr 1
    · simp
    · congr 1
      refine List.map_congr_left fun i _ => ?_
      show x / 2 / 2 ^ i % 2 = x / 2 ^ (i + 1) % 2
      rw [Nat.div_div_eq_div_mul, Nat.pow_succ, Nat.mul_comm]
theorem pop12_eq {x : Nat} (h : x < 4096) : popN x = pop12 x := by
  rw [pop_small 12 x h]
  simp only [List.range_succ, List.range_zero, List.nil_append, List.cons_append, List.map_cons, List.map_nil, List.sum_cons, List.sum_nil, pop12, Nat.add_zero, Nat.add_assoc, Nat.pow_zero, Nat.div_one]
theorem ones_all : ∀ a, a < 64 → ∀ b, b < 64 → ones6 (ones5 (ones4 (ones3 (ones2 (ones1 (64 * a + b)))))) &&& 127 = pop12 (64 * a + b) := by decide +kernel
end YtmeacgkhabnjlaaDoor
end Go.Proofs
