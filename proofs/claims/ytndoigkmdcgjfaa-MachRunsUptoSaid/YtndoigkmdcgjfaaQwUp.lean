/-
  What the bound of the second form gives: how long a slice of ints is.
-/
import Derived.Test.YtndoigkmdcgjfaaQwY
import Derived.Test.YtndoigkmdcgjfaaRows
import Derived.JoinedCond
namespace Go.Proofs.Ytndoigkmdcgjfaa
open Go Go.Qw
theorem bulk_one {H : Type} (d : DataW H) : 1 ≤ Rows.uptoBulk d := by
  cases d with
  | lit l => cases l <;> simp [Rows.uptoBulk]
  | nil => simp [Rows.uptoBulk]
  | ptr d => simp [Rows.uptoBulk]
  | slice elems spare => simp [Rows.uptoBulk]
  | agg parts => simp [Rows.uptoBulk]
  | iface t d => simp [Rows.uptoBulk]
  | map entries => simp [Rows.uptoBulk]
  | held h => simp [Rows.uptoBulk]
theorem bulk_len {H : Type} : ∀ (l : List (DataW H)), l.length ≤ Rows.uptoBulkAll l
  | [] => by simp [Rows.uptoBulkAll]
  | x :: r => by
    have h1 := bulk_one x
    have h2 := bulk_len r
    simp only [Rows.uptoBulkAll, List.length_cons]
    omega
theorem bulk_part {H : Type} {d : DataW H} : ∀ {l : List (DataW H)}, d ∈ l → Rows.uptoBulk d ≤ Rows.uptoBulkAll l
  | x :: r, h => by
    simp only [Rows.uptoBulkAll]
    rcases List.mem_cons.1 h with rfl | h
    · omega
    · have := bulk_part h
      omega
theorem upto_few {H : Type} {d : DataW H} {l : List (DataW H)} {xs : List Int} (hb : Rows.uptoSmall H l = true) (hd : d ∈ l) (hx : xs = [] ∨ ∃ E S, d = .slice E S ∧ E.length = xs.length) : xs.length ≤ 1048576 := by
  have hb : Rows.uptoBulkAll l ≤ 1048576 := of_decide_eq_true hb
  rcases hx with rfl | ⟨E, S, rfl, hl⟩
  · simp
  · have h1 := bulk_part hd
    have h2 := bulk_len E
    simp only [Rows.uptoBulk] at h1
    omega
end Go.Proofs.Ytndoigkmdcgjfaa
