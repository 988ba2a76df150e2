/- How deep rows stand: what is reckoned, and what a row does. -/
import Derived.Test.YtebnccdegjdfiaaL1
namespace Go.Proofs.Ytebnccdegjdfiaa
open Go.GV Go.RowKit

abbrev sIf : ByteArray := ⟨#[105, 102]⟩
abbrev sIfdef : ByteArray := ⟨#[105, 102, 100, 101, 102]⟩
abbrev sIfndef : ByteArray := ⟨#[105, 102, 110, 100, 101, 102]⟩
abbrev sElif : ByteArray := ⟨#[101, 108, 105, 102]⟩
abbrev sElse : ByteArray := ⟨#[101, 108, 115, 101]⟩
abbrev sEndif : ByteArray := ⟨#[101, 110, 100, 105, 102]⟩

def turnN (n : ByteArray) : Int :=
  if n = sIf then 1 else if n = sIfdef then 1 else if n = sIfndef then 1 else if n = sElif then 2 else if n = sElse then 3 else if n = sEndif then 4 else 0
def turnV (r : RowV) : Int := if r.dir = true then turnN r.name else 0

set_option maxRecDepth 100000 in
theorem turn_any (r : RowV) (w : World) : Calls Try.prog 44 #[.agg #[.bool r.dir, .string r.name, .slice r.ta r.tn r.tc]] w (PureP w fun v _ => v = .int .i64 (turnV r)) := by
  refine x_fun tt_ok Try.func44 rfl rfl [] 0 [.v (.agg #[.bool r.dir, .string r.name, .slice r.ta r.tn r.tc])] rfl rfl rfl rfl (fun b hb => by cases hb) ?_
  refine x_vc tt_ok ?_
  refine x_if (fun h => ?_) (fun h => ?_)
  · refine fin1 (fun _ _ => ?_)
    have h' : r.dir = false := by simpa using h
    simp only [turnV, h']; rfl
  · have h' : r.dir = true := by simpa using h
    have e : turnV r = turnN r.name := by simp only [turnV, h', if_true]
    rw [e]
    unfold turnN
    repeat' first | refine x_ift (by assumption) ?_ | refine x_iff (by assumption) ?_ | refine x_if (fun _ => ?_) (fun _ => ?_)
    all_goals refine fin1 (fun _ _ => ?_)
    all_goals simp only [decide_eq_true_eq, decide_eq_false_iff_not] at *
    all_goals simp only [*, if_true, if_false]
    all_goals rfl
end Go.Proofs.Ytebnccdegjdfiaa
