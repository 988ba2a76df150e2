/- What the chapter's laws ask of integer constants. -/
import Derived.Test.YtdonomneofdhfaaN24
namespace Go.Proofs.Ytdonomneofdhfaa
open Go.GV Go.RowKit

def noneB (s : ByteArray) : Bool := (intC s).isNone
def worthB (s : ByteArray) (v : Int) (u : Bool) : Bool := match intC s with
  | some (a, b) => decide (a = v) && decide (b = u)
  | none => false

set_option maxRecDepth 100000 in
theorem none_any (s : ByteArray) (w : World) (hs : s.size ≤ 9223372036854775807) : Calls Try.prog 71 #[.string s] w (PureP w fun v _ => v = .bool (noneB s)) := by
  refine x_fun tt_ok Try.func71 rfl rfl [] 0 [.v (.string s)] rfl rfl rfl rfl (fun b hb => by cases hb) ?_
  refine x_vc tt_ok ?_
  refine xl_call0 (.tuple #[.int .u64 (intV s).1, .bool (intV s).2.1, .int .i64 (intV s).2.2]) rfl rfl rfl rfl fn51 rfl rfl (fun E w F _ => int_any s w hs) ?_
  refine xl_go tt_ok ?_
  refine fin1 (fun _ _ => ?_)
  show Value.bool ((decide ((intV s).2.2 = 40) && decide ((intV s).1 = 0)) && !(intV s).2.1) = _
  unfold intV noneB
  cases intC s with
  | none => rfl
  | some p => rfl

set_option maxRecDepth 100000 in
theorem worth_any (s : ByteArray) (x : Int) (q : Bool) (w : World) (hs : s.size ≤ 9223372036854775807) : Calls Try.prog 72 #[.string s, .int .u64 x, .bool q] w (PureP w fun v _ => v = .bool (worthB s x q)) := by
  refine x_fun tt_ok Try.func72 rfl rfl [] 0 [.v (.string s), .v (.int .u64 x), .v (.bool q)] rfl rfl rfl rfl (fun b hb => by cases hb) ?_
  refine x_vc tt_ok ?_
  refine xl_call0 (.tuple #[.int .u64 (intV s).1, .bool (intV s).2.1, .int .i64 (intV s).2.2]) rfl rfl rfl rfl fn51 rfl rfl (fun E w F _ => int_any s w hs) ?_
  refine xl_go tt_ok ?_
  refine fin1 (fun _ _ => ?_)
  show Value.bool ((decide ((intV s).2.2 = 0) && decide ((intV s).1 = x)) && decide ((intV s).2.1 = q)) = _
  unfold intV worthB
  cases intC s with
  | none => rfl
  | some p =>
    show Value.bool ((decide ((0 : Int) = 0) && decide (p.1 = x)) && decide (p.2 = q)) = Value.bool (decide (p.1 = x) && decide (p.2 = q))
    rw [decide_eq_true rfl, Bool.true_and]

set_option maxRecDepth 100000 in
theorem ctokAlive_any (w : World) (hg : Glob (im w)) : Calls Try.prog 69 #[] w (PureP w fun v _ => v = .bool true) := by
  refine x_fun tt_ok Try.func69 rfl rfl [] 0 [] rfl rfl rfl rfl (fun b hb => by cases hb) ?_
  refine x_vc tt_ok ?_
  refine xl_call0 (.tuple #[.agg #[.int .i64 7, .string ⟨#[123]⟩], .int .i64 0]) rfl rfl rfl rfl fn61 rfl rfl (fun E w F hs' => class_any 5 ⟨#[60, 37]⟩ w (by decide) (hg.imm hs'.imm)) ?_
  refine xl_go tt_ok ?_
  refine xl_call0 (.bool true) rfl rfl rfl rfl fn72 rfl rfl (fun E w F _ => by
    have := worth_any ⟨#[48, 120, 49, 70]⟩ 31 false w (by decide)
    rw [show worthB ⟨#[48, 120, 49, 70]⟩ 31 false = true by kernel_rfl] at this
    exact this) ?_
  refine xl_go tt_ok ?_
  exact fin1 (fun _ _ => rfl)
end Go.Proofs.Ytdonomneofdhfaa
