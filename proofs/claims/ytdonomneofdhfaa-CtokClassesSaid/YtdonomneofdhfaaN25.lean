/- CtokClasses: the walk of the law. -/
import Derived.Test.YtdonomneofdhfaaN24
namespace Go.Proofs.Ytdonomneofdhfaa
open Go.GV Go.RowKit

set_option maxRecDepth 100000 in
theorem ctokClasses_any (k : Int) (s : ByteArray) (w : World) (hs : s.size ≤ 9223372036854775807) (hg : Glob (im w)) : Calls Try.prog 14 #[.int .i64 k, .string s] w (PureP w fun v _ => v = .bool true) := by
  refine x_fun tt_ok Try.func14 rfl rfl [] 0 [.v (.int .i64 k), .v (.string s)] rfl rfl rfl rfl (fun b hb => by cases hb) ?_
  refine x_vc tt_ok ?_
  refine x_if (fun h => ?_) (fun h => ?_)
  · exact fin1 (fun _ _ => rfl)
  · have h : ¬ 1000 < (s.size : Int) := of_decide_eq_false h
    refine xl_call0 (.tuple #[.agg #[.int .i64 (clsA k s).1, .string (clsA k s).2], .int .i64 (clsE k s)]) rfl rfl rfl rfl fn61 rfl rfl (fun E w F hs' => class_any k s w (by omega) (hg.imm hs'.imm)) ?_
    refine xl_go tt_ok ?_
    refine xl_call0 (.tuple #[.agg #[.int .i64 (clsA k s).1, .string (clsA k s).2], .int .i64 (clsE k s)]) rfl rfl rfl rfl fn62 rfl rfl (fun E w F _ => classR_any k s w (by omega)) ?_
    refine xl_go tt_ok ?_
    refine xl_gcall0 (.bool (kwB s)) rfl rfl rfl rfl fn63 rfl rfl (fun _ E w F _ => keyword_any s w) ?_
    refine xl_go tt_ok ?_
    refine xl_gcall0 (.bool (kwB s)) rfl rfl rfl rfl fn64 rfl rfl (fun _ E w F _ => keywordR_any s w (by omega)) ?_
    refine xl_go tt_ok ?_
    refine xl_gcall0 (.string (canP s)) rfl rfl rfl rfl fn65 rfl rfl (fun _ E w F _ => canon_any s w) ?_
    refine xl_go tt_ok ?_
    refine xl_gcall0 (.string (canP s)) rfl rfl rfl rfl fn66 rfl rfl (fun _ E w F _ => canonR_any s w) ?_
    refine xl_go tt_ok ?_
    refine xl_gcall0 (.bool (floatB s)) rfl rfl rfl rfl fn67 rfl rfl (fun _ E w F _ => float_any s w (by omega)) ?_
    refine xl_go tt_ok ?_
    refine xl_gcall0 (.bool (floatB s)) rfl rfl rfl rfl fn68 rfl rfl (fun _ E w F _ => floatR_any s w (by omega)) ?_
    refine xl_go tt_ok ?_
    refine fin1 (fun _ _ => ?_)
    simp [tupV, SV.den]
end Go.Proofs.Ytdonomneofdhfaa
