/- The strings.Builder's own functions: what they make of a builder that is the caller's. -/
import Derived.Test.YtdonomneofdhfaaTy
import Derived.KernelRfl
import Derived.Laws.Externs
namespace Go.Proofs.Ytdonomneofdhfaa
open Go.GV Go.RowKit

theorem mix : Try.prog.follows .mixedOrders = true := by kernel_rfl

theorem noEscape_run (x : Value) (w : World) : (callFunc 158 #[x]).run Try.prog w = .ok (.value x) w := by
  rw [run_callFunc_extern Try.func158 (by kernel_rfl) (by kernel_rfl) (by kernel_rfl) (e := Extern.AbiNoEscape.same) (by kernel_rfl)]
  rfl

/-- a builder, fresh or used -/
def bAddr (used : Bool) : SV := match used with
  | true => .p 0 0
  | false => .v (.pointer none)

set_option maxRecDepth 100000 in
theorem copyCheck_sc (used : Bool) (L : List UInt8) : SC Try.prog 140 (fun _ => True) 2 [(0, .box 139 [bAddr used, .r 1]), (1, .row 5 (byteY.d L))] [.p 0 0] (fun _ : Unit => ([(0, .box 139 [.p 0 0, .r 1]), (1, .row 5 (byteY.d L))], 2, .tuple #[])) (fun _ => True) := by
  refine x_sc tt_ok Try.func140 rfl rfl rfl (by cases used <;> rfl) (fun u _ => ?_)
  cases used
  · refine x_vc tt_ok ?_
    refine xl_eqpNil rfl rfl rfl rfl (by kernel_rfl) rfl ?_
    refine xl_go tt_ok ?_
    refine x_ift rfl ?_
    refine xl_toUnsafe rfl rfl rfl rfl Try.underlying137 Try.underlying203 (by kernel_rfl) rfl rfl rfl ?_
    refine xl_go tt_ok ?_
    refine xl_extern1 rfl rfl rfl rfl rfl noEscape_run rfl ?_
    refine xl_go tt_ok ?_
    refine xl_fromUnsafe (n := 2) rfl rfl rfl rfl Try.underlying203 Try.underlying137 (by kernel_rfl) rfl rfl rfl (by kernel_rfl) ?_
    refine xl_go tt_ok ?_
    exact ⟨(), [], [], rfl, rfl, .of rfl rfl rfl rfl rfl rfl, of_decide_eq_true rfl, trivial⟩
  · refine x_vc tt_ok ?_
    refine xl_eqpSome rfl rfl rfl rfl (by kernel_rfl) rfl ?_
    refine xl_go tt_ok ?_
    refine x_iff rfl ?_
    refine xl_neqSelf rfl rfl rfl rfl Try.underlying137 (by kernel_rfl) rfl rfl ?_
    refine xl_go tt_ok ?_
    refine x_iff rfl ?_
    exact ⟨(), [], [], rfl, rfl, .of rfl rfl rfl rfl rfl rfl, of_decide_eq_true rfl, trivial⟩

theorem bool_cases {P : Bool → Prop} (h : P true) (h' : P false) : ∀ b, P b
  | true => h
  | false => h'

set_option maxRecDepth 100000 in
theorem writeByte_sc (used : Bool) (L : List UInt8) (x : UInt8) (hL : L.length + 1 ≤ 140737488355328) :
    SC Try.prog 103 (fun _ => True) 2 [(0, .box 139 [bAddr used, .r 1]), (1, .row 5 (byteY.d L))] [.p 0 0, .v (.int .u8 (x.toNat : Int))]
      (fun _ : Unit => ([(0, .box 139 [.p 0 0, .r 2]), (2, .row 5 (byteY.d (L ++ [x])))], 3, .nilIface)) (fun _ => True) := by
  refine x_sc tt_ok Try.func103 rfl rfl rfl (by cases used <;> rfl) (fun u _ => ?_)
  refine x_vc tt_ok ?_
  refine xl_callSC (copyCheck_sc used L) (fun _ _ _ _ => trivial) trivial [0, 1] rfl rfl rfl rfl fn140 rfl rfl rfl rfl rfl (by cases used <;> rfl) (by cases used <;> rfl) (fun _ => rfl) (fun _ u1 hu1 _ => ?_)
  refine xl_go tt_ok ?_
  refine xl_push tt_ok byteY L x 1 (cs := [.int .u8 (x.toNat : Int)]) rfl rfl rfl rfl rfl rfl rfl rfl rfl rfl rfl rfl (by kernel_rfl) rfl rfl rfl rfl rfl (fun n hn => by cases hn; decide) rfl rfl rfl (by omega) (by omega) ?_
  refine xl_go tt_ok ?_
  exact ⟨(), [], [_], rfl, rfl, .of rfl rfl rfl rfl rfl rfl, of_decide_eq_true rfl, trivial⟩

set_option maxRecDepth 100000 in
theorem writeString_sc (used : Bool) (L : List UInt8) (x : ByteArray) (hL : L.length + x.size ≤ 140737488355328) :
    SC Try.prog 105 (fun _ => True) 2 [(0, .box 139 [bAddr used, .r 1]), (1, .row 5 (byteY.d L))] [.p 0 0, .v (.string x)]
      (fun _ : Unit => ([(0, .box 139 [.p 0 0, .r 2]), (2, .row 5 (byteY.d (L ++ x.data.toList)))], 3, .tuple #[.int .i64 x.size, .nilIface])) (fun _ => True) := by
  refine x_sc tt_ok Try.func105 rfl rfl rfl (by cases used <;> rfl) (fun u _ => ?_)
  refine x_vc tt_ok ?_
  refine xl_callSC (copyCheck_sc used L) (fun _ _ _ _ => trivial) trivial [0, 1] rfl rfl rfl rfl fn140 rfl rfl rfl rfl rfl (by cases used <;> rfl) (by cases used <;> rfl) (fun _ => rfl) (fun _ u1 hu1 _ => ?_)
  refine xl_go tt_ok ?_
  refine xl_appStr tt_ok L rfl rfl rfl rfl rfl rfl rfl (by kernel_rfl) rfl rfl rfl rfl hL ?_
  refine xl_go tt_ok ?_
  exact ⟨(), [], [_, _], rfl, rfl, .of rfl rfl rfl rfl rfl rfl, of_decide_eq_true rfl, trivial⟩

set_option maxRecDepth 100000 in
theorem len_sc (used : Bool) (L : List UInt8) : SC Try.prog 106 (fun _ => True) 2 [(0, .box 139 [bAddr used, .r 1]), (1, .row 5 (byteY.d L))] [.p 0 0]
      (fun _ : Unit => ([(0, .box 139 [bAddr used, .r 1]), (1, .row 5 (byteY.d L))], 2, .int .i64 L.length)) (fun _ => True) := by
  refine x_sc tt_ok Try.func106 rfl rfl rfl (by cases used <;> rfl) (fun u _ => ?_)
  refine x_vc tt_ok ?_
  cases used
  · exact ⟨(), [], [_], rfl, rfl, .of rfl rfl rfl rfl rfl rfl, of_decide_eq_true rfl, trivial⟩
  · exact ⟨(), [], [_], rfl, rfl, .of rfl rfl rfl rfl rfl rfl, of_decide_eq_true rfl, trivial⟩

set_option maxRecDepth 100000 in
theorem lenNil_sc : SC Try.prog 106 (fun _ => True) 1 [(0, .box 139 [.v (.pointer none), .v (.slice none 0 0)])] [.p 0 0]
      (fun _ : Unit => ([(0, .box 139 [.v (.pointer none), .v (.slice none 0 0)])], 1, .int .i64 0)) (fun _ => True) := by
  refine x_sc tt_ok Try.func106 rfl rfl rfl rfl (fun u _ => ?_)
  refine x_vc tt_ok ?_
  exact ⟨(), [], [_], rfl, rfl, .of rfl rfl rfl rfl rfl rfl, of_decide_eq_true rfl, trivial⟩

set_option maxRecDepth 100000 in
theorem stringNil_sc : SC Try.prog 107 (fun _ => True) 1 [(0, .box 139 [.v (.pointer none), .v (.slice none 0 0)])] [.p 0 0]
      (fun _ : Unit => ([], 1, .string ⟨#[]⟩)) (fun _ => True) := by
  refine x_sc tt_ok Try.func107 rfl rfl rfl rfl (fun u _ => ?_)
  refine x_vc tt_ok ?_
  refine x_drawA mix ?_
  refine xa_phase tt_ok (fuel := 2) [0, 1, 2, 3, 4, 5, 6, 7, 8, 9] rfl (by kernel_rfl) (by kernel_rfl) (by kernel_rfl) (by kernel_rfl) (xd_go tt_ok ?_)
  refine xd_sdNil rfl rfl rfl rfl rfl (xd_go tt_ok ?_)
  refine xa_one 10 (by kernel_rfl) rfl ?_
  refine xl_usNone rfl rfl rfl rfl rfl rfl (xl_go tt_ok ?_)
  refine xa_one 11 (by kernel_rfl) rfl (xl_go tt_ok ?_)
  refine xa_done (by kernel_rfl) rfl ?_
  exact ⟨(), [], [_], rfl, rfl, .of rfl rfl rfl rfl rfl rfl, of_decide_eq_true rfl, trivial⟩

set_option maxRecDepth 100000 in
theorem string_sc (used : Bool) (L : List UInt8) (hL : L ≠ []) : SC Try.prog 107 (fun _ => True) 2 [(0, .box 139 [bAddr used, .r 1]), (1, .row 5 (byteY.d L))] [.p 0 0]
      (fun _ : Unit => ([], 2, .string ⟨L.toArray⟩)) (fun _ => True) := by
  refine x_sc tt_ok Try.func107 rfl rfl rfl (by cases used <;> rfl) (fun u _ => ?_)
  refine x_vc tt_ok ?_
  refine x_drawA mix ?_
  refine xa_phase tt_ok (fuel := 2) [0, 1, 2, 3, 4, 5, 6, 7, 8, 9] rfl (by kernel_rfl) (by kernel_rfl) (by kernel_rfl) (by kernel_rfl) (xd_go tt_ok ?_)
  refine xd_sdRow byteY L rfl rfl rfl rfl rfl rfl hL (xd_go tt_ok ?_)
  refine xa_one 10 (by kernel_rfl) rfl ?_
  refine xl_usRow L rfl rfl rfl rfl rfl rfl rfl hL Try.underlying190 (by kernel_rfl) (xl_go tt_ok ?_)
  refine xa_one 11 (by kernel_rfl) rfl (xl_go tt_ok ?_)
  refine xa_done (by kernel_rfl) rfl ?_
  exact ⟨(), [], [_], rfl, rfl, .of rfl rfl rfl rfl rfl rfl, of_decide_eq_true rfl, trivial⟩
end Go.Proofs.Ytdonomneofdhfaa
