/- Keywords: both programs' answers. -/
import Derived.Test.YtdonomneofdhfaaNX
namespace Go.Proofs.Ytdonomneofdhfaa
open Go.GV Go.RowKit

def kwW : List ByteArray := [⟨#[97, 117, 116, 111]⟩, ⟨#[98, 114, 101, 97, 107]⟩, ⟨#[99, 97, 115, 101]⟩, ⟨#[99, 104, 97, 114]⟩, ⟨#[99, 111, 110, 115, 116]⟩, ⟨#[99, 111, 110, 116, 105, 110, 117, 101]⟩, ⟨#[100, 101, 102, 97, 117, 108, 116]⟩, ⟨#[100, 111]⟩, ⟨#[100, 111, 117, 98, 108, 101]⟩, ⟨#[101, 108, 115, 101]⟩, ⟨#[101, 110, 117, 109]⟩, ⟨#[101, 120, 116, 101, 114, 110]⟩, ⟨#[102, 108, 111, 97, 116]⟩, ⟨#[102, 111, 114]⟩, ⟨#[103, 111, 116, 111]⟩, ⟨#[105, 102]⟩, ⟨#[105, 110, 108, 105, 110, 101]⟩, ⟨#[105, 110, 116]⟩, ⟨#[108, 111, 110, 103]⟩, ⟨#[114, 101, 103, 105, 115, 116, 101, 114]⟩, ⟨#[114, 101, 115, 116, 114, 105, 99, 116]⟩, ⟨#[114, 101, 116, 117, 114, 110]⟩, ⟨#[115, 104, 111, 114, 116]⟩, ⟨#[115, 105, 103, 110, 101, 100]⟩, ⟨#[115, 105, 122, 101, 111, 102]⟩, ⟨#[115, 116, 97, 116, 105, 99]⟩, ⟨#[115, 116, 114, 117, 99, 116]⟩, ⟨#[115, 119, 105, 116, 99, 104]⟩, ⟨#[116, 121, 112, 101, 100, 101, 102]⟩, ⟨#[117, 110, 105, 111, 110]⟩, ⟨#[117, 110, 115, 105, 103, 110, 101, 100]⟩, ⟨#[118, 111, 105, 100]⟩, ⟨#[118, 111, 108, 97, 116, 105, 108, 101]⟩, ⟨#[119, 104, 105, 108, 101]⟩, ⟨#[95, 65, 108, 105, 103, 110, 97, 115]⟩, ⟨#[95, 65, 108, 105, 103, 110, 111, 102]⟩, ⟨#[95, 65, 116, 111, 109, 105, 99]⟩, ⟨#[95, 66, 111, 111, 108]⟩, ⟨#[95, 67, 111, 109, 112, 108, 101, 120]⟩, ⟨#[95, 71, 101, 110, 101, 114, 105, 99]⟩, ⟨#[95, 73, 109, 97, 103, 105, 110, 97, 114, 121]⟩, ⟨#[95, 78, 111, 114, 101, 116, 117, 114, 110]⟩, ⟨#[95, 83, 116, 97, 116, 105, 99, 95, 97, 115, 115, 101, 114, 116]⟩, ⟨#[95, 84, 104, 114, 101, 97, 100, 95, 108, 111, 99, 97, 108]⟩]
def kwB (s : ByteArray) : Bool := kwW.any fun w => decide (s = w)

set_option maxRecDepth 100000 in
theorem keyword_any (s : ByteArray) (w : World) : Calls Try.prog 63 #[.string s] w (PureP w fun v _ => v = .bool (kwB s)) := by
  refine x_fun tt_ok Try.func63 rfl rfl [] 0 [.v (.string s)] rfl rfl rfl rfl (fun b hb => by cases hb) ?_
  refine x_vc tt_ok ?_
  iterate 43
    refine x_if (fun h => ?_) (fun h => ?_)
    · have h := of_decide_eq_true h
      subst h
      refine x_ift rfl ?_
      refine fin1 (fun _ _ => rfl)
  refine x_if (fun h => ?_) (fun h => ?_)
  · have h := of_decide_eq_true h
    subst h
    refine fin1 (fun _ _ => rfl)
  refine fin1 (fun _ _ => ?_)
  have : kwB s = false := by
    unfold kwB
    rw [List.any_eq_false]
    intro x hx
    simp only [kwW, List.mem_cons, List.not_mem_nil, or_false] at hx
    simp only [decide_eq_false_iff_not] at *
    repeat' (rcases hx with hx | hx)
    all_goals
      rw [decide_eq_true_eq]
      assumption
  rw [this]; rfl
end Go.Proofs.Ytdonomneofdhfaa
