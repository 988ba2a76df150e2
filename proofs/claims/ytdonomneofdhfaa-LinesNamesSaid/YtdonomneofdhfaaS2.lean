/- What a trigraph stands for, and where a splice stands in what is spelt: both programs' answers. -/
import Derived.Test.YtdonomneofdhfaaS1
namespace Go.Proofs.Ytdonomneofdhfaa
open Go.GV Go.RowKit

def third (c : Int) : Int :=
  if c = 61 then 35 else if c = 47 then 92 else if c = 39 then 94 else if c = 40 then 91 else if c = 41 then 93
  else if c = 33 then 124 else if c = 60 then 123 else if c = 62 then 125 else if c = 45 then 126 else 0
def isThird (c : Int) : Bool := decide (third c ≠ 0)

set_option maxRecDepth 100000 in
theorem third_any (c : Int) (w : World) : Calls Try.prog 141 #[.int .u8 c] w (PureP w fun v _ => v = .tuple #[.int .u8 (third c), .bool (isThird c)]) := by
  refine x_fun tt_ok Try.func141 rfl rfl [] 0 [.v (.int .u8 c)] rfl rfl rfl rfl (fun b hb => by cases hb) ?_
  refine x_vc tt_ok ?_
  iterate 9
    refine x_if (fun h => ?_) (fun h => ?_)
    · have h := of_decide_eq_true h
      subst h
      refine fin1 (fun _ _ => rfl)
  refine fin1 (fun _ _ => ?_)
  simp only [decide_eq_true_eq, decide_eq_false_iff_not] at *
  have : third c = 0 := by unfold third; simp [*]
  simp only [isThird, this]
  rfl

/-- a trigraph at a place -/
def isTri (s : ByteArray) (i : Int) : Bool := decide (i + 3 ≤ s.size) && (decide (bt s i = 63) && (decide (bt s (i + 1) = 63) && isThird (bt s (i + 2))))
def triV (s : ByteArray) (i : Int) : Int := if isTri s i = true then third (bt s (i + 2)) else 0
def parted (s : ByteArray) (i : Int) : Bool := (decide (i + 1 < s.size) && (decide (bt s i = 92) && decide (bt s (i + 1) = 10))) || isTri s i

set_option maxRecDepth 100000 in
theorem parted_any (s : ByteArray) (i : Int) (w : World) (h0 : 0 ≤ i) (h1 : i < s.size) (hs : s.size ≤ 140737488355328) :
    Calls Try.prog 104 #[.string s, .int .i64 i] w (PureP w fun v _ => v = .bool (parted s i)) := by
  refine x_fun tt_ok Try.func104 rfl rfl [] 0 [.v (.string s), .v (.int .i64 i)] rfl rfl rfl rfl (fun b hb => by cases hb) ?_
  refine x_vc tt_ok ?_
  repeat (refine And.intro ?_ ?_; first | omega | (simp only [decide_eq_true_eq, decide_eq_false_iff_not, Bool.or_eq_false_iff, Bool.and_eq_true, Bool.or_eq_true, Bool.and_eq_false_iff, Bool.not_eq_true', Bool.not_eq_false']; omega))
  refine x_if (fun h => ?_) (fun h => ?_)
  · have h' : ((decide (i + 1 < s.size) && decide (bt s i = 92)) && decide (bt s (i + 1) = 10)) = true := h
    refine fin1 (fun _ _ => ?_)
    rw [Bool.and_assoc] at h'
    unfold parted
    rw [h']; rfl
  · have h' : ((decide (i + 1 < s.size) && decide (bt s i = 92)) && decide (bt s (i + 1) = 10)) = false := h
    rw [Bool.and_assoc] at h'
    have e : parted s i = isTri s i := by unfold parted; rw [h']; rfl
    rw [e]
    repeat (refine And.intro ?_ ?_; first | omega | (simp only [decide_eq_true_eq, decide_eq_false_iff_not, Bool.or_eq_false_iff, Bool.and_eq_true, Bool.or_eq_true, Bool.and_eq_false_iff, Bool.not_eq_true', Bool.not_eq_false']; omega))
    refine x_if (fun h2 => ?_) (fun h2 => ?_)
    · have h2' : ((decide (i + 2 < s.size) && decide (bt s i = 63)) && decide (bt s (i + 1) = 63)) = true := h2
      rw [Bool.and_eq_true, Bool.and_eq_true, decide_eq_true_eq, decide_eq_true_eq, decide_eq_true_eq] at h2'
      have e3 : isTri s i = isThird (bt s (i + 2)) := by
        unfold isTri
        rw [decide_eq_true (by omega), decide_eq_true h2'.1.2, decide_eq_true h2'.2]; rfl
      repeat (refine And.intro ?_ ?_; first | omega | (simp only [decide_eq_true_eq, decide_eq_false_iff_not, Bool.or_eq_false_iff, Bool.and_eq_true, Bool.or_eq_true, Bool.and_eq_false_iff, Bool.not_eq_true', Bool.not_eq_false']; omega))
      refine xl_call0 (.tuple #[.int .u8 (third (bt s (i + 2))), .bool (isThird (bt s (i + 2)))]) rfl rfl rfl rfl fn141 rfl rfl (fun E w F hs => third_any _ w) ?_
      refine xl_go tt_ok ?_
      refine fin1 (fun _ _ => ?_)
      rw [e3]
      rfl
    · have h2' : ((decide (i + 2 < s.size) && decide (bt s i = 63)) && decide (bt s (i + 1) = 63)) = false := h2
      refine fin1 (fun _ _ => ?_)
      have e3 : isTri s i = false := by
        unfold isTri
        rw [Bool.and_eq_false_iff, Bool.and_eq_false_iff, decide_eq_false_iff_not, decide_eq_false_iff_not, decide_eq_false_iff_not] at h2'
        rcases h2' with (h2' | h2') | h2'
        · rw [decide_eq_false (by omega)]; rfl
        · rw [decide_eq_false h2']; simp
        · rw [decide_eq_false h2']; simp
      rw [e3]
      rfl
end Go.Proofs.Ytdonomneofdhfaa
