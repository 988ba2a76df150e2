/- The document's tokens: literals, and of which kind a token is. -/
import Derived.Test.YtdonomneofdhfaaR1
import Derived.Test.YtdonomneofdhfaaR2
namespace Go.Proofs.Ytdonomneofdhfaa
open Go.GV Go.RowKit

def strY : Lay ByteArray := ⟨[fun s => .string s], ⟨#[]⟩⟩

theorem sub_le (s : ByteArray) (a b : Int) : (sub s a b).size ≤ s.size := by
  unfold sub
  rw [ByteArray.size_extract]; omega

/-- one literal with one prefix -/
def litB (q : Int) (p s : ByteArray) : Bool :=
  decide ((p.size : Int) + 2 ≤ s.size) && decide (sub s 0 p.size = p) && decide (bt s p.size = q) && decide (bt s ((s.size : Int) - 1) = q) && Lx.pieces q (bl (sub s ((p.size : Int) + 1) ((s.size : Int) - 1)))

theorem litB_eq (q : Int) (p s : ByteArray) : litB q p s = Lx.litAt q (bl p) (bl s) := by
  unfold litB Lx.litAt
  rw [bl_len, bl_len]
  by_cases h : p.size + 2 ≤ s.size
  · have e1 : decide (sub s 0 p.size = p) = decide ((bl s).take p.size = bl p) := by
      rw [bl_eq, bl_sub s (by omega) (by omega) (by omega), tl_zero, Int.sub_zero, Int.toNat_natCast]
    have e2 : decide (bt s p.size = q) = decide ((bl s)[p.size]? = some q) := by
      rw [bl_get s (by omega)]; simp
    have e3 : decide (bt s ((s.size : Int) - 1) = q) = decide ((bl s)[s.size - 1]? = some q) := by
      rw [bl_get s (by omega)]
      rw [show ((s.size - 1 : Nat) : Int) = (s.size : Int) - 1 by omega]; simp
    have e4 : bl (sub s ((p.size : Int) + 1) ((s.size : Int) - 1)) = ((bl s).take (s.size - 1)).drop (p.size + 1) := by
      rw [bl_sub s (by omega) (by omega) (by omega), tl, List.drop_take]
      congr 1
      omega
    rw [e1, e2, e3, e4, decide_eq_true (by omega : (p.size : Int) + 2 ≤ s.size), decide_eq_true h]
    simp only [Bool.true_and, Bool.and_assoc]
  · rw [decide_eq_false h, decide_eq_false (by omega)]
    simp

theorem isLit_cons (q : Int) (p : ByteArray) (ps : List ByteArray) (s : ByteArray) : Lx.isLit q (bl p :: ps.map bl) (bl s) =
    if litB q p s = true then (decide (q = 34) || decide ((p.size : Int) + 2 < s.size)) else Lx.isLit q (ps.map bl) (bl s) := by
  rw [litB_eq]
  simp only [Lx.isLit]
  cases Lx.litAt q (bl p) (bl s) with
  | true =>
    simp only [if_true]
    rw [bl_len, bl_len]
    congr 1
    rw [decide_eq_decide]; omega
  | false => rfl

set_option maxRecDepth 100000 in
theorem isLit_any (s : ByteArray) (q : Int) (ps : List ByteArray) (x : Value) (w : World) (hx : SlAt (im w) x (strY.d ps)) (hps : ∀ p ∈ ps, p.size ≤ 2) (hl : ps.length ≤ 10) (hz : s.size ≤ 140737488355328) :
    Calls Try.prog 172 #[.string s, .int .u8 q, x] w (PureP w fun v _ => v = .bool (Lx.isLit q (ps.map bl) (bl s))) := by
  obtain ⟨N, hN⟩ : ∃ N, N = Lx.isLit q (ps.map bl) (bl s) := ⟨_, rfl⟩
  rw [← hN]
  refine x_fun tt_ok Try.func172 rfl rfl [(x, strY.d ps)] 1 [.v (.string s), .v (.int .u8 q), .r 0] rfl rfl rfl rfl (fun b hb => by simp at hb; subst hb; exact hx) ?_
  refine x_vc tt_ok ?_
  refine x_loop (σ := Int) (fun k => ⟨[(7, .v (.int .i64 k)), (2, .r 0), (1, .v (.int .u8 q)), (0, .v (.string s))], [], [(0, .sl (strY.d ps))], 1⟩)
    (fun k _ => 0 ≤ k ∧ k ≤ ps.length ∧ N = Lx.isLit q ((ps.drop k.toNat).map bl) (bl s)) (fun k => (ps.length - k).toNat) (fun _ => Nat.le_refl 1) 0 [] (.of rfl rfl rfl rfl rfl rfl)
    ⟨by omega, by omega, hN⟩ ?_
  rintro k u hu ⟨g1, g2, g3⟩
  refine x_vc tt_ok ?_
  refine x_if (fun h => ?_) (fun h => ?_)
  · have h2 : k < ps.length := of_decide_eq_true h
    have hd : ps.drop k.toNat = ps.getD k.toNat strY.dft :: ps.drop (k + 1).toNat := by
      rw [show (k + 1).toNat = k.toNat + 1 by omega, List.getD_eq_getElem?_getD, List.getElem?_eq_getElem (by omega : k.toNat < ps.length)]
      exact List.drop_eq_getElem_cons _
    have hp2 : (ps.getD k.toNat strY.dft).size ≤ 2 := by
      refine hps _ ?_
      rw [List.getD_eq_getElem?_getD, List.getElem?_eq_getElem (by omega : k.toNat < ps.length)]
      exact List.getElem_mem _
    rw [hd, List.map_cons, isLit_cons] at g3
    repeat (refine And.intro ?_ ?_; first | omega | (simp only [Lay.d_n]; omega) | (simp only [decide_eq_true_eq, decide_eq_false_iff_not, Bool.or_eq_false_iff, Bool.and_eq_true, Bool.or_eq_true, Bool.and_eq_false_iff, Bool.not_eq_true', Bool.not_eq_false', Lay.d_n]; omega) | (simp only [decide_eq_true_eq, decide_eq_false_iff_not, Bool.or_eq_false_iff, Bool.and_eq_true, Bool.or_eq_true, Bool.and_eq_false_iff, Bool.not_eq_true', Bool.not_eq_false']; omega))
    refine x_draw mix (by kernel_rfl) (xd_go tt_ok ?_)
    repeat (refine And.intro ?_ ?_; first | omega | (simp only [Lay.d_n]; omega) | (simp only [decide_eq_true_eq, decide_eq_false_iff_not, Bool.or_eq_false_iff, Bool.and_eq_true, Bool.or_eq_true, Bool.and_eq_false_iff, Bool.not_eq_true', Bool.not_eq_false', Lay.d_n]; omega) | (simp only [decide_eq_true_eq, decide_eq_false_iff_not, Bool.or_eq_false_iff, Bool.and_eq_true, Bool.or_eq_true, Bool.and_eq_false_iff, Bool.not_eq_true', Bool.not_eq_false']; omega))
    refine xd_call0 (.bool (Lx.pieces q (bl (sub s (((ps.getD k.toNat strY.dft).size : Int) + 1) ((s.size : Int) - 1))))) rfl rfl rfl rfl fn185 rfl rfl
      (fun _ E w F _ => pieces_any _ q (by have := sub_le s (((ps.getD k.toNat strY.dft).size : Int) + 1) ((s.size : Int) - 1); omega) w) ?_
    refine xd_go tt_ok ?_
    refine x_if (fun h3 => ?_) (fun h3 => ?_)
    · have h3' : litB q (ps.getD k.toNat strY.dft) s = true := h3
      rw [if_pos h3'] at g3
      repeat (refine And.intro ?_ ?_; first | omega | (simp only [Lay.d_n]; omega) | (simp only [decide_eq_true_eq, decide_eq_false_iff_not, Bool.or_eq_false_iff, Bool.and_eq_true, Bool.or_eq_true, Bool.and_eq_false_iff, Bool.not_eq_true', Bool.not_eq_false', Lay.d_n]; omega) | (simp only [decide_eq_true_eq, decide_eq_false_iff_not, Bool.or_eq_false_iff, Bool.and_eq_true, Bool.or_eq_true, Bool.and_eq_false_iff, Bool.not_eq_true', Bool.not_eq_false']; omega))
      rw [g3]
      exact fin1 (fun _ _ => rfl)
    · have h3' : litB q (ps.getD k.toNat strY.dft) s = false := h3
      rw [if_neg (by rw [h3']; simp)] at g3
      repeat (refine And.intro ?_ ?_; first | omega | (simp only [Lay.d_n]; omega) | (simp only [decide_eq_true_eq, decide_eq_false_iff_not, Bool.or_eq_false_iff, Bool.and_eq_true, Bool.or_eq_true, Bool.and_eq_false_iff, Bool.not_eq_true', Bool.not_eq_false', Lay.d_n]; omega) | (simp only [decide_eq_true_eq, decide_eq_false_iff_not, Bool.or_eq_false_iff, Bool.and_eq_true, Bool.or_eq_true, Bool.and_eq_false_iff, Bool.not_eq_true', Bool.not_eq_false']; omega))
      exact again (k + 1) [] (.of rfl rfl rfl rfl rfl rfl) ⟨by omega, by omega, g3⟩ (by omega)
  · have h2 : ¬ k < (ps.length : Int) := of_decide_eq_false h
    rw [List.drop_eq_nil_of_le (by omega)] at g3
    rw [g3]
    exact fin1 (fun _ _ => rfl)

theorem kindR_eq (s : ByteArray) : Lx.kindR (bl s) = if decide (s = ⟨#[10]⟩) = true then 9 else if Lx.isWord (bl s) = true then 1 else if Lx.isNum (bl s) = true then 2
    else if Lx.isLit 39 ([⟨#[]⟩, ⟨#[117]⟩, ⟨#[85]⟩, ⟨#[76]⟩].map bl) (bl s) = true then 3 else if Lx.isLit 34 ([⟨#[]⟩, ⟨#[117, 56]⟩, ⟨#[117]⟩, ⟨#[85]⟩, ⟨#[76]⟩].map bl) (bl s) = true then 4
    else if Lx.isPun (bl s) = true then 5 else 0 := by
  rw [bl_eq]
  have e : bl ⟨#[10]⟩ = [10] := rfl
  rw [e]
  unfold Lx.kindR
  simp only [decide_eq_true_eq]
  rfl

set_option maxRecDepth 100000 in
theorem kind_any (s : ByteArray) (hz : s.size ≤ 140737488355000) (w : World) : Calls Try.prog 154 #[.string s] w (PureP w fun v _ => v = .int .i64 (Lx.kindR (bl s))) := by
  have hz' : s.size ≤ 140737488355328 := by omega
  rw [kindR_eq]
  refine x_fun tt_ok Try.func154 rfl rfl [] 0 [.v (.string s)] rfl rfl rfl rfl (fun b hb => by cases hb) ?_
  refine x_vc tt_ok ?_
  refine x_if (fun h => ?_) (fun h => ?_)
  · rw [if_pos h]
    exact fin1 (fun _ _ => rfl)
  rw [if_neg (fun h2 => Bool.noConfusion (h2.symm.trans h))]
  refine xl_call0 (.bool (Lx.isWord (bl s))) rfl rfl rfl rfl fn170 rfl rfl (fun E w F _ => isWord_any s hz' w) ?_
  refine xl_go tt_ok ?_
  refine x_if (fun h => ?_) (fun h => ?_)
  · rw [if_pos h]
    exact fin1 (fun _ _ => rfl)
  rw [if_neg (fun h2 => Bool.noConfusion (h2.symm.trans h))]
  refine xl_call0 (.bool (Lx.isNum (bl s))) rfl rfl rfl rfl fn171 rfl rfl (fun E w F _ => isNum_any s hz' w) ?_
  refine xl_go tt_ok ?_
  refine x_if (fun h => ?_) (fun h => ?_)
  · rw [if_pos h]
    exact fin1 (fun _ _ => rfl)
  rw [if_neg (fun h2 => Bool.noConfusion (h2.symm.trans h))]
  refine xl_build tt_ok strY [⟨#[]⟩, ⟨#[117]⟩, ⟨#[85]⟩, ⟨#[76]⟩] [_, _, _, _] rfl rfl rfl rfl rfl rfl rfl rfl rfl rfl rfl rfl rfl rfl rfl ?_
  refine xl_go tt_ok ?_
  refine xl_call0 (.bool (Lx.isLit 39 ([⟨#[]⟩, ⟨#[117]⟩, ⟨#[85]⟩, ⟨#[76]⟩].map bl) (bl s))) rfl rfl rfl rfl fn172 rfl rfl (fun E w F hs => isLit_any s 39 _ _ w (hs.rowAt (k := 0) rfl) (by decide) (by decide) hz') ?_
  refine xl_go tt_ok ?_
  refine x_if (fun h => ?_) (fun h => ?_)
  · rw [if_pos h]
    exact fin1 (fun _ _ => rfl)
  rw [if_neg (fun h2 => Bool.noConfusion (h2.symm.trans h))]
  refine xl_build tt_ok strY [⟨#[]⟩, ⟨#[117, 56]⟩, ⟨#[117]⟩, ⟨#[85]⟩, ⟨#[76]⟩] [_, _, _, _, _] rfl rfl rfl rfl rfl rfl rfl rfl rfl rfl rfl rfl rfl rfl rfl ?_
  refine xl_go tt_ok ?_
  refine xl_call0 (.bool (Lx.isLit 34 ([⟨#[]⟩, ⟨#[117, 56]⟩, ⟨#[117]⟩, ⟨#[85]⟩, ⟨#[76]⟩].map bl) (bl s))) rfl rfl rfl rfl fn172 rfl rfl (fun E w F hs => isLit_any s 34 _ _ w (hs.rowAt (k := 1) rfl) (by decide) (by decide) hz') ?_
  refine xl_go tt_ok ?_
  refine x_if (fun h => ?_) (fun h => ?_)
  · rw [if_pos h]
    exact fin1 (fun _ _ => rfl)
  rw [if_neg (fun h2 => Bool.noConfusion (h2.symm.trans h))]
  refine xl_call0 (.bool (Lx.isPun (bl s))) rfl rfl rfl rfl fn173 rfl rfl (fun E w F _ => isPunct_any s hz w) ?_
  refine xl_go tt_ok ?_
  refine x_if (fun h => ?_) (fun h => ?_)
  · rw [if_pos h]
    exact fin1 (fun _ _ => rfl)
  · rw [if_neg (fun h2 => Bool.noConfusion (h2.symm.trans h))]
    exact fin1 (fun _ _ => rfl)
end Go.Proofs.Ytdonomneofdhfaa
