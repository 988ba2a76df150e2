/- The rows of a text, and how many tokens each says. -/
import Derived.Test.YtdonomneofdhfaaD1
import Derived.Test.YtdonomneofdhfaaT4
import Derived.Test.YtdonomneofdhfaaGZ
namespace Go.Proofs.Ytdonomneofdhfaa
open Go.GV Go.RowKit

set_option maxRecDepth 100000 in
theorem rowsText_any (s : ByteArray) (w : World) (hs : s.size ≤ 9223372036854775807) (hg : Glob (im w)) : Calls Try.prog 50 #[.string s] w (PureP w (RowsR (rowsOf (scanT s)))) := by
  have hl := scanT_len s
  refine x_fun tt_ok Try.func50 rfl rfl [] 0 [.v (.string s)] rfl rfl rfl rfl (fun b hb => by cases hb) ?_
  refine x_vc tt_ok ?_
  refine xl_callO2 31 (tokY.d (scanT s)) [.int .i64 (scanE s)] rfl rfl rfl rfl fn41 rfl rfl (fun E w F hs' => scan_any s w hs (hg.imm hs'.imm)) ?_
  refine xl_go tt_ok ?_
  obtain ⟨R, hR⟩ : ∃ R, R = rowsOf (scanT s) := ⟨_, rfl⟩
  rw [← hR]
  refine xl_callStar (fun (s : Option Addr × Nat × List RowV) => .slice s.1 R.length s.2.1) (fun s => itemsS s.2.2 R ++ [(⟨.slice s.1 R.length s.2.1, 28, rowY.d s.2.2⟩ : SI)]) (fun s => s.2.2.map RowV.key = R.map RowT.key) rfl rfl rfl rfl fn23 rfl rfl
    (fun E w F hs => by
      have h1 := hs.rowAt (k := 0) rfl
      obtain ⟨A, c, hv⟩ := h1.form
      show Calls Try.prog 23 #[E 0] w _
      rw [hv] at h1 ⊢
      rw [hR]
      exact rows_any (scanT s) A c w h1 (by omega)) (fun s' hk => ?_)
  refine xl_go tt_ok ?_
  exact finStar (k := 1) s' rfl (fun _ => rfl) hk

theorem says_len (r : RowV) (t : List Tok) : (saysV r t).length ≤ t.length := by
  have := bareFrom_le false t
  unfold saysV
  split
  · rw [List.length_drop]; omega
  · exact this

set_option maxRecDepth 100000 in
theorem saysAt_any (V : List RowV) (T : List (List Tok)) (x : Value) (i : Int) (w : World) (hx : SlAt (im w) x (rowY.d V)) (hT : ToksAt (im w) V T) (h0 : 0 ≤ i) (hL : ∀ i : Nat, (T.getD i []).length * 48 ≤ 140737488355328) :
    Calls Try.prog 58 #[x, .int .i64 i] w (PureP w fun v _ => v = .int .i64 (if (V.length : Int) ≤ i then -1 else ((saysV (V.getD i.toNat row0) (T.getD i.toNat [])).length : Int))) := by
  refine x_fun tt_ok Try.func58 rfl rfl [(x, rowY.d V)] 1 [.r 0, .v (.int .i64 i)] rfl rfl rfl rfl (fun b hb => by simp at hb; subst hb; exact hx) ?_
  refine x_vc tt_ok ?_
  refine x_if (fun h => ?_) (fun h => ?_)
  · have h : (V.length : Int) ≤ i := of_decide_eq_true h
    rw [if_pos h]
    exact fin1 (fun _ _ => rfl)
  · have h : ¬ (V.length : Int) ≤ i := of_decide_eq_false h
    rw [if_neg h]
    repeat (refine And.intro ?_ ?_; first | omega | (simp only [Lay.d_n]; omega) | (simp only [decide_eq_true_eq, decide_eq_false_iff_not, Bool.or_eq_false_iff, Bool.and_eq_true, Bool.or_eq_true, Bool.and_eq_false_iff, Bool.not_eq_true', Bool.not_eq_false', Lay.d_n]; omega) | (simp only [decide_eq_true_eq, decide_eq_false_iff_not, Bool.or_eq_false_iff, Bool.and_eq_true, Bool.or_eq_true, Bool.and_eq_false_iff, Bool.not_eq_true', Bool.not_eq_false']; omega))
    refine xl_callV (tokY.d (saysV (V.getD i.toNat row0) (T.getD i.toNat []))) rfl rfl rfl rfl fn26 rfl rfl (fun E w F hs => says_any (V.getD i.toNat row0) (T.getD i.toNat []) w ((hT.2 i.toNat (by omega)).imm hs.imm) (hL _)) (fun A c u' hu hA => ?_)
    refine xl_go tt_ok ?_
    exact fin1 (fun _ _ => rfl)
end Go.Proofs.Ytdonomneofdhfaa
