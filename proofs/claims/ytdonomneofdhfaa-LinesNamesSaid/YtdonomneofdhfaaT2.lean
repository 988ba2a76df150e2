/- The chapter's first example, and whatever else looks at the tokens of one text. -/
import Derived.Test.YtdonomneofdhfaaT1
import Derived.Test.YtdonomneofdhfaaR3
namespace Go.Proofs.Ytdonomneofdhfaa
open Go.GV Go.RowKit

def okT (T : List Tok) (W : List ByteArray) (K : ByteArray) (i : Nat) : Bool := decide ((T.getD i tok0).text = W.getD i strY.dft) && decide ((T.getD i tok0).kind = bt K i - 48)
def textsB (s : ByteArray) (W : List ByteArray) (K : ByteArray) : Bool :=
  decide (scanE s = 0) && decide ((scanT s).length = W.length) && decide ((scanT s).length = K.size) && (List.range (scanT s).length).all (okT (scanT s) W K)

set_option maxRecDepth 100000 in
theorem texts_any (s : ByteArray) (W : List ByteArray) (K : ByteArray) (x : Value) (w : World) (hx : SlAt (im w) x (strY.d W)) (hs : s.size ≤ 9223372036854775807) (hK : K.size ≤ 1000) (hg : Glob (im w)) :
    Calls Try.prog 43 #[.string s, x, .string K] w (PureP w fun v _ => v = .bool (textsB s W K)) := by
  obtain ⟨N, hN⟩ : ∃ N, N = textsB s W K := ⟨_, rfl⟩
  rw [← hN]
  have hF : (¬ N = true) → N = false := fun h => by simpa using h
  refine x_fun tt_ok Try.func43 rfl rfl [(x, strY.d W)] 1 [.v (.string s), .r 0, .v (.string K)] rfl rfl rfl rfl (fun b hb => by simp at hb; subst hb; exact hx) ?_
  refine x_vc tt_ok ?_
  refine xl_callO2 31 (tokY.d (scanT s)) [.int .i64 (scanE s)] rfl rfl rfl rfl fn41 rfl rfl (fun E w F hs' => scan_any s w hs (hg.imm hs'.imm)) ?_
  refine xl_go tt_ok ?_
  refine x_if (fun h => ?_) (fun h => ?_)
  · have h' : ((decide (scanE s ≠ 0) || decide (((scanT s).length : Int) ≠ (W.length : Int))) || decide (((scanT s).length : Int) ≠ (K.size : Int))) = true := h
    have e : N = false := hF (fun hn => by
      rw [hN] at hn
      unfold textsB at hn
      simp only [Bool.and_eq_true, decide_eq_true_eq] at hn
      obtain ⟨⟨⟨a1, a2⟩, a3⟩, _⟩ := hn
      rw [decide_eq_false (by simpa using a1), decide_eq_false (by simp [a2]), decide_eq_false (by rw [a3]; simp)] at h'
      cases h')
    rw [e]
    exact fin1 (fun _ _ => rfl)
  · have h' : ((decide (scanE s ≠ 0) || decide (((scanT s).length : Int) ≠ (W.length : Int))) || decide (((scanT s).length : Int) ≠ (K.size : Int))) = false := h
    simp only [Bool.or_eq_false_iff, decide_eq_false_iff_not, Classical.not_not] at h'
    obtain ⟨⟨a1, a2⟩, a3⟩ := h'
    have hall : N = true ↔ ∀ i : Nat, i < (scanT s).length → okT (scanT s) W K i = true := by
      rw [hN]
      unfold textsB
      rw [decide_eq_true a1, decide_eq_true (by omega : (scanT s).length = W.length), decide_eq_true (by omega : (scanT s).length = K.size)]
      simp [List.all_eq_true]
    refine x_loop (σ := Int) (fun k => ⟨[(9, .v (.int .i64 k)), (7, .r 1), (2, .v (.string K)), (1, .r 0)], [], [(1, .row 31 (tokY.d (scanT s))), (0, .sl (strY.d W))], 2⟩)
      (fun k _ => 0 ≤ k ∧ k ≤ (scanT s).length ∧ (N = true ↔ ∀ i : Nat, k ≤ (i : Int) → i < (scanT s).length → okT (scanT s) W K i = true)) (fun k => ((scanT s).length - k).toNat) (fun _ => Nat.le_refl 2) 0 [] (.of rfl rfl rfl rfl rfl rfl)
      ⟨by omega, by omega, hall.trans ⟨fun h i _ hi => h i hi, fun h i hi => h i (by omega) hi⟩⟩ ?_
    clear hall h hN
    generalize scanT s = T at a2 a3 ⊢
    rintro k u hu ⟨g1, g2, g3⟩
    refine x_vc tt_ok ?_
    refine x_if (fun h3 => ?_) (fun h3 => ?_)
    · have h3 : k < T.length := of_decide_eq_true h3
      have hbt := bt_range K k
      refine x_draw mix (by kernel_rfl) (xd_go tt_ok ?_)
      repeat (refine And.intro ?_ ?_; first | omega | (simp only [Lay.d_n]; omega) | (simp only [decide_eq_true_eq, decide_eq_false_iff_not, Bool.or_eq_false_iff, Bool.and_eq_true, Bool.or_eq_true, Bool.and_eq_false_iff, Bool.not_eq_true', Bool.not_eq_false', Lay.d_n]; omega) | (simp only [decide_eq_true_eq, decide_eq_false_iff_not, Bool.or_eq_false_iff, Bool.and_eq_true, Bool.or_eq_true, Bool.and_eq_false_iff, Bool.not_eq_true', Bool.not_eq_false']; omega))
      have hok : okT T W K k.toNat = !(decide ((T.getD k.toNat tokY.dft).text ≠ W.getD k.toNat strY.dft) || decide ((T.getD k.toNat tokY.dft).kind ≠ bt K k - 48)) := by
        unfold okT
        rw [show ((k.toNat : Nat) : Int) = k by omega]
        show (decide ((T.getD k.toNat tokY.dft).text = _) && decide ((T.getD k.toNat tokY.dft).kind = _)) = _
        by_cases b1 : (T.getD k.toNat tokY.dft).text = W.getD k.toNat strY.dft
        · by_cases b2 : (T.getD k.toNat tokY.dft).kind = bt K k - 48
          · simp [b1, b2]
          · simp [b1, b2]
        · simp [b1]
      refine x_if (fun h4 => ?_) (fun h4 => ?_)
      · have h4' : (decide ((T.getD k.toNat tokY.dft).text ≠ W.getD k.toNat strY.dft) || decide ((T.getD k.toNat tokY.dft).kind ≠ bt K k - 48)) = true := h4
        rw [h4'] at hok
        have e : N = false := hF (fun hn => by
          have := g3.1 hn k.toNat (by omega) (by omega)
          rw [hok] at this; cases this)
        rw [e]
        exact fin1 (fun _ _ => rfl)
      · have h4' : (decide ((T.getD k.toNat tokY.dft).text ≠ W.getD k.toNat strY.dft) || decide ((T.getD k.toNat tokY.dft).kind ≠ bt K k - 48)) = false := h4
        rw [h4'] at hok
        have next : N = true ↔ ∀ i : Nat, k + 1 ≤ (i : Int) → i < T.length → okT T W K i = true := by
          refine g3.trans ⟨fun h i h1 h2 => h i (by omega) h2, fun h i h1 h2 => ?_⟩
          by_cases hi : k + 1 ≤ (i : Int)
          · exact h i hi h2
          · have : i = k.toNat := by omega
            rw [this]; exact hok
        repeat (refine And.intro ?_ ?_; first | omega | (simp only [Lay.d_n]; omega) | (simp only [decide_eq_true_eq, decide_eq_false_iff_not, Bool.or_eq_false_iff, Bool.and_eq_true, Bool.or_eq_true, Bool.and_eq_false_iff, Bool.not_eq_true', Bool.not_eq_false', Lay.d_n]; omega) | (simp only [decide_eq_true_eq, decide_eq_false_iff_not, Bool.or_eq_false_iff, Bool.and_eq_true, Bool.or_eq_true, Bool.and_eq_false_iff, Bool.not_eq_true', Bool.not_eq_false']; omega))
        exact again (k + 1) [] (.of rfl rfl rfl rfl rfl rfl) ⟨by omega, by omega, next⟩ (by omega)
    · have h3 : ¬ k < (T.length : Int) := of_decide_eq_false h3
      have e : N = true := g3.2 (fun i h1 h2 => by omega)
      rw [e]
      exact fin1 (fun _ _ => rfl)

set_option maxRecDepth 100000 in
theorem ex_ab : textsB ⟨#[97, 43, 43, 43, 98, 10]⟩ [⟨#[97]⟩, ⟨#[43, 43]⟩, ⟨#[43]⟩, ⟨#[98]⟩, ⟨#[10]⟩] ⟨#[49, 53, 53, 49, 57]⟩ = true := by kernel_rfl

set_option maxRecDepth 100000 in
theorem scanAlive_any (w : World) (hg : Glob (im w)) : Calls Try.prog 40 #[] w (PureP w fun v _ => v = .bool true) := by
  refine x_fun tt_ok Try.func40 rfl rfl [] 0 [] rfl rfl rfl rfl (fun b hb => by cases hb) ?_
  refine x_vc tt_ok ?_
  refine xl_build tt_ok strY [⟨#[97]⟩, ⟨#[43, 43]⟩, ⟨#[43]⟩, ⟨#[98]⟩, ⟨#[10]⟩] [_, _, _, _, _] rfl rfl rfl rfl rfl rfl rfl rfl rfl rfl rfl rfl rfl rfl rfl ?_
  refine xl_go tt_ok ?_
  refine xl_call0 (.bool true) rfl rfl rfl rfl fn43 rfl rfl (fun E w F hs => by rw [← ex_ab]; exact texts_any _ _ _ _ w (hs.rowAt (k := 0) rfl) (by decide) (by decide) (hg.imm hs.imm)) ?_
  refine xl_go tt_ok ?_
  exact fin1 (fun _ _ => rfl)
end Go.Proofs.Ytdonomneofdhfaa
