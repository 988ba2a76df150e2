/- PhysNames: its walk. -/
import Derived.Test.YtjcjbnkimpggeaaN1
namespace Go.Proofs.Ytjcjbnkimpggeaa
open Go.GV Go.RowKit

set_option maxRecDepth 100000 in
theorem physNames_any (w : World) : Calls Try.prog 9 #[] w (PureP w fun v _ => v = .bool true) := by
  refine x_fun tt_ok Try.func9 rfl rfl [] 0 [] rfl rfl rfl rfl (fun b hb => by cases hb) ?_
  refine x_vc tt_ok ?_
  refine xl_callO2 35 (charY.d [⟨97, 0, 1⟩, ⟨35, 1, 3⟩, ⟨98, 6, 1⟩, ⟨10, 7, 1⟩]) [.int .i64 0] rfl rfl rfl rfl fn15 rfl rfl (fun E w F h => by have := chars_any aliveIn w (by show 8 ≤ _; decide); rw [n_chars, alive_check] at this; exact this) ?_
  refine xl_go tt_ok ?_
  refine xl_callO2 50 (spanY.d [⟨4, 6⟩]) [.int .i64 0] rfl rfl rfl rfl fn19 rfl rfl (fun E w F h => by have := splices_any aliveIn w (by show 8 ≤ _; decide); rw [n_splices, alive_check] at this; exact this) ?_
  refine xl_go tt_ok ?_
  refine xl_call0 (.tuple #[.string ⟨#[63, 63, 61, 10]⟩, .int .i64 0]) rfl rfl rfl rfl fn16 rfl rfl (fun E w F h => by have := logical_any ⟨#[63, 92, 10, 63, 61, 10]⟩ w (by show 6 ≤ _; decide); rw [n_log.1, n_log.2] at this; exact this) ?_
  refine xl_go tt_ok ?_
  refine xl_call0 (.tuple #[.string ⟨#[63, 92, 10, 63, 61, 10]⟩, .int .i64 0]) rfl rfl rfl rfl fn10 rfl rfl (fun E w F h => by have := spell_any ⟨#[63, 63, 61, 10]⟩ w (by show 4 ≤ _; decide); rw [n_sp1.1, n_sp1.2] at this; exact this) ?_
  refine xl_go tt_ok ?_
  refine xl_call0 (.tuple #[.string ⟨#[92, 92, 10, 10]⟩, .int .i64 0]) rfl rfl rfl rfl fn10 rfl rfl (fun E w F h => by have := spell_any ⟨#[92, 10]⟩ w (by show 2 ≤ _; decide); rw [n_sp2.1, n_sp2.2] at this; exact this) ?_
  refine xl_go tt_ok ?_
  refine xl_gcall0 (.bool true) rfl rfl rfl rfl fn14 rfl rfl (fun _ E w F h => alive_any w) ?_
  refine xl_go tt_ok ?_
  refine x_iff rfl ?_
  repeat (refine And.intro ?_ ?_; first | omega | (simp only [Lay.d_n]; omega) | (simp only [decide_eq_true_eq, decide_eq_false_iff_not, Bool.or_eq_false_iff, Bool.and_eq_true, Bool.or_eq_true, Bool.and_eq_false_iff, Bool.not_eq_true', Bool.not_eq_false']; omega) | (simp [Lay.d]))
  refine xl_call0 (.tuple #[.int .u8 92, .bool true]) rfl rfl rfl rfl fn12 rfl rfl (fun E w F _ => third_any 47 w) ?_
  refine xl_go tt_ok ?_
  refine xl_call0 (.tuple #[.int .u8 0, .bool false]) rfl rfl rfl rfl fn12 rfl rfl (fun E w F _ => third_any 92 w) ?_
  refine xl_go tt_ok ?_
  refine xl_call0 (.int .i64 10) rfl rfl rfl rfl fn21 rfl rfl (fun E w F _ => by have := check_any ⟨#[97]⟩ w (by show 1 ≤ _; decide); rw [n_c1] at this; exact this) ?_
  refine xl_go tt_ok ?_
  refine xl_gcall0 (.int .i64 10) rfl rfl rfl rfl fn21 rfl rfl (fun _ E w F _ => by have := check_any ⟨#[97, 92, 10]⟩ w (by show 3 ≤ _; decide); rw [n_c2] at this; exact this) ?_
  refine xl_go tt_ok ?_
  refine xl_gcall0 (.int .i64 10) rfl rfl rfl rfl fn21 rfl rfl (fun _ E w F _ => by have := check_any ⟨#[97, 92, 92, 10]⟩ w (by show 4 ≤ _; decide); rw [n_c3] at this; exact this) ?_
  refine xl_go tt_ok ?_
  refine xl_gcall0 (.int .i64 0) rfl rfl rfl rfl fn21 rfl rfl (fun _ E w F _ => by have := check_any ⟨#[]⟩ w (by show 0 ≤ _; decide); rw [n_c4] at this; exact this) ?_
  refine xl_go tt_ok ?_
  refine xl_gcall0 (.int .i64 10) rfl rfl rfl rfl fn21 rfl rfl (fun _ E w F _ => by have := check_any ⟨#[97, 63, 63, 47, 10]⟩ w (by show 5 ≤ _; decide); rw [n_c5] at this; exact this) ?_
  refine xl_go tt_ok ?_
  refine xl_gcall0 (.int .i64 0) rfl rfl rfl rfl fn21 rfl rfl (fun _ E w F _ => by have := check_any ⟨#[10]⟩ w (by show 1 ≤ _; decide); rw [n_c6] at this; exact this) ?_
  refine xl_go tt_ok ?_
  refine xl_makeN tt_ok byteY (0 : UInt8) (.int .u8 0) 1 65537 rfl rfl rfl rfl rfl rfl rfl rfl rfl rfl (by kernel_rfl) rfl rfl rfl (by omega) (by omega) ?_
  have hL0 : (List.replicate 65537 (0 : UInt8)).length = 65537 := List.length_replicate ..
  generalize List.replicate 65537 (0 : UInt8) = L0 at hL0 ⊢
  refine xl_go tt_ok ?_
  refine x_loop (σ := Int × List UInt8) (fun (i, L) => ⟨[(18, .v (.int .i64 i)), (17, .r 2), (16, .v (.bool true)), (15, .v (.bool false)), (13, .v (.bool true)), (12, .v (.int .u8 92)), (11, .v (.bool true))], [], [(2, .row 5 (byteY.d L))], 3⟩)
    (fun (i, L) _ => 0 ≤ i ∧ i ≤ 65537 ∧ L.length = 65537 ∧ L.take i.toNat = List.replicate i.toNat 10) (fun (i, _) => (65537 - i).toNat) (fun (_, _) => Nat.le_refl _) (0, L0) [] (.of rfl rfl rfl rfl rfl rfl) ⟨by omega, by omega, hL0, rfl⟩ ?_
  rintro ⟨i, L⟩ u hu ⟨g1, g2, g3, g4⟩
  refine x_vc tt_ok ?_
  refine x_if (fun h => ?_) (fun h => ?_)
  · have h2 : i < L.length := of_decide_eq_true h
    repeat (refine And.intro ?_ ?_; first | omega | (simp only [Lay.d_n]; omega) | (simp only [decide_eq_true_eq, decide_eq_false_iff_not, Bool.or_eq_false_iff, Bool.and_eq_true, Bool.or_eq_true, Bool.and_eq_false_iff, Bool.not_eq_true', Bool.not_eq_false']; omega) | (simp [Lay.d]))
    refine xl_set tt_ok byteY L 10 (cs := [.int .u8 10]) rfl rfl rfl rfl rfl rfl rfl g1 h2 rfl rfl (by decide) rfl ?_
    refine xl_go tt_ok ?_
    repeat (refine And.intro ?_ ?_; first | omega | (simp only [Lay.d_n]; omega) | (simp only [decide_eq_true_eq, decide_eq_false_iff_not, Bool.or_eq_false_iff, Bool.and_eq_true, Bool.or_eq_true, Bool.and_eq_false_iff, Bool.not_eq_true', Bool.not_eq_false']; omega) | (simp [Lay.d]))
    refine again (i + 1, L.set i.toNat 10) [] (.of rfl rfl rfl rfl rfl rfl) ⟨by omega, by omega, by simpa using g3, ?_⟩ (by simp only; omega)
    have hk : i.toNat < L.length := by omega
    rw [show (i + 1).toNat = i.toNat + 1 by omega, ← List.take_append_getElem (by rw [List.length_set]; exact hk), List.getElem_set_self, List.replicate_succ', List.take_set_of_le (Nat.le_refl _), g4]
  · have h2 : ¬ i < L.length := of_decide_eq_false h
    have hL : L = List.replicate 65537 10 := by
      rw [show i.toNat = 65537 by omega, List.take_of_length_le (by omega)] at g4; exact g4
    have hn : ∃ n, n = 65537 := ⟨_, rfl⟩
    obtain ⟨n, hn⟩ := hn
    rw [← hn] at hL
    have es : (⟨L.toArray⟩ : ByteArray) = nls n := by rw [hL]; rfl
    have hlen : L.length = n := by rw [hn]; exact g3
    refine xl_bytesStr L rfl rfl rfl rfl Try.underlying52 Try.underlying5 Try.underlying9 rfl (fun E w F hs => hs.rowAt (k := 2) rfl) ?_
    refine xl_go tt_ok ?_
    obtain ⟨n1, n2⟩ := nls_long (n := n) (by omega)
    refine xl_call0 (.tuple #[.string (spellS (nls n)), .int .i64 3]) rfl rfl rfl rfl fn10 rfl rfl (fun E w F _ => ?_) ?_
    · have := spell_any (nls n) w (by rw [nls_size]; omega)
      rw [n2, ← es] at this
      rw [← es]
      exact this
    refine xl_go tt_ok ?_
    refine xl_call0 (.tuple #[.string (spellS ⟨#[97]⟩), .int .i64 10]) rfl rfl rfl rfl fn10 rfl rfl (fun E w F _ => by have := spell_any ⟨#[97]⟩ w (by show 1 ≤ _; decide); rw [n_sp3] at this; exact this) ?_
    refine xl_freezeN 2 rfl (fun A c u2 hu2 hsl hA => ?_)
    refine xl_go tt_ok ?_
    refine xl_sure 173 rfl rfl rfl rfl ?_
    refine xl_promote 174 173 rfl rfl rfl rfl ?_
    refine xl_bytesStr L rfl rfl rfl rfl Try.underlying52 Try.underlying5 Try.underlying9 rfl (fun E w F hs => hsl.imm hs.imm) ?_
    refine xl_go tt_ok ?_
    refine xl_gcall0 (.int .i64 3) rfl rfl rfl rfl fn21 rfl rfl (fun _ E w F _ => ?_) ?_
    · have := check_any (nls n) w (by rw [nls_size]; omega)
      rw [n1, ← es] at this
      exact this
    refine xl_go tt_ok ?_
    refine xl_sure 179 rfl rfl rfl rfl ?_
    refine xl_promote 180 179 rfl rfl rfl rfl ?_
    refine xl_from tt_ok byteY L (l := 1) rfl rfl rfl rfl rfl rfl rfl rfl rfl rfl (fun E w F hs => hsl) (by omega) (by omega) (fun A2 c2 hs2 => ?_)
    refine xl_sure 179 rfl rfl rfl rfl ?_
    refine xl_bytesStr (L.drop 1) rfl rfl rfl rfl Try.underlying52 Try.underlying5 Try.underlying9 rfl (fun E w F hs => hs2.imm hs.imm) ?_
    refine xl_go tt_ok ?_
    have es2 : (⟨(L.drop 1).toArray⟩ : ByteArray) = nls (n - 1) := by rw [hL, List.drop_replicate]; rfl
    refine xl_gcall0 (.int .i64 0) rfl rfl rfl rfl fn21 rfl rfl (fun _ E w F _ => ?_) ?_
    · have := check_any (nls (n - 1)) w (by rw [nls_size]; omega)
      rw [nls_check (n := n - 1) (by omega), ← es2] at this
      exact this
    refine xl_go tt_ok ?_
    refine fin1 (fun _ _ => ?_)
    show Value.bool _ = _
    simp
end Go.Proofs.Ytjcjbnkimpggeaa
