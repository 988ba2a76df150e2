/- CtokBack: the walk of the law. -/
import Derived.Test.YtdonomneofdhfaaN30
namespace Go.Proofs.Ytdonomneofdhfaa
open Go.GV Go.RowKit

theorem back_ten {n : Nat} (hn : n < 18446744073709551616) : (great n = true → noneB (ten n) = true) ∧ (great n = false → worthB (ten n) n false = true) ∧ worthB (ten n ++ uB) n true = true := by
  have e0 : ten n ++ (⟨#[]⟩ : ByteArray) = ten n := bl_inj (by rw [bl_append]; show bl (ten n) ++ [] = _; simp)
  have h1 := ten_int n hn ⟨#[]⟩ (.inl rfl) (by rfl)
  rw [e0] at h1
  have h2 := ten_int n hn uB (.inr ⟨[], rfl⟩) (by rfl)
  have s1 : sufU (⟨#[]⟩ : ByteArray) = false := by rfl
  have s2 : sufU uB = true := by rfl
  rw [s1] at h1
  rw [s2] at h2
  refine ⟨fun h => ?_, fun h => ?_, ?_⟩
  · unfold noneB; rw [h1, h]; rfl
  · unfold worthB; rw [h1, h]; simp
  · unfold worthB; rw [h2]; simp
theorem back_eight {n : Nat} (hn : n < 18446744073709551616) : worthB (eight n) n (great n) = true := by
  unfold worthB; rw [eight_int n hn]; simp
theorem back_hex {n : Nat} (hn : n < 18446744073709551616) : worthB (hexa n) n (great n) = true ∧ worthB (hexU n) n true = true := by
  have e0 : hexa n ++ (⟨#[]⟩ : ByteArray) = hexa n := bl_inj (by rw [bl_append]; show bl (hexa n) ++ [] = _; simp)
  have h1 := hex_int n hn 120 (.inl rfl) ⟨#[]⟩ (fun c r e => by cases e) (by rfl)
  change intC (hexa n ++ (⟨#[]⟩ : ByteArray)) = _ at h1
  rw [e0] at h1
  have h2 := hex_int n hn 88 (.inr rfl) ⟨#[76, 76, 85]⟩ (fun c r e => by
    have : c = 76 := by injection e with e1 _; exact e1.symm
    rw [this]; decide) (by rfl)
  change intC (hexU n) = _ at h2
  have s1 : sufU (⟨#[]⟩ : ByteArray) = false := by rfl
  have s2 : sufU (⟨#[76, 76, 85]⟩ : ByteArray) = true := by rfl
  rw [s1] at h1
  rw [s2] at h2
  constructor
  · unfold worthB; rw [h1]; simp
  · unfold worthB; rw [h2]; simp

set_option maxRecDepth 100000 in
theorem ctokBack_any (n : Nat) (hn : n < 18446744073709551616) (w : World) (hg : Glob (im w)) : Calls Try.prog 15 #[.int .u64 (n : Int)] w (PureP w fun v _ => v = .bool true) := by
  obtain ⟨b1, b2, b3⟩ := back_ten hn
  have b4 := back_eight hn
  obtain ⟨b5, b6⟩ := back_hex hn
  have z10 := wrB_size 10 (by omega) (by omega) 65 n
  have z8 := wrB_size 8 (by omega) (by omega) 65 n
  have z16 := wrB_size 16 (by omega) (by omega) 65 n
  have hp : n < 2 ^ 64 := hn
  have zt : (ten n).size ≤ 65 := z10
  have ztu : (ten n ++ uB).size ≤ 66 := by rw [ByteArray.size_append]; show (ten n).size + 1 ≤ 66; omega
  have ze : (eight n).size ≤ 66 := by unfold eight; rw [ByteArray.size_append]; show 1 + (wrB 65 n 8).size ≤ 66; omega
  have zh : (hexa n).size ≤ 67 := by unfold hexa; rw [ByteArray.size_append]; show 2 + (wrB 65 n 16).size ≤ 67; omega
  have zhu0 : ((⟨#[48, 88]⟩ : ByteArray) ++ wrB 65 n 16).size ≤ 67 := by rw [ByteArray.size_append]; show 2 + (wrB 65 n 16).size ≤ 67; omega
  have zhu : (hexU n).size ≤ 70 := by unfold hexU; rw [ByteArray.size_append]; show _ + 3 ≤ 70; omega
  refine x_fun tt_ok Try.func15 rfl rfl [] 0 [.v (.int .u64 (n : Int))] rfl rfl rfl rfl (fun b hb => by cases hb) ?_
  refine x_vc tt_ok ?_
  refine xl_call0 (.bool true) rfl rfl rfl rfl fn69 rfl rfl (fun E w F hs' => ctokAlive_any w (hg.imm hs'.imm)) ?_
  refine xl_go tt_ok ?_
  refine xl_call0 (.string (ten n)) rfl rfl rfl rfl fn70 rfl rfl (fun E w F _ => written_any 10 (by omega) (by omega) 64 n hp hn (by omega) w) ?_
  refine xl_go tt_ok ?_
  refine xl_gcall0 (.bool (noneB (ten n))) rfl rfl rfl rfl fn71 rfl rfl (fun _ E w F _ => none_any (ten n) w (by omega)) ?_
  refine xl_go tt_ok ?_
  refine xl_gcall0 (.bool (worthB (ten n) n false)) rfl rfl rfl rfl fn72 rfl rfl (fun _ E w F _ => worth_any (ten n) n false w (by omega)) ?_
  refine xl_go tt_ok ?_
  refine x_if (fun h => ?_) (fun h => ?_)
  · have h : ((great n && !noneB (ten n)) || (!great n && !worthB (ten n) n false)) = true := h
    cases hgr : great n with
    | true => rw [hgr, b1 hgr] at h; cases h
    | false => rw [hgr, b2 hgr] at h; cases h
  · clear h
    refine And.intro (fun _ => show (ten n).size + 1 ≤ 9223372036854775807 by omega) ?_
    refine xl_gcall0 (.bool true) rfl rfl rfl rfl fn72 rfl rfl (fun _ E w F _ => by
      have := worth_any (ten n ++ uB) n true w (by omega)
      rw [b3] at this
      exact this) ?_
    refine xl_go tt_ok ?_
    refine xl_gcall0 (.string (wrB 65 n 8)) rfl rfl rfl rfl fn70 rfl rfl (fun _ E w F _ => written_any 8 (by omega) (by omega) 64 n hp hn (by omega) w) ?_
    refine xl_go tt_ok ?_
    refine And.intro (fun _ => show 1 + (wrB 65 n 8).size ≤ 9223372036854775807 by omega) ?_
    refine xl_gcall0 (.bool true) rfl rfl rfl rfl fn72 rfl rfl (fun _ E w F _ => by
      have := worth_any (eight n) n (great n) w (by omega)
      rw [b4] at this
      exact this) ?_
    refine xl_go tt_ok ?_
    refine xl_gcall0 (.string (wrB 65 n 16)) rfl rfl rfl rfl fn70 rfl rfl (fun _ E w F _ => written_any 16 (by omega) (by omega) 64 n hp hn (by omega) w) ?_
    refine xl_go tt_ok ?_
    refine And.intro (fun _ => show 2 + (wrB 65 n 16).size ≤ 9223372036854775807 by omega) ?_
    refine xl_gcall0 (.bool true) rfl rfl rfl rfl fn72 rfl rfl (fun _ E w F _ => by
      have := worth_any (hexa n) n (great n) w (by omega)
      rw [b5] at this
      exact this) ?_
    refine xl_go tt_ok ?_
    refine xl_gcall0 (.string (wrB 65 n 16)) rfl rfl rfl rfl fn70 rfl rfl (fun _ E w F _ => written_any 16 (by omega) (by omega) 64 n hp hn (by omega) w) ?_
    refine xl_go tt_ok ?_
    refine And.intro (fun _ => show 2 + (wrB 65 n 16).size ≤ 9223372036854775807 by omega) ?_
    refine And.intro (fun _ => show ((⟨#[48, 88]⟩ : ByteArray) ++ wrB 65 n 16).size + 3 ≤ 9223372036854775807 by omega) ?_
    refine xl_gcall0 (.bool true) rfl rfl rfl rfl fn72 rfl rfl (fun _ E w F _ => by
      have := worth_any (hexU n) n true w (by omega)
      rw [b6] at this
      exact this) ?_
    refine xl_go tt_ok ?_
    exact fin1 (fun _ _ => rfl)
end Go.Proofs.Ytdonomneofdhfaa
