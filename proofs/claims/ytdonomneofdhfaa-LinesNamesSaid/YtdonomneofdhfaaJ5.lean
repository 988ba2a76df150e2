/- LinesNames: its values, and its walk. -/
import Derived.Test.YtdonomneofdhfaaJ4
namespace Go.Proofs.Ytdonomneofdhfaa
open Go.GV Go.RowKit

set_option maxRecDepth 100000 in
theorem jn_0 : nestsB ⟨#[35, 105, 102, 32, 49, 10, 120, 10, 35, 101, 108, 115, 101, 10, 35, 101, 110, 100, 105, 102, 10]⟩ ⟨#[48, 49, 48, 48]⟩ = true := by kernel_rfl
set_option maxRecDepth 100000 in
theorem jn_1 : nestsB ⟨#[35, 101, 108, 115, 101, 10]⟩ ⟨#[]⟩ = true := by kernel_rfl
set_option maxRecDepth 100000 in
theorem jn_2 : nestsB ⟨#[35, 105, 102, 10, 35, 101, 108, 115, 101, 10, 35, 101, 108, 105, 102, 10, 35, 101, 110, 100, 105, 102, 10]⟩ ⟨#[]⟩ = true := by kernel_rfl
set_option maxRecDepth 100000 in
theorem jn_3 : nestsB ⟨#[35, 105, 102, 100, 101, 102, 10]⟩ ⟨#[]⟩ = true := by kernel_rfl
set_option maxRecDepth 100000 in
theorem jn_4 : nestsB ⟨#[35, 105, 102, 110, 100, 101, 102, 32, 97, 10, 35, 105, 102, 32, 98, 10, 35, 101, 108, 105, 102, 10, 35, 101, 108, 105, 102, 10, 35, 101, 108, 115, 101, 10, 35, 101, 110, 100, 105, 102, 10, 35, 101, 110, 100, 105, 102, 10]⟩ ⟨#[48, 49, 49, 49, 49, 49, 48]⟩ = true := by kernel_rfl
set_option maxRecDepth 100000 in
theorem ja_0 : alikeT false (rowsOf (scanT ⟨#[35, 100, 101, 102, 105, 110, 101, 32, 102, 40, 120, 41, 10]⟩)) (rowsOf (scanT ⟨#[35, 100, 101, 102, 105, 110, 101, 32, 102, 32, 40, 120, 41, 10]⟩)) = false := by kernel_rfl
set_option maxRecDepth 100000 in
theorem ja_1 : alikeT true (rowsOf (scanT ⟨#[97, 32, 98, 10, 10]⟩)) (rowsOf (scanT ⟨#[47, 42, 42, 47, 10, 97, 10, 98, 10]⟩)) = true := by kernel_rfl
set_option maxRecDepth 100000 in
theorem ja_2 : alikeT false (rowsOf (scanT ⟨#[102, 40, 97, 44, 98, 41, 10]⟩)) (rowsOf (scanT ⟨#[102, 32, 40, 97, 44, 32, 98, 41, 10]⟩)) = true := by kernel_rfl
set_option maxRecDepth 100000 in
theorem ja_3 : alikeT true (rowsOf (scanT ⟨#[102, 40, 97, 44, 98, 41, 10]⟩)) (rowsOf (scanT ⟨#[102, 32, 40, 97, 44, 32, 98, 41, 10]⟩)) = false := by kernel_rfl
/-- what the first row says -/
def say0 (R : List RowT) : Int := if (R.length : Int) ≤ 0 then -1 else ((saysT (R.getD 0 rowT0)).length : Int)
set_option maxRecDepth 100000 in
theorem jx : (let R := rowsOf (scanT ⟨#[47, 42, 32, 120, 32, 42, 47, 32, 35, 32, 49, 50, 10]⟩); decide ((R.length : Int) = 1) && (R.getD 0 rowT0).dir && decide ((R.getD 0 rowT0).name = ⟨#[]⟩) && decide (say0 R = 1)) = true := by kernel_rfl
set_option maxRecDepth 100000 in
theorem jy : (let R := rowsOf (scanT ⟨#[35, 10]⟩); decide ((R.length : Int) = 1) && decide (say0 R = 0)) = true := by kernel_rfl
set_option maxRecDepth 100000 in
theorem jz : say0 (rowsOf (scanT ⟨#[37, 58, 97, 32, 98, 10]⟩)) = 1 := by kernel_rfl
set_option maxRecDepth 100000 in
theorem je : ((rowsOf (scanT ⟨#[]⟩)).length : Int) = 0 := by kernel_rfl

theorem say0_any {R : List RowT} {V : List RowV} {s : ByteArray} (hR : R = rowsOf (scanT s)) (hk : V.map RowV.key = R.map RowT.key) (x : Value) (w : World) (hx : SlAt (im w) x (rowY.d V)) (hT : ToksAt (im w) V (R.map RowT.ts)) :
    Calls Try.prog 58 #[x, .int .i64 0] w (PureP w fun v _ => v = .int .i64 (say0 R)) := by
  have hVR : V.length = R.length := by have := congrArg List.length hk; simpa using this
  have := saysAt_any V (R.map RowT.ts) x 0 w hx hT (by decide) (by rw [hR]; exact rows_ts_len s)
  rw [hVR, says_at hk] at this
  exact this

theorem ToksAt.imm {u : Im} {w : World} {V : List RowV} {T : List (List Tok)} (h : ToksAt u V T) (hi : Imm u w) : ToksAt (im w) V T := h.sub ⟨fun b o hb => hi.h b o hb⟩

set_option maxRecDepth 100000 in
theorem linesNames_any (w : World) (hg : Glob (im w)) : Calls Try.prog 13 #[] w (PureP w fun v _ => v = .bool true) := by
  have hx0 := jx
  have hy0 := jy
  have hz0 := jz
  have he0 := je
  obtain ⟨R1, hR1⟩ : ∃ R, R = rowsOf (scanT ⟨#[47, 42, 32, 120, 32, 42, 47, 32, 35, 32, 49, 50, 10]⟩) := ⟨_, rfl⟩
  obtain ⟨R2, hR2⟩ : ∃ R, R = rowsOf (scanT ⟨#[35, 10]⟩) := ⟨_, rfl⟩
  obtain ⟨R3, hR3⟩ : ∃ R, R = rowsOf (scanT ⟨#[37, 58, 97, 32, 98, 10]⟩) := ⟨_, rfl⟩
  obtain ⟨R4, hR4⟩ : ∃ R, R = rowsOf (scanT ⟨#[]⟩) := ⟨_, rfl⟩
  simp only [← hR1] at hx0
  simp only [← hR2] at hy0
  rw [← hR3] at hz0
  rw [← hR4] at he0
  refine x_fun tt_ok Try.func13 rfl rfl [] 0 [] rfl rfl rfl rfl (fun b hb => by cases hb) ?_
  refine x_vc tt_ok ?_
  refine xl_rows _ R1 hR1 (by decide) hg rfl rfl rfl rfl rfl rfl (fun A1 c1 V1 u1 hu1 hk1 hT1 => ?_)
  have l1 : V1.length = R1.length := by have := congrArg List.length hk1; simpa using this
  refine xl_go tt_ok ?_
  refine xl_rows _ R2 hR2 (by decide) (hg.sub hu1.sub) rfl rfl rfl rfl rfl rfl (fun A2 c2 V2 u2 hu2 hk2 hT2 => ?_)
  have l2 : V2.length = R2.length := by have := congrArg List.length hk2; simpa using this
  refine xl_go tt_ok ?_
  repeat (refine And.intro ?_ ?_; first | omega | (simp only [Lay.d_n]; omega) | (simp only [decide_eq_true_eq, decide_eq_false_iff_not, Bool.or_eq_false_iff, Bool.and_eq_true, Bool.or_eq_true, Bool.and_eq_false_iff, Bool.not_eq_true', Bool.not_eq_false', Lay.d_n]; omega) | (simp only [decide_eq_true_eq, decide_eq_false_iff_not, Bool.or_eq_false_iff, Bool.and_eq_true, Bool.or_eq_true, Bool.and_eq_false_iff, Bool.not_eq_true', Bool.not_eq_false']; omega))
  obtain ⟨z1, hz1⟩ : ∃ z, z = say0 R1 := ⟨_, rfl⟩
  obtain ⟨z2, hz2⟩ : ∃ z, z = say0 R2 := ⟨_, rfl⟩
  obtain ⟨z3, hz3⟩ : ∃ z, z = say0 R3 := ⟨_, rfl⟩
  refine xl_gcallE (.int .i64 z1) rfl rfl rfl rfl fn58 rfl rfl (fun E w F hs => by rw [hz1]; exact say0_any hR1 hk1 _ w (hs.slAt (k := 1) rfl) ((hT1.sub hu2.sub).imm hs.imm)) ?_
  refine xl_go tt_ok ?_
  refine xl_gcallE (.int .i64 z2) rfl rfl rfl rfl fn58 rfl rfl (fun E w F hs => by rw [hz2]; exact say0_any hR2 hk2 _ w (hs.slAt (k := 3) rfl) (hT2.imm hs.imm)) ?_
  refine xl_go tt_ok ?_
  refine xl_dropG rfl ?_
  refine xl_eqv 42 (.bool true) rfl ?_ ?_
  · show Value.bool (decide ((V1.length : Int) = 1) && (V1.getD 0 row0).dir && decide ((V1.getD 0 row0).name = ⟨#[]⟩) && decide (z1 = 1) && decide ((V2.length : Int) = 1) && decide (z2 = 0)) = .bool true
    rw [Bool.and_eq_true] at hy0
    rw [l1, l2, (keyT_at hk1 0).1, (keyT_at hk1 0).2, hz1, hz2, hx0, hy0.1, hy0.2]
    rfl
  refine xl_want rfl rfl rfl rfl rfl ?_
  refine xl_rows _ R3 hR3 (by decide) (hg.sub (hu1.trans hu2).sub) rfl rfl rfl rfl rfl rfl (fun A3 c3 V3 u3 hu3 hk3 hT3 => ?_)
  refine xl_go tt_ok ?_
  refine xl_gcallE (.int .i64 z3) rfl rfl rfl rfl fn58 rfl rfl (fun E w F hs => by rw [hz3]; exact say0_any hR3 hk3 _ w (hs.slAt (k := 5) rfl) (hT3.imm hs.imm)) ?_
  refine xl_go tt_ok ?_
  refine xl_dropG rfl ?_
  refine xl_eqv 47 (.bool true) rfl ?_ ?_
  · show Value.bool (true && decide (z3 = 1)) = .bool true
    rw [hz3, hz0]; rfl
  refine xl_want rfl rfl rfl rfl rfl ?_
  refine xl_rows _ R4 hR4 (by decide) (hg.sub ((hu1.trans hu2).trans hu3).sub) rfl rfl rfl rfl rfl rfl (fun A4 c4 V4 u4 hu4 hk4 hT4 => ?_)
  have l4 : V4.length = R4.length := by have := congrArg List.length hk4; simpa using this
  have hu4' := ((hu1.trans hu2).trans hu3).trans hu4
  refine xl_go tt_ok ?_
  refine xl_call0 (.bool true) rfl rfl rfl rfl fn59 rfl rfl (fun E w F hs => nests_any _ _ w (by decide) (by decide) ((hg.sub hu4'.sub).imm hs.imm) jn_0) ?_
  refine xl_go tt_ok ?_
  refine xl_want rfl rfl rfl rfl rfl ?_
  refine xl_call0 (.bool true) rfl rfl rfl rfl fn59 rfl rfl (fun E w F hs => nests_any _ _ w (by decide) (by decide) ((hg.sub hu4'.sub).imm hs.imm) jn_1) ?_
  refine xl_go tt_ok ?_
  refine xl_want rfl rfl rfl rfl rfl ?_
  refine xl_call0 (.bool true) rfl rfl rfl rfl fn59 rfl rfl (fun E w F hs => nests_any _ _ w (by decide) (by decide) ((hg.sub hu4'.sub).imm hs.imm) jn_2) ?_
  refine xl_go tt_ok ?_
  refine xl_want rfl rfl rfl rfl rfl ?_
  refine xl_call0 (.bool true) rfl rfl rfl rfl fn59 rfl rfl (fun E w F hs => nests_any _ _ w (by decide) (by decide) ((hg.sub hu4'.sub).imm hs.imm) jn_3) ?_
  refine xl_go tt_ok ?_
  refine xl_want rfl rfl rfl rfl rfl ?_
  refine xl_call0 (.bool true) rfl rfl rfl rfl fn59 rfl rfl (fun E w F hs => nests_any _ _ w (by decide) (by decide) ((hg.sub hu4'.sub).imm hs.imm) jn_4) ?_
  refine xl_go tt_ok ?_
  obtain ⟨S0a, hS0a⟩ : ∃ R, R = rowsOf (scanT ⟨#[35, 100, 101, 102, 105, 110, 101, 32, 102, 40, 120, 41, 10]⟩) := ⟨_, rfl⟩
  have sl0a : S0a.length ≤ 65537 := by rw [hS0a]; exact rows_len _
  refine xl_rows _ S0a hS0a (by decide) (hg.sub hu4'.sub) rfl rfl rfl rfl rfl rfl (fun B0a d0a W0a v0a hv0a hn0a hU0a => ?_)
  have hv0a' := Im.le.trans hu4' hv0a
  refine xl_go tt_ok ?_
  obtain ⟨S0b, hS0b⟩ : ∃ R, R = rowsOf (scanT ⟨#[35, 100, 101, 102, 105, 110, 101, 32, 102, 32, 40, 120, 41, 10]⟩) := ⟨_, rfl⟩
  have sl0b : S0b.length ≤ 65537 := by rw [hS0b]; exact rows_len _
  refine xl_rows _ S0b hS0b (by decide) (hg.sub hv0a'.sub) rfl rfl rfl rfl rfl rfl (fun B0b d0b W0b v0b hv0b hn0b hU0b => ?_)
  have hv0b' := Im.le.trans hv0a' hv0b
  refine xl_go tt_ok ?_
  refine xl_call0 (.bool false) rfl rfl rfl rfl fn60 rfl rfl (fun E w F hs => by
    have jb := ja_0
    rw [← hS0a, ← hS0b] at jb
    have hh := alikeRows_any false _ _ _ _ _ _ w (hs.slAt (k := 9) rfl) (hs.slAt (k := 11) rfl) ((hU0a.sub hv0b.sub).imm hs.imm) (hU0b.imm hs.imm) hn0a hn0b (by rw [hS0a]; exact rows_ts_len _) (by rw [hS0b]; exact rows_ts_len _) (by omega) (by omega)
    rw [jb] at hh
    exact hh) ?_
  refine xl_go tt_ok ?_
  obtain ⟨S1a, hS1a⟩ : ∃ R, R = rowsOf (scanT ⟨#[97, 32, 98, 10, 10]⟩) := ⟨_, rfl⟩
  have sl1a : S1a.length ≤ 65537 := by rw [hS1a]; exact rows_len _
  refine xl_rows _ S1a hS1a (by decide) (hg.sub hv0b'.sub) rfl rfl rfl rfl rfl rfl (fun B1a d1a W1a v1a hv1a hn1a hU1a => ?_)
  have hv1a' := Im.le.trans hv0b' hv1a
  refine xl_go tt_ok ?_
  obtain ⟨S1b, hS1b⟩ : ∃ R, R = rowsOf (scanT ⟨#[47, 42, 42, 47, 10, 97, 10, 98, 10]⟩) := ⟨_, rfl⟩
  have sl1b : S1b.length ≤ 65537 := by rw [hS1b]; exact rows_len _
  refine xl_rows _ S1b hS1b (by decide) (hg.sub hv1a'.sub) rfl rfl rfl rfl rfl rfl (fun B1b d1b W1b v1b hv1b hn1b hU1b => ?_)
  have hv1b' := Im.le.trans hv1a' hv1b
  refine xl_go tt_ok ?_
  refine xl_call0 (.bool true) rfl rfl rfl rfl fn60 rfl rfl (fun E w F hs => by
    have jb := ja_1
    rw [← hS1a, ← hS1b] at jb
    have hh := alikeRows_any true _ _ _ _ _ _ w (hs.slAt (k := 13) rfl) (hs.slAt (k := 15) rfl) ((hU1a.sub hv1b.sub).imm hs.imm) (hU1b.imm hs.imm) hn1a hn1b (by rw [hS1a]; exact rows_ts_len _) (by rw [hS1b]; exact rows_ts_len _) (by omega) (by omega)
    rw [jb] at hh
    exact hh) ?_
  refine xl_go tt_ok ?_
  obtain ⟨S2a, hS2a⟩ : ∃ R, R = rowsOf (scanT ⟨#[102, 40, 97, 44, 98, 41, 10]⟩) := ⟨_, rfl⟩
  have sl2a : S2a.length ≤ 65537 := by rw [hS2a]; exact rows_len _
  refine xl_rows _ S2a hS2a (by decide) (hg.sub hv1b'.sub) rfl rfl rfl rfl rfl rfl (fun B2a d2a W2a v2a hv2a hn2a hU2a => ?_)
  have hv2a' := Im.le.trans hv1b' hv2a
  refine xl_go tt_ok ?_
  obtain ⟨S2b, hS2b⟩ : ∃ R, R = rowsOf (scanT ⟨#[102, 32, 40, 97, 44, 32, 98, 41, 10]⟩) := ⟨_, rfl⟩
  have sl2b : S2b.length ≤ 65537 := by rw [hS2b]; exact rows_len _
  refine xl_rows _ S2b hS2b (by decide) (hg.sub hv2a'.sub) rfl rfl rfl rfl rfl rfl (fun B2b d2b W2b v2b hv2b hn2b hU2b => ?_)
  have hv2b' := Im.le.trans hv2a' hv2b
  refine xl_go tt_ok ?_
  refine xl_call0 (.bool true) rfl rfl rfl rfl fn60 rfl rfl (fun E w F hs => by
    have jb := ja_2
    rw [← hS2a, ← hS2b] at jb
    have hh := alikeRows_any false _ _ _ _ _ _ w (hs.slAt (k := 17) rfl) (hs.slAt (k := 19) rfl) ((hU2a.sub hv2b.sub).imm hs.imm) (hU2b.imm hs.imm) hn2a hn2b (by rw [hS2a]; exact rows_ts_len _) (by rw [hS2b]; exact rows_ts_len _) (by omega) (by omega)
    rw [jb] at hh
    exact hh) ?_
  refine xl_go tt_ok ?_
  obtain ⟨S3a, hS3a⟩ : ∃ R, R = rowsOf (scanT ⟨#[102, 40, 97, 44, 98, 41, 10]⟩) := ⟨_, rfl⟩
  have sl3a : S3a.length ≤ 65537 := by rw [hS3a]; exact rows_len _
  refine xl_rows _ S3a hS3a (by decide) (hg.sub hv2b'.sub) rfl rfl rfl rfl rfl rfl (fun B3a d3a W3a v3a hv3a hn3a hU3a => ?_)
  have hv3a' := Im.le.trans hv2b' hv3a
  refine xl_go tt_ok ?_
  obtain ⟨S3b, hS3b⟩ : ∃ R, R = rowsOf (scanT ⟨#[102, 32, 40, 97, 44, 32, 98, 41, 10]⟩) := ⟨_, rfl⟩
  have sl3b : S3b.length ≤ 65537 := by rw [hS3b]; exact rows_len _
  refine xl_rows _ S3b hS3b (by decide) (hg.sub hv3a'.sub) rfl rfl rfl rfl rfl rfl (fun B3b d3b W3b v3b hv3b hn3b hU3b => ?_)
  have hv3b' := Im.le.trans hv3a' hv3b
  refine xl_go tt_ok ?_
  refine xl_call0 (.bool false) rfl rfl rfl rfl fn60 rfl rfl (fun E w F hs => by
    have jb := ja_3
    rw [← hS3a, ← hS3b] at jb
    have hh := alikeRows_any true _ _ _ _ _ _ w (hs.slAt (k := 21) rfl) (hs.slAt (k := 23) rfl) ((hU3a.sub hv3b.sub).imm hs.imm) (hU3b.imm hs.imm) hn3a hn3b (by rw [hS3a]; exact rows_ts_len _) (by rw [hS3b]; exact rows_ts_len _) (by omega) (by omega)
    rw [jb] at hh
    exact hh) ?_
  refine xl_go tt_ok ?_
  refine xl_want rfl rfl rfl rfl rfl ?_
  refine xl_call0 (.bool true) rfl rfl rfl rfl fn48 rfl rfl (fun E w F hs => linesAlive_any w ((hg.sub hv3b'.sub).imm hs.imm)) ?_
  refine xl_go tt_ok ?_
  refine fin1 (fun _ _ => ?_)
  have e : decide ((V4.length : Int) = 0) = true := by rw [l4]; exact decide_eq_true he0
  rw [show decide (((rowY.d V4).n : Int) = 0) = true from e]
  rfl
end Go.Proofs.Ytdonomneofdhfaa
