/- ScanNames: its walk. -/
import Derived.Test.YtdonomneofdhfaaT7
import Derived.Test.YtdonomneofdhfaaT4
namespace Go.Proofs.Ytdonomneofdhfaa
open Go.GV Go.RowKit

set_option maxRecDepth 100000 in
theorem ex_t1 : textsB ⟨#[49, 46, 101, 43, 120, 46, 121, 45, 49, 10]⟩ [⟨#[49, 46, 101, 43, 120, 46, 121]⟩, ⟨#[45]⟩, ⟨#[49]⟩, ⟨#[10]⟩] ⟨#[50, 53, 50, 57]⟩ = true := by kernel_rfl
set_option maxRecDepth 100000 in
theorem ex_t2 : textsB ⟨#[35, 105, 110, 99, 108, 117, 100, 101, 32, 60, 97, 47, 47, 98, 62, 10]⟩ [⟨#[35]⟩, ⟨#[105, 110, 99, 108, 117, 100, 101]⟩, ⟨#[60, 97, 47, 47, 98, 62]⟩, ⟨#[10]⟩] ⟨#[53, 49, 55, 57]⟩ = true := by kernel_rfl
set_option maxRecDepth 100000 in
theorem ex_t3 : textsB ⟨#[120, 32, 60, 97, 62, 32, 121, 10]⟩ [⟨#[120]⟩, ⟨#[60]⟩, ⟨#[97]⟩, ⟨#[62]⟩, ⟨#[121]⟩, ⟨#[10]⟩] ⟨#[49, 53, 49, 53, 49, 57]⟩ = true := by kernel_rfl
set_option maxRecDepth 100000 in
theorem ex_t4 : textsB ⟨#[76, 39, 97, 39, 32, 117, 56, 34, 98, 34, 32, 117, 56, 39, 99, 39, 10]⟩ [⟨#[76, 39, 97, 39]⟩, ⟨#[117, 56, 34, 98, 34]⟩, ⟨#[117, 56]⟩, ⟨#[39, 99, 39]⟩, ⟨#[10]⟩] ⟨#[51, 52, 49, 51, 57]⟩ = true := by kernel_rfl
set_option maxRecDepth 100000 in
theorem ex_t5 : textsB ⟨#[97, 47, 42, 42, 47, 98, 32, 47, 47, 32, 99, 10]⟩ [⟨#[97]⟩, ⟨#[47, 42, 42, 47]⟩, ⟨#[98]⟩, ⟨#[47, 47, 32, 99]⟩, ⟨#[10]⟩] ⟨#[49, 56, 49, 56, 57]⟩ = true := by kernel_rfl
set_option maxRecDepth 100000 in
theorem ex_t6 : textsB ⟨#[37, 58, 37, 58, 37, 58, 37, 10]⟩ [⟨#[37, 58, 37, 58]⟩, ⟨#[37, 58]⟩, ⟨#[37]⟩, ⟨#[10]⟩] ⟨#[53, 53, 53, 57]⟩ = true := by kernel_rfl
set_option maxRecDepth 100000 in
theorem ex_t7 : textsB ⟨#[46, 46, 49, 46, 46, 46, 92, 64, 10]⟩ [⟨#[46]⟩, ⟨#[46, 49, 46, 46, 46]⟩, ⟨#[92]⟩, ⟨#[64]⟩, ⟨#[10]⟩] ⟨#[53, 50, 54, 54, 57]⟩ = true := by kernel_rfl
set_option maxRecDepth 100000 in
theorem ex_t8 : textsB ⟨#[35, 105, 110, 99, 108, 117, 100, 101, 32, 120, 32, 60, 121, 62, 10]⟩ [⟨#[35]⟩, ⟨#[105, 110, 99, 108, 117, 100, 101]⟩, ⟨#[120]⟩, ⟨#[60]⟩, ⟨#[121]⟩, ⟨#[62]⟩, ⟨#[10]⟩] ⟨#[53, 49, 49, 53, 49, 53, 57]⟩ = true := by kernel_rfl
set_option maxRecDepth 100000 in
theorem ex_t9 : textsB ⟨#[85, 34, 97, 34, 32, 85, 39, 98, 39, 10]⟩ [⟨#[85, 34, 97, 34]⟩, ⟨#[85, 39, 98, 39]⟩, ⟨#[10]⟩] ⟨#[52, 51, 57]⟩ = true := by kernel_rfl
set_option maxRecDepth 100000 in
theorem ex_r0 : (decide (((scanT ⟨#[39, 97, 10]⟩).length : Int) = 0) && decide (scanE ⟨#[39, 97, 10]⟩ = 21)) = true := by kernel_rfl
set_option maxRecDepth 100000 in
theorem ex_r1 : (decide (((scanT ⟨#[39, 39, 10]⟩).length : Int) = 0) && decide (scanE ⟨#[39, 39, 10]⟩ = 21)) = true := by kernel_rfl
set_option maxRecDepth 100000 in
theorem ex_r2 : (decide (((scanT ⟨#[47, 42, 10]⟩).length : Int) = 0) && decide (scanE ⟨#[47, 42, 10]⟩ = 20)) = true := by kernel_rfl
set_option maxRecDepth 100000 in
theorem ex_r3 : (decide (((scanT ⟨#[34, 92, 34, 10]⟩).length : Int) = 0) && decide (scanE ⟨#[34, 92, 34, 10]⟩ = 21)) = true := by kernel_rfl
set_option maxRecDepth 100000 in
theorem ex_r4 : (decide (((scanT ⟨#[97]⟩).length : Int) = 0) && decide (scanE ⟨#[97]⟩ = 10)) = true := by kernel_rfl
set_option maxRecDepth 100000 in
theorem ex_r5 : (decide (((scanT ⟨#[47, 42, 47, 10]⟩).length : Int) = 0) && decide (scanE ⟨#[47, 42, 47, 10]⟩ = 20)) = true := by kernel_rfl
set_option maxRecDepth 100000 in
theorem ex_f0 : ((fuP ⟨#[43]⟩ ⟨#[43]⟩).1 && decide ((fuP ⟨#[43]⟩ ⟨#[43]⟩).2 = 0)) = true := by kernel_rfl
set_option maxRecDepth 100000 in
theorem ex_f1 : ((fuP ⟨#[97]⟩ ⟨#[49]⟩).1 && decide ((fuP ⟨#[97]⟩ ⟨#[49]⟩).2 = 0)) = true := by kernel_rfl
set_option maxRecDepth 100000 in
theorem ex_f2 : ((fuP ⟨#[49]⟩ ⟨#[97]⟩).1 && decide ((fuP ⟨#[49]⟩ ⟨#[97]⟩).2 = 0)) = true := by kernel_rfl
set_option maxRecDepth 100000 in
theorem ex_f3 : ((fuP ⟨#[47]⟩ ⟨#[42]⟩).1 && decide ((fuP ⟨#[47]⟩ ⟨#[42]⟩).2 = 0)) = true := by kernel_rfl
set_option maxRecDepth 100000 in
theorem ex_f4 : ((fuP ⟨#[97]⟩ ⟨#[43]⟩).1 && decide ((fuP ⟨#[97]⟩ ⟨#[43]⟩).2 = 0)) = false := by kernel_rfl
set_option maxRecDepth 100000 in
theorem ex_f5 : ((fuP ⟨#[117, 56]⟩ ⟨#[34, 34]⟩).1 && decide ((fuP ⟨#[117, 56]⟩ ⟨#[34, 34]⟩).2 = 0)) = true := by kernel_rfl
set_option maxRecDepth 100000 in
theorem ex_f6 : ((fuP ⟨#[47, 47]⟩ ⟨#[97]⟩).1 && decide ((fuP ⟨#[47, 47]⟩ ⟨#[97]⟩).2 = 0)) = true := by kernel_rfl
set_option maxRecDepth 100000 in
theorem ex_f7 : ((fuP ⟨#[47, 47]⟩ ⟨#[10]⟩).1 && decide ((fuP ⟨#[47, 47]⟩ ⟨#[10]⟩).2 = 0)) = false := by kernel_rfl
theorem ex_o1 : oneP ⟨#[117, 56, 34, 34]⟩ = (4, true) := by kernel_rfl
theorem ex_o2 : oneP ⟨#[97, 32, 98]⟩ = (0, false) := by kernel_rfl
theorem ex_o3 : oneP ⟨#[]⟩ = (0, false) := by kernel_rfl
theorem ex_o4 : fuP ⟨#[97, 32, 98]⟩ ⟨#[99]⟩ = (false, 2) := by kernel_rfl
def exB : List Tok := bareFrom false (scanT ⟨#[97, 47, 42, 42, 47, 98, 10, 32, 99, 10]⟩)
set_option maxRecDepth 100000 in
theorem ex_b : (decide (scanE ⟨#[97, 47, 42, 42, 47, 98, 10, 32, 99, 10]⟩ = 0) && decide ((exB.length : Int) = 3) && !(exB.getD 0 tok0).space && (exB.getD 1 tok0).space && (exB.getD 2 tok0).space && decide ((exB.getD 2 tok0).text = ⟨#[99]⟩) && decide ((exB.getD 2 tok0).lo = 8)) = true := by kernel_rfl

set_option maxRecDepth 100000 in
theorem scanNames_any (w : World) (hg : Glob (im w)) : Calls Try.prog 8 #[] w (PureP w fun v _ => v = .bool true) := by
  refine x_fun tt_ok Try.func8 rfl rfl [] 0 [] rfl rfl rfl rfl (fun b hb => by cases hb) ?_
  refine x_vc tt_ok ?_
  refine xl_call0 (.bool true) rfl rfl rfl rfl fn40 rfl rfl (fun E w F hs => scanAlive_any w (hg.imm hs.imm)) ?_
  refine xl_go tt_ok ?_
  refine xl_want rfl rfl rfl rfl rfl ?_
  refine xl_build tt_ok strY [⟨#[49, 46, 101, 43, 120, 46, 121]⟩, ⟨#[45]⟩, ⟨#[49]⟩, ⟨#[10]⟩] [_, _, _, _] rfl rfl rfl rfl rfl rfl rfl rfl rfl rfl rfl rfl rfl rfl rfl ?_
  refine xl_want rfl rfl rfl rfl rfl ?_
  refine xl_call0 (.bool true) rfl rfl rfl rfl fn43 rfl rfl (fun E w F hs => by rw [← ex_t1]; exact texts_any _ _ _ _ w (hs.rowAt (k := 0) rfl) (by decide) (by decide) (hg.imm hs.imm)) ?_
  refine xl_go tt_ok ?_
  refine xl_want rfl rfl rfl rfl rfl ?_
  refine xl_build tt_ok strY [⟨#[35]⟩, ⟨#[105, 110, 99, 108, 117, 100, 101]⟩, ⟨#[60, 97, 47, 47, 98, 62]⟩, ⟨#[10]⟩] [_, _, _, _] rfl rfl rfl rfl rfl rfl rfl rfl rfl rfl rfl rfl rfl rfl rfl ?_
  refine xl_want rfl rfl rfl rfl rfl ?_
  refine xl_call0 (.bool true) rfl rfl rfl rfl fn43 rfl rfl (fun E w F hs => by rw [← ex_t2]; exact texts_any _ _ _ _ w (hs.rowAt (k := 1) rfl) (by decide) (by decide) (hg.imm hs.imm)) ?_
  refine xl_go tt_ok ?_
  refine xl_want rfl rfl rfl rfl rfl ?_
  refine xl_build tt_ok strY [⟨#[120]⟩, ⟨#[60]⟩, ⟨#[97]⟩, ⟨#[62]⟩, ⟨#[121]⟩, ⟨#[10]⟩] [_, _, _, _, _, _] rfl rfl rfl rfl rfl rfl rfl rfl rfl rfl rfl rfl rfl rfl rfl ?_
  refine xl_want rfl rfl rfl rfl rfl ?_
  refine xl_call0 (.bool true) rfl rfl rfl rfl fn43 rfl rfl (fun E w F hs => by rw [← ex_t3]; exact texts_any _ _ _ _ w (hs.rowAt (k := 2) rfl) (by decide) (by decide) (hg.imm hs.imm)) ?_
  refine xl_go tt_ok ?_
  refine xl_build tt_ok strY [⟨#[76, 39, 97, 39]⟩, ⟨#[117, 56, 34, 98, 34]⟩, ⟨#[117, 56]⟩, ⟨#[39, 99, 39]⟩, ⟨#[10]⟩] [_, _, _, _, _] rfl rfl rfl rfl rfl rfl rfl rfl rfl rfl rfl rfl rfl rfl rfl ?_
  refine xl_go tt_ok ?_
  refine xl_call0 (.bool true) rfl rfl rfl rfl fn43 rfl rfl (fun E w F hs => by rw [← ex_t4]; exact texts_any _ _ _ _ w (hs.rowAt (k := 3) rfl) (by decide) (by decide) (hg.imm hs.imm)) ?_
  refine xl_go tt_ok ?_
  refine xl_want rfl rfl rfl rfl rfl ?_
  refine xl_build tt_ok strY [⟨#[97]⟩, ⟨#[47, 42, 42, 47]⟩, ⟨#[98]⟩, ⟨#[47, 47, 32, 99]⟩, ⟨#[10]⟩] [_, _, _, _, _] rfl rfl rfl rfl rfl rfl rfl rfl rfl rfl rfl rfl rfl rfl rfl ?_
  refine xl_want rfl rfl rfl rfl rfl ?_
  refine xl_call0 (.bool true) rfl rfl rfl rfl fn43 rfl rfl (fun E w F hs => by rw [← ex_t5]; exact texts_any _ _ _ _ w (hs.rowAt (k := 4) rfl) (by decide) (by decide) (hg.imm hs.imm)) ?_
  refine xl_go tt_ok ?_
  refine xl_want rfl rfl rfl rfl rfl ?_
  refine xl_build tt_ok strY [⟨#[37, 58, 37, 58]⟩, ⟨#[37, 58]⟩, ⟨#[37]⟩, ⟨#[10]⟩] [_, _, _, _] rfl rfl rfl rfl rfl rfl rfl rfl rfl rfl rfl rfl rfl rfl rfl ?_
  refine xl_want rfl rfl rfl rfl rfl ?_
  refine xl_call0 (.bool true) rfl rfl rfl rfl fn43 rfl rfl (fun E w F hs => by rw [← ex_t6]; exact texts_any _ _ _ _ w (hs.rowAt (k := 5) rfl) (by decide) (by decide) (hg.imm hs.imm)) ?_
  refine xl_go tt_ok ?_
  refine xl_want rfl rfl rfl rfl rfl ?_
  refine xl_build tt_ok strY [⟨#[46]⟩, ⟨#[46, 49, 46, 46, 46]⟩, ⟨#[92]⟩, ⟨#[64]⟩, ⟨#[10]⟩] [_, _, _, _, _] rfl rfl rfl rfl rfl rfl rfl rfl rfl rfl rfl rfl rfl rfl rfl ?_
  refine xl_want rfl rfl rfl rfl rfl ?_
  refine xl_call0 (.bool true) rfl rfl rfl rfl fn43 rfl rfl (fun E w F hs => by rw [← ex_t7]; exact texts_any _ _ _ _ w (hs.rowAt (k := 6) rfl) (by decide) (by decide) (hg.imm hs.imm)) ?_
  refine xl_go tt_ok ?_
  refine xl_call0 (.bool true) rfl rfl rfl rfl fn44 rfl rfl (fun E w F hs => by rw [← ex_r0]; exact refused_any _ _ w (by decide) (hg.imm hs.imm)) ?_
  refine xl_go tt_ok ?_
  refine xl_want rfl rfl rfl rfl rfl ?_
  refine xl_call0 (.bool true) rfl rfl rfl rfl fn44 rfl rfl (fun E w F hs => by rw [← ex_r1]; exact refused_any _ _ w (by decide) (hg.imm hs.imm)) ?_
  refine xl_go tt_ok ?_
  refine xl_want rfl rfl rfl rfl rfl ?_
  refine xl_call0 (.bool true) rfl rfl rfl rfl fn44 rfl rfl (fun E w F hs => by rw [← ex_r2]; exact refused_any _ _ w (by decide) (hg.imm hs.imm)) ?_
  refine xl_go tt_ok ?_
  refine xl_want rfl rfl rfl rfl rfl ?_
  refine xl_call0 (.bool true) rfl rfl rfl rfl fn44 rfl rfl (fun E w F hs => by rw [← ex_r3]; exact refused_any _ _ w (by decide) (hg.imm hs.imm)) ?_
  refine xl_go tt_ok ?_
  refine xl_want rfl rfl rfl rfl rfl ?_
  refine xl_call0 (.bool true) rfl rfl rfl rfl fn44 rfl rfl (fun E w F hs => by rw [← ex_r4]; exact refused_any _ _ w (by decide) (hg.imm hs.imm)) ?_
  refine xl_go tt_ok ?_
  refine xl_want rfl rfl rfl rfl rfl ?_
  refine xl_call0 (.bool true) rfl rfl rfl rfl fn44 rfl rfl (fun E w F hs => by rw [← ex_r5]; exact refused_any _ _ w (by decide) (hg.imm hs.imm)) ?_
  refine xl_go tt_ok ?_
  refine xl_call0 (.tuple #[.int .i64 4, .bool true]) rfl rfl rfl rfl fn36 rfl rfl (fun E w F hs => by have := one_any ⟨#[117, 56, 34, 34]⟩ (by decide) w (hg.imm hs.imm); rw [ex_o1] at this; exact this) ?_
  refine xl_go tt_ok ?_
  refine xl_call0 (.tuple #[.int .i64 0, .bool false]) rfl rfl rfl rfl fn36 rfl rfl (fun E w F hs => by have := one_any ⟨#[97, 32, 98]⟩ (by decide) w (hg.imm hs.imm); rw [ex_o2] at this; exact this) ?_
  refine xl_go tt_ok ?_
  refine xl_call0 (.tuple #[.int .i64 0, .bool false]) rfl rfl rfl rfl fn36 rfl rfl (fun E w F hs => by have := one_any ⟨#[]⟩ (by decide) w (hg.imm hs.imm); rw [ex_o3] at this; exact this) ?_
  refine xl_go tt_ok ?_
  refine xl_call0 (.tuple #[.bool false, .int .i64 2]) rfl rfl rfl rfl fn38 rfl rfl (fun E w F hs => by have := fuses_any ⟨#[97, 32, 98]⟩ ⟨#[99]⟩ (by decide) w (hg.imm hs.imm); rw [ex_o4] at this; exact this) ?_
  refine xl_go tt_ok ?_
  refine xl_want rfl rfl rfl rfl rfl ?_
  refine xl_build tt_ok strY [⟨#[35]⟩, ⟨#[105, 110, 99, 108, 117, 100, 101]⟩, ⟨#[120]⟩, ⟨#[60]⟩, ⟨#[121]⟩, ⟨#[62]⟩, ⟨#[10]⟩] [_, _, _, _, _, _, _] rfl rfl rfl rfl rfl rfl rfl rfl rfl rfl rfl rfl rfl rfl rfl ?_
  refine xl_want rfl rfl rfl rfl rfl ?_
  refine xl_call0 (.bool true) rfl rfl rfl rfl fn43 rfl rfl (fun E w F hs => by rw [← ex_t8]; exact texts_any _ _ _ _ w (hs.rowAt (k := 7) rfl) (by decide) (by decide) (hg.imm hs.imm)) ?_
  refine xl_go tt_ok ?_
  refine xl_want rfl rfl rfl rfl rfl ?_
  refine xl_build tt_ok strY [⟨#[85, 34, 97, 34]⟩, ⟨#[85, 39, 98, 39]⟩, ⟨#[10]⟩] [_, _, _] rfl rfl rfl rfl rfl rfl rfl rfl rfl rfl rfl rfl rfl rfl rfl ?_
  refine xl_want rfl rfl rfl rfl rfl ?_
  refine xl_call0 (.bool true) rfl rfl rfl rfl fn43 rfl rfl (fun E w F hs => by rw [← ex_t9]; exact texts_any _ _ _ _ w (hs.rowAt (k := 8) rfl) (by decide) (by decide) (hg.imm hs.imm)) ?_
  refine xl_go tt_ok ?_
  refine xl_call0 (.bool true) rfl rfl rfl rfl fn45 rfl rfl (fun E w F hs => by rw [← ex_f0]; exact fuse_any _ _ (by decide) w (hg.imm hs.imm)) ?_
  refine xl_go tt_ok ?_
  refine xl_want rfl rfl rfl rfl rfl ?_
  refine xl_call0 (.bool true) rfl rfl rfl rfl fn45 rfl rfl (fun E w F hs => by rw [← ex_f1]; exact fuse_any _ _ (by decide) w (hg.imm hs.imm)) ?_
  refine xl_go tt_ok ?_
  refine xl_want rfl rfl rfl rfl rfl ?_
  refine xl_call0 (.bool true) rfl rfl rfl rfl fn45 rfl rfl (fun E w F hs => by rw [← ex_f2]; exact fuse_any _ _ (by decide) w (hg.imm hs.imm)) ?_
  refine xl_go tt_ok ?_
  refine xl_want rfl rfl rfl rfl rfl ?_
  refine xl_call0 (.bool true) rfl rfl rfl rfl fn45 rfl rfl (fun E w F hs => by rw [← ex_f3]; exact fuse_any _ _ (by decide) w (hg.imm hs.imm)) ?_
  refine xl_go tt_ok ?_
  refine xl_want rfl rfl rfl rfl rfl ?_
  refine xl_call0 (.bool false) rfl rfl rfl rfl fn45 rfl rfl (fun E w F hs => by rw [← ex_f4]; exact fuse_any _ _ (by decide) w (hg.imm hs.imm)) ?_
  refine xl_go tt_ok ?_
  refine xl_want rfl rfl rfl rfl rfl ?_
  refine xl_call0 (.bool true) rfl rfl rfl rfl fn45 rfl rfl (fun E w F hs => by rw [← ex_f5]; exact fuse_any _ _ (by decide) w (hg.imm hs.imm)) ?_
  refine xl_go tt_ok ?_
  refine xl_want rfl rfl rfl rfl rfl ?_
  refine xl_call0 (.bool true) rfl rfl rfl rfl fn45 rfl rfl (fun E w F hs => by rw [← ex_f6]; exact fuse_any _ _ (by decide) w (hg.imm hs.imm)) ?_
  refine xl_go tt_ok ?_
  refine xl_want rfl rfl rfl rfl rfl ?_
  refine xl_call0 (.bool false) rfl rfl rfl rfl fn45 rfl rfl (fun E w F hs => by rw [← ex_f7]; exact fuse_any _ _ (by decide) w (hg.imm hs.imm)) ?_
  refine xl_go tt_ok ?_
  obtain ⟨z, hz⟩ : ∃ z, z = scanE ⟨#[97, 47, 42, 42, 47, 98, 10, 32, 99, 10]⟩ := ⟨_, rfl⟩
  obtain ⟨T, hT⟩ : ∃ T, T = scanT ⟨#[97, 47, 42, 42, 47, 98, 10, 32, 99, 10]⟩ := ⟨_, rfl⟩
  have hTl : T.length ≤ 65537 := by rw [hT]; exact scanT_len _
  refine xl_callO2 31 (tokY.d T) [.int .i64 z] rfl rfl rfl rfl fn41 rfl rfl (fun E w F hs' => by rw [hz, hT]; exact scan_any _ w (by decide) (hg.imm hs'.imm)) ?_
  refine xl_go tt_ok ?_
  obtain ⟨B, hB⟩ : ∃ B, B = bareFrom false T := ⟨_, rfl⟩
  refine xl_callO 31 (tokY.d B) rfl rfl rfl rfl fn46 rfl rfl (fun E w F hs' => by rw [hB]; exact bare_any _ _ w (hs'.rowAt (k := 9) rfl) (by omega)) ?_
  refine xl_go tt_ok ?_
  repeat (refine And.intro ?_ ?_; first | omega | (simp only [Lay.d_n]; omega) | (simp only [decide_eq_true_eq, decide_eq_false_iff_not, Bool.or_eq_false_iff, Bool.and_eq_true, Bool.or_eq_true, Bool.and_eq_false_iff, Bool.not_eq_true', Bool.not_eq_false', Lay.d_n]; omega) | (simp only [decide_eq_true_eq, decide_eq_false_iff_not, Bool.or_eq_false_iff, Bool.and_eq_true, Bool.or_eq_true, Bool.and_eq_false_iff, Bool.not_eq_true', Bool.not_eq_false']; omega))
  refine fin1 (fun _ _ => ?_)
  show Value.bool (decide (z = 0) && decide ((B.length : Int) = 3) && !(B.getD 0 tok0).space && (B.getD 1 tok0).space && (B.getD 2 tok0).space && decide ((B.getD 2 tok0).text = ⟨#[99]⟩) && decide ((B.getD 2 tok0).lo = 8)) = _
  have hB2 : B = exB := by rw [hB, hT]; rfl
  rw [hz, hB2, ex_b]
end Go.Proofs.Ytdonomneofdhfaa
