/- CtokNames: its values, and its walk. -/
import Derived.Test.YtdonomneofdhfaaN35
namespace Go.Proofs.Ytdonomneofdhfaa
open Go.GV Go.RowKit

set_option maxRecDepth 100000 in
theorem nv_0_0 : worthB ⟨#[48, 49, 55]⟩ 15 false = true := by kernel_rfl
set_option maxRecDepth 100000 in
theorem nv_0_1 : worthB ⟨#[48]⟩ 0 false = true := by kernel_rfl
set_option maxRecDepth 100000 in
theorem nv_0_2 : noneB ⟨#[48, 56]⟩ = true := by kernel_rfl
set_option maxRecDepth 100000 in
theorem nv_0_3 : worthB ⟨#[49, 117, 108]⟩ 1 true = true := by kernel_rfl
set_option maxRecDepth 100000 in
theorem nv_0_4 : worthB ⟨#[49, 76, 76, 85]⟩ 1 true = true := by kernel_rfl
set_option maxRecDepth 100000 in
theorem nv_0_5 : noneB ⟨#[49, 108, 117, 108]⟩ = true := by kernel_rfl
set_option maxRecDepth 100000 in
theorem nv_0_6 : noneB ⟨#[49, 76, 108]⟩ = true := by kernel_rfl
set_option maxRecDepth 100000 in
theorem nv_0_7 : noneB ⟨#[]⟩ = true := by kernel_rfl
set_option maxRecDepth 100000 in
theorem nv_0_8 : noneB ⟨#[48, 120]⟩ = true := by kernel_rfl
set_option maxRecDepth 100000 in
theorem nv_0_9 : noneB ⟨#[49, 117, 117]⟩ = true := by kernel_rfl
set_option maxRecDepth 100000 in
theorem nv_1_0 : noneB ⟨#[49, 56, 52, 52, 54, 55, 52, 52, 48, 55, 51, 55, 48, 57, 53, 53, 49, 54, 49, 53]⟩ = true := by kernel_rfl
set_option maxRecDepth 100000 in
theorem nv_1_1 : worthB ⟨#[49, 56, 52, 52, 54, 55, 52, 52, 48, 55, 51, 55, 48, 57, 53, 53, 49, 54, 49, 53, 117]⟩ 18446744073709551615 true = true := by kernel_rfl
set_option maxRecDepth 100000 in
theorem nv_1_2 : worthB ⟨#[48, 120, 102, 102, 102, 102, 102, 102, 102, 102, 102, 102, 102, 102, 102, 102, 102, 102]⟩ 18446744073709551615 true = true := by kernel_rfl
set_option maxRecDepth 100000 in
theorem nv_1_3 : noneB ⟨#[49, 56, 52, 52, 54, 55, 52, 52, 48, 55, 51, 55, 48, 57, 53, 53, 49, 54, 49, 54, 117]⟩ = true := by kernel_rfl
set_option maxRecDepth 100000 in
theorem nv_1_4 : worthB ⟨#[57, 50, 50, 51, 51, 55, 50, 48, 51, 54, 56, 53, 52, 55, 55, 53, 56, 48, 55]⟩ 9223372036854775807 false = true := by kernel_rfl
set_option maxRecDepth 100000 in
theorem nv_1_5 : noneB ⟨#[48, 120, 49, 48, 48, 48, 48, 48, 48, 48, 48, 48, 48, 48, 48, 48, 48, 48, 48]⟩ = true := by kernel_rfl
set_option maxRecDepth 100000 in
theorem nv_2_0 : floatB ⟨#[49, 46]⟩ = true := by kernel_rfl
set_option maxRecDepth 100000 in
theorem nv_2_1 : floatB ⟨#[46, 53, 101, 45, 51, 102]⟩ = true := by kernel_rfl
set_option maxRecDepth 100000 in
theorem nv_2_2 : floatB ⟨#[49, 101, 53]⟩ = true := by kernel_rfl
set_option maxRecDepth 100000 in
theorem nv_2_3 : floatB ⟨#[48, 120, 46, 56, 112, 48]⟩ = true := by kernel_rfl
set_option maxRecDepth 100000 in
theorem nv_2_4 : floatB ⟨#[48, 120, 49, 46, 56]⟩ = false := by kernel_rfl
set_option maxRecDepth 100000 in
theorem nv_2_5 : floatB ⟨#[49]⟩ = false := by kernel_rfl
set_option maxRecDepth 100000 in
theorem nv_2_6 : floatB ⟨#[49, 101]⟩ = false := by kernel_rfl
set_option maxRecDepth 100000 in
theorem nv_2_7 : floatB ⟨#[46]⟩ = false := by kernel_rfl
set_option maxRecDepth 100000 in
theorem nv_2_8 : floatB ⟨#[49, 46, 102, 102]⟩ = false := by kernel_rfl
set_option maxRecDepth 100000 in
theorem nv_2_9 : floatB ⟨#[48, 88, 49, 80, 43, 57, 76]⟩ = true := by kernel_rfl
set_option maxRecDepth 100000 in
theorem nv_2_10 : floatB ⟨#[48, 120, 46, 112, 49]⟩ = false := by kernel_rfl
set_option maxRecDepth 100000 in
theorem nv_2_11 : floatB ⟨#[48, 56, 46, 53]⟩ = true := by kernel_rfl
set_option maxRecDepth 100000 in
theorem nv_3_0 : (decide ((charV ⟨#[39, 97, 39]⟩).2 = 0) && decide ((charV ⟨#[39, 97, 39]⟩).1 = 97)) = true := by kernel_rfl
set_option maxRecDepth 100000 in
theorem nv_3_1 : (decide ((charV ⟨#[39, 92, 120, 102, 102, 39]⟩).2 = 0) && decide ((charV ⟨#[39, 92, 120, 102, 102, 39]⟩).1 = -1)) = true := by kernel_rfl
set_option maxRecDepth 100000 in
theorem nv_3_2 : (decide ((charV ⟨#[39, 97, 98, 39]⟩).2 = 0) && decide ((charV ⟨#[39, 97, 98, 39]⟩).1 = 24930)) = true := by kernel_rfl
set_option maxRecDepth 100000 in
theorem nv_3_3 : (decide ((charV ⟨#[76, 39, 92, 120, 102, 102, 39]⟩).2 = 0) && decide ((charV ⟨#[76, 39, 92, 120, 102, 102, 39]⟩).1 = 255)) = true := by kernel_rfl
set_option maxRecDepth 100000 in
theorem nv_3_4 : (decide ((charV ⟨#[39, 92, 52, 48, 48, 39]⟩).2 = 40) && decide ((charV ⟨#[39, 92, 52, 48, 48, 39]⟩).1 = 0)) = true := by kernel_rfl
set_option maxRecDepth 100000 in
theorem nv_3_5 : (decide ((charV ⟨#[117, 39, 97, 98, 39]⟩).2 = 40) && decide ((charV ⟨#[117, 39, 97, 98, 39]⟩).1 = 0)) = true := by kernel_rfl
set_option maxRecDepth 100000 in
theorem nv_3_6 : (decide ((charV ⟨#[39, 97, 98, 99, 100, 101, 39]⟩).2 = 40) && decide ((charV ⟨#[39, 97, 98, 99, 100, 101, 39]⟩).1 = 0)) = true := by kernel_rfl
set_option maxRecDepth 100000 in
theorem nv_3_7 : (decide ((charV ⟨#[39, 92, 48, 48, 48, 49, 39]⟩).2 = 0) && decide ((charV ⟨#[39, 92, 48, 48, 48, 49, 39]⟩).1 = 49)) = true := by kernel_rfl
set_option maxRecDepth 100000 in
theorem nv_3_8 : (decide ((charV ⟨#[85, 39, 92, 120, 102, 102, 102, 102, 102, 102, 102, 102, 39]⟩).2 = 0) && decide ((charV ⟨#[85, 39, 92, 120, 102, 102, 102, 102, 102, 102, 102, 102, 39]⟩).1 = 4294967295)) = true := by kernel_rfl
set_option maxRecDepth 100000 in
theorem nv_3_9 : (decide ((charV ⟨#[39, 92, 113, 39]⟩).2 = 40) && decide ((charV ⟨#[39, 92, 113, 39]⟩).1 = 0)) = true := by kernel_rfl
set_option maxRecDepth 100000 in
theorem nv_3_10 : (decide ((charV ⟨#[34, 97, 34]⟩).2 = 40) && decide ((charV ⟨#[34, 97, 34]⟩).1 = 0)) = true := by kernel_rfl
set_option maxRecDepth 100000 in
theorem nv_3_11 : (decide ((charV ⟨#[39, 92, 51, 55, 55, 92, 51, 55, 55, 92, 51, 55, 55, 92, 51, 55, 55, 39]⟩).2 = 0) && decide ((charV ⟨#[39, 92, 51, 55, 55, 92, 51, 55, 55, 92, 51, 55, 55, 92, 51, 55, 55, 39]⟩).1 = -1)) = true := by kernel_rfl
set_option maxRecDepth 100000 in
theorem nv_s1 : (strL ⟨#[34, 97, 92, 48, 92, 49, 56, 34]⟩, strE ⟨#[34, 97, 92, 48, 92, 49, 56, 34]⟩) = ([97, 0, 1, 56], 0) := by kernel_rfl
set_option maxRecDepth 100000 in
theorem nv_s2 : (strL ⟨#[117, 56, 34, 34]⟩, strE ⟨#[117, 56, 34, 34]⟩) = ([], 0) := by kernel_rfl
set_option maxRecDepth 100000 in
theorem nv_s3 : (strL ⟨#[39, 97, 39]⟩, strE ⟨#[39, 97, 39]⟩) = ([], 40) := by kernel_rfl
set_option maxRecDepth 100000 in
theorem nv_c1 : (clsA 1 ⟨#[105, 110, 116]⟩, clsE 1 ⟨#[105, 110, 116]⟩) = ((1, ⟨#[105, 110, 116]⟩), 0) := by kernel_rfl
set_option maxRecDepth 100000 in
theorem nv_c2 : (clsA 1 ⟨#[73, 110, 116]⟩, clsE 1 ⟨#[73, 110, 116]⟩) = ((2, ⟨#[73, 110, 116]⟩), 0) := by kernel_rfl
set_option maxRecDepth 100000 in
theorem nv_c3 : (clsA 2 ⟨#[49, 120]⟩, clsE 2 ⟨#[49, 120]⟩) = ((0, ⟨#[]⟩), 40) := by kernel_rfl
def nvT : List Tok := [⟨1, ⟨#[97]⟩, 0, 0, false⟩, ⟨8, ⟨#[]⟩, 0, 0, false⟩, ⟨6, ⟨#[64]⟩, 0, 0, false⟩]
set_option maxRecDepth 100000 in
theorem nv_t : (ctL (bareFrom false nvT), ctI (bareFrom false nvT), ctE (bareFrom false nvT)) = ([], 1, 40) := by kernel_rfl

set_option maxRecDepth 100000 in
theorem ctokNames_any (w : World) (hg : Glob (im w)) : Calls Try.prog 19 #[] w (PureP w fun v _ => v = .bool true) := by
  refine x_fun tt_ok Try.func19 rfl rfl [] 0 [] rfl rfl rfl rfl (fun b hb => by cases hb) ?_
  refine x_vc tt_ok ?_
  refine xl_call0 (.bool true) rfl rfl rfl rfl fn72 rfl rfl (fun E w F hs => by rw [← nv_0_0]; exact worth_any _ _ _ w (by decide)) ?_
  refine xl_go tt_ok ?_
  refine xl_want rfl rfl rfl rfl rfl ?_
  refine xl_call0 (.bool true) rfl rfl rfl rfl fn72 rfl rfl (fun E w F hs => by rw [← nv_0_1]; exact worth_any _ _ _ w (by decide)) ?_
  refine xl_go tt_ok ?_
  refine xl_want rfl rfl rfl rfl rfl ?_
  refine xl_call0 (.bool true) rfl rfl rfl rfl fn71 rfl rfl (fun E w F hs => by rw [← nv_0_2]; exact none_any _ w (by decide)) ?_
  refine xl_go tt_ok ?_
  refine xl_want rfl rfl rfl rfl rfl ?_
  refine xl_call0 (.bool true) rfl rfl rfl rfl fn72 rfl rfl (fun E w F hs => by rw [← nv_0_3]; exact worth_any _ _ _ w (by decide)) ?_
  refine xl_go tt_ok ?_
  refine xl_want rfl rfl rfl rfl rfl ?_
  refine xl_call0 (.bool true) rfl rfl rfl rfl fn72 rfl rfl (fun E w F hs => by rw [← nv_0_4]; exact worth_any _ _ _ w (by decide)) ?_
  refine xl_go tt_ok ?_
  refine xl_want rfl rfl rfl rfl rfl ?_
  refine xl_call0 (.bool true) rfl rfl rfl rfl fn71 rfl rfl (fun E w F hs => by rw [← nv_0_5]; exact none_any _ w (by decide)) ?_
  refine xl_go tt_ok ?_
  refine xl_want rfl rfl rfl rfl rfl ?_
  refine xl_call0 (.bool true) rfl rfl rfl rfl fn71 rfl rfl (fun E w F hs => by rw [← nv_0_6]; exact none_any _ w (by decide)) ?_
  refine xl_go tt_ok ?_
  refine xl_want rfl rfl rfl rfl rfl ?_
  refine xl_call0 (.bool true) rfl rfl rfl rfl fn71 rfl rfl (fun E w F hs => by rw [← nv_0_7]; exact none_any _ w (by decide)) ?_
  refine xl_go tt_ok ?_
  refine xl_want rfl rfl rfl rfl rfl ?_
  refine xl_call0 (.bool true) rfl rfl rfl rfl fn71 rfl rfl (fun E w F hs => by rw [← nv_0_8]; exact none_any _ w (by decide)) ?_
  refine xl_go tt_ok ?_
  refine xl_want rfl rfl rfl rfl rfl ?_
  refine xl_call0 (.bool true) rfl rfl rfl rfl fn71 rfl rfl (fun E w F hs => by rw [← nv_0_9]; exact none_any _ w (by decide)) ?_
  refine xl_go tt_ok ?_
  refine xl_call0 (.bool true) rfl rfl rfl rfl fn71 rfl rfl (fun E w F hs => by rw [← nv_1_0]; exact none_any _ w (by decide)) ?_
  refine xl_go tt_ok ?_
  refine xl_want rfl rfl rfl rfl rfl ?_
  refine xl_call0 (.bool true) rfl rfl rfl rfl fn72 rfl rfl (fun E w F hs => by rw [← nv_1_1]; exact worth_any _ _ _ w (by decide)) ?_
  refine xl_go tt_ok ?_
  refine xl_want rfl rfl rfl rfl rfl ?_
  refine xl_call0 (.bool true) rfl rfl rfl rfl fn72 rfl rfl (fun E w F hs => by rw [← nv_1_2]; exact worth_any _ _ _ w (by decide)) ?_
  refine xl_go tt_ok ?_
  refine xl_want rfl rfl rfl rfl rfl ?_
  refine xl_call0 (.bool true) rfl rfl rfl rfl fn71 rfl rfl (fun E w F hs => by rw [← nv_1_3]; exact none_any _ w (by decide)) ?_
  refine xl_go tt_ok ?_
  refine xl_want rfl rfl rfl rfl rfl ?_
  refine xl_call0 (.bool true) rfl rfl rfl rfl fn72 rfl rfl (fun E w F hs => by rw [← nv_1_4]; exact worth_any _ _ _ w (by decide)) ?_
  refine xl_go tt_ok ?_
  refine xl_want rfl rfl rfl rfl rfl ?_
  refine xl_call0 (.bool true) rfl rfl rfl rfl fn71 rfl rfl (fun E w F hs => by rw [← nv_1_5]; exact none_any _ w (by decide)) ?_
  refine xl_go tt_ok ?_
  refine xl_call0 (.bool true) rfl rfl rfl rfl fn67 rfl rfl (fun E w F hs => by rw [← nv_2_0]; exact float_any _ w (by decide)) ?_
  refine xl_go tt_ok ?_
  refine xl_want rfl rfl rfl rfl rfl ?_
  refine xl_call0 (.bool true) rfl rfl rfl rfl fn67 rfl rfl (fun E w F hs => by rw [← nv_2_1]; exact float_any _ w (by decide)) ?_
  refine xl_go tt_ok ?_
  refine xl_want rfl rfl rfl rfl rfl ?_
  refine xl_call0 (.bool true) rfl rfl rfl rfl fn67 rfl rfl (fun E w F hs => by rw [← nv_2_2]; exact float_any _ w (by decide)) ?_
  refine xl_go tt_ok ?_
  refine xl_want rfl rfl rfl rfl rfl ?_
  refine xl_call0 (.bool true) rfl rfl rfl rfl fn67 rfl rfl (fun E w F hs => by rw [← nv_2_3]; exact float_any _ w (by decide)) ?_
  refine xl_go tt_ok ?_
  refine xl_want rfl rfl rfl rfl rfl ?_
  refine xl_call0 (.bool false) rfl rfl rfl rfl fn67 rfl rfl (fun E w F hs => by rw [← nv_2_4]; exact float_any _ w (by decide)) ?_
  refine xl_want rfl rfl rfl rfl rfl ?_
  refine xl_go tt_ok ?_
  refine xl_want rfl rfl rfl rfl rfl ?_
  refine xl_call0 (.bool false) rfl rfl rfl rfl fn67 rfl rfl (fun E w F hs => by rw [← nv_2_5]; exact float_any _ w (by decide)) ?_
  refine xl_want rfl rfl rfl rfl rfl ?_
  refine xl_go tt_ok ?_
  refine xl_want rfl rfl rfl rfl rfl ?_
  refine xl_call0 (.bool false) rfl rfl rfl rfl fn67 rfl rfl (fun E w F hs => by rw [← nv_2_6]; exact float_any _ w (by decide)) ?_
  refine xl_want rfl rfl rfl rfl rfl ?_
  refine xl_go tt_ok ?_
  refine xl_want rfl rfl rfl rfl rfl ?_
  refine xl_call0 (.bool false) rfl rfl rfl rfl fn67 rfl rfl (fun E w F hs => by rw [← nv_2_7]; exact float_any _ w (by decide)) ?_
  refine xl_want rfl rfl rfl rfl rfl ?_
  refine xl_go tt_ok ?_
  refine xl_want rfl rfl rfl rfl rfl ?_
  refine xl_call0 (.bool false) rfl rfl rfl rfl fn67 rfl rfl (fun E w F hs => by rw [← nv_2_8]; exact float_any _ w (by decide)) ?_
  refine xl_want rfl rfl rfl rfl rfl ?_
  refine xl_go tt_ok ?_
  refine xl_want rfl rfl rfl rfl rfl ?_
  refine xl_call0 (.bool true) rfl rfl rfl rfl fn67 rfl rfl (fun E w F hs => by rw [← nv_2_9]; exact float_any _ w (by decide)) ?_
  refine xl_go tt_ok ?_
  refine xl_want rfl rfl rfl rfl rfl ?_
  refine xl_call0 (.bool false) rfl rfl rfl rfl fn67 rfl rfl (fun E w F hs => by rw [← nv_2_10]; exact float_any _ w (by decide)) ?_
  refine xl_want rfl rfl rfl rfl rfl ?_
  refine xl_go tt_ok ?_
  refine xl_want rfl rfl rfl rfl rfl ?_
  refine xl_call0 (.bool true) rfl rfl rfl rfl fn67 rfl rfl (fun E w F hs => by rw [← nv_2_11]; exact float_any _ w (by decide)) ?_
  refine xl_go tt_ok ?_
  refine xl_call0 (.bool true) rfl rfl rfl rfl fn76 rfl rfl (fun E w F hs => by rw [← nv_3_0]; exact charQ_any _ _ w (by decide) (hg.imm hs.imm)) ?_
  refine xl_go tt_ok ?_
  refine xl_want rfl rfl rfl rfl rfl ?_
  refine xl_call0 (.bool true) rfl rfl rfl rfl fn76 rfl rfl (fun E w F hs => by rw [← nv_3_1]; exact charQ_any _ _ w (by decide) (hg.imm hs.imm)) ?_
  refine xl_go tt_ok ?_
  refine xl_want rfl rfl rfl rfl rfl ?_
  refine xl_call0 (.bool true) rfl rfl rfl rfl fn76 rfl rfl (fun E w F hs => by rw [← nv_3_2]; exact charQ_any _ _ w (by decide) (hg.imm hs.imm)) ?_
  refine xl_go tt_ok ?_
  refine xl_want rfl rfl rfl rfl rfl ?_
  refine xl_call0 (.bool true) rfl rfl rfl rfl fn76 rfl rfl (fun E w F hs => by rw [← nv_3_3]; exact charQ_any _ _ w (by decide) (hg.imm hs.imm)) ?_
  refine xl_go tt_ok ?_
  refine xl_want rfl rfl rfl rfl rfl ?_
  refine xl_call0 (.bool true) rfl rfl rfl rfl fn77 rfl rfl (fun E w F hs => by rw [← nv_3_4]; exact badQ_any _ w (by decide) (hg.imm hs.imm)) ?_
  refine xl_go tt_ok ?_
  refine xl_want rfl rfl rfl rfl rfl ?_
  refine xl_call0 (.bool true) rfl rfl rfl rfl fn77 rfl rfl (fun E w F hs => by rw [← nv_3_5]; exact badQ_any _ w (by decide) (hg.imm hs.imm)) ?_
  refine xl_go tt_ok ?_
  refine xl_want rfl rfl rfl rfl rfl ?_
  refine xl_call0 (.bool true) rfl rfl rfl rfl fn77 rfl rfl (fun E w F hs => by rw [← nv_3_6]; exact badQ_any _ w (by decide) (hg.imm hs.imm)) ?_
  refine xl_go tt_ok ?_
  refine xl_want rfl rfl rfl rfl rfl ?_
  refine xl_call0 (.bool true) rfl rfl rfl rfl fn76 rfl rfl (fun E w F hs => by rw [← nv_3_7]; exact charQ_any _ _ w (by decide) (hg.imm hs.imm)) ?_
  refine xl_go tt_ok ?_
  refine xl_want rfl rfl rfl rfl rfl ?_
  refine xl_call0 (.bool true) rfl rfl rfl rfl fn76 rfl rfl (fun E w F hs => by rw [← nv_3_8]; exact charQ_any _ _ w (by decide) (hg.imm hs.imm)) ?_
  refine xl_go tt_ok ?_
  refine xl_want rfl rfl rfl rfl rfl ?_
  refine xl_call0 (.bool true) rfl rfl rfl rfl fn77 rfl rfl (fun E w F hs => by rw [← nv_3_9]; exact badQ_any _ w (by decide) (hg.imm hs.imm)) ?_
  refine xl_go tt_ok ?_
  refine xl_want rfl rfl rfl rfl rfl ?_
  refine xl_call0 (.bool true) rfl rfl rfl rfl fn77 rfl rfl (fun E w F hs => by rw [← nv_3_10]; exact badQ_any _ w (by decide) (hg.imm hs.imm)) ?_
  refine xl_go tt_ok ?_
  refine xl_want rfl rfl rfl rfl rfl ?_
  refine xl_call0 (.bool true) rfl rfl rfl rfl fn76 rfl rfl (fun E w F hs => by rw [← nv_3_11]; exact charQ_any _ _ w (by decide) (hg.imm hs.imm)) ?_
  refine xl_go tt_ok ?_
  obtain ⟨p1, p2⟩ := Prod.mk.inj nv_s1
  obtain ⟨L, hL⟩ : ∃ L, L = ([97, 0, 1, 56] : List Int) := ⟨_, rfl⟩
  refine xl_callO2 2 (intY.d L) [.int .i64 0] rfl rfl rfl rfl fn55 rfl rfl (fun E w F hs => by have := str_any ⟨#[34, 97, 92, 48, 92, 49, 56, 34]⟩ w (by decide) (hg.imm hs.imm); rw [p1, p2, ← hL] at this; exact this) ?_
  refine xl_go tt_ok ?_
  obtain ⟨p1, p2⟩ := Prod.mk.inj nv_s2
  obtain ⟨M, hM⟩ : ∃ L, L = ([] : List Int) := ⟨_, rfl⟩
  refine xl_callO2 2 (intY.d M) [.int .i64 0] rfl rfl rfl rfl fn55 rfl rfl (fun E w F hs => by have := str_any ⟨#[117, 56, 34, 34]⟩ w (by decide) (hg.imm hs.imm); rw [p1, p2, ← hM] at this; exact this) ?_
  refine xl_go tt_ok ?_
  obtain ⟨p1, p2⟩ := Prod.mk.inj nv_s3
  refine xl_callO2 2 (intY.d []) [.int .i64 40] rfl rfl rfl rfl fn55 rfl rfl (fun E w F hs => by have := str_any ⟨#[39, 97, 39]⟩ w (by decide) (hg.imm hs.imm); rw [p1, p2] at this; exact this) ?_
  refine xl_go tt_ok ?_
  repeat (refine And.intro ?_ ?_; first | omega | (simp only [Lay.d_n]; omega) | (simp only [decide_eq_true_eq, decide_eq_false_iff_not, Bool.or_eq_false_iff, Bool.and_eq_true, Bool.or_eq_true, Bool.and_eq_false_iff, Bool.not_eq_true', Bool.not_eq_false', Lay.d_n]; omega) | (simp only [decide_eq_true_eq, decide_eq_false_iff_not, Bool.or_eq_false_iff, Bool.and_eq_true, Bool.or_eq_true, Bool.and_eq_false_iff, Bool.not_eq_true', Bool.not_eq_false']; omega))
  refine xl_call0 (.tuple #[.agg #[.int .i64 1, .string ⟨#[105, 110, 116]⟩], .int .i64 0]) rfl rfl rfl rfl fn61 rfl rfl (fun E w F hs => by have := class_any 1 ⟨#[105, 110, 116]⟩ w (by decide) (hg.imm hs.imm); rw [(Prod.mk.inj nv_c1).1, (Prod.mk.inj nv_c1).2] at this; exact this) ?_
  refine xl_go tt_ok ?_
  refine xl_call0 (.tuple #[.agg #[.int .i64 2, .string ⟨#[73, 110, 116]⟩], .int .i64 0]) rfl rfl rfl rfl fn61 rfl rfl (fun E w F hs => by have := class_any 1 ⟨#[73, 110, 116]⟩ w (by decide) (hg.imm hs.imm); rw [(Prod.mk.inj nv_c2).1, (Prod.mk.inj nv_c2).2] at this; exact this) ?_
  refine xl_go tt_ok ?_
  refine xl_call0 (.tuple #[.agg #[.int .i64 0, .string ⟨#[]⟩], .int .i64 40]) rfl rfl rfl rfl fn61 rfl rfl (fun E w F hs => by have := class_any 2 ⟨#[49, 120]⟩ w (by decide) (hg.imm hs.imm); rw [(Prod.mk.inj nv_c3).1, (Prod.mk.inj nv_c3).2] at this; exact this) ?_
  refine xl_go tt_ok ?_
  refine xl_build tt_ok tokY nvT [_, _, _] rfl rfl rfl rfl rfl rfl rfl rfl rfl rfl rfl rfl rfl rfl rfl ?_
  refine xl_go tt_ok ?_
  obtain ⟨q1, q2⟩ := Prod.mk.inj nv_t
  obtain ⟨q2, q3⟩ := Prod.mk.inj q2
  refine xl_callO2 86 (ctY.d []) [.int .i64 1, .int .i64 40] rfl rfl rfl rfl fn73 rfl rfl (fun E w F hs => by have := tokensC_any nvT _ w (hs.rowAt (k := 6) rfl) (by decide) (by decide) (hg.imm hs.imm); rw [q1, q2, q3] at this; exact this) ?_
  refine xl_go tt_ok ?_
  repeat (refine And.intro ?_ ?_; first | omega | (simp only [Lay.d_n]; omega) | (simp only [decide_eq_true_eq, decide_eq_false_iff_not, Bool.or_eq_false_iff, Bool.and_eq_true, Bool.or_eq_true, Bool.and_eq_false_iff, Bool.not_eq_true', Bool.not_eq_false', Lay.d_n]; omega) | (simp only [decide_eq_true_eq, decide_eq_false_iff_not, Bool.or_eq_false_iff, Bool.and_eq_true, Bool.or_eq_true, Bool.and_eq_false_iff, Bool.not_eq_true', Bool.not_eq_false']; omega))
  refine xl_want rfl rfl rfl rfl rfl ?_
  refine xl_call0 (.bool true) rfl rfl rfl rfl fn69 rfl rfl (fun E w F hs => ctokAlive_any w (hg.imm hs.imm)) ?_
  refine xl_go tt_ok ?_
  refine fin1 (fun _ _ => ?_)
  rw [hL, hM]
  rfl
end Go.Proofs.Ytdonomneofdhfaa
