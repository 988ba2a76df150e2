/- What a token is in C: both programs' answers. -/
import Derived.Test.YtdonomneofdhfaaN23
namespace Go.Proofs.Ytdonomneofdhfaa
open Go.GV Go.RowKit

def canP (t : ByteArray) : ByteArray := if t = ⟨#[60, 58]⟩ then ⟨#[91]⟩ else if t = ⟨#[58, 62]⟩ then ⟨#[93]⟩ else if t = ⟨#[60, 37]⟩ then ⟨#[123]⟩ else if t = ⟨#[37, 62]⟩ then ⟨#[125]⟩
  else if t = ⟨#[37, 58]⟩ then ⟨#[35]⟩ else if t = ⟨#[37, 58, 37, 58]⟩ then ⟨#[35, 35]⟩ else t

set_option maxRecDepth 100000 in
theorem canon_any (s : ByteArray) (w : World) : Calls Try.prog 65 #[.string s] w (PureP w fun v _ => v = .string (canP s)) := by
  refine x_fun tt_ok Try.func65 rfl rfl [] 0 [.v (.string s)] rfl rfl rfl rfl (fun b hb => by cases hb) ?_
  refine x_vc tt_ok ?_
  iterate 6
    refine x_if (fun h => ?_) (fun h => ?_)
    · have h := of_decide_eq_true h
      subst h
      refine fin1 (fun _ _ => rfl)
  refine fin1 (fun _ _ => ?_)
  simp only [decide_eq_false_iff_not] at *
  have : canP s = s := by unfold canP; simp [*]
  rw [this]; rfl
set_option maxRecDepth 100000 in
theorem canonR_any (s : ByteArray) (w : World) : Calls Try.prog 66 #[.string s] w (PureP w fun v _ => v = .string (canP s)) := by
  refine x_fun tt_ok Try.func66 rfl rfl [] 0 [.v (.string s)] rfl rfl rfl rfl (fun b hb => by cases hb) ?_
  refine x_vc tt_ok ?_
  iterate 6
    refine x_if (fun h => ?_) (fun h => ?_)
    · have h := of_decide_eq_true h
      subst h
      refine fin1 (fun _ _ => rfl)
  refine fin1 (fun _ _ => ?_)
  simp only [decide_eq_false_iff_not] at *
  have : canP s = s := by unfold canP; simp [*]
  rw [this]; rfl

/-- the class; 0: none -/
def clsV (k : Int) (t : ByteArray) : Int :=
  if k = 1 then (if kwB t = true then 1 else 2)
  else if k = 2 then (if (intV t).2.2 = 0 then 3 else if floatB t = true then 4 else 0)
  else if k = 3 then (if (charV t).2 = 0 then 5 else 0)
  else if k = 4 then (if strE t = 0 then 6 else 0)
  else if k = 5 then 7 else 0
def clsT (k : Int) (t : ByteArray) : ByteArray := if k = 5 then canP t else t
def clsA (k : Int) (t : ByteArray) : Int × ByteArray := if clsV k t = 0 then (0, ⟨#[]⟩) else (clsV k t, clsT k t)
def clsE (k : Int) (t : ByteArray) : Int := if clsV k t = 0 then 40 else 0

set_option maxRecDepth 100000 in
theorem class_any (k : Int) (s : ByteArray) (w : World) (hs : s.size ≤ 4294967280) (hg : Glob (im w)) :
    Calls Try.prog 61 #[.int .i64 k, .string s] w (PureP w fun v _ => v = .tuple #[.agg #[.int .i64 (clsA k s).1, .string (clsA k s).2], .int .i64 (clsE k s)]) := by
  refine x_fun tt_ok Try.func61 rfl rfl [] 0 [.v (.int .i64 k), .v (.string s)] rfl rfl rfl rfl (fun b hb => by cases hb) ?_
  iterate 2
    refine x_seq ?_
    refine x_vc tt_ok ?_
  refine x_cut (σ := Int × ByteArray) (fun p => ⟨[(6, .v (.int .i64 p.1)), (1, .v (.string p.2)), (4, .p 0 0), (5, .v (.int .i64 0))], [], [(0, .box 86 [.v (.int .i64 0), .v (.string ⟨#[]⟩)])], 1⟩) (fun p _ => p = (clsV k s, clsT k s)) (fun _ => Nat.le_refl _) ?_ ?_
  · refine x_vc tt_ok ?_
    refine x_if (fun h => ?_) (fun h => ?_)
    · have h : k = 1 := of_decide_eq_true h
      subst h
      refine xl_call0 (.bool (kwB s)) rfl rfl rfl rfl fn63 rfl rfl (fun E w F _ => keyword_any s w) ?_
      refine xl_go tt_ok ?_
      refine x_if (fun h => ?_) (fun h => ?_)
      · have h : kwB s = true := h
        exact meet (1, s) [] (.of rfl rfl rfl rfl rfl rfl) (Prod.ext (by unfold clsV; rw [if_pos rfl, if_pos h]) rfl)
      · have h : kwB s = false := h
        exact meet (2, s) [] (.of rfl rfl rfl rfl rfl rfl) (Prod.ext (by unfold clsV; rw [if_pos rfl, if_neg (by rw [h]; simp)]) rfl)
    · have h1 : ¬ k = 1 := of_decide_eq_false h
      refine x_if (fun h => ?_) (fun h => ?_)
      · have h : k = 2 := of_decide_eq_true h
        subst h
        refine xl_call0 (.tuple #[.int .u64 (intV s).1, .bool (intV s).2.1, .int .i64 (intV s).2.2]) rfl rfl rfl rfl fn51 rfl rfl (fun E w F _ => int_any s w (by omega)) ?_
        refine xl_go tt_ok ?_
        refine x_if (fun h => ?_) (fun h => ?_)
        · have h : (intV s).2.2 = 0 := of_decide_eq_true h
          exact meet (3, s) [] (.of rfl rfl rfl rfl rfl rfl) (Prod.ext (by unfold clsV; rw [if_neg (by omega), if_pos rfl, if_pos h]) rfl)
        · have h2 : ¬ (intV s).2.2 = 0 := of_decide_eq_false h
          refine xl_call0 (.bool (floatB s)) rfl rfl rfl rfl fn67 rfl rfl (fun E w F _ => float_any s w (by omega)) ?_
          refine xl_go tt_ok ?_
          refine x_if (fun h => ?_) (fun h => ?_)
          · have h : floatB s = true := h
            exact meet (4, s) [] (.of rfl rfl rfl rfl rfl rfl) (Prod.ext (by unfold clsV; rw [if_neg (by omega), if_pos rfl, if_neg h2, if_pos h]) rfl)
          · have h : floatB s = false := h
            exact meet (0, s) [] (.of rfl rfl rfl rfl rfl rfl) (Prod.ext (by unfold clsV; rw [if_neg (by omega), if_pos rfl, if_neg h2, if_neg (by rw [h]; simp)]) rfl)
      · have h2 : ¬ k = 2 := of_decide_eq_false h
        refine x_if (fun h => ?_) (fun h => ?_)
        · have h : k = 3 := of_decide_eq_true h
          subst h
          refine xl_call0 (.tuple #[.int .i64 (charV s).1, .int .i64 (charV s).2]) rfl rfl rfl rfl fn53 rfl rfl (fun E w F hs' => char_any s w hs (hg.imm hs'.imm)) ?_
          refine xl_go tt_ok ?_
          refine x_if (fun h => ?_) (fun h => ?_)
          · have h : (charV s).2 = 0 := of_decide_eq_true h
            exact meet (5, s) [] (.of rfl rfl rfl rfl rfl rfl) (Prod.ext (by unfold clsV; rw [if_neg (by omega), if_neg (by omega), if_pos rfl, if_pos h]) rfl)
          · have h : ¬ (charV s).2 = 0 := of_decide_eq_false h
            exact meet (0, s) [] (.of rfl rfl rfl rfl rfl rfl) (Prod.ext (by unfold clsV; rw [if_neg (by omega), if_neg (by omega), if_pos rfl, if_neg h]) rfl)
        · have h3 : ¬ k = 3 := of_decide_eq_false h
          refine x_if (fun h => ?_) (fun h => ?_)
          · have h : k = 4 := of_decide_eq_true h
            subst h
            refine xl_callO2 2 (intY.d (strL s)) [.int .i64 (strE s)] rfl rfl rfl rfl fn55 rfl rfl (fun E w F hs' => str_any s w hs (hg.imm hs'.imm)) ?_
            refine xl_go tt_ok ?_
            refine x_if (fun h => ?_) (fun h => ?_)
            · have h : strE s = 0 := of_decide_eq_true h
              exact meet (6, s) [] (.of rfl rfl rfl rfl rfl rfl) (Prod.ext (by unfold clsV; rw [if_neg (by omega), if_neg (by omega), if_neg (by omega), if_pos rfl, if_pos h]) rfl)
            · have h : ¬ strE s = 0 := of_decide_eq_false h
              exact meet (0, s) [] (.of rfl rfl rfl rfl rfl rfl) (Prod.ext (by unfold clsV; rw [if_neg (by omega), if_neg (by omega), if_neg (by omega), if_pos rfl, if_neg h]) rfl)
          · have h4 : ¬ k = 4 := of_decide_eq_false h
            refine x_if (fun h => ?_) (fun h => ?_)
            · have h : k = 5 := of_decide_eq_true h
              subst h
              refine xl_call0 (.string (canP s)) rfl rfl rfl rfl fn65 rfl rfl (fun E w F _ => canon_any s w) ?_
              refine xl_go tt_ok ?_
              exact meet (7, canP s) [] (.of rfl rfl rfl rfl rfl rfl) rfl
            · have h5 : ¬ k = 5 := of_decide_eq_false h
              exact meet (0, s) [] (.of rfl rfl rfl rfl rfl rfl) (Prod.ext (by unfold clsV; rw [if_neg h1, if_neg h2, if_neg h3, if_neg h4, if_neg h5]) (by unfold clsT; rw [if_neg h5]))
  · rintro p u1 hu1 rfl
    refine x_vc tt_ok ?_
    refine x_if (fun h => ?_) (fun h => ?_)
    · have h : clsV k s = 0 := of_decide_eq_true h
      have e1 : clsA k s = (0, ⟨#[]⟩) := by unfold clsA; rw [if_pos h]
      have e2 : clsE k s = 40 := by unfold clsE; rw [if_pos h]
      rw [e1, e2]
      exact fin1 (fun _ _ => rfl)
    · have h : ¬ clsV k s = 0 := of_decide_eq_false h
      have e1 : clsA k s = (clsV k s, clsT k s) := by unfold clsA; rw [if_neg h]
      have e2 : clsE k s = 0 := by unfold clsE; rw [if_neg h]
      rw [e1, e2]
      exact fin1 (fun _ _ => rfl)

set_option maxRecDepth 100000 in
theorem clsR_any (k : Int) (s : ByteArray) (w : World) (hs : s.size ≤ 4294967280) :
    Calls Try.prog 124 #[.int .i64 k, .string s] w (PureP w fun v _ => v = .int .i64 (clsV k s)) := by
  refine x_fun tt_ok Try.func124 rfl rfl [] 0 [.v (.int .i64 k), .v (.string s)] rfl rfl rfl rfl (fun b hb => by cases hb) ?_
  refine x_vc tt_ok ?_
  refine x_if (fun h => ?_) (fun h => ?_)
  · have h : k = 1 := of_decide_eq_true h
    subst h
    refine xl_call0 (.bool (kwB s)) rfl rfl rfl rfl fn64 rfl rfl (fun E w F _ => keywordR_any s w (by omega)) ?_
    refine xl_go tt_ok ?_
    refine x_if (fun h => ?_) (fun h => ?_)
    · have h : kwB s = true := h
      have e : clsV 1 s = 1 := by unfold clsV; rw [if_pos rfl, if_pos h]
      rw [e]
      exact fin1 (fun _ _ => rfl)
    · have h : kwB s = false := h
      have e : clsV 1 s = 2 := by unfold clsV; rw [if_pos rfl, if_neg (by rw [h]; simp)]
      rw [e]
      exact fin1 (fun _ _ => rfl)
  · have h1 : ¬ k = 1 := of_decide_eq_false h
    refine x_if (fun h => ?_) (fun h => ?_)
    · have h : k = 2 := of_decide_eq_true h
      subst h
      refine xl_call0 (.tuple #[.int .u64 (intV s).1, .bool (intV s).2.1, .int .i64 (intV s).2.2]) rfl rfl rfl rfl fn52 rfl rfl (fun E w F _ => intR_any s w (by omega)) ?_
      refine xl_go tt_ok ?_
      refine x_if (fun h => ?_) (fun h => ?_)
      · have h : (intV s).2.2 = 0 := of_decide_eq_true h
        have e : clsV 2 s = 3 := by unfold clsV; rw [if_neg (by omega), if_pos rfl, if_pos h]
        rw [e]
        exact fin1 (fun _ _ => rfl)
      · have h2 : ¬ (intV s).2.2 = 0 := of_decide_eq_false h
        refine xl_call0 (.bool (floatB s)) rfl rfl rfl rfl fn68 rfl rfl (fun E w F _ => floatR_any s w (by omega)) ?_
        refine xl_go tt_ok ?_
        refine x_if (fun h => ?_) (fun h => ?_)
        · have h : floatB s = true := h
          have e : clsV 2 s = 4 := by unfold clsV; rw [if_neg (by omega), if_pos rfl, if_neg h2, if_pos h]
          rw [e]
          exact fin1 (fun _ _ => rfl)
        · have h : floatB s = false := h
          have e : clsV 2 s = 0 := by unfold clsV; rw [if_neg (by omega), if_pos rfl, if_neg h2, if_neg (by rw [h]; simp)]
          rw [e]
          exact fin1 (fun _ _ => rfl)
    · have h2 : ¬ k = 2 := of_decide_eq_false h
      refine x_if (fun h => ?_) (fun h => ?_)
      · have h : k = 3 := of_decide_eq_true h
        subst h
        refine xl_call0 (.tuple #[.int .i64 (charV s).1, .int .i64 (charV s).2]) rfl rfl rfl rfl fn54 rfl rfl (fun E w F _ => charR_any s w hs) ?_
        refine xl_go tt_ok ?_
        refine x_if (fun h => ?_) (fun h => ?_)
        · have h : (charV s).2 = 0 := of_decide_eq_true h
          have e : clsV 3 s = 5 := by unfold clsV; rw [if_neg (by omega), if_neg (by omega), if_pos rfl, if_pos h]
          rw [e]
          exact fin1 (fun _ _ => rfl)
        · have h : ¬ (charV s).2 = 0 := of_decide_eq_false h
          have e : clsV 3 s = 0 := by unfold clsV; rw [if_neg (by omega), if_neg (by omega), if_pos rfl, if_neg h]
          rw [e]
          exact fin1 (fun _ _ => rfl)
      · have h3 : ¬ k = 3 := of_decide_eq_false h
        refine x_if (fun h => ?_) (fun h => ?_)
        · have h : k = 4 := of_decide_eq_true h
          subst h
          refine xl_callO2 2 (intY.d (strL s)) [.int .i64 (strE s)] rfl rfl rfl rfl fn56 rfl rfl (fun E w F _ => strR_any s w hs) ?_
          refine xl_go tt_ok ?_
          refine x_if (fun h => ?_) (fun h => ?_)
          · have h : strE s = 0 := of_decide_eq_true h
            have e : clsV 4 s = 6 := by unfold clsV; rw [if_neg (by omega), if_neg (by omega), if_neg (by omega), if_pos rfl, if_pos h]
            rw [e]
            exact fin1 (fun _ _ => rfl)
          · have h : ¬ strE s = 0 := of_decide_eq_false h
            have e : clsV 4 s = 0 := by unfold clsV; rw [if_neg (by omega), if_neg (by omega), if_neg (by omega), if_pos rfl, if_neg h]
            rw [e]
            exact fin1 (fun _ _ => rfl)
        · have h4 : ¬ k = 4 := of_decide_eq_false h
          refine x_if (fun h => ?_) (fun h => ?_)
          · have h : k = 5 := of_decide_eq_true h
            subst h
            exact fin1 (fun _ _ => rfl)
          · have h5 : ¬ k = 5 := of_decide_eq_false h
            have e : clsV k s = 0 := by unfold clsV; rw [if_neg h1, if_neg h2, if_neg h3, if_neg h4, if_neg h5]
            rw [e]
            exact fin1 (fun _ _ => rfl)

theorem clsT_op {k : Int} {s : ByteArray} (h0 : clsV k s ≠ 0) : clsT k s = if clsV k s = 7 then canP s else s := by
  unfold clsT
  by_cases h5 : k = 5
  · subst h5; rfl
  · rw [if_neg h5, if_neg]
    unfold clsV
    (repeat' split) <;> omega

set_option maxRecDepth 100000 in
theorem classR_any (k : Int) (s : ByteArray) (w : World) (hs : s.size ≤ 4294967280) :
    Calls Try.prog 62 #[.int .i64 k, .string s] w (PureP w fun v _ => v = .tuple #[.agg #[.int .i64 (clsA k s).1, .string (clsA k s).2], .int .i64 (clsE k s)]) := by
  refine x_fun tt_ok Try.func62 rfl rfl [] 0 [.v (.int .i64 k), .v (.string s)] rfl rfl rfl rfl (fun b hb => by cases hb) ?_
  refine x_vc tt_ok ?_
  refine xl_call0 (.int .i64 (clsV k s)) rfl rfl rfl rfl fn124 rfl rfl (fun E w F _ => clsR_any k s w hs) ?_
  refine xl_go tt_ok ?_
  refine x_if (fun h => ?_) (fun h => ?_)
  · have h : clsV k s = 0 := of_decide_eq_true h
    have e1 : clsA k s = (0, ⟨#[]⟩) := by unfold clsA; rw [if_pos h]
    have e2 : clsE k s = 40 := by unfold clsE; rw [if_pos h]
    rw [e1, e2]
    exact fin1 (fun _ _ => rfl)
  · have h : ¬ clsV k s = 0 := of_decide_eq_false h
    have e1 : clsA k s = (clsV k s, clsT k s) := by unfold clsA; rw [if_neg h]
    have e2 : clsE k s = 0 := by unfold clsE; rw [if_neg h]
    rw [e1, e2, clsT_op h]
    refine x_if (fun h2 => ?_) (fun h2 => ?_)
    · have h2 : clsV k s = 7 := of_decide_eq_true h2
      rw [if_pos h2]
      refine xl_call0 (.string (canP s)) rfl rfl rfl rfl fn66 rfl rfl (fun E w F _ => canonR_any s w) ?_
      refine xl_go tt_ok ?_
      exact fin1 (fun _ _ => rfl)
    · have h2 : ¬ clsV k s = 7 := of_decide_eq_false h2
      rw [if_neg h2]
      exact fin1 (fun _ _ => rfl)
end Go.Proofs.Ytdonomneofdhfaa
