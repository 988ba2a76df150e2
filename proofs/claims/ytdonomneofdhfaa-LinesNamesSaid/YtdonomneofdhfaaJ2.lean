/- The first example of the chapter on lines. -/
import Derived.Test.YtdonomneofdhfaaJ1
namespace Go.Proofs.Ytdonomneofdhfaa
open Go.GV Go.RowKit

/-- what a row says -/
def saysT (r : RowT) : List Tok := saysV ⟨r.dir, r.name, none, 0, 0⟩ r.ts
theorem keyT_at {V : List RowV} {R : List RowT} (hk : V.map RowV.key = R.map RowT.key) (i : Nat) : (V.getD i row0).dir = (R.getD i rowT0).dir ∧ (V.getD i row0).name = (R.getD i rowT0).name := by
  have h1 := congrArg (fun l => l[i]?) hk
  simp only [List.getElem?_map] at h1
  simp only [List.getD_eq_getElem?_getD]
  cases h3 : V[i]? with
  | none =>
    rw [h3] at h1
    cases h4 : R[i]? with
    | none => exact ⟨rfl, rfl⟩
    | some r => rw [h4] at h1; cases h1
  | some v =>
    rw [h3] at h1
    cases h4 : R[i]? with
    | none => rw [h4] at h1; cases h1
    | some r =>
      rw [h4] at h1
      simp only [Option.map_some, Option.some.injEq, RowV.key, RowT.key, Prod.mk.injEq] at h1
      exact h1
theorem says_at {V : List RowV} {R : List RowT} (hk : V.map RowV.key = R.map RowT.key) (i : Nat) : saysV (V.getD i row0) ((R.map RowT.ts).getD i []) = saysT (R.getD i rowT0) := by
  obtain ⟨h1, h2⟩ := keyT_at hk i
  rw [tsD]
  unfold saysT saysV
  rw [h1, h2]

theorem rows_ts_len (s : ByteArray) (i : Nat) : (((rowsOf (scanT s)).map RowT.ts).getD i []).length * 48 ≤ 140737488355328 := by
  rw [tsD]
  have h1 := ts_size (R := rowsOf (scanT s)) i
  have h2 := (rowsOf_size (scanT s)).1
  have h3 := scanT_len s
  omega

def exL : ByteArray := ⟨#[97, 10, 35, 100, 101, 102, 105, 110, 101, 32, 88, 10, 98, 10, 99, 10]⟩
def aliveB (R : List RowT) : Bool := decide ((R.length : Int) = 3) && decide ((if (R.length : Int) ≤ 0 then -1 else ((saysT (R.getD 0 rowT0)).length : Int)) = 1) && decide ((if (R.length : Int) ≤ 1 then -1 else ((saysT (R.getD 1 rowT0)).length : Int)) = 1) &&
  decide ((if (R.length : Int) ≤ 2 then -1 else ((saysT (R.getD 2 rowT0)).length : Int)) = 2) && (R.getD 1 rowT0).dir && decide ((R.getD 1 rowT0).name = ⟨#[100, 101, 102, 105, 110, 101]⟩) && !(R.getD 2 rowT0).dir
set_option maxRecDepth 100000 in
theorem ex_lines : aliveB (rowsOf (scanT exL)) = true := by kernel_rfl

set_option maxRecDepth 100000 in
theorem linesAlive_any (w : World) (hg : Glob (im w)) : Calls Try.prog 48 #[] w (PureP w fun v _ => v = .bool true) := by
  have hz := rows_ts_len exL
  have hex := ex_lines
  have hr := fun (w : World) (h : Glob (im w)) => rowsText_any exL w (by decide) h
  generalize rowsOf (scanT exL) = R at hz hex hr
  refine x_fun tt_ok Try.func48 rfl rfl [] 0 [] rfl rfl rfl rfl (fun b hb => by cases hb) ?_
  refine x_vc tt_ok ?_
  refine xl_callStar (fun (s : Option Addr × Nat × List RowV) => .slice s.1 R.length s.2.1) (fun s => itemsS s.2.2 R ++ [(⟨.slice s.1 R.length s.2.1, 28, rowY.d s.2.2⟩ : SI)]) (fun s => s.2.2.map RowV.key = R.map RowT.key) rfl rfl rfl rfl fn50 rfl rfl
    (fun E w F hs => hr w (hg.imm hs.imm)) (fun s hk => ?_)
  obtain ⟨A, c, V⟩ := s
  replace hk : V.map RowV.key = R.map RowT.key := hk
  have hVR : V.length = R.length := by have := congrArg List.length hk; simpa using this
  refine xl_freezeStar 0 rfl (fun u1 hu1 hfr => ?_)
  have hT : ToksAt u1 V (R.map RowT.ts) := star_toks hVR (fun p hp => (hfr p (List.mem_append_left _ hp)).1)
  have hx : SlAt u1 (.slice A R.length c) (rowY.d V) := (hfr _ (List.mem_append_right _ (List.mem_singleton.2 rfl))).1
  refine xl_sl 2 rfl hx ?_
  refine xl_go tt_ok ?_
  have hsa : ∀ (x : Value) (i : Int) (w : World), SlAt (im w) x (rowY.d V) → 0 ≤ i → Imm u1 w → Calls Try.prog 58 #[x, .int .i64 i] w (PureP w fun v _ => v = .int .i64 (if (R.length : Int) ≤ i then -1 else ((saysT (R.getD i.toNat rowT0)).length : Int))) := fun x i w hx h0 hi => by
    have := saysAt_any V (R.map RowT.ts) x i w hx (hT.sub ⟨fun b o hb => hi.h b o hb⟩) h0 hz
    rw [hVR, says_at hk] at this
    exact this
  obtain ⟨z0, hz0⟩ : ∃ z : Int, z = (if (R.length : Int) ≤ 0 then -1 else ((saysT (R.getD 0 rowT0)).length : Int)) := ⟨_, rfl⟩
  obtain ⟨z1, hz1⟩ : ∃ z : Int, z = (if (R.length : Int) ≤ 1 then -1 else ((saysT (R.getD 1 rowT0)).length : Int)) := ⟨_, rfl⟩
  obtain ⟨z2, hz2⟩ : ∃ z : Int, z = (if (R.length : Int) ≤ 2 then -1 else ((saysT (R.getD 2 rowT0)).length : Int)) := ⟨_, rfl⟩
  refine xl_gcall0 (.int .i64 z0) rfl rfl rfl rfl fn58 rfl rfl (fun _ E w F hs => by rw [hz0]; exact hsa _ 0 w (hs.slAt (k := 1) rfl) (by decide) hs.imm) ?_
  refine xl_go tt_ok ?_
  refine xl_gcall0 (.int .i64 z1) rfl rfl rfl rfl fn58 rfl rfl (fun _ E w F hs => by rw [hz1]; exact hsa _ 1 w (hs.slAt (k := 1) rfl) (by decide) hs.imm) ?_
  refine xl_go tt_ok ?_
  refine xl_gcall0 (.int .i64 z2) rfl rfl rfl rfl fn58 rfl rfl (fun _ E w F hs => by rw [hz2]; exact hsa _ 2 w (hs.slAt (k := 1) rfl) (by decide) hs.imm) ?_
  refine xl_go tt_ok ?_
  repeat (refine And.intro ?_ ?_; first | omega | (simp only [Lay.d_n]; omega) | (simp only [decide_eq_true_eq, decide_eq_false_iff_not, Bool.or_eq_false_iff, Bool.and_eq_true, Bool.or_eq_true, Bool.and_eq_false_iff, Bool.not_eq_true', Bool.not_eq_false', Lay.d_n]; omega) | (simp only [decide_eq_true_eq, decide_eq_false_iff_not, Bool.or_eq_false_iff, Bool.and_eq_true, Bool.or_eq_true, Bool.and_eq_false_iff, Bool.not_eq_true', Bool.not_eq_false']; omega))
  refine fin1 (fun _ _ => ?_)
  obtain ⟨k1, k2⟩ := keyT_at hk 1
  obtain ⟨k3, k4⟩ := keyT_at hk 2
  show Value.bool (decide ((V.length : Int) = 3) && decide (z0 = 1) && decide (z1 = 1) && decide (z2 = 2) && (V.getD 1 row0).dir && decide ((V.getD 1 row0).name = ⟨#[100, 101, 102, 105, 110, 101]⟩) && !(V.getD 2 row0).dir) = _
  rw [k1, k2, k3, hz0, hz1, hz2, hVR]
  exact congrArg Value.bool hex
end Go.Proofs.Ytdonomneofdhfaa
