/- Rows of tokens, and a copy of them in memory of its own. -/
import Derived.Test.YtebnccdegjdfiaaB2
import Derived.Test.YtebnccdegjdfiaaGW
namespace Go.Proofs.Ytebnccdegjdfiaa
open Go.GV Go.RowKit

theorem tokOne : ∀ x : Tok, ∀ y ∈ tokY.el x, oneB y = true := by
  intro x y hy
  simp [Lay.el] at hy
  rcases hy with rfl | rfl | rfl | rfl | rfl <;> rfl

structure RowV where
  dir : Bool
  name : ByteArray
  ta : Option Addr
  tn : Nat
  tc : Nat

def row0 : RowV := ⟨false, ⟨#[]⟩, none, 0, 0⟩
abbrev rowY : Lay RowV := ⟨[fun r => .bool r.dir, fun r => .string r.name, fun r => .slice r.ta r.tn r.tc], row0⟩
def RowV.toks (r : RowV) : Value := .slice r.ta r.tn r.tc
def RowV.key (r : RowV) : Bool × ByteArray := (r.dir, r.name)

/-- what the rows' tokens are -/
def ToksAt (u : Im) (L : List RowV) (T : List (List Tok)) : Prop := L.length = T.length ∧ ∀ i : Nat, i < L.length → SlAt u (L.getD i row0).toks (tokY.d (T.getD i []))

theorem ToksAt.sub {u u' : Im} {L : List RowV} {T : List (List Tok)} (h : ToksAt u L T) (hu : u.sub u') : ToksAt u' L T := ⟨h.1, fun i hi => (h.2 i hi).sub hu⟩

theorem ToksAt.push {u : Im} {L : List RowV} {T : List (List Tok)} {r : RowV} {t : List Tok} (h : ToksAt u L T) (hr : SlAt u r.toks (tokY.d t)) : ToksAt u (L ++ [r]) (T ++ [t]) := by
  refine ⟨by simp [h.1], fun i hi => ?_⟩
  simp only [List.length_append, List.length_cons, List.length_nil] at hi
  simp only [List.getD_eq_getElem?_getD]
  rcases Nat.lt_or_ge i L.length with hlt | hge
  · rw [List.getElem?_append_left hlt, List.getElem?_append_left (by rw [← h.1]; exact hlt)]
    have := h.2 i hlt
    simpa only [List.getD_eq_getElem?_getD] using this
  · have e : i = L.length := by omega
    have e2 : i = T.length := by rw [← h.1]; exact e
    rw [show (L ++ [r])[i]? = some r by subst e; simp, show (T ++ [t])[i]? = some t by subst e2; simp]
    exact hr

theorem take_succ_getD {α : Type} {L : List α} {i : Int} {d : α} (h0 : 0 ≤ i) (hl : i < L.length) : L.take (i + 1).toNat = L.take i.toNat ++ [L.getD i.toNat d] := by
  have e : (i + 1).toNat = i.toNat + 1 := by omega
  have h1 : i.toNat < L.length := by omega
  rw [e, List.take_succ_eq_append_getElem h1, List.getD_eq_getElem?_getD, List.getElem?_eq_getElem h1]
  rfl

set_option maxRecDepth 100000 in
theorem twin_any (L : List RowV) (T : List (List Tok)) (x : Value) (w : World) (hx : SlAt (im w) x (rowY.d L)) (hT : ToksAt (im w) L T) (hL : L.length * 48 ≤ 140737488355328)
    (hTL : ∀ i : Nat, (T.getD i []).length * 48 ≤ 140737488355328) :
    Calls Try.prog 18 #[x] w (PureP w fun v u => ∃ L', SlAt u v (rowY.d L') ∧ ToksAt u L' T ∧ L'.map RowV.key = L.map RowV.key) := by
  refine x_fun tt_ok Try.func18 rfl rfl [(x, rowY.d L)] 1 [.r 0] rfl rfl rfl rfl (fun b hb => by simp at hb; subst hb; exact hx) ?_
  refine x_vc tt_ok ?_
  refine x_nil 3 43 rowY rfl ?_
  refine x_loop (σ := Int × List RowV) (fun (i, out) => ⟨[(4, .v (.int .i64 i)), (0, .r 0), (3, .r 2)], [], [(0, .sl (rowY.d L)), (2, .row 43 (rowY.d out))], 3⟩)
    (fun (i, out) u => 0 ≤ i ∧ i ≤ L.length ∧ out.length = i.toNat ∧ out.map RowV.key = (L.map RowV.key).take i.toNat ∧ ToksAt (cut w.heap.size u) out (T.take i.toNat)) (fun (i, _) => (L.length - i).toNat) (fun (_, _) => by simp only; omega) (0, []) [(2, some 1)] (.of rfl rfl rfl rfl rfl rfl)
    ⟨by omega, by simp, by simp, by simp, by simp [ToksAt]⟩ ?_
  rintro ⟨i, out⟩ u hu ⟨g1, g2, g3, g4, g5⟩
  refine x_vc tt_ok ?_
  refine x_if (fun h => ?_) (fun h => ?_)
  · have h2 : i < L.length := of_decide_eq_true h
    repeat (refine And.intro ?_ ?_; first | omega | (simp [Lay.d] <;> omega))
    refine x_drawA mix ?_
    refine xa_phase tt_ok (fuel := 3) [0, 1, 2, 3, 4, 5, 6] rfl (by kernel_rfl) (by kernel_rfl) (by kernel_rfl) (by kernel_rfl) (xd_go tt_ok ?_)
    repeat (refine And.intro ?_ ?_; first | omega | (simp [Lay.d] <;> omega))
    refine xa_one 7 (by kernel_rfl) rfl ?_
    refine xl_nil 18 26 tokY rfl ?_
    refine xl_append tt_ok tokY [] (T.getD i.toNat []) 48 rfl rfl rfl rfl rfl rfl rfl rfl (by kernel_rfl) rfl rfl rfl (fun E w F hs => ?_) tokOne rfl ?_ ?_ ?_
    · exact ((hT.2 i.toNat (by omega)).le hu).imm hs.imm
    · have := hTL i.toNat; simp only [List.length_nil]; omega
    · have := hTL i.toNat; simp only [List.length_nil]; omega
    refine xl_freezeN 5 rfl (fun A c u' hu1 hsl hA => ?_)
    refine xl_end ?_
    refine xa_one 8 (by kernel_rfl) rfl (xl_go tt_ok ?_)
    refine xa_one 9 (by kernel_rfl) rfl (xl_go tt_ok ?_)
    refine xa_done (by kernel_rfl) rfl ?_
    refine xl_go tt_ok ?_
    refine xl_push tt_ok rowY out { L.getD i.toNat row0 with ta := A, tn := (tokY.d ([] ++ T.getD i.toNat [])).n, tc := c } 48 rfl rfl rfl rfl rfl rfl rfl rfl rfl rfl rfl rfl (by kernel_rfl) rfl rfl rfl rfl rfl (fun n hn => by cases hn; decide) rfl rfl rfl (by omega) (by omega) ?_
    refine xl_go tt_ok ?_
    repeat (refine And.intro ?_ ?_; first | omega | (simp [Lay.d] <;> omega))
    refine again (i + 1, out ++ [{ L.getD i.toNat row0 with ta := A, tn := (tokY.d ([] ++ T.getD i.toNat [])).n, tc := c }]) [(2, some 6)] (.of rfl rfl rfl rfl rfl rfl) ⟨by omega, by omega, by simp; omega, ?_, ?_⟩ (by simp only; omega)
    · rw [take_succ_getD (d := row0.key) g1 (by simpa using h2), List.map_append, g4]
      simp [RowV.key, List.getD_eq_getElem?_getD]
      have h1 : i.toNat < L.length := by omega
      rw [List.getElem?_eq_getElem h1]; rfl
    · rw [take_succ_getD (d := []) g1 (by rw [← hT.1]; exact h2)]
      exact (g5.sub (hu1.cut _)).push (hsl.newer hA hu)
  · have h2 : i = L.length := by
      have h3 : ¬ (i < (L.length : Int)) := of_decide_eq_false h
      omega
    rw [List.take_of_length_le (by simp; omega)] at g4
    rw [List.take_of_length_le (by rw [← hT.1]; omega)] at g5
    exact finP fun E w' F hs hu' => ⟨out, (hs.rowOwn rfl hu').slAt, g5.sub (hs.imm.cutLe _), g4⟩
end Go.Proofs.Ytebnccdegjdfiaa
