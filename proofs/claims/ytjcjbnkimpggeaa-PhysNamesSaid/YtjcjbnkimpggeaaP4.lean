/- The splices of a text. -/
import Derived.Test.YtjcjbnkimpggeaaP3
namespace Go.Proofs.Ytjcjbnkimpggeaa
open Go.GV Go.RowKit

structure Spn where
  pos : Int
  fin : Int

def spanY : Lay Spn := ⟨[fun c => .int .i64 c.pos, fun c => .int .i64 c.fin], ⟨0, 0⟩⟩

def spnsL : List Part → List Spn
  | [] => []
  | p :: r => if p.sp then ⟨p.pos, p.pos + p.len⟩ :: spnsL r else spnsL r

theorem spnsL_append (a b : List Part) : spnsL (a ++ b) = spnsL a ++ spnsL b := by
  induction a with
  | nil => rfl
  | cons p a ih => simp only [List.cons_append, spnsL]; split <;> simp [ih]

theorem spnsL_len (L : List Part) : (spnsL L).length ≤ L.length := by
  induction L with
  | nil => exact Nat.le_refl _
  | cons p a ih => simp only [spnsL]; split <;> simp <;> omega

def splicesOf (s : ByteArray) : List Spn := if checkE s = 0 then spnsL (partsV s) else []

set_option maxRecDepth 100000 in
theorem splices_any (s : ByteArray) (w : World) (hs : s.size ≤ 9223372036854775807) : Calls Try.prog 19 #[.string s] w (PureP w (OwnT 50 (spanY.d (splicesOf s)) [.int .i64 (checkE s)])) := by
  refine x_fun tt_ok Try.func19 rfl rfl [] 0 [.v (.string s)] rfl rfl rfl rfl (fun b hb => by cases hb) ?_
  refine x_vc tt_ok ?_
  refine xl_call0 (.int .i64 (checkE s)) rfl rfl rfl rfl fn21 rfl rfl (fun E w F _ => check_any s w hs) ?_
  refine xl_go tt_ok ?_
  refine x_if (fun h => ?_) (fun h => ?_)
  · have h := of_decide_eq_true h
    have e1 : splicesOf s = [] := by rw [splicesOf, if_neg h]
    rw [e1]
    exact finO2n spanY
  · have h : checkE s = 0 := by
      have h := of_decide_eq_false h
      exact Classical.not_not.1 h
    have hsz := checkE_size h
    have e1 : splicesOf s = spnsL (partsV s) := by rw [splicesOf, if_pos h]
    rw [e1]
    refine xl_call _ rfl rfl rfl rfl fn31 rfl rfl (fun E w F _ => partsFn_any s w) (fun v u1 u2 hu2 hs2 hv => ?_)
    obtain ⟨b, rfl, hb⟩ := hv
    have hb2 := of_sub_cut hs2 hb
    refine xl_go tt_ok ?_
    refine x_nilCell 0 50 spanY [] [] rfl ?_
    trace_state
    refine x_range (σ := List Spn) (τ := Empty) rfl fn35 (parts_iter s b u2 hb2 (by omega)) [(5, .p 0 0), (0, .v (.string s))]
      (fun L => [(0, .box 40 [.r 3]), (3, .row 50 (spanY.d L))]) (fun _ => 4) (fun k L _ => L = spnsL ((partsV s).take k))
      (fun _ => []) (fun _ => 3) (fun _ e _ => False) [] [(3, some 1)] (.of rfl rfl rfl rfl rfl rfl) rfl rfl
      (fun _ => rfl) (fun _ => rfl) (fun _ => by decide) (fun _ => by decide) rfl (fun l k x L u3 Fr Fr' hx hu3 hg => ?_) (fun L u3 hu3 hg => ?_) (fun _ e u3 hu3 hg => hg.elim)
    · rw [List.getElem?_map] at hx
      obtain ⟨p, hp, rfl⟩ := Option.map_eq_some_iff.1 hx
      refine x_vc tt_ok ?_
      refine ⟨rfl, rfl, x_vc tt_ok ?_⟩
      have hk : k < (partsV s).length := (List.getElem?_eq_some_iff.1 hp).1
      obtain ⟨q0, q1, q2, q3, q4⟩ := partsV_mem (List.mem_of_getElem? hp)
      have hpl := partsV_len s
      have hLl : L.length ≤ k := by rw [hg]; exact Nat.le_trans (spnsL_len _) (by rw [List.length_take]; omega)
      refine x_if (fun h1 => ?_) (fun h1 => ?_)
      · have h1 : p.sp = true := h1
        have e : spnsL ((partsV s).take (k + 1)) = L ++ [⟨p.pos, p.pos + p.len⟩] := by
          rw [take_get hp, spnsL_append, ← hg]; simp [spnsL, h1]
        refine x_drawA mix ?_
        refine xa_late tt_ok (fuel := 3) 0 [1, 2, 3, 4, 5, 6] rfl rfl rfl (by kernel_rfl) (by kernel_rfl) (by kernel_rfl) (by kernel_rfl) (by kernel_rfl) (xd_go tt_ok ?_)
        refine xd_call0 (.int .i64 (p.pos + p.len)) rfl rfl rfl rfl fn33 rfl rfl (fun _ E w F _ => end_any p w q0 (by omega) (by omega)) ?_
        refine xd_go tt_ok ?_
        refine ⟨rfl, ?_, ?_⟩
        · refine xa_chain (fuel := 1) [7, 8] rfl rfl (by kernel_rfl) ?_
          refine xl_push tt_ok spanY L ⟨p.pos, p.pos + p.len⟩ 16 rfl rfl rfl rfl rfl rfl rfl rfl rfl rfl rfl rfl (by kernel_rfl) rfl rfl rfl rfl rfl (fun n hn => by cases hn; decide) rfl rfl rfl (by omega) (by omega) ?_
          refine xl_end ?_
          refine xa_one 9 (by kernel_rfl) rfl (xl_go tt_ok ?_)
          refine xa_done (by kernel_rfl) rfl ?_
          exact ⟨_, [(3, some 5)], .of rfl rfl rfl rfl rfl rfl, e.symm⟩
        · refine xa_two 0 7 (by kernel_rfl) rfl rfl (xl_go tt_ok ?_) ?_
          · refine xa_chain (fuel := 1) [7, 8] rfl rfl (by kernel_rfl) ?_
            refine xl_push tt_ok spanY L ⟨p.pos, p.pos + p.len⟩ 16 rfl rfl rfl rfl rfl rfl rfl rfl rfl rfl rfl rfl (by kernel_rfl) rfl rfl rfl rfl rfl (fun n hn => by cases hn; decide) rfl rfl rfl (by omega) (by omega) ?_
            refine xl_end ?_
            refine xa_one 9 (by kernel_rfl) rfl (xl_go tt_ok ?_)
            refine xa_done (by kernel_rfl) rfl ?_
            exact ⟨_, [(3, some 5)], .of rfl rfl rfl rfl rfl rfl, e.symm⟩
          · refine xl_build tt_ok spanY [⟨p.pos, p.pos + p.len⟩] [_] rfl rfl rfl rfl rfl rfl rfl rfl rfl rfl rfl rfl rfl rfl rfl ?_
            refine xl_end ?_
            refine xa_one 0 (by kernel_rfl) rfl (xl_go tt_ok ?_)
            refine xa_one 8 (by kernel_rfl) rfl ?_
            refine xl_append tt_ok spanY L [⟨p.pos, p.pos + p.len⟩] 16 rfl rfl rfl rfl rfl rfl rfl rfl (by kernel_rfl) rfl rfl rfl (fun E w F hs => hs.rowAt (k := 5) rfl) ?_ rfl (by simp only [List.length_singleton]; omega) (by simp only [List.length_singleton]; omega) ?_
            · intro x y hy
              simp [spanY, Lay.el] at hy
              rcases hy with rfl | rfl <;> rfl
            refine xl_end ?_
            refine xa_one 9 (by kernel_rfl) rfl (xl_go tt_ok ?_)
            refine xa_done (by kernel_rfl) rfl ?_
            exact ⟨_, [(3, some 6)], .of rfl rfl rfl rfl rfl rfl, e.symm⟩
      · have h1 : p.sp = false := h1
        have e : spnsL ((partsV s).take (k + 1)) = L := by
          rw [take_get hp, spnsL_append, ← hg]; simp [spnsL, h1]
        exact ⟨L, [], .of rfl rfl rfl rfl rfl rfl, e.symm⟩
    · rw [List.length_map, List.take_length] at hg
      subst hg
      rw [h]
      exact finO2 rfl
end Go.Proofs.Ytjcjbnkimpggeaa
