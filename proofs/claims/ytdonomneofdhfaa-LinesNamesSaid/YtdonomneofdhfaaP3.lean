/- The characters of a text. -/
import Derived.Test.YtdonomneofdhfaaP2
namespace Go.Proofs.Ytdonomneofdhfaa
open Go.GV Go.RowKit

structure Chr where
  b : Int
  pos : Int
  len : Int

def charY : Lay Chr := ⟨[fun c => .int .u8 c.b, fun c => .int .i64 c.pos, fun c => .int .i64 c.len], ⟨0, 0, 0⟩⟩

def chrsL : List Part → List Chr
  | [] => []
  | p :: r => if p.sp then chrsL r else ⟨p.b, p.pos, p.len⟩ :: chrsL r

theorem chrsL_append (a b : List Part) : chrsL (a ++ b) = chrsL a ++ chrsL b := by
  induction a with
  | nil => rfl
  | cons p a ih => simp only [List.cons_append, chrsL]; split <;> simp [ih]

theorem take_get {α : Type} {L : List α} {k : Nat} {x : α} (h : L[k]? = some x) : L.take (k + 1) = L.take k ++ [x] := by
  obtain ⟨hk, rfl⟩ := List.getElem?_eq_some_iff.1 h
  exact (List.take_append_getElem hk).symm

theorem chrsL_len (L : List Part) : (chrsL L).length ≤ L.length := by
  induction L with
  | nil => exact Nat.le_refl _
  | cons p a ih => simp only [chrsL]; split <;> simp <;> omega

theorem partsF_len (s : ByteArray) : ∀ n i, (partsF s n i).length ≤ n
  | 0, _ => Nat.le_refl _
  | n + 1, i => by
    simp only [partsF]
    split
    · have := partsF_len s n (i + (partP s i).len); simp; omega
    · simp

theorem partsV_len (s : ByteArray) : (partsV s).length ≤ s.size := partsF_len s _ _

/-- a text's characters -/
def charsOf (s : ByteArray) : List Chr := if checkE s = 0 then chrsL (partsV s) else []

theorem checkE_size {s : ByteArray} (h : checkE s = 0) : s.size ≤ 65536 := by
  unfold checkE at h
  split at h
  · cases h
  · omega

theorem of_sub_cut {u1 u2 : Im} {n : Nat} (h : u1.sub (cut n u2)) {b : Nat} {o : Obj} (hb : u1.h b = some o) : u2.h b = some o := by
  have h9 := h.h _ _ hb
  simp only [cut] at h9
  split at h9
  · cases h9
  · exact h9

set_option maxRecDepth 100000 in
theorem chars_any (s : ByteArray) (w : World) (hs : s.size ≤ 9223372036854775807) : Calls Try.prog 102 #[.string s] w (PureP w (OwnT 136 (charY.d (charsOf s)) [.int .i64 (checkE s)])) := by
  refine x_fun tt_ok Try.func102 rfl rfl [] 0 [.v (.string s)] rfl rfl rfl rfl (fun b hb => by cases hb) ?_
  refine x_vc tt_ok ?_
  refine xl_call0 (.int .i64 (checkE s)) rfl rfl rfl rfl fn138 rfl rfl (fun E w F _ => check_any s w hs) ?_
  refine xl_go tt_ok ?_
  refine x_if (fun h => ?_) (fun h => ?_)
  · have h := of_decide_eq_true h
    have e1 : charsOf s = [] := by rw [charsOf, if_neg h]
    rw [e1]
    exact finO2n charY
  · have h : checkE s = 0 := by
      have h := of_decide_eq_false h
      exact Classical.not_not.1 h
    have hsz := checkE_size h
    have e1 : charsOf s = chrsL (partsV s) := by rw [charsOf, if_pos h]
    rw [e1]
    refine xl_make0 tt_ok charY 24 s.size rfl rfl rfl rfl rfl rfl rfl (by kernel_rfl) rfl rfl rfl (by omega) (by omega) ?_
    refine xl_go tt_ok ?_
    refine xl_call _ rfl rfl rfl rfl fn139 rfl rfl (fun E w F _ => partsFn_any s w) (fun v u1 u2 hu2 hs2 hv => ?_)
    obtain ⟨b, rfl, hb⟩ := hv
    have hb2 := of_sub_cut hs2 hb
    refine xl_go tt_ok ?_
    refine x_range (σ := List Chr) (τ := Empty) rfl fn156 (parts_iter s b u2 hb2 (by omega)) [(5, .p 1 0), (0, .v (.string s))]
      (fun L => [(1, .box 132 [.r 3]), (3, .row 136 (charY.d L))]) (fun _ => 4) (fun k L _ => L = chrsL ((partsV s).take k))
      (fun _ => []) (fun _ => 3) (fun _ e _ => False) [] [(3, some 0)] (.of rfl rfl rfl rfl rfl rfl) rfl rfl
      (fun _ => rfl) (fun _ => rfl) (fun _ => by decide) (fun _ => by decide) rfl (fun l k x L u3 Fr Fr' hx hu3 hg => ?_) (fun L u3 hu3 hg => ?_) (fun _ e u3 hu3 hg => hg.elim)
    · rw [List.getElem?_map] at hx
      obtain ⟨p, hp, rfl⟩ := Option.map_eq_some_iff.1 hx
      refine x_vc tt_ok ?_
      refine ⟨rfl, rfl, x_vc tt_ok ?_⟩
      have hk : k < (partsV s).length := (List.getElem?_eq_some_iff.1 hp).1
      have hpl := partsV_len s
      have hLl : L.length ≤ k := by rw [hg]; exact Nat.le_trans (chrsL_len _) (by rw [List.length_take]; omega)
      refine x_if (fun h1 => ?_) (fun h1 => ?_)
      · have h1 : p.sp = false := by simpa using h1
        have e : chrsL ((partsV s).take (k + 1)) = L ++ [⟨p.b, p.pos, p.len⟩] := by
          rw [take_get hp, chrsL_append, ← hg]; simp [chrsL, h1]
        refine xl_push tt_ok charY L ⟨p.b, p.pos, p.len⟩ 24 rfl rfl rfl rfl rfl rfl rfl rfl rfl rfl rfl rfl (by kernel_rfl) rfl rfl rfl rfl rfl (fun n hn => by cases hn; decide) rfl rfl rfl (by omega) (by omega) ?_
        refine xl_go tt_ok ?_
        exact ⟨_, [(3, some 5)], .of rfl rfl rfl rfl rfl rfl, e.symm⟩
      · have h1 : p.sp = true := by simpa using h1
        have e : chrsL ((partsV s).take (k + 1)) = L := by
          rw [take_get hp, chrsL_append, ← hg]; simp [chrsL, h1]
        exact ⟨L, [], .of rfl rfl rfl rfl rfl rfl, e.symm⟩
    · rw [List.length_map, List.take_length] at hg
      subst hg
      rw [h]
      exact finO2 rfl
end Go.Proofs.Ytdonomneofdhfaa
