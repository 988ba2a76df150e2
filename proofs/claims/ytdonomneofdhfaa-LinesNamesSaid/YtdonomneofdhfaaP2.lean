/- parts, and whether a text ends well. -/
import Derived.Test.YtdonomneofdhfaaP1
namespace Go.Proofs.Ytdonomneofdhfaa
open Go.GV Go.RowKit

def PartsFn (s : ByteArray) (v : Value) (u : Im) : Prop := ∃ b, v = .func (.func 156) #[] #[.pointer (some ⟨b, 0, none⟩)] ∧ u.h b = some (.cells #[.string s] 9 (0, 0))

set_option maxRecDepth 100000 in
theorem partsFn_any (s : ByteArray) (w : World) : Calls Try.prog 139 #[.string s] w (PureP w (PartsFn s)) := by
  refine x_fun tt_ok Try.func139 rfl rfl [] 0 [.v (.string s)] rfl rfl rfl rfl (fun b hb => by cases hb) ?_
  refine x_vc tt_ok ?_
  refine finP (fun E w' F hs hu => ?_)
  obtain ⟨b, h1, h2⟩ := hs.boxNew (k := 0) rfl hu
  refine ⟨b, ?_, h2⟩
  simp [SV.den, tupV, ptrOf, h1]

theorem partsF_mem (s : ByteArray) {p : Part} : ∀ {n i}, 0 ≤ i → p ∈ partsF s n i → i ≤ p.pos ∧ p.pos < s.size ∧ p = partP s p.pos
  | 0, _, _, h => by cases h
  | n + 1, i, h0, h => by
    simp only [partsF] at h
    split at h
    · rename_i hi
      rcases List.mem_cons.1 h with rfl | h
      · rw [partP_pos]; exact ⟨Int.le_refl _, hi, rfl⟩
      · have hl := (partP_len s h0 hi).1
        have := partsF_mem s (n := n) (by omega) h
        exact ⟨by omega, this.2⟩
    · cases h

theorem partsV_mem {s : ByteArray} {p : Part} (h : p ∈ partsV s) : 0 ≤ p.pos ∧ p.pos < s.size ∧ 1 ≤ p.len ∧ p.pos + p.len ≤ s.size ∧ p = partP s p.pos := by
  obtain ⟨h1, h2, h3⟩ := partsF_mem s (Int.le_refl 0) h
  have := partP_len s h1 h2
  rw [← h3] at this
  exact ⟨h1, h2, this.1, this.2, h3⟩

theorem drop_get {α : Type} {L : List α} {k : Nat} {x : α} (h : L[k]? = some x) : L.drop k = x :: L.drop (k + 1) := by
  obtain ⟨hk, rfl⟩ := List.getElem?_eq_some_iff.1 h
  exact List.drop_eq_getElem_cons hk

def checkL (n : Int) : List Part → Int
  | [] => 0
  | p :: r => if p.pos + p.len = n then (if p.sp || decide (p.b ≠ 10) then 10 else 0) else checkL n r

def checkE (s : ByteArray) : Int := if 65536 < s.size then 3 else checkL s.size (partsV s)

set_option maxRecDepth 100000 in
theorem check_any (s : ByteArray) (w : World) (hs : s.size ≤ 9223372036854775807) : Calls Try.prog 138 #[.string s] w (PureP w fun v _ => v = .int .i64 (checkE s)) := by
  refine x_fun tt_ok Try.func138 rfl rfl [] 0 [.v (.string s)] rfl rfl rfl rfl (fun b hb => by cases hb) ?_
  refine x_vc tt_ok ?_
  repeat (refine And.intro ?_ ?_; first | omega | (simp <;> omega))
  refine x_if (fun h => ?_) (fun h => ?_)
  · have h := of_decide_eq_true h
    refine fin1 (fun _ _ => ?_)
    rw [checkE, if_pos (by omega)]; rfl
  · have h := of_decide_eq_false h
    have e0 : checkE s = checkL s.size (partsV s) := by rw [checkE, if_neg (by omega)]
    refine xl_call _ rfl rfl rfl rfl fn139 rfl rfl (fun E w F _ => partsFn_any s w) (fun v u1 u2 hu2 hs2 hv => ?_)
    obtain ⟨b, rfl, hb⟩ := hv
    refine xl_go tt_ok ?_
    have hb2 : u2.h b = some (.cells #[.string s] 9 (0, 0)) := by
      have h9 := hs2.h _ _ hb
      simp only [cut] at h9
      split at h9
      · cases h9
      · exact h9
    refine x_range (σ := Unit) (τ := Int) rfl fn156 (parts_iter s b u2 hb2 (by omega)) [(3, .p 1 0), (2, .v (.int .i64 0)), (1, .p 0 0), (0, .v (.string s))]
      (fun _ => [(0, .box 9 [.v (.string s)]), (1, .box 37 [.v (.int .i64 0)])]) (fun _ => 3) (fun k _ _ => checkL s.size (partsV s) = checkL s.size ((partsV s).drop k))
      (fun v => [(0, .box 9 [.v (.string s)]), (1, .box 37 [.v (.int .i64 v)])]) (fun _ => 3) (fun v e _ => e = .exit 0 ∧ checkL s.size (partsV s) = v) () [] (.of rfl rfl rfl rfl rfl rfl) rfl rfl
      (fun _ => rfl) (fun _ => rfl) (fun _ => by decide) (fun _ => by decide) rfl (fun l k x _ u3 Fr Fr' hx hu3 hg => ?_) (fun _ u3 hu3 hg => ?_) (fun _ e u3 hu3 hg => ?_)
    · rw [List.getElem?_map] at hx
      obtain ⟨p, hp, rfl⟩ := Option.map_eq_some_iff.1 hx
      obtain ⟨q0, q1, q2, q3, q4⟩ := partsV_mem (List.mem_of_getElem? hp)
      rw [drop_get hp, checkL] at hg
      refine x_vc tt_ok ?_
      refine ⟨rfl, rfl, x_vc tt_ok ?_⟩
      refine x_draw mix (by kernel_rfl) (xd_go tt_ok ?_)
      refine xd_call0 (.int .i64 (p.pos + p.len)) rfl rfl rfl rfl fn155 rfl rfl (fun _ E w F _ => end_any p w q0 (by omega) (by omega)) ?_
      refine xd_go tt_ok ?_
      refine x_if (fun h1 => ?_) (fun h1 => ?_)
      · rw [if_pos (of_decide_eq_true h1)] at hg
        refine x_if (fun h2 => ?_) (fun h2 => ?_)
        · rw [if_pos h2] at hg
          exact ⟨10, [], .of rfl rfl rfl rfl rfl rfl, rfl, hg⟩
        · rw [if_neg (by rw [h2]; simp)] at hg
          exact ⟨0, [], .of rfl rfl rfl rfl rfl rfl, rfl, hg⟩
      · rw [if_neg (of_decide_eq_false h1)] at hg
        refine ⟨(), [], .of rfl rfl rfl rfl rfl rfl, hg⟩
    · rw [List.length_map, List.drop_length, checkL] at hg
      refine fin1 (fun _ _ => ?_)
      rw [e0, hg]; rfl
    · obtain ⟨rfl, hg⟩ := hg
      refine fin1 (fun _ _ => ?_)
      rw [e0, hg]; rfl
end Go.Proofs.Ytdonomneofdhfaa
