/- The logical text of a text. -/
import Derived.Test.YtjcjbnkimpggeaaP4
import Derived.Test.YtjcjbnkimpggeaaS3
namespace Go.Proofs.Ytjcjbnkimpggeaa
open Go.GV Go.RowKit

def bytesL : List Part → List UInt8
  | [] => []
  | p :: r => if p.sp then bytesL r else UInt8.ofNat p.b.toNat :: bytesL r

theorem bytesL_append (a b : List Part) : bytesL (a ++ b) = bytesL a ++ bytesL b := by
  induction a with
  | nil => rfl
  | cons p a ih => simp only [List.cons_append, bytesL]; split <;> simp [ih]

theorem bytesL_len (L : List Part) : (bytesL L).length ≤ L.length := by
  induction L with
  | nil => exact Nat.le_refl _
  | cons p a ih => simp only [bytesL]; split <;> simp <;> omega

theorem third_range (c : Int) : 0 ≤ third c ∧ third c ≤ 255 := by unfold third; (repeat' split) <;> omega

theorem chB_range (s : ByteArray) (i : Int) : 0 ≤ chB s i ∧ chB s i ≤ 255 := by
  unfold chB
  split
  · exact third_range _
  · exact bt_range s i

theorem partP_b (s : ByteArray) (i : Int) : 0 ≤ (partP s i).b ∧ (partP s i).b ≤ 255 := by
  unfold partP
  split
  · exact ⟨Int.le_refl _, by show (0 : Int) ≤ 255; decide⟩
  · exact chB_range s i

theorem u8_back {b : Int} (h0 : 0 ≤ b) (h1 : b ≤ 255) : ((UInt8.ofNat b.toNat).toNat : Int) = b := by
  rw [UInt8.toNat_ofNat']
  have : b.toNat % 2 ^ 8 = b.toNat := Nat.mod_eq_of_lt (by omega)
  rw [this]; omega

theorem partsF_last (s : ByteArray) : ∀ (n : Nat) (i : Int), 0 ≤ i → i < s.size → s.size - i ≤ n → ∃ p ∈ partsF s n i, p.pos + p.len = s.size
  | 0, i, _, h1, h2 => by omega
  | n + 1, i, h0, h1, h2 => by
    simp only [partsF]
    rw [if_pos h1]
    have hl := partP_len s h0 h1
    by_cases h3 : i + (partP s i).len < s.size
    · obtain ⟨p, hp, e⟩ := partsF_last s n (i + (partP s i).len) (by omega) h3 (by omega)
      exact ⟨p, List.mem_cons_of_mem _ hp, e⟩
    · exact ⟨partP s i, List.mem_cons_self .., by rw [partP_pos]; omega⟩

theorem checkL_zero {n : Int} : ∀ {L : List Part}, checkL n L = 0 → (∃ p ∈ L, p.pos + p.len = n) → ∃ p ∈ L, p.sp = false ∧ p.b = 10 ∧ p.pos + p.len = n
  | [], _, ⟨p, hp, _⟩ => by cases hp
  | q :: L, h, ⟨p, hp, e⟩ => by
    simp only [checkL] at h
    split at h
    · rename_i hq
      refine ⟨q, List.mem_cons_self .., ?_⟩
      cases hs : q.sp
      · rw [hs] at h
        by_cases hb : q.b = 10
        · exact ⟨rfl, hb, hq⟩
        · rw [if_pos (by simp [hb])] at h; cases h
      · rw [hs] at h; cases h
    · rename_i hq
      rcases List.mem_cons.1 hp with rfl | hp
      · exact absurd e hq
      · obtain ⟨p', h1, h2⟩ := checkL_zero h ⟨p, hp, e⟩
        exact ⟨p', List.mem_cons_of_mem _ h1, h2⟩

theorem bytesL_mem {L : List Part} {p : Part} (hp : p ∈ L) (h : p.sp = false) : bytesL L ≠ [] := by
  induction L with
  | nil => cases hp
  | cons q L ih =>
    simp only [bytesL]
    rcases List.mem_cons.1 hp with rfl | hp
    · rw [if_neg (by rw [h]; simp)]; simp
    · split
      · exact ih hp
      · simp

theorem bytes_ne {s : ByteArray} (h : checkE s = 0) (h0 : s.size ≠ 0) : bytesL (partsV s) ≠ [] := by
  have hsz := checkE_size h
  have e : checkL s.size (partsV s) = 0 := by rw [checkE, if_neg (by omega)] at h; exact h
  obtain ⟨p, hp, h1, _⟩ := checkL_zero e (partsF_last s s.size 0 (Int.le_refl _) (by omega) (by omega))
  exact bytesL_mem hp h1

def logicalOf (s : ByteArray) : ByteArray := if checkE s = 0 then ⟨(bytesL (partsV s)).toArray⟩ else ⟨#[]⟩

set_option maxRecDepth 100000 in
theorem logical_any (s : ByteArray) (w : World) (hs : s.size ≤ 9223372036854775807) : Calls Try.prog 16 #[.string s] w (PureP w fun v _ => v = .tuple #[.string (logicalOf s), .int .i64 (checkE s)]) := by
  refine x_fun tt_ok Try.func16 rfl rfl [] 0 [.v (.string s)] rfl rfl rfl rfl (fun b hb => by cases hb) ?_
  refine x_vc tt_ok ?_
  refine xl_call0 (.int .i64 (checkE s)) rfl rfl rfl rfl fn21 rfl rfl (fun E w F _ => check_any s w hs) ?_
  refine xl_go tt_ok ?_
  refine x_if (fun h => ?_) (fun h => ?_)
  · have h := of_decide_eq_true h
    have e1 : logicalOf s = ⟨#[]⟩ := by rw [logicalOf, if_neg h]
    refine fin1 (fun _ _ => ?_)
    rw [e1]; rfl
  · have h : checkE s = 0 := by
      have h := of_decide_eq_false h
      exact Classical.not_not.1 h
    have hsz := checkE_size h
    have e1 : logicalOf s = ⟨(bytesL (partsV s)).toArray⟩ := by rw [logicalOf, if_pos h]
    rw [e1]
    refine xl_call _ rfl rfl rfl rfl fn31 rfl rfl (fun E w F _ => partsFn_any s w) (fun v u1 u2 hu2 hs2 hv => ?_)
    obtain ⟨b, rfl, hb⟩ := hv
    have hb2 := of_sub_cut hs2 hb
    refine xl_go tt_ok ?_
    by_cases h0 : s.size = 0
    · have hp0 : partsV s = [] := List.length_eq_zero_iff.1 (by have := partsV_len s; omega)
      refine x_range (σ := Unit) (τ := Empty) rfl fn35 (parts_iter s b u2 hb2 (by omega)) [(5, .p 0 0), (0, .v (.string s))]
        (fun _ => [(0, .box 55 [.v (.pointer none), .v (.slice none 0 0)])]) (fun _ => 3) (fun k L _ => True)
        (fun _ => []) (fun _ => 3) (fun _ e _ => False) () [] (.of rfl rfl rfl rfl rfl rfl) trivial rfl
        (fun _ => rfl) (fun _ => rfl) (fun _ => by decide) (fun _ => by decide) rfl (fun l k x L u3 Fr Fr' hx hu3 hg => ?_) (fun L u3 hu3 hg => ?_) (fun _ e u3 hu3 hg => hg.elim)
      · rw [hp0] at hx; cases hx
      · refine xl_callSC stringNil_sc (fun _ _ _ _ => trivial) trivial [0] rfl rfl rfl rfl fn29 rfl rfl rfl rfl rfl rfl rfl (fun _ => rfl) (fun _ u2 hu2 _ => ?_)
        refine xl_go tt_ok ?_
        refine fin1 (fun _ _ => ?_)
        rw [h, hp0]; rfl
    · refine x_nilCell 0 5 byteY [.v (.pointer none)] [] rfl ?_
      refine x_range (σ := Bool × List UInt8) (τ := Empty) rfl fn35 (parts_iter s b u2 hb2 (by omega)) [(5, .p 0 0), (0, .v (.string s))]
        (fun (us, L) => [(0, .box 55 [bAddr us, .r 3]), (3, .row 5 (byteY.d L))]) (fun _ => 4) (fun k (_, L) _ => L = bytesL ((partsV s).take k))
        (fun _ => []) (fun _ => 3) (fun _ e _ => False) (false, []) [(3, some 1)] (.of rfl rfl rfl rfl rfl rfl) rfl rfl
        (fun _ => rfl) (fun _ => rfl) (fun _ => of_decide_eq_true rfl) (fun _ => by decide) rfl (fun l k x sg u3 Fr Fr' hx hu3 hg => ?_) (fun sg u3 hu3 hg => ?_) (fun _ e u3 hu3 hg => hg.elim)
      · obtain ⟨us, L⟩ := sg
        rw [List.getElem?_map] at hx
        obtain ⟨p, hp, rfl⟩ := Option.map_eq_some_iff.1 hx
        refine x_vc tt_ok ?_
        refine ⟨rfl, rfl, x_vc tt_ok ?_⟩
        have hk : k < (partsV s).length := (List.getElem?_eq_some_iff.1 hp).1
        obtain ⟨q0, q1, q2, q3, q4⟩ := partsV_mem (List.mem_of_getElem? hp)
        have hpb := partP_b s p.pos
        rw [← q4] at hpb
        have hpl := partsV_len s
        simp only at hg
        have hLl : L.length ≤ k := by rw [hg]; exact Nat.le_trans (bytesL_len _) (by rw [List.length_take]; omega)
        refine x_if (fun h1 => ?_) (fun h1 => ?_)
        · have h1 : p.sp = false := by simpa using h1
          have e : bytesL ((partsV s).take (k + 1)) = L ++ [UInt8.ofNat p.b.toNat] := by
            rw [take_get hp, bytesL_append, ← hg]; simp [bytesL, h1]
          have ex := u8_back hpb.1 hpb.2
          have hsc := writeByte_sc us L (UInt8.ofNat p.b.toNat) (by omega)
          rw [ex] at hsc
          refine xl_callSC hsc (fun _ _ _ _ => trivial) trivial [0, 3] rfl rfl rfl rfl fn25 rfl rfl rfl rfl rfl (by cases us <;> rfl) (by cases us <;> rfl) (fun _ => rfl) (fun _ u1 hu1 _ => ?_)
          refine xl_go tt_ok ?_
          exact ⟨(true, _), [(3, some 5)], .of rfl rfl rfl rfl rfl rfl, e.symm⟩
        · have h1 : p.sp = true := by simpa using h1
          have e : bytesL ((partsV s).take (k + 1)) = L := by
            rw [take_get hp, bytesL_append, ← hg]; simp [bytesL, h1]
          cases us
          · exact ⟨(false, L), [], .of rfl rfl rfl rfl rfl rfl, e.symm⟩
          · exact ⟨(true, L), [], .of rfl rfl rfl rfl rfl rfl, e.symm⟩
      · obtain ⟨us, L⟩ := sg
        rw [List.length_map, List.take_length] at hg
        simp only at hg
        subst hg
        refine xl_callSC (string_sc us _ (bytes_ne h h0)) (fun _ _ _ _ => trivial) trivial [0, 3] rfl rfl rfl rfl fn29 rfl rfl rfl rfl rfl (by cases us <;> rfl) (by cases us <;> rfl) (fun _ => rfl) (fun _ u2 hu2 _ => ?_)
        refine xl_go tt_ok ?_
        refine fin1 (fun _ _ => ?_)
        rw [h]; rfl
end Go.Proofs.Ytjcjbnkimpggeaa
