/- CtokBytes: the walk of the law. -/
import Derived.Test.YtdonomneofdhfaaN32
import Derived.Test.YtdonomneofdhfaaN33
namespace Go.Proofs.Ytdonomneofdhfaa
open Go.GV Go.RowKit

def oct1 (c : UInt8) : UInt8 := UInt8.ofNat (48 + c.toNat / 64)
def oct2 (c : UInt8) : UInt8 := UInt8.ofNat (48 + c.toNat / 8 % 8)
def oct3 (c : UInt8) : UInt8 := UInt8.ofNat (48 + c.toNat % 8)
theorem oct1_nat (c : UInt8) : ((oct1 c).toNat : Int) = 48 + (c.toNat : Int) / 64 := by
  unfold oct1; rw [UInt8.toNat_ofNat']; have := c.toNat_lt; omega
theorem oct2_nat (c : UInt8) : ((oct2 c).toNat : Int) = 48 + (c.toNat : Int) / 8 % 8 := by
  unfold oct2; rw [UInt8.toNat_ofNat']; have := c.toNat_lt; omega
theorem oct3_nat (c : UInt8) : ((oct3 c).toNat : Int) = 48 + (c.toNat : Int) % 8 := by
  unfold oct3; rw [UInt8.toNat_ofNat']; have := c.toNat_lt; omega
def octU (c : UInt8) : List UInt8 := [92, oct1 c, oct2 c, oct3 c]
def intU (B : List UInt8) : List Int := B.map fun b => (b.toNat : Int)
theorem intU_range (B : List UInt8) : ∀ c ∈ intU B, 0 ≤ c ∧ c ≤ 255 := by
  intro c hc
  obtain ⟨b, _, rfl⟩ := List.mem_map.1 hc
  have := b.toNat_lt
  omega
theorem octU_oct (c : UInt8) : intU (octU c) = octL (c.toNat : Int) := by
  show [((92 : UInt8).toNat : Int), ((oct1 c).toNat : Int), ((oct2 c).toNat : Int), ((oct3 c).toNat : Int)] = _
  rw [oct1_nat, oct2_nat, oct3_nat]; rfl
def encU (B : List UInt8) : List UInt8 := 34 :: B.flatMap octU
theorem encU_snoc (B : List UInt8) (c : UInt8) : encU (B ++ [c]) = encU B ++ octU c := by
  unfold encU; simp
theorem encU_len (B : List UInt8) : (encU B).length = 1 + 4 * B.length := by
  unfold encU
  induction B with
  | nil => rfl
  | cons c B ih =>
    simp only [List.length_cons, List.flatMap_cons, List.length_append] at ih ⊢
    have : (octU c).length = 4 := rfl
    omega
def encS (B : List UInt8) : ByteArray := ⟨(encU B ++ [34]).toArray⟩
theorem bl_arr (L : List UInt8) : bl ⟨L.toArray⟩ = intU L := by unfold bl intU; simp
theorem bl_encS (B : List UInt8) : bl (encS B) = 34 :: (octs (intU B) ++ [34]) := by
  unfold encS
  rw [bl_arr]
  unfold intU encU
  rw [List.cons_append, List.map_cons, List.map_append]
  have : (B.flatMap octU).map (fun b => (b.toNat : Int)) = octs (B.map fun b => (b.toNat : Int)) := by
    induction B with
    | nil => rfl
    | cons c B ih =>
      rw [List.flatMap_cons, List.map_append, ih]
      have := octU_oct c
      unfold intU at this
      rw [this]; rfl
  rw [this]; rfl
theorem encS_one (B : List UInt8) : Lx.oneL (bl (encS B)) = some 4 := by
  have hb := octs_body (intU B) (intU_range B)
  have hq : Lx.litQ (bl (encS B)) = (4, (bl (encS B)).length) := by
    rw [bl_encS]
    have hp : Lx.prefN (34 :: (octs (intU B) ++ [34])) = 0 := rfl
    unfold Lx.litQ
    rw [hp]
    show (if (34 : Int) = 34 then _ else _) = _
    rw [if_pos rfl, hb]
    simp only [List.length_cons, List.length_append, List.length_nil]
    show ((4 : Int), 0 + 1 + ((octs (intU B)).length + 1)) = _
    congr 1
    omega
  have hbest : Lx.bestL (bl (encS B)) = (4, (bl (encS B)).length) := by
    unfold Lx.bestL
    rw [hq, if_pos]
    show 0 < (bl (encS B)).length
    rw [bl_encS]; simp
  refine Lx.oneL_iff.2 ⟨34, octs (intU B) ++ [34], bl_encS B, rfl, ?_⟩
  unfold Lx.itemP
  have h1 : Lx.isOpen (bl (encS B)) = false := by rw [bl_encS]; unfold Lx.isOpen; rw [decide_eq_false]; simp
  have h2 : Lx.isLine (bl (encS B)) = false := by rw [bl_encS]; unfold Lx.isLine; rw [decide_eq_false]; simp
  have h3 : (bl (encS B)).head? ≠ some 10 := by rw [bl_encS]; simp
  rw [if_neg (by simp), if_neg (by rw [h1]; simp), if_neg (by rw [h2]; simp), if_neg h3, if_pos (by rw [hbest]; show (4 : Int) ≠ 0; decide), hbest]
theorem encS_str (B : List UInt8) : strE (encS B) = 0 ∧ strL (encS B) = intU B := by
  have h1 := encS_one B
  have ho : (oneP (encS B)).1 = 4 := by unfold oneP; rw [h1]
  have hp : pfN (encS B) = 0 := by unfold pfN; rw [bl_encS]; rfl
  have hl := bl_len (encS B)
  rw [bl_encS] at hl
  simp only [List.length_cons, List.length_append, List.length_nil] at hl
  have ht : topT (encS B) = 255 := by
    unfold topT
    rw [hp]
    have : sub (encS B) 0 ((0 : Nat) : Int) = ⟨#[]⟩ := bl_inj (by rw [bl_sub _ (by omega) (by omega) (by omega)]; rfl)
    rw [this]; rfl
  have hin : bl (inT (encS B)) = octs (intU B) := by
    unfold inT
    rw [hp, bl_sub _ (by omega) (by omega) (by omega)]
    unfold tl
    rw [bl_encS]
    show (octs (intU B) ++ [34]).take _ = _
    rw [List.take_left' (by omega)]
  have hy : ysT (encS B) = intU B := by
    unfold ysT ysL
    rw [ht, hin]
    exact octs_ys (intU B) _ (intU_range B) (Nat.le_refl _)
  have hok : okY (ysT (encS B)) = true := by
    rw [hy]; unfold okY
    exact List.all_eq_true.2 fun c hc => decide_eq_true (intU_range B c hc).1
  have e1 : strE (encS B) = 0 := by unfold strE; rw [if_pos ho, if_pos hok]
  exact ⟨e1, by unfold strL; rw [if_pos e1, hy]⟩

set_option maxRecDepth 100000 in
theorem ctokBytes_any (B : List UInt8) (x : Value) (w : World) (hx : SlAt (im w) x (byteY.d B)) (hg : Glob (im w)) : Calls Try.prog 17 #[x] w (PureP w fun v _ => v = .bool true) := by
  refine x_fun tt_ok Try.func17 rfl rfl [(x, byteY.d B)] 1 [.r 0] rfl rfl rfl rfl (fun b hb => by simp at hb; subst hb; exact hx) ?_
  refine x_vc tt_ok ?_
  refine xl_call0 (.bool true) rfl rfl rfl rfl fn69 rfl rfl (fun E w F hs' => ctokAlive_any w (hg.imm hs'.imm)) ?_
  refine xl_go tt_ok ?_
  refine x_if (fun h => ?_) (fun h => ?_)
  · exact fin1 (fun _ _ => rfl)
  · have h : (decide (5000 < (B.length : Int)) || !true) = false := h
    simp only [Bool.not_true, Bool.or_false, decide_eq_false_iff_not] at h
    refine xl_build tt_ok byteY [34] [_] rfl rfl rfl rfl rfl rfl rfl rfl rfl rfl rfl rfl rfl rfl rfl ?_
    refine xl_go tt_ok ?_
    refine x_loop (σ := Int × List UInt8) (fun (i, L) => ⟨[(5, .v (.int .i64 i)), (4, .r 2), (3, .v (.bool true)), (0, .r 0)], [], [(0, .sl (byteY.d B)), (2, .row 5 (byteY.d L))], 3⟩)
      (fun (i, L) _ => 0 ≤ i ∧ i ≤ B.length ∧ L = encU (B.take i.toNat)) (fun (i, _) => (B.length - i).toNat) (fun (_, _) => by simp only; omega) (0, [34]) [(2, some 1)] (.of rfl rfl rfl rfl rfl rfl)
      ⟨by omega, by omega, rfl⟩ ?_
    rintro ⟨i, L⟩ u hu ⟨g1, g2, g3⟩
    refine x_vc tt_ok ?_
    refine x_if (fun h2 => ?_) (fun h2 => ?_)
    · have h2 : i < B.length := of_decide_eq_true h2
      obtain ⟨hm, hi⟩ := List.getElem?_eq_some_iff.1 (show B[i.toNat]? = some (B.getD i.toNat 0) by rw [List.getD_eq_getElem?_getD, List.getElem?_eq_getElem (by omega)]; rfl)
      have hcr : (B.getD i.toNat 0).toNat < 256 := (B.getD i.toNat 0).toNat_lt
      have hLl : L.length = 1 + 4 * i.toNat := by rw [g3, encU_len, List.length_take]; omega
      refine x_drawA mix ?_
      refine xa_pures tt_ok (fuel := 16) [0, 1, 2, 7, 8, 14, 15] rfl (by kernel_rfl) (by kernel_rfl) (fun _ _ _ hh => hh) (by kernel_rfl) (by kernel_rfl) ?_
      refine xa_phase tt_ok (fuel := 3) [3, 4, 5, 6, 9, 10, 11, 12, 13, 16, 17, 18, 19] rfl (by kernel_rfl) (by kernel_rfl) (by kernel_rfl) (phaseB_ofZ [6, 13, 19] (by kernel_rfl)) ?_
      refine xd_go tt_ok ?_
      repeat (refine And.intro ?_ ?_; first | omega | (simp only [Lay.d_n]; omega) | (simp only [decide_eq_true_eq, decide_eq_false_iff_not, Bool.or_eq_false_iff, Bool.and_eq_true, Bool.or_eq_true, Bool.and_eq_false_iff, Bool.not_eq_true', Bool.not_eq_false', Lay.d_n]; omega) | (simp only [decide_eq_true_eq, decide_eq_false_iff_not, Bool.or_eq_false_iff, Bool.and_eq_true, Bool.or_eq_true, Bool.and_eq_false_iff, Bool.not_eq_true', Bool.not_eq_false']; omega))
      obtain ⟨c, hc⟩ : ∃ c, c = B.getD i.toNat byteY.dft := ⟨_, rfl⟩
      refine xa_one 20 (by kernel_rfl) rfl ?_
      refine xl_build tt_ok byteY (octU c) [_, _, _, _] rfl rfl rfl rfl rfl rfl rfl rfl rfl rfl rfl rfl rfl (by
        rw [hc]
        show [some [SV.v (.int .u8 92)], some [SV.v (.int .u8 (48 + ((B.getD i.toNat byteY.dft).toNat : Int) / 64))], some [SV.v (.int .u8 (48 + ((B.getD i.toNat byteY.dft).toNat : Int) / 8 % 8))], some [SV.v (.int .u8 (48 + ((B.getD i.toNat byteY.dft).toNat : Int) % 8))]]
          = [some [SV.v (.int .u8 92)], some [SV.v (.int .u8 ((oct1 (B.getD i.toNat byteY.dft)).toNat : Int))], some [SV.v (.int .u8 ((oct2 (B.getD i.toNat byteY.dft)).toNat : Int))], some [SV.v (.int .u8 ((oct3 (B.getD i.toNat byteY.dft)).toNat : Int))]]
        rw [oct1_nat, oct2_nat, oct3_nat]) rfl ?_
      refine xl_end ?_
      refine xa_one 21 (by kernel_rfl) rfl ?_
      have h4 : (octU c).length = 4 := rfl
      refine xl_append tt_ok byteY L (octU c) 1 rfl rfl rfl rfl rfl rfl rfl rfl (by kernel_rfl) rfl rfl rfl (fun E w F hs => hs.rowAt (k := 3) rfl) (by intro x y hy; rw [List.mem_singleton.1 hy]; rfl) rfl (by omega) (by omega) ?_
      refine xl_end ?_
      refine xa_one 22 (by kernel_rfl) rfl (xl_go tt_ok ?_)
      refine xa_done (by kernel_rfl) rfl ?_
      repeat (refine And.intro ?_ ?_; first | omega | (simp only [Lay.d_n]; omega) | (simp only [decide_eq_true_eq, decide_eq_false_iff_not, Bool.or_eq_false_iff, Bool.and_eq_true, Bool.or_eq_true, Bool.and_eq_false_iff, Bool.not_eq_true', Bool.not_eq_false', Lay.d_n]; omega) | (simp only [decide_eq_true_eq, decide_eq_false_iff_not, Bool.or_eq_false_iff, Bool.and_eq_true, Bool.or_eq_true, Bool.and_eq_false_iff, Bool.not_eq_true', Bool.not_eq_false']; omega))
      refine again (i + 1, L ++ octU c) [(2, some 4)] (.of rfl rfl rfl rfl rfl rfl) ⟨by omega, by omega, ?_⟩ (by simp only; omega)
      have hi2 : B[i.toNat]? = some c := by rw [hc, List.getElem?_eq_getElem hm, hi]
      rw [show (i + 1).toNat = i.toNat + 1 by omega, take_get hi2, encU_snoc, g3]
    · have h2 : ¬ i < B.length := of_decide_eq_false h2
      rw [List.take_of_length_le (by omega)] at g3
      subst g3
      have hel := encU_len B
      obtain ⟨s1, s2⟩ := encS_str B
      have hsz : (encS B).size ≤ 4294967280 := by
        have h5 := bl_len (encS B)
        unfold encS at h5 ⊢
        rw [bl_arr] at h5
        unfold intU at h5
        rw [List.length_map, List.length_append, hel] at h5
        simp at h5
        omega
      refine xl_build tt_ok byteY [34] [_] rfl rfl rfl rfl rfl rfl rfl rfl rfl rfl rfl rfl rfl rfl rfl ?_
      refine xl_append tt_ok byteY (encU B) [34] 1 rfl rfl rfl rfl rfl rfl rfl rfl (by kernel_rfl) rfl rfl rfl (fun E w F hs => hs.rowAt (k := 3) rfl) (by intro x y hy; rw [List.mem_singleton.1 hy]; rfl) rfl (by simp; omega) (by simp; omega) ?_
      refine xl_go tt_ok ?_
      refine xl_bytesStr (encU B ++ [34]) rfl rfl rfl rfl Try.underlying61 Try.underlying5 Try.underlying9 rfl (fun E w F hs => hs.rowAt (k := 4) rfl) ?_
      refine xl_callO2 2 (intY.d (intU B)) [.int .i64 0] rfl rfl rfl rfl fn55 rfl rfl (fun E w F hs' => by
        have := str_any (encS B) w hsz ((hg.sub hu.sub).imm hs'.imm)
        rw [s1, s2] at this
        exact this) ?_
      refine xl_go tt_ok ?_
      have hil : (intU B).length = B.length := by unfold intU; rw [List.length_map]
      refine x_if (fun h3 => ?_) (fun h3 => ?_)
      · have h3 : (decide ((0 : Int) ≠ 0) || decide (((intU B).length : Int) ≠ (B.length : Int))) = true := h3
        rw [hil] at h3
        simp at h3
      · clear h3
        refine x_loop (σ := Int) (fun i => ⟨[(8, .v (.int .i64 i)), (6, .r 5), (3, .v (.bool true)), (0, .r 0)], [], [(0, .sl (byteY.d B)), (5, .row 2 (intY.d (intU B)))], 6⟩)
          (fun i _ => 0 ≤ i ∧ i ≤ B.length) (fun i => (B.length - i).toNat) (fun _ => Nat.le_refl _) 0 [] (.of rfl rfl rfl rfl rfl rfl)
          ⟨by omega, by omega⟩ ?_
        rintro j u2 hu2 ⟨f1, f2⟩
        refine x_vc tt_ok ?_
        refine x_if (fun h4 => ?_) (fun h4 => ?_)
        · have h4 : j < B.length := of_decide_eq_true h4
          have hj : (intU B).getD j.toNat 0 = ((B.getD j.toNat 0).toNat : Int) := by
            unfold intU
            rw [List.getD_eq_getElem?_getD, List.getD_eq_getElem?_getD, List.getElem?_map, List.getElem?_eq_getElem (by omega)]; rfl
          have hcr : (B.getD j.toNat 0).toNat < 256 := (B.getD j.toNat 0).toNat_lt
          refine x_draw mix (by kernel_rfl) (xd_go tt_ok ?_)
          repeat (refine And.intro ?_ ?_; first | omega | (simp only [Lay.d_n]; omega) | (simp only [decide_eq_true_eq, decide_eq_false_iff_not, Bool.or_eq_false_iff, Bool.and_eq_true, Bool.or_eq_true, Bool.and_eq_false_iff, Bool.not_eq_true', Bool.not_eq_false', Lay.d_n]; omega) | (simp only [decide_eq_true_eq, decide_eq_false_iff_not, Bool.or_eq_false_iff, Bool.and_eq_true, Bool.or_eq_true, Bool.and_eq_false_iff, Bool.not_eq_true', Bool.not_eq_false']; omega))
          refine x_if (fun h5 => ?_) (fun h5 => ?_)
          · have h5 : (intU B).getD j.toNat 0 ≠ ((B.getD j.toNat 0).toNat : Int) := of_decide_eq_true h5
            exact absurd hj h5
          · repeat (refine And.intro ?_ ?_; first | omega | (simp only [Lay.d_n]; omega) | (simp only [decide_eq_true_eq, decide_eq_false_iff_not, Bool.or_eq_false_iff, Bool.and_eq_true, Bool.or_eq_true, Bool.and_eq_false_iff, Bool.not_eq_true', Bool.not_eq_false', Lay.d_n]; omega) | (simp only [decide_eq_true_eq, decide_eq_false_iff_not, Bool.or_eq_false_iff, Bool.and_eq_true, Bool.or_eq_true, Bool.and_eq_false_iff, Bool.not_eq_true', Bool.not_eq_false']; omega))
            exact again (j + 1) [] (.of rfl rfl rfl rfl rfl rfl) ⟨by omega, by omega⟩ (by omega)
        · exact fin1 (fun _ _ => rfl)

/-! ### What comes in -/
section
variable {H : Type} {enc : TypeId × Value → H} {w : World}
def byteAt (u : Im) (x : Value) (i : Int) : UInt8 := UInt8.ofNat (vInt (cellAt u x 1 i 0)).toNat
def bytesAt (u : Im) (x : Value) : List UInt8 := (List.range (vN x)).map fun i : Nat => byteAt u x i
theorem bytesAt_getD (u : Im) (x : Value) {i : Nat} (h : i < vN x) : (bytesAt u x).getD i 0 = byteAt u x i := by
  rw [List.getD_eq_getElem?_getD]
  simp [bytesAt, h]
theorem open_bytes {x : Value} (h : Tr enc Try.prog w 61 [x]) : SlAt (im w) x (byteY.d (bytesAt (im w) x)) := by
  obtain ⟨A, n, c, h1, h2, h3, h4⟩ := h.slice Try.underlying61 (by kernel_rfl : _ = 1)
  have hn : vN x = n := by rw [h1]; rfl
  refine h3.ext (by simp [dataAt, Lay.d, bytesAt, hn]) rfl fun i hi j f f' hf hf' => ?_
  have hi' : i < n := hi
  obtain ⟨k0, e0, r0⟩ := (h4 i (by omega) (by omega)).int Try.underlying5
  have hg := bytesAt_getD (im w) x (i := i) (by omega)
  match j, hf, hf' with
  | 0, hf, hf' =>
    cases hf; cases hf'
    show cellAt (im w) x 1 i 0 = .int .u8 (((bytesAt (im w) x).getD (i : Int).toNat 0).toNat : Int)
    have e1 : cellAt (im w) x 1 i 0 = .int .u8 k0 := by simpa using e0
    have hg' : (bytesAt (im w) x).getD (i : Int).toNat 0 = byteAt (im w) x i := hg
    rw [hg', e1]
    unfold byteAt
    rw [e1]
    simp only [vInt]
    have h9 : IntKind.u8.min ≤ k0 ∧ k0 ≤ IntKind.u8.max := by simpa [Lit.wf] using r0
    have h10 : (0 : Int) ≤ k0 ∧ k0 ≤ 255 := h9
    rw [UInt8.toNat_ofNat', show ((k0.toNat % 2 ^ 8 : Nat) : Int) = k0 by omega]
  | j + 1, hf, hf' => simp [Lay.d] at hf'
end
end Go.Proofs.Ytdonomneofdhfaa
