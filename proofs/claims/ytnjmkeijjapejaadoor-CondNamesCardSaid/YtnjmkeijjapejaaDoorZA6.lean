/- The statement of CondNames, out of its walk: for any input the law answers true, and the input stays. -/
import Derived.Test.YtnjmkeijjapejaaDoorZA5
import Derived.Test.YtnjmkeijjapejaaDoorCards
import Derived.ProofKit
import Derived.OpenShut
import Derived.ShutString
import Derived.ChangeOld
import Derived.Below
import Derived.SizedLaws
import Derived.HandedShaped
import Derived.Handed
import Derived.Lay
import Derived.LaidLaws
import Derived.LaidMore
import Derived.Test.YtnjmkeijjapejaaDoorRows
import Derived.Test.YtnjmkeijjapejaaDoorTie
import Derived.SevenTiedAt
set_option linter.unusedSimpArgs false
set_option linter.unusedVariables false
namespace Go.GV
open Go.RowKit
theorem xl_pack {T : TT} {C : Cx} (hT : TOk C.P T) {all : List Oper} {o1 o2 o3 : Oper} {r : List Oper} {Q : Post} {kn : Kn} {gk : List (Nat × (Gd × SV))} {ow : Own} {nx : Nat} {u : Im} (k : Nat) {e : TypeId} {D : Data} (zs : List Value) {d1 d2 t : Nat} {ti : TI}
    (hk : look ow k = some (.row e D)) (g1 : o1.guard = none) (hd1 : o1.dst = some d1) (he : ∀ A c, eff T ⟨frz k (.slice A D.n c) kn, gk, ow, nx⟩ [] o1.op = .val (.v (.agg (.slice A D.n c :: zs).toArray)) [])
    (h2 : o2.op = .alloc t) (g2 : o2.guard = none) (hd2 : o2.dst = some d2) (h3 : o3.op = .store t (.tmp d2) (.tmp d1)) (g3 : o3.guard = none) (hd3 : o3.dst = none)
    (hti : look T t = some ti) (hzl : ti.zero.length = zs.length + 1) (hone : ∀ y ∈ zs, oneB y = true)
    (hf1 : fresh C.N ⟨kn, gk, ow, nx⟩ d1 [] = true) (hf2 : fresh C.N ⟨kn, gk, ow, nx⟩ d2 [] = true) (hne : d1 ≠ d2) (hkn : look kn d1 = none)
    (K : XL C all r Q ⟨(d2, .p nx 0) :: kn, gk, (nx, .box t (.r k :: zs.map .v)) :: (nx, .box t (ti.zero.map .v)) :: ow, nx + 1⟩ u) : XL C all (o1 :: o2 :: o3 :: r) Q ⟨kn, gk, ow, nx⟩ u := by
  unfold XL at K ⊢
  intro E a w hok
  obtain ⟨f, hsat⟩ := hok.sat
  obtain ⟨A, c, hv⟩ := ownsRow_sl (hsat.holds k _ hk).1
  have hkl := (hsat.lt k _ hk).1
  have hti' := hT _ _ hti
  have hok1 : Ok C E ⟨frz k (.slice A D.n c) kn, gk, ow, nx⟩ u a w := ⟨hok.agr.frz hv, f, hsat⟩
  have hrun1 := (eff_sound hT hok1 (fun x hx => by cases hx) (he A c) trivial).1
  simp only [SV.den] at hrun1
  refine xl_wp g1 (fun c' hc => by have := he A c; rw [hc] at this; cases this) hrun1 ?_
  rw [hd1]
  generalize hV : Value.agg (Value.slice A D.n c :: zs).toArray = V at *
  have hput1 : Agr C.N E ⟨kn, gk, ow, nx⟩ (a.tmps.setIfInBounds d1 V) := by
    have : Agr C.N E (St.put ⟨kn, gk, ow, nx⟩ d1 [] (.v V)) (a.tmps.setIfInBounds d1 V) :=
      hok.agr.put (g := []) hf1 (fun _ => trivial) (fun _ => rfl) (fun hn => absurd (fun x hx => (by cases hx)) hn) (fun _ => rfl)
    exact Agr.drop this hkn
  have hsz1 : d1 < a.tmps.size := by
    rw [hok.agr.size]
    unfold fresh at hf1
    split at hf1
    · rename_i hh; exact blt_lt hh
    · cases hf1
  have hsz2 : d2 < a.tmps.size := by
    rw [hok.agr.size]
    unfold fresh at hf2
    split at hf2
    · rename_i hh; exact blt_lt hh
    · cases hf2
  have hrun2 : (execOp (a.put (some d1) V).eval o2).run C.P w = .ok (.value (.pointer (some ⟨w.heap.size, 0, none⟩))) (w.alloc (.cells ti.zv.cells t)) := by
    simp [execOp, h2, Instr.alloc, run_zeroValue w hti', run_newVar]
  refine xl_wp g2 (fun c' hc => by rw [h2] at hc; cases hc) hrun2 ?_
  rw [hd2]
  have hE : ∀ j, j < nx → upd E nx (.pointer (some ⟨w.heap.size, 0, none⟩)) j = E j := fun j hj => upd_other _ _ (by omega)
  have hzc : ti.zv.cells = ((ti.zero.map SV.v).map (SV.den E)).toArray := by
    rw [TI.zv_cells hti']; simp [Function.comp_def, SV.den]
  have hsat1 := hsat.newBox t (cs := ti.zero.map .v) (fun x hx => by simp only [List.mem_map] at hx; obtain ⟨y, _, rfl⟩ := hx; trivial)
  rw [← hzc] at hsat1
  have hb := heap_alloc_new w (.cells ti.zv.cells t)
  have hone' : ∀ y ∈ Value.slice A D.n c :: zs, oneB y = true := fun y hy => by
    rcases List.mem_cons.1 hy with rfl | hy
    · rfl
    · exact hone y hy
  have hzs : ti.zv.cells.size = zs.length + 1 := by rw [TI.zv_cells hti']; simpa using hzl
  obtain ⟨w', q1, q2, q3, q4, q5, q6, q7⟩ := run_storeCells (P := C.P) (Value.slice A D.n c :: zs) 0 0 (w.alloc (.cells ti.zv.cells t)) _ hb hone' (by rw [hzs]; simp)
  have ev1 : ((a.put (some d1) V).put (some d2) (.pointer (some ⟨w.heap.size, 0, none⟩))).eval (.tmp d1) = V := by
    have : (a.put (some d1) V).eval (.tmp d1) = V := eval_put_eq hsz1
    rw [eval_put_ne (fun n hn => by cases hn; exact hne)]
    exact this
  have ev2 : ((a.put (some d1) V).put (some d2) (.pointer (some ⟨w.heap.size, 0, none⟩))).eval (.tmp d2) = .pointer (some ⟨w.heap.size, 0, none⟩) := eval_put_eq (by show d2 < (a.tmps.setIfInBounds d1 V).size; simpa using hsz2)
  have hrun3 : (execOp ((a.put (some d1) V).put (some d2) (.pointer (some ⟨w.heap.size, 0, none⟩))).eval o3).run C.P (w.alloc (.cells ti.zv.cells t)) = .ok .skip w' := by
    have hVc : V.cells = (Value.slice A D.n c :: zs).toArray := by rw [← hV]; rfl
    have hVs : V.cells.size = ti.sz := by rw [hVc]; have := hti'.len; simp; omega
    simp only [execOp, h3, Instr.storeAt, ev2, Instr.sureAddr, Sem.run_bind, Sem.run_pure, Result.andThen_ok, storeVar, run_sizeOf _ hti', ev1]
    rw [if_neg (by rw [hVs]; simp)]
    simp only [hVc, q1, Result.andThen_ok]
  have hcsl : ∀ x ∈ (SV.r k :: zs.map SV.v), x.lt (upd E nx (.pointer (some ⟨w.heap.size, 0, none⟩))) (nx + 1) := fun x hx => by
    rcases List.mem_cons.1 hx with rfl | hx
    · exact ⟨Nat.lt_succ_of_lt hkl, A, D.n, c, by rw [hE k hkl]; exact hv⟩
    · simp only [List.mem_map] at hx; obtain ⟨y, _, rfl⟩ := hx; trivial
  have hsat2 := hsat1.setBox (cs' := .r k :: zs.map .v) (by rw [look_cons, if_pos rfl]) (upd_same _ _ _) hcsl q2 q3 q4 q5 q6 (by
    rw [q7]
    congr 2
    have hz0 : ti.zv.cells.toList.drop (0 + 0 + (Value.slice A D.n c :: zs).length) = [] := List.drop_eq_nil_of_le (by rw [Array.length_toList, hzs]; simp)
    rw [hz0]
    simp only [List.append_nil, Nat.add_zero, List.take_zero, List.nil_append, List.map_cons, List.map_map, SV.den, hE k hkl, hv]
    simp [Function.comp_def, SV.den])
  unfold wpListIn
  rw [if_pos (by simp [Region.wanted, g3])]
  refine ⟨fun _ _ => trivial, ?_⟩
  rw [semAt_eq _ _ _ (fun c hc => by rw [h3] at hc; cases hc), hrun3, Oper.uponIn_skip, hd3]
  have hg := hput1.grow (E' := upd E nx (.pointer (some ⟨w.heap.size, 0, none⟩))) (ow := (nx, .box t (.r k :: zs.map .v)) :: (nx, .box t (ti.zero.map .v)) :: ow) (nx := nx + 1) hE (Nat.le_succ _)
  have hput2 := hg.put (g := []) (d := d2) (s := .p nx 0) (x := .pointer (some ⟨w.heap.size, 0, none⟩)) hf2 (fun _ => ⟨Nat.lt_succ_self _, _, upd_same _ _ _⟩) (fun _ => (by simp [SV.den, ptrOf, upd_same])) (fun hn => absurd (fun x hx => (by cases hx)) hn) (fun _ => (by simp [SV.den, ptrOf, upd_same]))
  have := K (upd E nx (.pointer (some ⟨w.heap.size, 0, none⟩))) ((a.put (some d1) V).put (some d2) (.pointer (some ⟨w.heap.size, 0, none⟩))) w' ⟨⟨hput2.size, hput2.kn, hput2.gk, hput2.klt, hput2.glt⟩, _, hsat2⟩
  exact wpListIn_monoQ (fun e a w => SemQ.mono hE (Nat.le_succ _) (Im.le.refl u)) _ _ _ this
end Go.GV
namespace Go.Proofs.YtnjmkeijjapejaaDoor
open Go.GV Go.RowKit
theorem intV_rg (s : ByteArray) : Cd.rg (intV s).1 := by
  unfold intV
  split
  · exact Cd.rg0
  · rename_i v u h
    unfold intC at h
    split at h
    · cases h
    · split at h
      · cases h
      · rename_i x hx
        have hb := (baseT_range s).1
        have := valF_rg (by omega) _ Cd.rg0 (fun c _ => (dg_range c).1) hx
        split at h
        · cases h
        · cases h; exact this
theorem rdT_rg (k : Int) (s : ByteArray) : Cd.rg (Cd.vT (rdT k s)) := by
  unfold rdT
  split
  · exact Cd.rg0
  split
  · exact Cd.rg0
  split
  · exact intV_rg s
  split
  · exact Cd.rg_wr _
  split
  · exact Cd.rg0
  · exact Cd.rg0
def toksV (L : List PV) : List Cd.Tk := L.map fun t => rdT t.kind t.text
theorem toksV_nums (L : List PV) : Cd.nums (toksV L) := by
  intro t ht
  obtain ⟨x, _, rfl⟩ := List.mem_map.1 ht
  exact rdT_rg _ _
def layT : List PV → Bool
  | [] => false
  | t :: r => (decide (t.kind = 10) || decide (t.kind = 11)) || layT r
def valV (L : List PV) : Int × Bool × Int :=
  if layT L = true then (0, false, 62)
  else match Cd.measure (toksV L) with
    | none => (0, false, 70)
    | some d => if 256 < d then (0, false, 111)
      else if (Cd.ofF (3 * L.length + 3) (toksV L)).E ≠ 0 then (0, false, (Cd.ofF (3 * L.length + 3) (toksV L)).E)
      else ((Cd.ofF (3 * L.length + 3) (toksV L)).V, (Cd.ofF (3 * L.length + 3) (toksV L)).U, 0)
def holV (L : List PV) : Bool × Int := (decide ((valV L).2.2 = 0) && decide ((valV L).1 ≠ 0), (valV L).2.2)
set_option maxHeartbeats 4000000 in
set_option maxRecDepth 100000 in
theorem value_any (L : List PV) (x : Value) (w : World) (hx : SlAt (im w) x (pvY.d L)) (hL : L.length ≤ 1000000) (hT : ∀ t ∈ L, t.text.size ≤ 4294967280) (hg : Glob (im w)) (hO : OpG (im w)) :
    Calls Tryd.prog 26 #[x] w (PureP w fun v _ => v = .tuple #[.int .u64 (valV L).1, .bool (valV L).2.1, .int .i64 (valV L).2.2]) := by
  obtain ⟨V, hV⟩ : ∃ V, V = valV L := ⟨_, rfl⟩
  rw [← hV]
  have v1 : layT L = true → V = (0, false, 62) := fun h => by rw [hV, valV, if_pos h]
  have v2 : layT L = false → Cd.measure (toksV L) = none → V = (0, false, 70) := fun h h2 => by rw [hV, valV, if_neg (by rw [h]; simp), h2]
  have v3 : ∀ d, layT L = false → Cd.measure (toksV L) = some d → 256 < d → V = (0, false, 111) := fun d h h2 h3 => by rw [hV, valV, if_neg (by rw [h]; simp), h2]; simp only [if_pos h3]
  have v4 : ∀ d, layT L = false → Cd.measure (toksV L) = some d → ¬ 256 < d → (Cd.ofF (3 * L.length + 3) (toksV L)).E ≠ 0 → V = (0, false, (Cd.ofF (3 * L.length + 3) (toksV L)).E) := fun d h h2 h3 h4 => by
    rw [hV, valV, if_neg (by rw [h]; simp), h2]; simp only [if_neg h3, if_pos h4]
  have v5 : ∀ d, layT L = false → Cd.measure (toksV L) = some d → ¬ 256 < d → (Cd.ofF (3 * L.length + 3) (toksV L)).E = 0 → V = ((Cd.ofF (3 * L.length + 3) (toksV L)).V, (Cd.ofF (3 * L.length + 3) (toksV L)).U, 0) := fun d h h2 h3 h4 => by
    rw [hV, valV, if_neg (by rw [h]; simp), h2]; simp only [if_neg h3, h4, ne_eq, not_true_eq_false, if_false]
  clear hV
  have hget : ∀ i : Int, 0 ≤ i → i < L.length → (L.getD i.toNat pv0) ∈ L := fun i h0 h1 => by
    rw [List.getD_eq_getElem?_getD, List.getElem?_eq_getElem (by omega : i.toNat < L.length)]; exact List.getElem_mem _
  refine x_fun tt_ok Tryd.func26 rfl rfl [(x, pvY.d L)] 1 [.r 0] rfl rfl rfl rfl (fun b hb => by simp at hb; subst hb; exact hx) ?_
  refine x_vc tt_ok ?_
  refine x_loop (σ := Int) (fun i => ⟨[(16, .v (.int .i64 i)), (15, .v (.int .i64 L.length)), (14, .r 0), (0, .r 0)], [], [(0, .sl (pvY.d L))], 1⟩)
    (fun i _ => 0 ≤ i ∧ i ≤ L.length ∧ layT (L.drop i.toNat) = layT L) (fun i => (L.length - i).toNat) (fun _ => Nat.le_refl _) 0 [] (.of rfl rfl rfl rfl rfl rfl) ⟨by omega, by omega, rfl⟩ ?_
  rintro i u1 hu1 ⟨g1, g2, g3⟩
  refine x_vc tt_ok ?_
  refine x_if (fun h1 => ?_) (fun h1 => ?_)
  · have h1 : i < L.length := of_decide_eq_true h1
    have hd : L.drop i.toNat = L.getD i.toNat pv0 :: L.drop (i + 1).toNat := by
      rw [List.drop_eq_getElem_cons (by omega : i.toNat < L.length), List.getD_eq_getElem?_getD, List.getElem?_eq_getElem (by omega : i.toNat < L.length), show (i + 1).toNat = i.toNat + 1 by omega]
      rfl
    rw [hd, layT] at g3
    repeat (refine And.intro ?_ ?_; first | omega | (simp only [Lay.d_n]; omega) | (simp only [decide_eq_true_eq, decide_eq_false_iff_not, Bool.or_eq_false_iff, Bool.and_eq_true, Bool.or_eq_true, Bool.and_eq_false_iff, Bool.not_eq_true', Bool.not_eq_false', Lay.d_n]; omega) | (simp only [decide_eq_true_eq, decide_eq_false_iff_not, Bool.or_eq_false_iff, Bool.and_eq_true, Bool.or_eq_true, Bool.and_eq_false_iff, Bool.not_eq_true', Bool.not_eq_false']; omega) | (simp only [decide_eq_true_eq, decide_eq_false_iff_not, Bool.or_eq_false_iff]; simp only [Lay.d_n]; omega))
    refine x_if (fun h2 => ?_) (fun h2 => ?_)
    · have h2 : (decide ((L.getD i.toNat pv0).kind = 10) || decide ((L.getD i.toNat pv0).kind = 11)) = true := h2
      rw [h2] at g3
      rw [v1 g3.symm]
      exact fin1 (fun _ _ => rfl)
    · have h2 : (decide ((L.getD i.toNat pv0).kind = 10) || decide ((L.getD i.toNat pv0).kind = 11)) = false := h2
      rw [h2, Bool.false_or] at g3
      repeat (refine And.intro ?_ ?_; first | omega | (simp only [Lay.d_n]; omega) | (simp only [decide_eq_true_eq, decide_eq_false_iff_not, Bool.or_eq_false_iff, Bool.and_eq_true, Bool.or_eq_true, Bool.and_eq_false_iff, Bool.not_eq_true', Bool.not_eq_false', Lay.d_n]; omega) | (simp only [decide_eq_true_eq, decide_eq_false_iff_not, Bool.or_eq_false_iff, Bool.and_eq_true, Bool.or_eq_true, Bool.and_eq_false_iff, Bool.not_eq_true', Bool.not_eq_false']; omega) | (simp only [decide_eq_true_eq, decide_eq_false_iff_not, Bool.or_eq_false_iff]; simp only [Lay.d_n]; omega))
      exact again (i + 1) [] (.of rfl rfl rfl rfl rfl rfl) ⟨by omega, by omega, g3⟩ (by omega)
  have h1 : ¬ i < L.length := of_decide_eq_false h1
  rw [List.drop_eq_nil_of_le (by omega), layT] at g3
  have hlay := g3.symm
  refine xl_makeG tt_ok ptY (.op ⟨#[]⟩) 40 L.length rfl rfl rfl rfl rfl rfl rfl rfl rfl (by kernel_rfl) rfl rfl rfl (by omega) (by omega) ?_
  refine xl_go tt_ok ?_
  refine x_loop (σ := Int × List Cd.Tk) (fun (i, M) => ⟨[(34, .v (.int .i64 i)), (33, .v (.int .i64 L.length)), (32, .r 0), (7, .r 1)], [], [(0, .sl (pvY.d L)), (1, .row 73 (ptY.d M))], 2⟩)
    (fun (i, M) _ => 0 ≤ i ∧ i ≤ L.length ∧ M.length = L.length ∧ M.take i.toNat = toksV (L.take i.toNat)) (fun (i, _) => (L.length - i).toNat) (fun (_, _) => Nat.le_refl _) (0, List.replicate L.length (.op ⟨#[]⟩)) [] (.of rfl rfl rfl rfl rfl rfl)
    ⟨by omega, by omega, by simp, by simp [toksV]⟩ ?_
  rintro ⟨j, M⟩ u2 hu2 ⟨k1, k2, k3, k4⟩
  have hle := hu1.trans hu2
  refine x_vc tt_ok ?_
  refine x_if (fun h2 => ?_) (fun h2 => ?_)
  · have h2 : j < L.length := of_decide_eq_true h2
    repeat (refine And.intro ?_ ?_; first | omega | (simp only [Lay.d_n]; omega) | (simp only [decide_eq_true_eq, decide_eq_false_iff_not, Bool.or_eq_false_iff, Bool.and_eq_true, Bool.or_eq_true, Bool.and_eq_false_iff, Bool.not_eq_true', Bool.not_eq_false', Lay.d_n]; omega) | (simp only [decide_eq_true_eq, decide_eq_false_iff_not, Bool.or_eq_false_iff, Bool.and_eq_true, Bool.or_eq_true, Bool.and_eq_false_iff, Bool.not_eq_true', Bool.not_eq_false']; omega) | (simp only [decide_eq_true_eq, decide_eq_false_iff_not, Bool.or_eq_false_iff]; simp only [Lay.d_n]; omega))
    refine xl_call0 (ptV (rdT (L.getD j.toNat pv0).kind (L.getD j.toNat pv0).text)) rfl rfl rfl rfl fn47 rfl rfl (fun E w' F hs' => read_any (L.getD j.toNat pv0) w' (hT _ (hget j k1 h2)) ((hg.sub hle.sub).imm hs'.imm)) ?_
    refine xl_go tt_ok ?_
    repeat (refine And.intro ?_ ?_; first | omega | (simp only [Lay.d_n]; omega) | (simp only [decide_eq_true_eq, decide_eq_false_iff_not, Bool.or_eq_false_iff, Bool.and_eq_true, Bool.or_eq_true, Bool.and_eq_false_iff, Bool.not_eq_true', Bool.not_eq_false', Lay.d_n]; omega) | (simp only [decide_eq_true_eq, decide_eq_false_iff_not, Bool.or_eq_false_iff, Bool.and_eq_true, Bool.or_eq_true, Bool.and_eq_false_iff, Bool.not_eq_true', Bool.not_eq_false']; omega) | (simp only [decide_eq_true_eq, decide_eq_false_iff_not, Bool.or_eq_false_iff]; simp only [Lay.d_n]; omega))
    refine xl_set tt_ok ptY M (rdT (L.getD j.toNat pv0).kind (L.getD j.toNat pv0).text) (cs := [.bool (Cd.isNum (rdT (L.getD j.toNat pv0).kind (L.getD j.toNat pv0).text)), .int .u64 (Cd.vT (rdT (L.getD j.toNat pv0).kind (L.getD j.toNat pv0).text)), .bool (Cd.uT (rdT (L.getD j.toNat pv0).kind (L.getD j.toNat pv0).text)), .string (Cd.opT (rdT (L.getD j.toNat pv0).kind (L.getD j.toNat pv0).text))])
      rfl rfl rfl rfl rfl rfl rfl (by omega) (by omega) rfl rfl (Nat.le_refl 4) rfl ?_
    refine xl_go tt_ok ?_
    repeat (refine And.intro ?_ ?_; first | omega | (simp only [Lay.d_n]; omega) | (simp only [decide_eq_true_eq, decide_eq_false_iff_not, Bool.or_eq_false_iff, Bool.and_eq_true, Bool.or_eq_true, Bool.and_eq_false_iff, Bool.not_eq_true', Bool.not_eq_false', Lay.d_n]; omega) | (simp only [decide_eq_true_eq, decide_eq_false_iff_not, Bool.or_eq_false_iff, Bool.and_eq_true, Bool.or_eq_true, Bool.and_eq_false_iff, Bool.not_eq_true', Bool.not_eq_false']; omega) | (simp only [decide_eq_true_eq, decide_eq_false_iff_not, Bool.or_eq_false_iff]; simp only [Lay.d_n]; omega))
    refine again (j + 1, M.set j.toNat (rdT (L.getD j.toNat pv0).kind (L.getD j.toNat pv0).text)) [] (.of rfl rfl rfl rfl rfl rfl) ⟨by omega, by omega, by rw [List.length_set]; exact k3, ?_⟩ (by simp only; omega)
    rw [show (j + 1).toNat = j.toNat + 1 by omega, take_get (x := rdT (L.getD j.toNat pv0).kind (L.getD j.toNat pv0).text) (List.getElem?_set_self (by omega)), List.take_set_of_le (Nat.le_refl _), k4,
      take_get (List.getElem?_eq_getElem (by omega : j.toNat < L.length)), toksV, toksV, List.map_append, List.getD_eq_getElem?_getD, List.getElem?_eq_getElem (by omega : j.toNat < L.length)]
    rfl
  have h2 : ¬ j < L.length := of_decide_eq_false h2
  have eM : M = toksV L := by
    rw [List.take_of_length_le (by omega), List.take_of_length_le (by omega)] at k4
    exact k4
  obtain ⟨T, hTT⟩ : ∃ T, T = toksV L := ⟨_, rfl⟩
  rw [← hTT] at eM v2 v3 v4 v5
  subst eM
  have hnum : Cd.nums M := by rw [hTT]; exact toksV_nums L
  have hmm := Cd.mea_measure M
  refine xl_call0 (.tuple #[.int .i64 (Cd.meaV M).1, .bool (Cd.meaV M).2]) rfl rfl rfl rfl fn48 rfl rfl (fun E w' F hs' => measure_any M (E 1) w' (hs'.rowAt (k := 1) rfl) ((hO.sub hle.sub).imm hs'.imm) (by omega)) ?_
  refine xl_go tt_ok ?_
  refine x_if (fun h3 => ?_) (fun h3 => ?_)
  · have h3 : (!(Cd.meaV M).2) = true := h3
    rw [if_neg (by rw [Bool.not_eq_true'] at h3; rw [h3]; simp)] at hmm
    rw [v2 hlay hmm]
    exact fin1 (fun _ _ => rfl)
  have h3 : (!(Cd.meaV M).2) = false := h3
  rw [if_pos (by simpa using h3)] at hmm
  refine x_if (fun h4 => ?_) (fun h4 => ?_)
  · have h4 : (Cd.meaV M).1 > 256 := of_decide_eq_true h4
    rw [v3 _ hlay hmm h4]
    exact fin1 (fun _ _ => rfl)
  have h4 : ¬ (Cd.meaV M).1 > 256 := of_decide_eq_false h4
  have v4 := v4 _ hlay hmm h4
  have v5 := v5 _ hlay hmm h4
  obtain ⟨tr, htr, _⟩ := Cd.measure_some hmm
  obtain ⟨_, _, y, fu, hrel, hfu⟩ := (Cd.cond_law htr.clean hnum (f := 3 * L.length + 3) (by omega)).2 _ hmm
  generalize Cd.ofF (3 * L.length + 3) M = W at v4 v5 hrel hfu
  have hcho := (read_all fu fu (Nat.le_refl _)).1 M 0 0 true y [] W.E hnum (by omega) (by omega) (by omega) (hfu fu (Nat.le_refl _))
  obtain ⟨y, yu⟩ := y
  refine xl_pack tt_ok 1 [.int .i64 0, .int .i64 0] rfl rfl rfl (fun A c => rfl) rfl rfl rfl rfl rfl rfl rfl rfl (by decide) rfl rfl (by decide) rfl ?_
  refine xl_go tt_ok ?_
  refine xl_callSC hcho opMono (hO.sub hle.sub) [2, 1] rfl rfl rfl rfl fn49 rfl rfl rfl rfl rfl rfl rfl (fun _ => rfl) (fun _ u3 hu3 _ => ?_)
  refine xl_go tt_ok ?_
  refine x_if (fun h5 => ?_) (fun h5 => ?_)
  · have h5 : W.E ≠ 0 := of_decide_eq_true h5
    rw [v4 h5]
    refine x_draw mix (by kernel_rfl) (xd_go tt_ok ?_)
    exact fin1 (fun _ _ => rfl)
  · have h5 : W.E = 0 := Classical.not_not.1 (of_decide_eq_false h5)
    rw [v5 h5]
    obtain ⟨r1, r2⟩ := hrel
    rw [← r1, ← r2 h5]
    refine x_draw mix (by kernel_rfl) (xd_go tt_ok ?_)
    exact fin1 (fun _ _ => rfl)
set_option maxRecDepth 100000 in
theorem holds_any (L : List PV) (x : Value) (w : World) (hx : SlAt (im w) x (pvY.d L)) (hL : L.length ≤ 1000000) (hT : ∀ t ∈ L, t.text.size ≤ 4294967280) (hg : Glob (im w)) (hO : OpG (im w)) :
    Calls Tryd.prog 31 #[x] w (PureP w fun v _ => v = .tuple #[.bool (holV L).1, .int .i64 (holV L).2]) := by
  unfold holV
  refine x_fun tt_ok Tryd.func31 rfl rfl [(x, pvY.d L)] 1 [.r 0] rfl rfl rfl rfl (fun b hb => by simp at hb; subst hb; exact hx) ?_
  refine x_vc tt_ok ?_
  refine xl_call0 (.tuple #[.int .u64 (valV L).1, .bool (valV L).2.1, .int .i64 (valV L).2.2]) rfl rfl rfl rfl fn26 rfl rfl (fun E w' F hs' => value_any L (E 0) w' (hs'.slAt (k := 0) rfl) hL hT (hg.imm hs'.imm) (hO.imm hs'.imm)) ?_
  refine xl_go tt_ok ?_
  exact fin1 (fun _ _ => rfl)
end Go.Proofs.YtnjmkeijjapejaaDoor
namespace Go.Proofs.YtnjmkeijjapejaaDoor
open Go.GV Go.RowKit
end Go.Proofs.YtnjmkeijjapejaaDoor
namespace Go.Proofs.YtnjmkeijjapejaaDoor
open Go.GV Go.RowKit
end Go.Proofs.YtnjmkeijjapejaaDoor
namespace Go.Proofs.YtnjmkeijjapejaaDoor
open Go.GV Go.RowKit
end Go.Proofs.YtnjmkeijjapejaaDoor
namespace Go.Proofs.YtnjmkeijjapejaaDoor
open Go.GV Go.RowKit
def byC (c : Chr) : UInt8 := UInt8.ofNat c.b.toNat
def logB (s : ByteArray) : ByteArray := ⟨((charsOf s).map byC).toArray⟩
def errK : List Lx.Tk → Int
  | [] => 0
  | t :: r => if t.err ≠ 0 then t.err else errK r
def tks (C : List Chr) (l : ByteArray) : Int → List Lx.Tk → List Tok
  | _, [] => []
  | n, t :: r => ⟨t.kind, sub l t.lo t.hi, (C.getD t.lo charY.dft).pos, (C.getD ((t.hi : Int) - 1).toNat charY.dft).pos + (C.getD ((t.hi : Int) - 1).toNat charY.dft).len, decide (n < t.lo)⟩ :: tks C l t.hi r
def scanE (s : ByteArray) : Int := if checkE s ≠ 0 then checkE s else errK (itsOf (logB s))
def scanT (s : ByteArray) : List Tok := if scanE s = 0 then tks (charsOf s) (logB s) 0 (itsOf (logB s)) else []
theorem logB_size (s : ByteArray) : (logB s).size = (charsOf s).length := by
  show (((charsOf s).map byC).toArray).size = _
  simp
theorem third_range (c : Int) : 0 ≤ third c ∧ third c ≤ 255 := by
  unfold third
  (repeat' split) <;> (constructor <;> omega)
theorem partP_b (s : ByteArray) (i : Int) : 0 ≤ (partP s i).b ∧ (partP s i).b ≤ 255 := by
  unfold partP
  split
  · exact ⟨Int.le_refl _, by show (0 : Int) ≤ 255; decide⟩
  · show 0 ≤ chB s i ∧ chB s i ≤ 255
    unfold chB
    split
    · exact third_range _
    · exact bt_range s i
theorem partsF_b (s : ByteArray) : ∀ (n : Nat) (i : Int), ∀ p ∈ partsF s n i, 0 ≤ p.b ∧ p.b ≤ 255
  | 0, _, p, hp => by cases hp
  | n + 1, i, p, hp => by
    rw [partsF] at hp
    split at hp
    · rcases List.mem_cons.1 hp with rfl | hp
      · exact partP_b s i
      · exact partsF_b s n _ p hp
    · cases hp
theorem chrsL_b : ∀ (L : List Part), (∀ p ∈ L, 0 ≤ p.b ∧ p.b ≤ 255) → ∀ c ∈ chrsL L, 0 ≤ c.b ∧ c.b ≤ 255
  | [], _, c, hc => by cases hc
  | p :: r, h, c, hc => by
    rw [chrsL] at hc
    split at hc
    · exact chrsL_b r (fun p hp => h p (List.mem_cons_of_mem _ hp)) c hc
    · rcases List.mem_cons.1 hc with rfl | hc
      · exact h p (List.mem_cons_self ..)
      · exact chrsL_b r (fun p hp => h p (List.mem_cons_of_mem _ hp)) c hc
theorem charsOf_b {s : ByteArray} {c : Chr} (h : c ∈ charsOf s) : 0 ≤ c.b ∧ c.b ≤ 255 := by
  unfold charsOf at h
  split at h
  · exact chrsL_b _ (partsF_b s _ _) c h
  · cases h
theorem chrsL_mem : ∀ (L : List Part) (c : Chr), c ∈ chrsL L → ∃ p ∈ L, c = ⟨p.b, p.pos, p.len⟩
  | [], c, hc => by cases hc
  | p :: r, c, hc => by
    rw [chrsL] at hc
    split at hc
    · obtain ⟨q, hq, e⟩ := chrsL_mem r c hc
      exact ⟨q, List.mem_cons_of_mem _ hq, e⟩
    · rcases List.mem_cons.1 hc with rfl | hc
      · exact ⟨p, List.mem_cons_self .., rfl⟩
      · obtain ⟨q, hq, e⟩ := chrsL_mem r c hc
        exact ⟨q, List.mem_cons_of_mem _ hq, e⟩
theorem charsOf_pos {s : ByteArray} {c : Chr} (h : c ∈ charsOf s) : 0 ≤ c.pos ∧ 1 ≤ c.len ∧ c.pos + c.len ≤ s.size := by
  unfold charsOf at h
  split at h
  · obtain ⟨p, hp, rfl⟩ := chrsL_mem _ c h
    have := partsV_mem hp
    exact ⟨this.1, this.2.2.1, this.2.2.2.1⟩
  · cases h
theorem byC_nat {c : Chr} (h : 0 ≤ c.b ∧ c.b ≤ 255) : ((byC c).toNat : Int) = c.b := by
  unfold byC
  rw [UInt8.toNat_ofNat']
  omega
set_option maxRecDepth 100000 in
theorem scan_any (s : ByteArray) (w : World) (hs : s.size ≤ 9223372036854775807) (hg : Glob (im w)) : Calls Tryd.prog 50 #[.string s] w (PureP w (OwnT 105 (tokY.d (scanT s)) [.int .i64 (scanE s)])) := by
  refine x_fun tt_ok Tryd.func50 rfl rfl [] 0 [.v (.string s)] rfl rfl rfl rfl (fun b hb => by cases hb) ?_
  refine x_vc tt_ok ?_
  refine xl_callO2 123 (charY.d (charsOf s)) [.int .i64 (checkE s)] rfl rfl rfl rfl fn73 rfl rfl (fun E w F _ => chars_any s w hs) ?_
  refine xl_go tt_ok ?_
  refine x_if (fun h => ?_) (fun h => ?_)
  · have h := of_decide_eq_true h
    have e1 : scanE s = checkE s := by rw [scanE, if_pos h]
    have e2 : scanT s = [] := by rw [scanT, e1, if_neg h]
    rw [e1, e2]
    exact finO2n tokY
  · have h : checkE s = 0 := Classical.not_not.1 (of_decide_eq_false h)
    have hsz := checkE_size h
    have e1 : scanE s = errK (itsOf (logB s)) := by rw [scanE, if_neg (by simpa using h)]
    have hcl : (charsOf s).length ≤ 65536 := by
      have h2 : charsOf s = chrsL (partsV s) := by rw [charsOf, if_pos h]
      rw [h2]
      exact Nat.le_trans (chrsL_len _) (Nat.le_trans (partsV_len s) hsz)
    obtain ⟨C, hC⟩ : ∃ C, C = charsOf s := ⟨_, rfl⟩
    have hl : logB s = ⟨(C.map byC).toArray⟩ := by rw [hC]; rfl
    have hCb : ∀ c ∈ C, 0 ≤ c.b ∧ c.b ≤ 255 := fun c hc => charsOf_b (hC ▸ hc)
    have hCp : ∀ c ∈ C, 0 ≤ c.pos ∧ 1 ≤ c.len ∧ c.pos + c.len ≤ s.size := fun c hc => charsOf_pos (hC ▸ hc)
    have e2 : scanT s = if scanE s = 0 then tks C (logB s) 0 (itsOf (logB s)) else [] := by rw [hC]; rfl
    have hls := logB_size s
    rw [← hC] at hcl hls ⊢
    clear hC
    refine xl_makeN tt_ok byteY (0 : UInt8) (.int .u8 0) 1 C.length rfl rfl rfl rfl rfl rfl rfl rfl rfl rfl (by kernel_rfl) rfl rfl rfl (by omega) (by omega) ?_
    refine xl_go tt_ok ?_
    refine x_loop (σ := Int × List UInt8) (fun (k, L) => ⟨[(28, .v (.int .i64 k)), (27, .v (.int .i64 C.length)), (26, .r 2), (6, .r 4), (4, .p 3 0), (3, .p 1 0), (2, .p 0 0)], [],
        [(0, .box 79 [.v (.slice none 0 0)]), (1, .box 24 [.v (.int .i64 0)]), (2, .row 123 (charY.d C)), (3, .box 119 [.r 2]), (4, .row 5 (byteY.d L))], 5⟩)
      (fun (k, L) _ => 0 ≤ k ∧ k ≤ C.length ∧ L.length = C.length ∧ L.take k.toNat = (C.take k.toNat).map byC) (fun (k, _) => (C.length - k).toNat) (fun (_, _) => Nat.le_refl _) (0, List.replicate C.length 0) [] (.of rfl rfl rfl rfl rfl rfl)
      ⟨by omega, by omega, by simp, by simp⟩ ?_
    rintro ⟨k, L⟩ u hu ⟨g1, g2, g3, g4⟩
    refine x_vc tt_ok ?_
    refine x_if (fun h3 => ?_) (fun h3 => ?_)
    · have h3 : k < C.length := of_decide_eq_true h3
      have hkl : k.toNat < C.length := by omega
      have hm : C.getD k.toNat charY.dft ∈ C := by
        rw [List.getD_eq_getElem?_getD, List.getElem?_eq_getElem hkl]; exact List.getElem_mem _
      have hbn := byC_nat (hCb _ hm)
      repeat (refine And.intro ?_ ?_; first | omega | (simp only [Lay.d_n]; omega) | (simp only [decide_eq_true_eq, decide_eq_false_iff_not, Bool.or_eq_false_iff, Bool.and_eq_true, Bool.or_eq_true, Bool.and_eq_false_iff, Bool.not_eq_true', Bool.not_eq_false', Lay.d_n]; omega) | (simp only [decide_eq_true_eq, decide_eq_false_iff_not, Bool.or_eq_false_iff, Bool.and_eq_true, Bool.or_eq_true, Bool.and_eq_false_iff, Bool.not_eq_true', Bool.not_eq_false']; omega))
      refine xl_set tt_ok byteY L (byC (C.getD k.toNat charY.dft)) (cs := [.int .u8 (C.getD k.toNat charY.dft).b]) rfl rfl rfl rfl rfl rfl rfl g1 (by rw [g3]; exact h3) rfl rfl (Nat.le_refl 1) (by show [Value.int .u8 ((byC (C.getD k.toNat charY.dft)).toNat : Int)] = [Value.int .u8 (C.getD k.toNat charY.dft).b]; rw [hbn]) ?_
      refine xl_go tt_ok ?_
      repeat (refine And.intro ?_ ?_; first | omega | (simp only [Lay.d_n]; omega) | (simp only [decide_eq_true_eq, decide_eq_false_iff_not, Bool.or_eq_false_iff, Bool.and_eq_true, Bool.or_eq_true, Bool.and_eq_false_iff, Bool.not_eq_true', Bool.not_eq_false', Lay.d_n]; omega) | (simp only [decide_eq_true_eq, decide_eq_false_iff_not, Bool.or_eq_false_iff, Bool.and_eq_true, Bool.or_eq_true, Bool.and_eq_false_iff, Bool.not_eq_true', Bool.not_eq_false']; omega))
      refine again (k + 1, L.set k.toNat (byC (C.getD k.toNat charY.dft))) [] (.of rfl rfl rfl rfl rfl rfl) ⟨by omega, by omega, by rw [List.length_set]; exact g3, ?_⟩ (by simp only; omega)
      have hk : k.toNat < L.length := by omega
      rw [show (k + 1).toNat = k.toNat + 1 by omega, ← List.take_append_getElem (by rw [List.length_set]; exact hk), List.getElem_set_self, List.take_set_of_le (Nat.le_refl _), g4, ← List.take_append_getElem hkl, List.map_append]
      simp only [List.map_cons, List.map_nil, List.getD_eq_getElem?_getD, List.getElem?_eq_getElem hkl, Option.getD_some]
    · have h3 : ¬ k < C.length := of_decide_eq_false h3
      have hL : L = C.map byC := by
        rw [show k.toNat = C.length by omega, List.take_of_length_le (by omega), List.take_length] at g4; exact g4
      subst hL
      refine xl_bytesStr (C.map byC) rfl rfl rfl rfl Tryd.underlying91 Tryd.underlying5 Tryd.underlying9 rfl (fun E w F hs => hs.rowAt (k := 4) rfl) ?_
      rw [← hl]
      refine xl_go tt_ok ?_
      clear g4 g3
      generalize logB s = l at hls e1 e2 hl ⊢
      refine xl_call _ rfl rfl rfl rfl fn74 rfl rfl (fun E w F _ => itemsFn_any l w) (fun v u1 u2 hu2 hs2 hv => ?_)
      obtain ⟨bk, rfl, hbk⟩ := hv
      have hb2 := of_sub_cut hs2 hbk
      have hg2 : Glob u2 := (hg.sub hu.sub).sub hu2.sub
      refine xl_go tt_ok ?_
      refine x_nilCell 6 105 tokY [] [] rfl ?_
      refine x_range2 (σ := List Tok × Int) (τ := Int) rfl fn110 (items_iter l bk u2 hb2 hg2 (by omega)) [(11, .p 7 0), (10, .p 6 0), (9, .p 5 0), (4, .p 3 0), (3, .p 1 0), (2, .p 0 0)]
        (fun (T, n) => [(0, .box 79 [.v (.slice none 0 0)]), (1, .box 24 [.v (.int .i64 0)]), (2, .row 123 (charY.d C)), (3, .box 119 [.r 2]), (5, .box 9 [.v (.string l)]), (6, .box 79 [.r 10]), (7, .box 3 [.v (.int .i64 n)]), (10, .row 105 (tokY.d T))]) (fun _ => 11)
        (fun k (T, n) _ => T.length ≤ k ∧ errK (itsOf l) = errK ((itsOf l).drop k) ∧ tks C l 0 (itsOf l) = T ++ tks C l n ((itsOf l).drop k))
        (fun v => [(0, .box 79 [.v (.slice none 0 0)]), (1, .box 24 [.v (.int .i64 v)])]) (fun _ => 11)
        (fun v e _ => e = .ret ∧ errK (itsOf l) = v ∧ v ≠ 0) ([], 0) [(10, some 8)] (.of rfl rfl rfl rfl rfl rfl) ⟨Nat.le_refl _, rfl, rfl⟩ rfl
        (fun _ => rfl) (fun _ => rfl) (fun _ => by decide) (fun _ => by decide) rfl rfl (fun lb k x s' u3 Fr Fr' hx hu3 hgr => ?_) (fun s' u3 hu3 hgr => ?_) (fun v e u3 hu3 hgr => ?_)
      · obtain ⟨T, n⟩ := s'
        obtain ⟨g0, g1, g2⟩ := hgr
        rw [List.getElem?_map] at hx
        obtain ⟨t, ht, rfl⟩ := Option.map_eq_some_iff.1 hx
        rw [drop_get ht] at g1 g2
        have hm := its_mem (List.mem_of_getElem? ht)
        have hlen := its_len l
        have hk : k < (itsOf l).length := (List.getElem?_eq_some_iff.1 ht).1
        refine x_vc tt_ok ?_
        refine ⟨rfl, rfl, x_vc tt_ok ?_⟩
        refine x_if (fun h4 => ?_) (fun h4 => ?_)
        · have h4 := of_decide_eq_true h4
          rw [errK, if_pos h4] at g1
          exact ⟨t.err, [], .of rfl rfl rfl rfl rfl rfl, rfl, g1, h4⟩
        · have h4 : t.err = 0 := Classical.not_not.1 (of_decide_eq_false h4)
          rw [errK, if_neg (by simpa using h4)] at g1
          rw [tks] at g2
          have hm : t.lo < t.hi ∧ t.hi ≤ l.size := by
            rcases hm with hm | hm
            · exact absurd h4 hm
            · exact hm.2
          have q1 : (C.getD t.lo charY.dft) ∈ C := by
            rw [List.getD_eq_getElem?_getD, List.getElem?_eq_getElem (by omega : t.lo < C.length)]; exact List.getElem_mem _
          have q2 : (C.getD ((t.hi : Int) - 1).toNat charY.dft) ∈ C := by
            rw [List.getD_eq_getElem?_getD, List.getElem?_eq_getElem (by omega : ((t.hi : Int) - 1).toNat < C.length)]; exact List.getElem_mem _
          have q1 := hCp _ q1
          have q2 := hCp _ q2
          have next : (T ++ [(⟨t.kind, sub l t.lo t.hi, (C.getD t.lo charY.dft).pos, (C.getD ((t.hi : Int) - 1).toNat charY.dft).pos + (C.getD ((t.hi : Int) - 1).toNat charY.dft).len, decide (n < t.lo)⟩ : Tok)]).length ≤ k + 1 ∧ errK (itsOf l) = errK ((itsOf l).drop (k + 1)) ∧ tks C l 0 (itsOf l) = (T ++ [(⟨t.kind, sub l t.lo t.hi, (C.getD t.lo charY.dft).pos, (C.getD ((t.hi : Int) - 1).toNat charY.dft).pos + (C.getD ((t.hi : Int) - 1).toNat charY.dft).len, decide (n < t.lo)⟩ : Tok)]) ++ tks C l t.hi ((itsOf l).drop (k + 1)) :=
            ⟨by rw [List.length_append]; simp only [List.length_singleton]; omega, g1, by rw [g2, List.append_assoc]; rfl⟩
          repeat (refine And.intro ?_ ?_; first | omega | (simp only [Lay.d_n]; omega) | (simp only [decide_eq_true_eq, decide_eq_false_iff_not, Bool.or_eq_false_iff, Bool.and_eq_true, Bool.or_eq_true, Bool.and_eq_false_iff, Bool.not_eq_true', Bool.not_eq_false', Lay.d_n]; omega) | (simp only [decide_eq_true_eq, decide_eq_false_iff_not, Bool.or_eq_false_iff, Bool.and_eq_true, Bool.or_eq_true, Bool.and_eq_false_iff, Bool.not_eq_true', Bool.not_eq_false']; omega))
          refine x_drawA mix ?_
          refine xa_pures tt_ok (fuel := 21) [1, 4, 6, 10, 15, 17, 20] rfl (by kernel_rfl) (by kernel_rfl) (fun _ _ _ hh => hh) (by kernel_rfl) (by kernel_rfl) ?_
          refine xa_late2 tt_ok (fuel := 3) 0 24 [2, 3, 5, 7, 8, 9, 11, 12, 13, 14, 16, 18, 19, 21, 22, 23, 24] rfl rfl rfl (by kernel_rfl) (by kernel_rfl) (by kernel_rfl) (by kernel_rfl) (by kernel_rfl) (xd_go tt_ok ?_)
          repeat (refine And.intro ?_ ?_; first | omega | (simp only [Lay.d_n]; omega) | (simp only [decide_eq_true_eq, decide_eq_false_iff_not, Bool.or_eq_false_iff, Bool.and_eq_true, Bool.or_eq_true, Bool.and_eq_false_iff, Bool.not_eq_true', Bool.not_eq_false', Lay.d_n]; omega) | (simp only [decide_eq_true_eq, decide_eq_false_iff_not, Bool.or_eq_false_iff, Bool.and_eq_true, Bool.or_eq_true, Bool.and_eq_false_iff, Bool.not_eq_true', Bool.not_eq_false']; omega))
          refine ⟨rfl, ?_, ?_⟩
          · refine xa_chain (fuel := 1) [25, 26] rfl rfl (by kernel_rfl) ?_
            refine xl_push tt_ok tokY T (⟨t.kind, sub l t.lo t.hi, (C.getD t.lo charY.dft).pos, (C.getD ((t.hi : Int) - 1).toNat charY.dft).pos + (C.getD ((t.hi : Int) - 1).toNat charY.dft).len, decide (n < t.lo)⟩ : Tok) 48 rfl rfl rfl rfl rfl rfl rfl rfl rfl rfl rfl rfl (by kernel_rfl) rfl rfl rfl rfl rfl (fun n hn => by cases hn; decide) rfl rfl rfl (by omega) (by omega) ?_
            refine xl_end ?_
            refine xa_one 27 (by kernel_rfl) rfl (xl_go tt_ok ?_)
            refine xa_done (by kernel_rfl) rfl ?_
            exact ⟨(T ++ [(⟨t.kind, sub l t.lo t.hi, (C.getD t.lo charY.dft).pos, (C.getD ((t.hi : Int) - 1).toNat charY.dft).pos + (C.getD ((t.hi : Int) - 1).toNat charY.dft).len, decide (n < t.lo)⟩ : Tok)], (t.hi : Int)), [(10, some 13)], .of rfl rfl rfl rfl rfl rfl, next⟩
          · refine xa_two 0 25 (by kernel_rfl) rfl rfl (xl_go tt_ok ?_) ?_
            · refine xa_chain (fuel := 1) [25, 26] rfl rfl (by kernel_rfl) ?_
              refine xl_push tt_ok tokY T (⟨t.kind, sub l t.lo t.hi, (C.getD t.lo charY.dft).pos, (C.getD ((t.hi : Int) - 1).toNat charY.dft).pos + (C.getD ((t.hi : Int) - 1).toNat charY.dft).len, decide (n < t.lo)⟩ : Tok) 48 rfl rfl rfl rfl rfl rfl rfl rfl rfl rfl rfl rfl (by kernel_rfl) rfl rfl rfl rfl rfl (fun n hn => by cases hn; decide) rfl rfl rfl (by omega) (by omega) ?_
              refine xl_end ?_
              refine xa_one 27 (by kernel_rfl) rfl (xl_go tt_ok ?_)
              refine xa_done (by kernel_rfl) rfl ?_
              exact ⟨(T ++ [(⟨t.kind, sub l t.lo t.hi, (C.getD t.lo charY.dft).pos, (C.getD ((t.hi : Int) - 1).toNat charY.dft).pos + (C.getD ((t.hi : Int) - 1).toNat charY.dft).len, decide (n < t.lo)⟩ : Tok)], (t.hi : Int)), [(10, some 13)], .of rfl rfl rfl rfl rfl rfl, next⟩
            · refine xl_build tt_ok tokY [(⟨t.kind, sub l t.lo t.hi, (C.getD t.lo charY.dft).pos, (C.getD ((t.hi : Int) - 1).toNat charY.dft).pos + (C.getD ((t.hi : Int) - 1).toNat charY.dft).len, decide (n < t.lo)⟩ : Tok)] [_] rfl rfl rfl rfl rfl rfl rfl rfl rfl rfl rfl rfl rfl rfl rfl ?_
              refine xl_end ?_
              refine xa_one 0 (by kernel_rfl) rfl (xl_go tt_ok ?_)
              refine xa_one 26 (by kernel_rfl) rfl ?_
              refine xl_append tt_ok tokY T [(⟨t.kind, sub l t.lo t.hi, (C.getD t.lo charY.dft).pos, (C.getD ((t.hi : Int) - 1).toNat charY.dft).pos + (C.getD ((t.hi : Int) - 1).toNat charY.dft).len, decide (n < t.lo)⟩ : Tok)] 48 rfl rfl rfl rfl rfl rfl rfl rfl (by kernel_rfl) rfl rfl rfl (fun E w F hs => hs.rowAt (k := 13) rfl) tokOne rfl (by simp only [List.length_singleton]; omega) (by simp only [List.length_singleton]; omega) ?_
              refine xl_end ?_
              refine xa_one 27 (by kernel_rfl) rfl (xl_go tt_ok ?_)
              refine xa_done (by kernel_rfl) rfl ?_
              exact ⟨(T ++ [(⟨t.kind, sub l t.lo t.hi, (C.getD t.lo charY.dft).pos, (C.getD ((t.hi : Int) - 1).toNat charY.dft).pos + (C.getD ((t.hi : Int) - 1).toNat charY.dft).len, decide (n < t.lo)⟩ : Tok)], (t.hi : Int)), [(10, some 14)], .of rfl rfl rfl rfl rfl rfl, next⟩
      · obtain ⟨T, n⟩ := s'
        obtain ⟨g0, g1, g2⟩ := hgr
        rw [List.length_map, List.drop_length] at g1 g2
        have e3 : scanE s = 0 := by rw [e1, g1]; rfl
        have e4 : scanT s = T := by rw [e2, if_pos e3, g2]; simp [tks]
        rw [e3, e4]
        exact finO2 (k := 10) rfl
      · obtain ⟨rfl, g1, g2⟩ := hgr
        have e3 : scanE s = v := by rw [e1, g1]
        have e4 : scanT s = [] := by rw [e2, e3, if_neg g2]
        rw [e3, e4]
        exact finO2n tokY
end Go.Proofs.YtnjmkeijjapejaaDoor
namespace Go.Proofs.YtnjmkeijjapejaaDoor
open Go.GV Go.RowKit
end Go.Proofs.YtnjmkeijjapejaaDoor
namespace Go.Proofs.YtnjmkeijjapejaaDoor
open Go.GV Go.RowKit
theorem tks_len (C : List Chr) (l : ByteArray) : ∀ (xs : List Lx.Tk) (n : Int), (tks C l n xs).length = xs.length
  | [], _ => rfl
  | x :: r, n => by rw [tks, List.length_cons, tks_len C l r, List.length_cons]
end Go.Proofs.YtnjmkeijjapejaaDoor
namespace Go.Proofs.YtnjmkeijjapejaaDoor
open Go.GV Go.RowKit
theorem scanE_zero {s : ByteArray} (h : scanE s = 0) : checkE s = 0 ∧ errK (itsOf (logB s)) = 0 ∧ scanT s = tks (charsOf s) (logB s) 0 (itsOf (logB s)) ∧ (logB s).size ≤ 65536 := by
  have hc : checkE s = 0 := by
    unfold scanE at h
    split at h
    · rename_i h2; exact absurd h h2
    · rename_i h2; exact Classical.not_not.1 h2
  refine ⟨hc, ?_, ?_, ?_⟩
  · unfold scanE at h
    rw [if_neg (by simpa using hc)] at h; exact h
  · rw [scanT, if_pos h]
  · rw [logB_size]
    have h2 : charsOf s = chrsL (partsV s) := by rw [charsOf, if_pos hc]
    rw [h2]
    exact Nat.le_trans (chrsL_len _) (Nat.le_trans (partsV_len s) (checkE_size hc))
theorem scanT_len (s : ByteArray) : (scanT s).length ≤ 65537 := by
  by_cases h : scanE s = 0
  · obtain ⟨_, _, e3, e4⟩ := scanE_zero h
    rw [e3, tks_len]
    have := its_len (logB s)
    omega
  · rw [scanT, if_neg h]; simp
end Go.Proofs.YtnjmkeijjapejaaDoor
namespace Go.Proofs.YtnjmkeijjapejaaDoor
open Go.GV Go.RowKit
def toksP (s : ByteArray) : List PV := (bareFrom false (scanT (s ++ (⟨#[10]⟩ : ByteArray)))).map ofT
def fewT (L : List PV) : Bool := decide (L.length ≤ 65537) && L.all fun t => decide (t.text.size ≤ 65537)
theorem fewT_spec {L : List PV} (h : fewT L = true) : L.length ≤ 65537 ∧ ∀ t ∈ L, t.text.size ≤ 4294967280 := by
  unfold fewT at h
  rw [Bool.and_eq_true, decide_eq_true_eq, List.all_eq_true] at h
  refine ⟨h.1, fun t ht => ?_⟩
  have := of_decide_eq_true (h.2 t ht)
  omega
set_option maxRecDepth 100000 in
theorem toks_any (s : ByteArray) (w : World) (hs : s.size ≤ 1000) (hf : fewT (toksP s) = true) (hg : Glob (im w)) : Calls Tryd.prog 32 #[.string s] w (PureP w fun v u => OwnAt u v 52 (pvY.d (toksP s))) := by
  have hz : (s ++ (⟨#[10]⟩ : ByteArray)).size ≤ 9223372036854775807 := by rw [ByteArray.size_append, show (⟨#[10]⟩ : ByteArray).size = 1 from rfl]; omega
  have hl := (fewT_spec hf).1
  unfold toksP at hl ⊢
  rw [List.length_map] at hl
  have hsl := scanT_len (s ++ (⟨#[10]⟩ : ByteArray))
  refine x_fun tt_ok Tryd.func32 rfl rfl [] 0 [.v (.string s)] rfl rfl rfl rfl (fun b hb => by cases hb) ?_
  refine x_vc tt_ok ?_
  refine And.intro (by show s.size + 1 ≤ _; omega) ?_
  refine xl_callO2 105 (tokY.d (scanT (s ++ (⟨#[10]⟩ : ByteArray)))) [.int .i64 (scanE (s ++ (⟨#[10]⟩ : ByteArray)))] rfl rfl rfl rfl fn50 rfl rfl (fun E w' F hs' => scan_any _ w' hz (hg.imm hs'.imm)) ?_
  refine xl_go tt_ok ?_
  refine xl_callO 105 (tokY.d (bareFrom false (scanT (s ++ (⟨#[10]⟩ : ByteArray))))) rfl rfl rfl rfl fn52 rfl rfl (fun E w' F hs' => bare_any _ (E 0) w' (hs'.rowAt (k := 0) rfl) (by omega)) ?_
  refine xl_go tt_ok ?_
  refine xl_callO 52 (pvY.d ((bareFrom false (scanT (s ++ (⟨#[10]⟩ : ByteArray)))).map ofT)) rfl rfl rfl rfl fn51 rfl rfl (fun E w' F hs' => of_any _ (E 1) w' (hs'.rowAt (k := 1) rfl) (by omega)) ?_
  refine xl_go tt_ok ?_
  exact finO (k := 2) rfl
set_option maxRecDepth 100000 in
theorem worth_any (s : ByteArray) (v : Int) (q : Bool) (w : World) (hs : s.size ≤ 1000) (hf : fewT (toksP s) = true) (hv : valV (toksP s) = (v, q, 0)) (hg : Glob (im w)) (hO : OpG (im w)) :
    Calls Tryd.prog 28 #[.string s, .int .u64 v, .bool q] w (PureP w fun x _ => x = .bool true) := by
  obtain ⟨z1, z2⟩ := fewT_spec hf
  refine x_fun tt_ok Tryd.func28 rfl rfl [] 0 [.v (.string s), .v (.int .u64 v), .v (.bool q)] rfl rfl rfl rfl (fun b hb => by cases hb) ?_
  refine x_vc tt_ok ?_
  refine xl_callO 52 (pvY.d (toksP s)) rfl rfl rfl rfl fn32 rfl rfl (fun E w' F hs' => toks_any s w' hs hf (hg.imm hs'.imm)) ?_
  refine xl_go tt_ok ?_
  refine xl_call0 (.tuple #[.int .u64 v, .bool q, .int .i64 0]) rfl rfl rfl rfl fn26 rfl rfl (fun E w' F hs' => by
    have h := value_any (toksP s) (E 0) w' (hs'.rowAt (k := 0) rfl) (by omega) z2 (hg.imm hs'.imm) (hO.imm hs'.imm)
    rw [hv] at h
    exact h) ?_
  refine xl_go tt_ok ?_
  refine fin1 (fun _ _ => ?_)
  show Value.bool ((decide ((0 : Int) = 0) && decide (v = v)) && decide (q = q)) = _
  simp
set_option maxRecDepth 100000 in
theorem fails_any (s : ByteArray) (k : Int) (w : World) (hs : s.size ≤ 1000) (hf : fewT (toksP s) = true) (hv : valV (toksP s) = (0, false, k)) (hg : Glob (im w)) (hO : OpG (im w)) :
    Calls Tryd.prog 29 #[.string s, .int .i64 k] w (PureP w fun x _ => x = .bool true) := by
  obtain ⟨z1, z2⟩ := fewT_spec hf
  refine x_fun tt_ok Tryd.func29 rfl rfl [] 0 [.v (.string s), .v (.int .i64 k)] rfl rfl rfl rfl (fun b hb => by cases hb) ?_
  refine x_vc tt_ok ?_
  refine xl_callO 52 (pvY.d (toksP s)) rfl rfl rfl rfl fn32 rfl rfl (fun E w' F hs' => toks_any s w' hs hf (hg.imm hs'.imm)) ?_
  refine xl_go tt_ok ?_
  refine xl_call0 (.tuple #[.int .u64 0, .bool false, .int .i64 k]) rfl rfl rfl rfl fn26 rfl rfl (fun E w' F hs' => by
    have h := value_any (toksP s) (E 0) w' (hs'.rowAt (k := 0) rfl) (by omega) z2 (hg.imm hs'.imm) (hO.imm hs'.imm)
    rw [hv] at h
    exact h) ?_
  refine xl_go tt_ok ?_
  refine fin1 (fun _ _ => ?_)
  show Value.bool ((decide (k = k) && decide ((0 : Int) = 0)) && !false) = _
  simp
def alS : ByteArray := ⟨#[49, 32, 43, 32, 50, 32, 42, 32, 51, 32, 45, 32, 45, 52]⟩
set_option maxRecDepth 100000 in
theorem alive_any (w : World) (hg : Glob (im w)) (hO : OpG (im w)) : Calls Tryd.prog 24 #[] w (PureP w fun x _ => x = .bool true) := by
  refine x_fun tt_ok Tryd.func24 rfl rfl [] 0 [] rfl rfl rfl rfl (fun b hb => by cases hb) ?_
  refine x_vc tt_ok ?_
  refine xl_call0 (.bool true) rfl rfl rfl rfl fn28 rfl rfl (fun E w' F hs' => worth_any alS 11 false w' (by decide) (by kernel_rfl) (by kernel_rfl) (hg.imm hs'.imm) (hO.imm hs'.imm)) ?_
  refine xl_go tt_ok ?_
  exact fin1 (fun _ _ => rfl)
def parP : PV := ⟨5, ⟨#[40]⟩, false, none, 0, 0⟩
def parQ : PV := ⟨5, ⟨#[41]⟩, false, none, 0, 0⟩
def oneQ : PV := ⟨2, ⟨#[49]⟩, false, none, 0, 0⟩
def deepP (n : Nat) : List PV := List.replicate n parP ++ [oneQ] ++ List.replicate n parQ
theorem rep_succ {α : Type} (n : Nat) (x : α) : List.replicate (n + 1) x = List.replicate n x ++ [x] := by
  rw [List.replicate_succ']
set_option maxHeartbeats 1000000 in
set_option maxRecDepth 100000 in
theorem deep_any (n : Nat) (hn : n ≤ 1000) (w : World) : Calls Tryd.prog 30 #[.int .i64 n] w (PureP w fun v u => OwnAt u v 52 (pvY.d (deepP n))) := by
  refine x_fun tt_ok Tryd.func30 rfl rfl [] 0 [.v (.int .i64 n)] rfl rfl rfl rfl (fun b hb => by cases hb) ?_
  refine x_vc tt_ok ?_
  refine x_nil 3 52 pvY rfl ?_
  refine x_loop (σ := Nat) (fun i => ⟨[(4, .v (.int .i64 i)), (3, .r 1), (0, .v (.int .i64 n))], [], [(1, .row 52 (pvY.d (List.replicate i parP)))], 2⟩)
    (fun i _ => i ≤ n) (fun i => n - i) (fun _ => by show 1 ≤ 2; omega) 0 [(1, some 0)] (.of rfl rfl rfl rfl rfl rfl) (Nat.zero_le _) ?_
  intro i u1 hu1 g1
  refine x_vc tt_ok ?_
  refine x_if (fun h1 => ?_) (fun h1 => ?_)
  · have h1 : (i : Int) < n := of_decide_eq_true h1
    refine xl_push tt_ok pvY (List.replicate i parP) parP 56 rfl rfl rfl rfl rfl rfl rfl rfl rfl rfl rfl rfl (by kernel_rfl) rfl rfl rfl rfl rfl (fun n hn => by cases hn; decide) rfl rfl rfl (by rw [List.length_replicate]; omega) (by rw [List.length_replicate]; omega) ?_
    refine xl_go tt_ok ?_
    repeat (refine And.intro ?_ ?_; first | omega | (simp only [Lay.d_n]; omega) | (simp only [decide_eq_true_eq, decide_eq_false_iff_not, Bool.or_eq_false_iff, Bool.and_eq_true, Bool.or_eq_true, Bool.and_eq_false_iff, Bool.not_eq_true', Bool.not_eq_false', Lay.d_n]; omega) | (simp only [decide_eq_true_eq, decide_eq_false_iff_not, Bool.or_eq_false_iff, Bool.and_eq_true, Bool.or_eq_true, Bool.and_eq_false_iff, Bool.not_eq_true', Bool.not_eq_false']; omega) | (simp only [decide_eq_true_eq, decide_eq_false_iff_not, Bool.or_eq_false_iff]; simp only [Lay.d_n]; omega))
    rw [← rep_succ]
    exact again (i + 1) [(1, some 2)] (.of rfl rfl rfl rfl rfl rfl) (by omega) (by omega)
  have h1 : ¬ (i : Int) < n := of_decide_eq_false h1
  obtain rfl : i = n := by omega
  refine xl_push tt_ok pvY (List.replicate i parP) oneQ 56 rfl rfl rfl rfl rfl rfl rfl rfl rfl rfl rfl rfl (by kernel_rfl) rfl rfl rfl rfl rfl (fun n hn => by cases hn; decide) rfl rfl rfl (by rw [List.length_replicate]; omega) (by rw [List.length_replicate]; omega) ?_
  refine xl_go tt_ok ?_
  refine x_loop (σ := Nat × List PV) (fun (j, M) => ⟨[(5, .v (.int .i64 j)), (3, .r 3), (0, .v (.int .i64 i))], [], [(3, .row 52 (pvY.d M))], 4⟩)
    (fun (j, M) _ => j ≤ i ∧ M = List.replicate i parP ++ [oneQ] ++ List.replicate j parQ) (fun (j, _) => i - j) (fun (_, _) => by show 3 ≤ 4; omega) (0, List.replicate i parP ++ [oneQ]) [(3, some 2)] (.of rfl rfl rfl rfl rfl rfl) ⟨Nat.zero_le _, by simp⟩ ?_
  rintro ⟨j, M⟩ u2 hu2 ⟨g2, rfl⟩
  refine x_vc tt_ok ?_
  refine x_if (fun h2 => ?_) (fun h2 => ?_)
  · have h2 : (j : Int) < i := of_decide_eq_true h2
    refine xl_push tt_ok pvY (List.replicate i parP ++ [oneQ] ++ List.replicate j parQ) parQ 56 rfl rfl rfl rfl rfl rfl rfl rfl rfl rfl rfl rfl (by kernel_rfl) rfl rfl rfl rfl rfl (fun n hn => by cases hn; decide) rfl rfl rfl (by simp; omega) (by simp; omega) ?_
    refine xl_go tt_ok ?_
    repeat (refine And.intro ?_ ?_; first | omega | (simp only [Lay.d_n]; omega) | (simp only [decide_eq_true_eq, decide_eq_false_iff_not, Bool.or_eq_false_iff, Bool.and_eq_true, Bool.or_eq_true, Bool.and_eq_false_iff, Bool.not_eq_true', Bool.not_eq_false', Lay.d_n]; omega) | (simp only [decide_eq_true_eq, decide_eq_false_iff_not, Bool.or_eq_false_iff, Bool.and_eq_true, Bool.or_eq_true, Bool.and_eq_false_iff, Bool.not_eq_true', Bool.not_eq_false']; omega) | (simp only [decide_eq_true_eq, decide_eq_false_iff_not, Bool.or_eq_false_iff]; simp only [Lay.d_n]; omega))
    rw [List.append_assoc, ← rep_succ]
    exact again (j + 1, _) [(3, some 4)] (.of rfl rfl rfl rfl rfl rfl) ⟨by omega, rfl⟩ (by simp only; omega)
  have h2 : ¬ (j : Int) < i := of_decide_eq_false h2
  obtain rfl : j = i := by omega
  exact finO (k := 3) rfl
end Go.Proofs.YtnjmkeijjapejaaDoor
namespace Go.Proofs.YtnjmkeijjapejaaDoor
open Go.GV Go.RowKit
set_option maxRecDepth 100000
def s1 : ByteArray := ⟨#[55, 32, 47, 32, 45, 50]⟩
theorem f1 : fewT (toksP s1) = true := by kernel_rfl
theorem v1 : valV (toksP s1) = (18446744073709551613, false, 0) := by kernel_rfl
def s2 : ByteArray := ⟨#[55, 32, 37, 32, 45, 50]⟩
theorem f2 : fewT (toksP s2) = true := by kernel_rfl
theorem v2 : valV (toksP s2) = (1, false, 0) := by kernel_rfl
def s3 : ByteArray := ⟨#[45, 49, 32, 62, 62, 32, 49]⟩
theorem f3 : fewT (toksP s3) = true := by kernel_rfl
theorem v3 : valV (toksP s3) = (18446744073709551615, false, 0) := by kernel_rfl
def s4 : ByteArray := ⟨#[45, 49, 32, 60, 32, 48, 117]⟩
theorem f4 : fewT (toksP s4) = true := by kernel_rfl
theorem v4 : valV (toksP s4) = (0, false, 0) := by kernel_rfl
def s5 : ByteArray := ⟨#[45, 49, 32, 47, 32, 50, 117]⟩
theorem f5 : fewT (toksP s5) = true := by kernel_rfl
theorem v5 : valV (toksP s5) = (9223372036854775807, true, 0) := by kernel_rfl
def s6 : ByteArray := ⟨#[48, 32, 63, 32, 49, 117, 32, 58, 32, 45, 49]⟩
theorem f6 : fewT (toksP s6) = true := by kernel_rfl
theorem v6 : valV (toksP s6) = (18446744073709551615, true, 0) := by kernel_rfl
def s7 : ByteArray := ⟨#[48, 32, 38, 38, 32, 49, 32, 47, 32, 48]⟩
theorem f7 : fewT (toksP s7) = true := by kernel_rfl
theorem v7 : valV (toksP s7) = (0, false, 0) := by kernel_rfl
def s8 : ByteArray := ⟨#[49, 32, 124, 124, 32, 49, 32, 47, 32, 48]⟩
theorem f8 : fewT (toksP s8) = true := by kernel_rfl
theorem v8 : valV (toksP s8) = (1, false, 0) := by kernel_rfl
def s9 : ByteArray := ⟨#[49, 32, 63, 32, 50, 32, 58, 32, 49, 32, 37, 32, 48]⟩
theorem f9 : fewT (toksP s9) = true := by kernel_rfl
theorem v9 : valV (toksP s9) = (2, false, 0) := by kernel_rfl
def s10 : ByteArray := ⟨#[105, 110, 116]⟩
theorem f10 : fewT (toksP s10) = true := by kernel_rfl
theorem v10 : valV (toksP s10) = (0, false, 0) := by kernel_rfl
def s11 : ByteArray := ⟨#[39, 97, 39, 32, 61, 61, 32, 57, 55]⟩
theorem f11 : fewT (toksP s11) = true := by kernel_rfl
theorem v11 : valV (toksP s11) = (1, false, 0) := by kernel_rfl
def s12 : ByteArray := ⟨#[126, 48, 117, 32, 62, 62, 32, 54, 51]⟩
theorem f12 : fewT (toksP s12) = true := by kernel_rfl
theorem v12 : valV (toksP s12) = (1, true, 0) := by kernel_rfl
def s13 : ByteArray := ⟨#[49, 32, 63, 32, 50, 32, 63, 32, 51, 32, 58, 32, 52, 32, 58, 32, 53]⟩
theorem f13 : fewT (toksP s13) = true := by kernel_rfl
theorem v13 : valV (toksP s13) = (3, false, 0) := by kernel_rfl
def s14 : ByteArray := ⟨#[48, 32, 63, 32, 49, 32, 58, 32, 48, 32, 63, 32, 50, 32, 58, 32, 51]⟩
theorem f14 : fewT (toksP s14) = true := by kernel_rfl
theorem v14 : valV (toksP s14) = (3, false, 0) := by kernel_rfl
def s15 : ByteArray := ⟨#[33, 120, 32, 43, 32, 33, 33, 53]⟩
theorem f15 : fewT (toksP s15) = true := by kernel_rfl
theorem v15 : valV (toksP s15) = (2, false, 0) := by kernel_rfl
def s16 : ByteArray := ⟨#[45, 57, 50, 50, 51, 51, 55, 50, 48, 51, 54, 56, 53, 52, 55, 55, 53, 56, 48, 55, 32, 45, 32, 49, 32, 61, 61, 32, 45, 57, 50, 50, 51, 51, 55, 50, 48, 51, 54, 56, 53, 52, 55, 55, 53, 56, 48, 55, 32, 45, 32, 49, 32, 47, 32, 45, 49, 32, 45, 32, 50]⟩
theorem f16 : fewT (toksP s16) = true := by kernel_rfl
theorem v16 : valV (toksP s16) = (1, false, 0) := by kernel_rfl
def s17 : ByteArray := ⟨#[40, 45, 49, 32, 60, 60, 32, 48, 117, 41, 32, 60, 32, 48]⟩
theorem f17 : fewT (toksP s17) = true := by kernel_rfl
theorem v17 : valV (toksP s17) = (1, false, 0) := by kernel_rfl
def s18 : ByteArray := ⟨#[49, 117, 32, 60, 60, 32, 49]⟩
theorem f18 : fewT (toksP s18) = true := by kernel_rfl
theorem v18 : valV (toksP s18) = (2, true, 0) := by kernel_rfl
def s19 : ByteArray := ⟨#[49, 32, 62, 62, 32, 49, 117]⟩
theorem f19 : fewT (toksP s19) = true := by kernel_rfl
theorem v19 : valV (toksP s19) = (0, false, 0) := by kernel_rfl
def s20 : ByteArray := ⟨#[45, 49, 32, 62, 62, 32, 49, 117]⟩
theorem f20 : fewT (toksP s20) = true := by kernel_rfl
theorem v20 : valV (toksP s20) = (18446744073709551615, false, 0) := by kernel_rfl
def s21 : ByteArray := ⟨#[40, 45, 57, 50, 50, 51, 51, 55, 50, 48, 51, 54, 56, 53, 52, 55, 55, 53, 56, 48, 55, 32, 45, 32, 49, 41, 32, 47, 32, 45, 50]⟩
theorem f21 : fewT (toksP s21) = true := by kernel_rfl
theorem v21 : valV (toksP s21) = (4611686018427387904, false, 0) := by kernel_rfl
def s22 : ByteArray := ⟨#[40, 45, 57, 50, 50, 51, 51, 55, 50, 48, 51, 54, 56, 53, 52, 55, 55, 53, 56, 48, 55, 32, 45, 32, 49, 41, 32, 37, 32, 45, 49]⟩
theorem f22 : fewT (toksP s22) = true := by kernel_rfl
theorem v22 : valV (toksP s22) = (0, false, 0) := by kernel_rfl
def s23 : ByteArray := ⟨#[40, 45, 57, 50, 50, 51, 51, 55, 50, 48, 51, 54, 56, 53, 52, 55, 55, 53, 56, 48, 55, 32, 45, 32, 49, 41, 32, 47, 32, 45, 49]⟩
theorem f23 : fewT (toksP s23) = true := by kernel_rfl
theorem v23 : valV (toksP s23) = (9223372036854775808, false, 0) := by kernel_rfl
def s24 : ByteArray := ⟨#[49, 32, 47, 32, 48]⟩
theorem f24 : fewT (toksP s24) = true := by kernel_rfl
theorem v24 : valV (toksP s24) = (0, false, 71) := by kernel_rfl
def s25 : ByteArray := ⟨#[49, 32, 60, 60, 32, 54, 52]⟩
theorem f25 : fewT (toksP s25) = true := by kernel_rfl
theorem v25 : valV (toksP s25) = (0, false, 70) := by kernel_rfl
def s26 : ByteArray := ⟨#[49, 32, 43]⟩
theorem f26 : fewT (toksP s26) = true := by kernel_rfl
theorem v26 : valV (toksP s26) = (0, false, 70) := by kernel_rfl
def s27 : ByteArray := ⟨#[40, 49]⟩
theorem f27 : fewT (toksP s27) = true := by kernel_rfl
theorem v27 : valV (toksP s27) = (0, false, 70) := by kernel_rfl
def s28 : ByteArray := ⟨#[49, 46, 48]⟩
theorem f28 : fewT (toksP s28) = true := by kernel_rfl
theorem v28 : valV (toksP s28) = (0, false, 70) := by kernel_rfl
def s29 : ByteArray := ⟨#[]⟩
theorem f29 : fewT (toksP s29) = true := by kernel_rfl
theorem v29 : valV (toksP s29) = (0, false, 70) := by kernel_rfl
def s30 : ByteArray := ⟨#[49, 32, 44, 32, 50]⟩
theorem f30 : fewT (toksP s30) = true := by kernel_rfl
theorem v30 : valV (toksP s30) = (0, false, 70) := by kernel_rfl
def s31 : ByteArray := ⟨#[49, 32, 63, 32, 50]⟩
theorem f31 : fewT (toksP s31) = true := by kernel_rfl
theorem v31 : valV (toksP s31) = (0, false, 70) := by kernel_rfl
def s32 : ByteArray := ⟨#[34, 97, 34]⟩
theorem f32 : fewT (toksP s32) = true := by kernel_rfl
theorem v32 : valV (toksP s32) = (0, false, 70) := by kernel_rfl
def s33 : ByteArray := ⟨#[49, 32, 62, 62, 32, 45, 49]⟩
theorem f33 : fewT (toksP s33) = true := by kernel_rfl
theorem v33 : valV (toksP s33) = (0, false, 70) := by kernel_rfl
def s34 : ByteArray := ⟨#[49, 32, 50]⟩
theorem f34 : fewT (toksP s34) = true := by kernel_rfl
theorem v34 : valV (toksP s34) = (0, false, 70) := by kernel_rfl
def s35 : ByteArray := ⟨#[40, 41]⟩
theorem f35 : fewT (toksP s35) = true := by kernel_rfl
theorem v35 : valV (toksP s35) = (0, false, 70) := by kernel_rfl
def lay2 : List PV := [⟨11, ⟨#[]⟩, false, none, 0, 0⟩, ⟨6, ⟨#[]⟩, false, none, 0, 0⟩]
theorem vl : valV lay2 = (0, false, 62) := by kernel_rfl
theorem fl : fewT lay2 = true := by kernel_rfl
theorem vd : valV (deepP 255) = (1, false, 0) := by kernel_rfl
theorem fd : fewT (deepP 255) = true := by kernel_rfl
theorem ve : valV (deepP 256) = (0, false, 111) := by kernel_rfl
theorem fe : fewT (deepP 256) = true := by kernel_rfl
def s99 : ByteArray := ⟨#[50]⟩
theorem f99 : fewT (toksP s99) = true := by kernel_rfl
theorem v99 : holV (toksP s99) = (true, 0) := by kernel_rfl
set_option maxHeartbeats 4000000 in
theorem names_any (w : World) (hg : Glob (im w)) (hO : OpG (im w)) : Calls Tryd.prog 8 #[] w (PureP w fun x _ => x = .bool true) := by
  refine x_fun tt_ok Tryd.func8 rfl rfl [] 0 [] rfl rfl rfl rfl (fun b hb => by cases hb) ?_
  refine x_vc tt_ok ?_
  refine xl_call0 (.bool true) rfl rfl rfl rfl fn24 rfl rfl (fun E w' F hs' => alive_any w' (hg.imm hs'.imm) (hO.imm hs'.imm)) ?_
  refine xl_go tt_ok ?_
  refine xl_gcallF (.bool true) rfl rfl rfl rfl fn28 rfl rfl (fun E w' F hs' => worth_any s1 18446744073709551613 false w' (by decide) f1 v1 (hg.imm hs'.imm) (hO.imm hs'.imm)) ?_
  refine xl_go tt_ok ?_
  refine xl_gcallF (.bool true) rfl rfl rfl rfl fn28 rfl rfl (fun E w' F hs' => worth_any s2 1 false w' (by decide) f2 v2 (hg.imm hs'.imm) (hO.imm hs'.imm)) ?_
  refine xl_go tt_ok ?_
  refine xl_gcallF (.bool true) rfl rfl rfl rfl fn28 rfl rfl (fun E w' F hs' => worth_any s3 18446744073709551615 false w' (by decide) f3 v3 (hg.imm hs'.imm) (hO.imm hs'.imm)) ?_
  refine xl_go tt_ok ?_
  refine xl_gcallF (.bool true) rfl rfl rfl rfl fn28 rfl rfl (fun E w' F hs' => worth_any s4 0 false w' (by decide) f4 v4 (hg.imm hs'.imm) (hO.imm hs'.imm)) ?_
  refine xl_go tt_ok ?_
  refine xl_gcallF (.bool true) rfl rfl rfl rfl fn28 rfl rfl (fun E w' F hs' => worth_any s5 9223372036854775807 true w' (by decide) f5 v5 (hg.imm hs'.imm) (hO.imm hs'.imm)) ?_
  refine xl_go tt_ok ?_
  refine xl_gcallF (.bool true) rfl rfl rfl rfl fn28 rfl rfl (fun E w' F hs' => worth_any s6 18446744073709551615 true w' (by decide) f6 v6 (hg.imm hs'.imm) (hO.imm hs'.imm)) ?_
  refine xl_go tt_ok ?_
  refine xl_call0 (.bool true) rfl rfl rfl rfl fn28 rfl rfl (fun E w' F hs' => worth_any s7 0 false w' (by decide) f7 v7 (hg.imm hs'.imm) (hO.imm hs'.imm)) ?_
  refine xl_go tt_ok ?_
  refine xl_gcallF (.bool true) rfl rfl rfl rfl fn28 rfl rfl (fun E w' F hs' => worth_any s8 1 false w' (by decide) f8 v8 (hg.imm hs'.imm) (hO.imm hs'.imm)) ?_
  refine xl_go tt_ok ?_
  refine xl_gcallF (.bool true) rfl rfl rfl rfl fn28 rfl rfl (fun E w' F hs' => worth_any s9 2 false w' (by decide) f9 v9 (hg.imm hs'.imm) (hO.imm hs'.imm)) ?_
  refine xl_go tt_ok ?_
  refine xl_gcallF (.bool true) rfl rfl rfl rfl fn28 rfl rfl (fun E w' F hs' => worth_any s10 0 false w' (by decide) f10 v10 (hg.imm hs'.imm) (hO.imm hs'.imm)) ?_
  refine xl_go tt_ok ?_
  refine xl_gcallF (.bool true) rfl rfl rfl rfl fn28 rfl rfl (fun E w' F hs' => worth_any s11 1 false w' (by decide) f11 v11 (hg.imm hs'.imm) (hO.imm hs'.imm)) ?_
  refine xl_go tt_ok ?_
  refine xl_gcallF (.bool true) rfl rfl rfl rfl fn28 rfl rfl (fun E w' F hs' => worth_any s12 1 true w' (by decide) f12 v12 (hg.imm hs'.imm) (hO.imm hs'.imm)) ?_
  refine xl_go tt_ok ?_
  refine xl_gcallF (.bool true) rfl rfl rfl rfl fn28 rfl rfl (fun E w' F hs' => worth_any s13 3 false w' (by decide) f13 v13 (hg.imm hs'.imm) (hO.imm hs'.imm)) ?_
  refine xl_go tt_ok ?_
  refine xl_gcallF (.bool true) rfl rfl rfl rfl fn28 rfl rfl (fun E w' F hs' => worth_any s14 3 false w' (by decide) f14 v14 (hg.imm hs'.imm) (hO.imm hs'.imm)) ?_
  refine xl_go tt_ok ?_
  refine xl_gcallF (.bool true) rfl rfl rfl rfl fn28 rfl rfl (fun E w' F hs' => worth_any s15 2 false w' (by decide) f15 v15 (hg.imm hs'.imm) (hO.imm hs'.imm)) ?_
  refine xl_go tt_ok ?_
  refine xl_gcallF (.bool true) rfl rfl rfl rfl fn28 rfl rfl (fun E w' F hs' => worth_any s16 1 false w' (by decide) f16 v16 (hg.imm hs'.imm) (hO.imm hs'.imm)) ?_
  refine xl_go tt_ok ?_
  refine xl_gcallF (.bool true) rfl rfl rfl rfl fn28 rfl rfl (fun E w' F hs' => worth_any s17 1 false w' (by decide) f17 v17 (hg.imm hs'.imm) (hO.imm hs'.imm)) ?_
  refine xl_go tt_ok ?_
  refine xl_gcallF (.bool true) rfl rfl rfl rfl fn28 rfl rfl (fun E w' F hs' => worth_any s18 2 true w' (by decide) f18 v18 (hg.imm hs'.imm) (hO.imm hs'.imm)) ?_
  refine xl_go tt_ok ?_
  refine xl_gcallF (.bool true) rfl rfl rfl rfl fn28 rfl rfl (fun E w' F hs' => worth_any s19 0 false w' (by decide) f19 v19 (hg.imm hs'.imm) (hO.imm hs'.imm)) ?_
  refine xl_go tt_ok ?_
  refine xl_gcallF (.bool true) rfl rfl rfl rfl fn28 rfl rfl (fun E w' F hs' => worth_any s20 18446744073709551615 false w' (by decide) f20 v20 (hg.imm hs'.imm) (hO.imm hs'.imm)) ?_
  refine xl_go tt_ok ?_
  refine xl_gcallF (.bool true) rfl rfl rfl rfl fn28 rfl rfl (fun E w' F hs' => worth_any s21 4611686018427387904 false w' (by decide) f21 v21 (hg.imm hs'.imm) (hO.imm hs'.imm)) ?_
  refine xl_go tt_ok ?_
  refine xl_gcallF (.bool true) rfl rfl rfl rfl fn28 rfl rfl (fun E w' F hs' => worth_any s22 0 false w' (by decide) f22 v22 (hg.imm hs'.imm) (hO.imm hs'.imm)) ?_
  refine xl_go tt_ok ?_
  refine xl_gcallF (.bool true) rfl rfl rfl rfl fn28 rfl rfl (fun E w' F hs' => worth_any s23 9223372036854775808 false w' (by decide) f23 v23 (hg.imm hs'.imm) (hO.imm hs'.imm)) ?_
  refine xl_go tt_ok ?_
  refine xl_call0 (.bool true) rfl rfl rfl rfl fn29 rfl rfl (fun E w' F hs' => fails_any s24 71 w' (by decide) f24 v24 (hg.imm hs'.imm) (hO.imm hs'.imm)) ?_
  refine xl_go tt_ok ?_
  refine xl_gcallF (.bool true) rfl rfl rfl rfl fn29 rfl rfl (fun E w' F hs' => fails_any s25 70 w' (by decide) f25 v25 (hg.imm hs'.imm) (hO.imm hs'.imm)) ?_
  refine xl_go tt_ok ?_
  refine xl_gcallF (.bool true) rfl rfl rfl rfl fn29 rfl rfl (fun E w' F hs' => fails_any s26 70 w' (by decide) f26 v26 (hg.imm hs'.imm) (hO.imm hs'.imm)) ?_
  refine xl_go tt_ok ?_
  refine xl_gcallF (.bool true) rfl rfl rfl rfl fn29 rfl rfl (fun E w' F hs' => fails_any s27 70 w' (by decide) f27 v27 (hg.imm hs'.imm) (hO.imm hs'.imm)) ?_
  refine xl_go tt_ok ?_
  refine xl_gcallF (.bool true) rfl rfl rfl rfl fn29 rfl rfl (fun E w' F hs' => fails_any s28 70 w' (by decide) f28 v28 (hg.imm hs'.imm) (hO.imm hs'.imm)) ?_
  refine xl_go tt_ok ?_
  refine xl_gcallF (.bool true) rfl rfl rfl rfl fn29 rfl rfl (fun E w' F hs' => fails_any s29 70 w' (by decide) f29 v29 (hg.imm hs'.imm) (hO.imm hs'.imm)) ?_
  refine xl_go tt_ok ?_
  refine xl_gcallF (.bool true) rfl rfl rfl rfl fn29 rfl rfl (fun E w' F hs' => fails_any s30 70 w' (by decide) f30 v30 (hg.imm hs'.imm) (hO.imm hs'.imm)) ?_
  refine xl_go tt_ok ?_
  refine xl_gcallF (.bool true) rfl rfl rfl rfl fn29 rfl rfl (fun E w' F hs' => fails_any s31 70 w' (by decide) f31 v31 (hg.imm hs'.imm) (hO.imm hs'.imm)) ?_
  refine xl_go tt_ok ?_
  refine xl_gcallF (.bool true) rfl rfl rfl rfl fn29 rfl rfl (fun E w' F hs' => fails_any s32 70 w' (by decide) f32 v32 (hg.imm hs'.imm) (hO.imm hs'.imm)) ?_
  refine xl_go tt_ok ?_
  refine xl_gcallF (.bool true) rfl rfl rfl rfl fn29 rfl rfl (fun E w' F hs' => fails_any s33 70 w' (by decide) f33 v33 (hg.imm hs'.imm) (hO.imm hs'.imm)) ?_
  refine xl_go tt_ok ?_
  refine xl_gcallF (.bool true) rfl rfl rfl rfl fn29 rfl rfl (fun E w' F hs' => fails_any s34 70 w' (by decide) f34 v34 (hg.imm hs'.imm) (hO.imm hs'.imm)) ?_
  refine xl_go tt_ok ?_
  refine xl_gcallF (.bool true) rfl rfl rfl rfl fn29 rfl rfl (fun E w' F hs' => fails_any s35 70 w' (by decide) f35 v35 (hg.imm hs'.imm) (hO.imm hs'.imm)) ?_
  refine xl_go tt_ok ?_
  refine xl_build tt_ok pvY lay2 [_, _] rfl rfl rfl rfl rfl rfl rfl rfl rfl rfl rfl rfl rfl rfl rfl ?_
  refine xl_go tt_ok ?_
  refine xl_call0 (.tuple #[.int .u64 0, .bool false, .int .i64 62]) rfl rfl rfl rfl fn26 rfl rfl (fun E w' F hs' => by
    have h := value_any lay2 (E 0) w' (hs'.rowAt (k := 0) rfl) (by have := (fewT_spec fl).1; omega) (fewT_spec fl).2 (hg.imm hs'.imm) (hO.imm hs'.imm)
    rw [vl] at h
    exact h) ?_
  refine xl_go tt_ok ?_
  refine xl_callO 52 (pvY.d (deepP 255)) rfl rfl rfl rfl fn30 rfl rfl (fun E w' F hs' => deep_any 255 (by decide) w') ?_
  refine xl_go tt_ok ?_
  refine xl_call0 (.tuple #[.int .u64 1, .bool false, .int .i64 0]) rfl rfl rfl rfl fn26 rfl rfl (fun E w' F hs' => by
    have h := value_any (deepP 255) (E 1) w' (hs'.rowAt (k := 1) rfl) (by have := (fewT_spec fd).1; omega) (fewT_spec fd).2 (hg.imm hs'.imm) (hO.imm hs'.imm)
    rw [vd] at h
    exact h) ?_
  refine xl_go tt_ok ?_
  refine xl_callO 52 (pvY.d (deepP 256)) rfl rfl rfl rfl fn30 rfl rfl (fun E w' F hs' => deep_any 256 (by decide) w') ?_
  refine xl_go tt_ok ?_
  refine xl_call0 (.tuple #[.int .u64 0, .bool false, .int .i64 111]) rfl rfl rfl rfl fn26 rfl rfl (fun E w' F hs' => by
    have h := value_any (deepP 256) (E 2) w' (hs'.rowAt (k := 2) rfl) (by have := (fewT_spec fe).1; omega) (fewT_spec fe).2 (hg.imm hs'.imm) (hO.imm hs'.imm)
    rw [ve] at h
    exact h) ?_
  refine xl_go tt_ok ?_
  refine xl_callO 52 (pvY.d (toksP s99)) rfl rfl rfl rfl fn32 rfl rfl (fun E w' F hs' => toks_any s99 w' (by decide) f99 (hg.imm hs'.imm)) ?_
  refine xl_go tt_ok ?_
  refine xl_call0 (.tuple #[.bool true, .int .i64 0]) rfl rfl rfl rfl fn31 rfl rfl (fun E w' F hs' => by
    have h := holds_any (toksP s99) (E 3) w' (hs'.rowAt (k := 3) rfl) (by have := (fewT_spec f99).1; omega) (fewT_spec f99).2 (hg.imm hs'.imm) (hO.imm hs'.imm)
    rw [v99] at h
    exact h) ?_
  refine xl_go tt_ok ?_
  exact fin1 (fun _ _ => rfl)
end Go.Proofs.YtnjmkeijjapejaaDoor
namespace Go.Proofs.YtnjmkeijjapejaaDoor
open Go.ChangeShapes Go.WideShapes Go.ChangeAt Go.RowKit Go.GV
theorem returnsInHanded_and_shaped {H : Type} {enc : TypeId × Value → H} {a : Assume} {C : Checked} {os : Os} {f : FuncId} {fn : Func} {s : ChangeSpec} {conds : List PathCond} {apart fresh handsOn again : Bool} {X : World → Array Value → Prop}
    (hX : ∀ (w w' : World) (args : Array Value), w.heap = w'.heap → X w args → X w' args)
    (own : ownKnob C.prog.godebug = none) (started : os.Started) (noInit : C.prog.inits.idxOf? f = none) (hfn : C.prog.funcs[f]? = some fn)
    (witness : ∃ (w : World) (tape : Tape) (i : Input), w.os = os ∧ (w.forCall tape i).Shaped C.prog ∧ i.vars = [] ∧ Input.okWide C.prog (w.forCall tape i) .any w.heap.size f i ∧
      ((s.pre enc C.prog fn conds apart (w.forCall tape i).memory i.args ∧ X (w.forCall tape i).memory i.args) ∧ sizedMet enc C.prog fn (OpenSpec.ofChange s) apart (w.forCall tape i).memory i.args) ∧ a.holds C.prog (lone (Frame.enter C.prog f i.args .normal) [] (w.forCall tape i)))
    (contract : ∀ (W : World) (base : Nat) (args : Array Value) (ds gs : List (DataW H)) (before : List MemPlace),
      (∀ (j : Nat) t v, fn.params[j]? = some t → args[j]? = some v → Value.okWide C.prog W .any base t v) →
      DataW.Whole enc C.prog fn.params.toList s.vars apart W args.toList ds gs before →
      conds.all (PathCond.test C.prog ⟨fn.params.toList, ds, s.plain.varTypes C.prog, gs⟩) = true →
      (DataW.weightsEach C.prog (fn.params.toList ++ s.plain.varTypes C.prog) (ds ++ gs)).all (· ≤ reachBytes) = true → X W args → W.ShapedOpen C.prog →
      a.holds C.prog (lone (Frame.enter C.prog f args .normal) [] W) →
      Calls C.prog f args W fun e W' => ∃ v, e = .returned v ∧ s.post enc C.prog fn apart fresh handsOn again W args v W') :
    ReturnsInHanded a C os f .any (fun w args => (s.pre enc C.prog fn conds apart w args ∧ X w args) ∧ sizedMet enc C.prog fn (OpenSpec.ofChange s) apart w args) (s.post enc C.prog fn apart fresh handsOn again) := by
  refine returnsInHanded_of_calls own started noInit witness ?_
  intro w tape i _ hsh _ hok hpre hholds
  obtain ⟨_, _, _, fn', hfn', _, _, _, _, hval⟩ := hok
  have e : fn' = fn := Option.some.inj (hfn'.symm.trans hfn)
  subst e
  obtain ⟨⟨⟨ds, gs, before, hw, hc⟩, hx⟩, hz⟩ := hpre
  have hw' := DataW.Whole.of_heap (w' := w.forCall tape i) (by rfl) hw
  refine (contract (w.forCall tape i) w.heap.size i.args ds gs before hval hw' hc (hz.weights hw) (hX _ _ _ (by rfl) hx) hsh hholds).mono fun e W' ⟨v, he, hp⟩ => ?_
  subst he
  exact ChangeSpec.post_blind hp
def lst : List (String × DataW Unit) := [("reglet/cond.operators", Rows.laid_reglet_cond_operators)]
theorem gOps : Tryd.prog.globalNamed "reglet/cond.operators" = some 0 := by kernel_rfl
theorem lstB (os : Os) : (World.laidAll Tryd.prog os lst).os = os := World.laidAll_os _ _ _
theorem met (os : Os) (args : Array Value) : laidMetH Tryd.prog lst ((World.laidAll Tryd.prog os lst).forCall (fun _ _ => 0) ⟨#[], args, []⟩).memory := by
  rw [MakeChecks.laidMetH_plain _ _ _ (by kernel_rfl)]
  exact laidMet_laidAll args (by kernel_rfl) (by kernel_rfl)
set_option maxRecDepth 100000 in
theorem pair_of {H : Type} {enc : TypeId × Value → H} {W : World} {b : Nat} {sp : Nat → Bool} {hd : Bool} {m : Nat} {cs : List Value} {x : DataW H × List MemPlace} (h : DataW.trod enc Tryd.prog W b sp hd m 182 cs = some x) :
    ∃ (s : ByteArray) (n : Int), cs = [.string s, .int .i64 n] ∧ x.1 = .agg [.lit (.string s.data.toList), .lit (.int .i64 n)] := by
  obtain ⟨xs, k, _, hx, hl, hxl, hf⟩ := DataW.trod_struct Tryd.underlying182 h
  have c182 : Tryd.prog.cellsOf 182 = 2 := by kernel_rfl
  have c9 : Tryd.prog.cellsOf 9 = 1 := by kernel_rfl
  have c3 : Tryd.prog.cellsOf 3 = 1 := by kernel_rfl
  rw [c182] at hl
  have h0 := hf 0 _ rfl
  have h1 := hf 1 _ rfl
  change DataW.trod enc Tryd.prog W b sp hd k 9 ((cs.drop 0).take (Tryd.prog.cellsOf 9)) = xs[0]? at h0
  change DataW.trod enc Tryd.prog W b sp hd k 3 ((cs.drop 1).take (Tryd.prog.cellsOf 3)) = xs[1]? at h1
  rw [c9] at h0
  rw [c3] at h1
  match xs, hxl, cs, hl, h0, h1, hx with
  | [x0, x1], _, [a, c], _, h0, h1, hx =>
    obtain ⟨s, e1, e2, _⟩ := DataW.trod_string Tryd.underlying9 (show DataW.trod _ Tryd.prog W b sp hd k 9 _ = some x0 from h0)
    obtain ⟨n, e3, e4, _⟩ := DataW.trod_int Tryd.underlying3 (show DataW.trod _ Tryd.prog W b sp hd k 3 _ = some x1 from h1)
    have e1 : [a] = [Value.string s] := e1
    have e3 : [c] = [Value.int .i64 n] := e3
    cases e1; cases e3
    refine ⟨s, n, rfl, ?_⟩
    rw [hx, e2, e4]; rfl
def opD (p : ByteArray × Int) : DataW Unit := .agg [.lit (.string p.1.data.toList), .lit (.int .i64 p.2)]
theorem laid_ops : (Rows.laid_reglet_cond_operators : DataW Unit) = .agg (opsL.map opD) := rfl
theorem ops_of_laid {W : World} (h : laidMetH Tryd.prog lst W) : OpG (im W) := by
  rw [MakeChecks.laidMetH_plain _ _ _ (by kernel_rfl)] at h
  obtain ⟨ps, ⟨g0, t0, cs0, f0, p0, q0, hg0, ht0, hv0, hd0, _, _⟩, _, _⟩ := h
  obtain rfl := Option.some.inj (gOps.symm.trans hg0)
  have tOps : (Tryd.prog.globals[0]?).map (·.type) = some 183 := by kernel_rfl
  obtain rfl := Option.some.inj (tOps.symm.trans ht0)
  rw [laid_ops] at hd0
  obtain ⟨xs, m1, _, hx1, hlen, hn, hel⟩ := DataW.trod_array Tryd.underlying183 hd0
  have c182 : Tryd.prog.cellsOf 182 = 2 := by kernel_rfl
  simp only [Prod.mk.injEq, DataW.agg.injEq] at hx1
  intro i hi
  have h1 := hel i hi
  rw [c182] at h1
  have hxi : i < xs.length := by omega
  rw [List.getElem?_eq_getElem hxi] at h1
  obtain ⟨s, n, e1, e2⟩ := pair_of h1
  have h2 : (opsL.map opD)[i]? = (xs.map (·.1))[i]? := by rw [hx1.1]
  have hoi : i < opsL.length := hi
  rw [List.getElem?_map, List.getElem?_map, List.getElem?_eq_getElem hxi, List.getElem?_eq_getElem hoi] at h2
  simp only [Option.map_some, Option.some.injEq] at h2
  rw [e2] at h2
  have hop : opAt i = opsL[i] := by unfold opAt; rw [List.getD_eq_getElem?_getD, List.getElem?_eq_getElem hoi]; rfl
  rw [← hop] at h2
  unfold opD at h2
  simp only [DataW.agg.injEq, List.cons.injEq, DataW.lit.injEq, Lit.string.injEq, Lit.int.injEq, and_true, true_and] at h2
  obtain ⟨k1, k2⟩ := h2
  have hs : s = (opAt i).1 := by
    obtain ⟨⟨l⟩⟩ := s
    generalize (opAt i).1 = z at k1
    obtain ⟨⟨l2⟩⟩ := z
    have k1 : l2 = l := k1
    rw [k1]
  have get : ∀ j : Nat, cs0[j]? = cs0.toList[j]? := fun j => (Array.getElem?_toList).symm
  have d0 : cs0.toList[i * 2]? = some (.string s) := by
    have := congrArg (fun l => l[0]?) e1
    simpa [List.getElem?_take, List.getElem?_drop] using this
  have d1 : cs0.toList[i * 2 + 1]? = some (.int .i64 n) := by
    have := congrArg (fun l => l[1]?) e1
    simpa [List.getElem?_take, List.getElem?_drop] using this
  have v0 := World.var?_cell hg0 hv0 (i * 2)
  have v1 := World.var?_cell hg0 hv0 (i * 2 + 1)
  rw [get, d0, hs] at v0
  rw [get, d1, ← k2] at v1
  exact ⟨v0, v1⟩
end Go.Proofs.YtnjmkeijjapejaaDoor
namespace Go.Proofs.YtnjmkeijjapejaaDoor
open Go.ChangeShapes Go.WideShapes Go.ChangeAt Go.RowKit Go.GV
theorem own : ownKnob Tryd.prog.godebug = none := by kernel_rfl
theorem laidOut : laidOutB Tryd.prog = true := by kernel_rfl
theorem fMaps : mapsRowed Tryd.prog = true := by kernel_rfl
theorem fHeard : Tryd.prog.stopsHeard = true := by kernel_rfl
theorem fEnter : Tryd.prog.mayEnter = true := by kernel_rfl
theorem fLifts : (Rows.condNamesRow.lifted == Tryd.prog.liftsFinal) = true := by kernel_rfl
theorem fMake : (Tryd.prog.make == some Rows.condNamesRow.make) = true := by kernel_rfl
theorem jmk {a0 a1 a2 a3 a4 a5 a6 a7 a8 a9 a10 a11 a12 a13 a14 a15 a16 a17 a18 a19 a20 a21 a22 a23 a24 a25 a26 a27 a28 a29 a30 a31 : Bool} (h0 : a0 = true) (h1 : a1 = true) (h2 : a2 = true) (h3 : a3 = true) (h4 : a4 = true) (h5 : a5 = true) (h6 : a6 = true) (h7 : a7 = true) (h8 : a8 = true) (h9 : a9 = true) (h10 : a10 = true) (h11 : a11 = true) (h12 : a12 = true) (h13 : a13 = true) (h14 : a14 = true) (h15 : a15 = true) (h16 : a16 = true) (h17 : a17 = true) (h18 : a18 = true) (h19 : a19 = true) (h20 : a20 = true) (h21 : a21 = true) (h22 : a22 = true) (h23 : a23 = true) (h24 : a24 = true) (h25 : a25 = true) (h26 : a26 = true) (h27 : a27 = true) (h28 : a28 = true) (h29 : a29 = true) (h30 : a30 = true) (h31 : a31 = true) :
    (a0 && a1 && a2 && a3 && a4 && a5 && a6 && a7 && a8 && a9 && a10 && a11 && a12 && a13 && a14 && a15 && a16 && a17 && a18 && a19 && a20 && a21 && a22 && a23 && a24 && a25 && a26 && a27 && a28 && a29 && a30 && a31) = true := by simp only [h0, h1, h2, h3, h4, h5, h6, h7, h8, h9, h10, h11, h12, h13, h14, h15, h16, h17, h18, h19, h20, h21, h22, h23, h24, h25, h26, h27, h28, h29, h30, h31, Bool.and_self]
end Go.Proofs.YtnjmkeijjapejaaDoor
namespace Go.Proofs.YtnjmkeijjapejaaDoor
open Go.ChangeShapes Go.WideShapes Go.ChangeAt Go.RowKit Go.GV
set_option maxRecDepth 100000 in
theorem lifted (os : Os) (started : os.Started) (H : Type) (enc : TypeId × Value → H) :
    ReturnsInHanded {} Tryd.checked os 8 .any (fun w args => (Rows.condNamesSpec.pre enc Tryd.prog Tryd.f8 [] false w args ∧ laidMetH Tryd.prog lst w) ∧ sizedMet enc Tryd.prog Tryd.f8 (OpenSpec.ofChange Rows.condNamesSpec) false w args)
      (Rows.condNamesSpec.post enc Tryd.prog Tryd.f8 false true false false) := by
  refine returnsInHanded_and_shaped (C := Tryd.checked) (X := fun w _ => laidMetH Tryd.prog lst w) (fun _ _ _ hh h => h.of_heap hh) own started (by kernel_rfl) Tryd.func8
    (ChangeSpec.witness_at (enc := enc) (C := Tryd.checked) (os := os) (X := fun w _ => laidMetH Tryd.prog lst w) false (World.laidAll Tryd.prog os lst) #[] 8 (lstB os) (by kernel_rfl) (by kernel_rfl) (by kernel_rfl) (by kernel_rfl) (by kernel_rfl) (met os _)) ?_
  intro W base args ds gs before hval0 hW hcnd hz hL hsh _
  have hval : ∀ (j : Nat) t v, Tryd.f8.params[j]? = some t → args[j]? = some v → Value.okWide Tryd.prog W .any base t v := hval0
  have hW' := hW
  obtain ⟨p, q, hA0, hV, rfl, hfz, hnd⟩ := hW
  have hA : DataW.TrodAll enc Tryd.prog W 0 (fun _ => true) true Tryd.f8.params.toList args.toList ds p := hA0
  rw [Tryd.params8] at hA hval hz
  obtain ⟨hargs, rfl, rfl⟩ := trodAll_nil hA
  obtain rfl : args = #[] := by cases args; simp_all
  obtain ⟨rfl, rfl⟩ := trodVars_none hV
  have hg : Glob (im W) := Tryd.laysM143.s1_3 W hsh
  have hO : OpG (im W) := ops_of_laid hL
  clear hA0 hval0
  refine (names_any W hg hO).mono fun e W' ⟨v, he, bel, hv⟩ => ?_
  subst he hv
  exact ⟨_, rfl, _, _, _, [], _, [], hW', trodAll_mk1 (shut_bool Tryd.underlying4 _), trodAll_mk0, rfl, bel.frame _, fun h => by cases h⟩
theorem c9 : (Rows.condNamesRow.inPlace == Tryd.prog.inPlace 8) = true := by kernel_rfl
theorem c10 : (Rows.condNamesRow.unfollowed == Tryd.prog.unfollowed 8) = true := by kernel_rfl
theorem c11 : (Rows.condNamesRow.recurses == Tryd.prog.recurses 8) = true := by kernel_rfl
theorem c12 : (Rows.condNamesRow.named == Tryd.prog.varsNamed 8) = true := by kernel_rfl
theorem closed : joinedFacts Tryd.prog 8 Tryd.f8 Rows.condNamesSpec Rows.condNamesRow = true :=
  jmk (by kernel_rfl) laidOut fMaps (by kernel_rfl) (by kernel_rfl) (by kernel_rfl) (by kernel_rfl) (by kernel_rfl) (by kernel_rfl) c9 c10 c11 c12 (by kernel_rfl) (by kernel_rfl) (by kernel_rfl) (by kernel_rfl) (by kernel_rfl) (by kernel_rfl) (by kernel_rfl) (by kernel_rfl) (by kernel_rfl) (by kernel_rfl) (by kernel_rfl) fHeard fEnter fLifts fMake (by kernel_rfl) (by kernel_rfl) (by kernel_rfl) (by kernel_rfl)
theorem named : Tryd.prog.funcNamed Rows.condNamesRow.func = some 8 := by kernel_rfl
theorem inst : Tryd.f8.isInstance Tryd.prog Rows.condNamesRow.origin Rows.condNamesRow.targs := of_decide_eq_true (by kernel_rfl)
theorem wrap : Tryd.f8.isWrapper Tryd.prog Rows.condNamesRow.wrapper Rows.condNamesRow.mainSum := by unfold Func.isWrapper; first | (rw [if_pos (by decide +kernel)]; kernel_rfl) | (rw [if_neg (by decide +kernel)]; exact ⟨rfl, rfl⟩)
theorem over : Rows.condNamesRow.holds Tryd.pinned (OpenSpec.ofChange Rows.condNamesSpec) :=
  OpenClaim.holds_of_wide 8 Tryd.f8 rfl rfl rfl rfl rfl rfl rfl ⟨rfl, rfl, rfl, rfl, rfl⟩ rfl rfl rfl rfl rfl named Tryd.func8 closed inst wrap
    (fun os started H enc _ => lifted os started H enc)
theorem condNames_card : Rows.CondNamesCardSaid :=
  Claim7.holds_tied_plain_at .later [] [.data] true (true, "d2dc3549195bd91c3a6331492cf9cdda0f904da0e8c74265c77afa656643e87b") false
    over (fun _ h => by cases h) (by kernel_rfl) (fun _ h => by cases h) condNames_row_tie rfl ⟨rfl, rfl⟩ (by kernel_rfl) rfl
    (fun f fn hf hfn => by
      obtain rfl : f = 8 := Option.some.inj (named.symm.trans hf) |>.symm
      obtain rfl : fn = Tryd.f8 := (Option.some.inj (Tryd.func8.symm.trans hfn)).symm
      exact ⟨by kernel_rfl, fun j t ht => by
        rw [Tryd.params8] at ht
        simp at ht⟩)
    (by kernel_rfl)
#print axioms condNames_card
end Go.Proofs.YtnjmkeijjapejaaDoor
