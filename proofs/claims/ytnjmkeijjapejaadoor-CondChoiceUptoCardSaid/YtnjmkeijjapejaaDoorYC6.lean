/- The second form of the statement of CondChoice, out of its walk: for any input of bulk at most 1048576 the law answers true, and the input stays. -/
import Derived.Test.YtnjmkeijjapejaaDoorYC5
import Derived.Test.YtnjmkeijjapejaaDoorRows
import Derived.Test.YtnjmkeijjapejaaDoorCards
import Derived.ProofKit
import Derived.OpenShut
import Derived.ShutString
import Derived.ChangeOld
import Derived.Below
import Derived.SizedLaws
import Derived.HandedShaped
import Derived.Handed
import Derived.Lay
import Derived.LaidLaws
import Derived.LaidMore
import Derived.Test.YtnjmkeijjapejaaDoorTie
import Derived.SevenTiedAt
import Derived.JoinedCond
import Derived.Deep.DeepHandedRow
set_option linter.unusedSimpArgs false
set_option linter.unusedVariables false
namespace Go.GV
open Go.RowKit
theorem xl_pack {T : TT} {C : Cx} (hT : TOk C.P T) {all : List Oper} {o1 o2 o3 : Oper} {r : List Oper} {Q : Post} {kn : Kn} {gk : List (Nat × (Gd × SV))} {ow : Own} {nx : Nat} {u : Im} (k : Nat) {e : TypeId} {D : Data} (zs : List Value) {d1 d2 t : Nat} {ti : TI}
    (hk : look ow k = some (.row e D)) (g1 : o1.guard = none) (hd1 : o1.dst = some d1) (he : ∀ A c, eff T ⟨frz k (.slice A D.n c) kn, gk, ow, nx⟩ [] o1.op = .val (.v (.agg (.slice A D.n c :: zs).toArray)) [])
    (h2 : o2.op = .alloc t) (g2 : o2.guard = none) (hd2 : o2.dst = some d2) (h3 : o3.op = .store t (.tmp d2) (.tmp d1)) (g3 : o3.guard = none) (hd3 : o3.dst = none)
    (hti : look T t = some ti) (hzl : ti.zero.length = zs.length + 1) (hone : ∀ y ∈ zs, oneB y = true)
    (hf1 : fresh C.N ⟨kn, gk, ow, nx⟩ d1 [] = true) (hf2 : fresh C.N ⟨kn, gk, ow, nx⟩ d2 [] = true) (hne : d1 ≠ d2) (hkn : look kn d1 = none)
    (K : XL C all r Q ⟨(d2, .p nx 0) :: kn, gk, (nx, .box t (.r k :: zs.map .v)) :: (nx, .box t (ti.zero.map .v)) :: ow, nx + 1⟩ u) : XL C all (o1 :: o2 :: o3 :: r) Q ⟨kn, gk, ow, nx⟩ u := by
  unfold XL at K ⊢
  intro E a w hok
  obtain ⟨f, hsat⟩ := hok.sat
  obtain ⟨A, c, hv⟩ := ownsRow_sl (hsat.holds k _ hk).1
  have hkl := (hsat.lt k _ hk).1
  have hti' := hT _ _ hti
  have hok1 : Ok C E ⟨frz k (.slice A D.n c) kn, gk, ow, nx⟩ u a w := ⟨hok.agr.frz hv, f, hsat⟩
  have hrun1 := (eff_sound hT hok1 (fun x hx => by cases hx) (he A c) trivial).1
  simp only [SV.den] at hrun1
  refine xl_wp g1 (fun c' hc => by have := he A c; rw [hc] at this; cases this) hrun1 ?_
  rw [hd1]
  generalize hV : Value.agg (Value.slice A D.n c :: zs).toArray = V at *
  have hput1 : Agr C.N E ⟨kn, gk, ow, nx⟩ (a.tmps.setIfInBounds d1 V) := by
    have : Agr C.N E (St.put ⟨kn, gk, ow, nx⟩ d1 [] (.v V)) (a.tmps.setIfInBounds d1 V) :=
      hok.agr.put (g := []) hf1 (fun _ => trivial) (fun _ => rfl) (fun hn => absurd (fun x hx => (by cases hx)) hn) (fun _ => rfl)
    exact Agr.drop this hkn
  have hsz1 : d1 < a.tmps.size := by
    rw [hok.agr.size]
    unfold fresh at hf1
    split at hf1
    · rename_i hh; exact blt_lt hh
    · cases hf1
  have hsz2 : d2 < a.tmps.size := by
    rw [hok.agr.size]
    unfold fresh at hf2
    split at hf2
    · rename_i hh; exact blt_lt hh
    · cases hf2
  have hrun2 : (execOp (a.put (some d1) V).eval o2).run C.P w = .ok (.value (.pointer (some ⟨w.heap.size, 0, none⟩))) (w.alloc (.cells ti.zv.cells t)) := by
    simp [execOp, h2, Instr.alloc, run_zeroValue w hti', run_newVar]
  refine xl_wp g2 (fun c' hc => by rw [h2] at hc; cases hc) hrun2 ?_
  rw [hd2]
  have hE : ∀ j, j < nx → upd E nx (.pointer (some ⟨w.heap.size, 0, none⟩)) j = E j := fun j hj => upd_other _ _ (by omega)
  have hzc : ti.zv.cells = ((ti.zero.map SV.v).map (SV.den E)).toArray := by
    rw [TI.zv_cells hti']; simp [Function.comp_def, SV.den]
  have hsat1 := hsat.newBox t (cs := ti.zero.map .v) (fun x hx => by simp only [List.mem_map] at hx; obtain ⟨y, _, rfl⟩ := hx; trivial)
  rw [← hzc] at hsat1
  have hb := heap_alloc_new w (.cells ti.zv.cells t)
  have hone' : ∀ y ∈ Value.slice A D.n c :: zs, oneB y = true := fun y hy => by
    rcases List.mem_cons.1 hy with rfl | hy
    · rfl
    · exact hone y hy
  have hzs : ti.zv.cells.size = zs.length + 1 := by rw [TI.zv_cells hti']; simpa using hzl
  obtain ⟨w', q1, q2, q3, q4, q5, q6, q7⟩ := run_storeCells (P := C.P) (Value.slice A D.n c :: zs) 0 0 (w.alloc (.cells ti.zv.cells t)) _ hb hone' (by rw [hzs]; simp)
  have ev1 : ((a.put (some d1) V).put (some d2) (.pointer (some ⟨w.heap.size, 0, none⟩))).eval (.tmp d1) = V := by
    have : (a.put (some d1) V).eval (.tmp d1) = V := eval_put_eq hsz1
    rw [eval_put_ne (fun n hn => by cases hn; exact hne)]
    exact this
  have ev2 : ((a.put (some d1) V).put (some d2) (.pointer (some ⟨w.heap.size, 0, none⟩))).eval (.tmp d2) = .pointer (some ⟨w.heap.size, 0, none⟩) := eval_put_eq (by show d2 < (a.tmps.setIfInBounds d1 V).size; simpa using hsz2)
  have hrun3 : (execOp ((a.put (some d1) V).put (some d2) (.pointer (some ⟨w.heap.size, 0, none⟩))).eval o3).run C.P (w.alloc (.cells ti.zv.cells t)) = .ok .skip w' := by
    have hVc : V.cells = (Value.slice A D.n c :: zs).toArray := by rw [← hV]; rfl
    have hVs : V.cells.size = ti.sz := by rw [hVc]; have := hti'.len; simp; omega
    simp only [execOp, h3, Instr.storeAt, ev2, Instr.sureAddr, Sem.run_bind, Sem.run_pure, Result.andThen_ok, storeVar, run_sizeOf _ hti', ev1]
    rw [if_neg (by rw [hVs]; simp)]
    simp only [hVc, q1, Result.andThen_ok]
  have hcsl : ∀ x ∈ (SV.r k :: zs.map SV.v), x.lt (upd E nx (.pointer (some ⟨w.heap.size, 0, none⟩))) (nx + 1) := fun x hx => by
    rcases List.mem_cons.1 hx with rfl | hx
    · exact ⟨Nat.lt_succ_of_lt hkl, A, D.n, c, by rw [hE k hkl]; exact hv⟩
    · simp only [List.mem_map] at hx; obtain ⟨y, _, rfl⟩ := hx; trivial
  have hsat2 := hsat1.setBox (cs' := .r k :: zs.map .v) (by rw [look_cons, if_pos rfl]) (upd_same _ _ _) hcsl q2 q3 q4 q5 q6 (by
    rw [q7]
    congr 2
    have hz0 : ti.zv.cells.toList.drop (0 + 0 + (Value.slice A D.n c :: zs).length) = [] := List.drop_eq_nil_of_le (by rw [Array.length_toList, hzs]; simp)
    rw [hz0]
    simp only [List.append_nil, Nat.add_zero, List.take_zero, List.nil_append, List.map_cons, List.map_map, SV.den, hE k hkl, hv]
    simp [Function.comp_def, SV.den])
  unfold wpListIn
  rw [if_pos (by simp [Region.wanted, g3])]
  refine ⟨fun _ _ => trivial, ?_⟩
  rw [semAt_eq _ _ _ (fun c hc => by rw [h3] at hc; cases hc), hrun3, Oper.uponIn_skip, hd3]
  have hg := hput1.grow (E' := upd E nx (.pointer (some ⟨w.heap.size, 0, none⟩))) (ow := (nx, .box t (.r k :: zs.map .v)) :: (nx, .box t (ti.zero.map .v)) :: ow) (nx := nx + 1) hE (Nat.le_succ _)
  have hput2 := hg.put (g := []) (d := d2) (s := .p nx 0) (x := .pointer (some ⟨w.heap.size, 0, none⟩)) hf2 (fun _ => ⟨Nat.lt_succ_self _, _, upd_same _ _ _⟩) (fun _ => (by simp [SV.den, ptrOf, upd_same])) (fun hn => absurd (fun x hx => (by cases hx)) hn) (fun _ => (by simp [SV.den, ptrOf, upd_same]))
  have := K (upd E nx (.pointer (some ⟨w.heap.size, 0, none⟩))) ((a.put (some d1) V).put (some d2) (.pointer (some ⟨w.heap.size, 0, none⟩))) w' ⟨⟨hput2.size, hput2.kn, hput2.gk, hput2.klt, hput2.glt⟩, _, hsat2⟩
  exact wpListIn_monoQ (fun e a w => SemQ.mono hE (Nat.le_succ _) (Im.le.refl u)) _ _ _ this
end Go.GV
namespace Go.Proofs.YtnjmkeijjapejaaDoor
open Go.GV Go.RowKit
theorem intV_rg (s : ByteArray) : Cd.rg (intV s).1 := by
  unfold intV
  split
  · exact Cd.rg0
  · rename_i v u h
    unfold intC at h
    split at h
    · cases h
    · split at h
      · cases h
      · rename_i x hx
        have hb := (baseT_range s).1
        have := valF_rg (by omega) _ Cd.rg0 (fun c _ => (dg_range c).1) hx
        split at h
        · cases h
        · cases h; exact this
theorem rdT_rg (k : Int) (s : ByteArray) : Cd.rg (Cd.vT (rdT k s)) := by
  unfold rdT
  split
  · exact Cd.rg0
  split
  · exact Cd.rg0
  split
  · exact intV_rg s
  split
  · exact Cd.rg_wr _
  split
  · exact Cd.rg0
  · exact Cd.rg0
def toksV (L : List PV) : List Cd.Tk := L.map fun t => rdT t.kind t.text
theorem toksV_nums (L : List PV) : Cd.nums (toksV L) := by
  intro t ht
  obtain ⟨x, _, rfl⟩ := List.mem_map.1 ht
  exact rdT_rg _ _
def layT : List PV → Bool
  | [] => false
  | t :: r => (decide (t.kind = 10) || decide (t.kind = 11)) || layT r
def valV (L : List PV) : Int × Bool × Int :=
  if layT L = true then (0, false, 62)
  else match Cd.measure (toksV L) with
    | none => (0, false, 70)
    | some d => if 256 < d then (0, false, 111)
      else if (Cd.ofF (3 * L.length + 3) (toksV L)).E ≠ 0 then (0, false, (Cd.ofF (3 * L.length + 3) (toksV L)).E)
      else ((Cd.ofF (3 * L.length + 3) (toksV L)).V, (Cd.ofF (3 * L.length + 3) (toksV L)).U, 0)
def holV (L : List PV) : Bool × Int := (decide ((valV L).2.2 = 0) && decide ((valV L).1 ≠ 0), (valV L).2.2)
set_option maxHeartbeats 4000000 in
set_option maxRecDepth 100000 in
theorem value_any (L : List PV) (x : Value) (w : World) (hx : SlAt (im w) x (pvY.d L)) (hL : L.length ≤ 1000000) (hT : ∀ t ∈ L, t.text.size ≤ 4294967280) (hg : Glob (im w)) (hO : OpG (im w)) :
    Calls Tryd.prog 26 #[x] w (PureP w fun v _ => v = .tuple #[.int .u64 (valV L).1, .bool (valV L).2.1, .int .i64 (valV L).2.2]) := by
  obtain ⟨V, hV⟩ : ∃ V, V = valV L := ⟨_, rfl⟩
  rw [← hV]
  have v1 : layT L = true → V = (0, false, 62) := fun h => by rw [hV, valV, if_pos h]
  have v2 : layT L = false → Cd.measure (toksV L) = none → V = (0, false, 70) := fun h h2 => by rw [hV, valV, if_neg (by rw [h]; simp), h2]
  have v3 : ∀ d, layT L = false → Cd.measure (toksV L) = some d → 256 < d → V = (0, false, 111) := fun d h h2 h3 => by rw [hV, valV, if_neg (by rw [h]; simp), h2]; simp only [if_pos h3]
  have v4 : ∀ d, layT L = false → Cd.measure (toksV L) = some d → ¬ 256 < d → (Cd.ofF (3 * L.length + 3) (toksV L)).E ≠ 0 → V = (0, false, (Cd.ofF (3 * L.length + 3) (toksV L)).E) := fun d h h2 h3 h4 => by
    rw [hV, valV, if_neg (by rw [h]; simp), h2]; simp only [if_neg h3, if_pos h4]
  have v5 : ∀ d, layT L = false → Cd.measure (toksV L) = some d → ¬ 256 < d → (Cd.ofF (3 * L.length + 3) (toksV L)).E = 0 → V = ((Cd.ofF (3 * L.length + 3) (toksV L)).V, (Cd.ofF (3 * L.length + 3) (toksV L)).U, 0) := fun d h h2 h3 h4 => by
    rw [hV, valV, if_neg (by rw [h]; simp), h2]; simp only [if_neg h3, h4, ne_eq, not_true_eq_false, if_false]
  clear hV
  have hget : ∀ i : Int, 0 ≤ i → i < L.length → (L.getD i.toNat pv0) ∈ L := fun i h0 h1 => by
    rw [List.getD_eq_getElem?_getD, List.getElem?_eq_getElem (by omega : i.toNat < L.length)]; exact List.getElem_mem _
  refine x_fun tt_ok Tryd.func26 rfl rfl [(x, pvY.d L)] 1 [.r 0] rfl rfl rfl rfl (fun b hb => by simp at hb; subst hb; exact hx) ?_
  refine x_vc tt_ok ?_
  refine x_loop (σ := Int) (fun i => ⟨[(16, .v (.int .i64 i)), (15, .v (.int .i64 L.length)), (14, .r 0), (0, .r 0)], [], [(0, .sl (pvY.d L))], 1⟩)
    (fun i _ => 0 ≤ i ∧ i ≤ L.length ∧ layT (L.drop i.toNat) = layT L) (fun i => (L.length - i).toNat) (fun _ => Nat.le_refl _) 0 [] (.of rfl rfl rfl rfl rfl rfl) ⟨by omega, by omega, rfl⟩ ?_
  rintro i u1 hu1 ⟨g1, g2, g3⟩
  refine x_vc tt_ok ?_
  refine x_if (fun h1 => ?_) (fun h1 => ?_)
  · have h1 : i < L.length := of_decide_eq_true h1
    have hd : L.drop i.toNat = L.getD i.toNat pv0 :: L.drop (i + 1).toNat := by
      rw [List.drop_eq_getElem_cons (by omega : i.toNat < L.length), List.getD_eq_getElem?_getD, List.getElem?_eq_getElem (by omega : i.toNat < L.length), show (i + 1).toNat = i.toNat + 1 by omega]
      rfl
    rw [hd, layT] at g3
    repeat (refine And.intro ?_ ?_; first | omega | (simp only [Lay.d_n]; omega) | (simp only [decide_eq_true_eq, decide_eq_false_iff_not, Bool.or_eq_false_iff, Bool.and_eq_true, Bool.or_eq_true, Bool.and_eq_false_iff, Bool.not_eq_true', Bool.not_eq_false', Lay.d_n]; omega) | (simp only [decide_eq_true_eq, decide_eq_false_iff_not, Bool.or_eq_false_iff, Bool.and_eq_true, Bool.or_eq_true, Bool.and_eq_false_iff, Bool.not_eq_true', Bool.not_eq_false']; omega) | (simp only [decide_eq_true_eq, decide_eq_false_iff_not, Bool.or_eq_false_iff]; simp only [Lay.d_n]; omega))
    refine x_if (fun h2 => ?_) (fun h2 => ?_)
    · have h2 : (decide ((L.getD i.toNat pv0).kind = 10) || decide ((L.getD i.toNat pv0).kind = 11)) = true := h2
      rw [h2] at g3
      rw [v1 g3.symm]
      exact fin1 (fun _ _ => rfl)
    · have h2 : (decide ((L.getD i.toNat pv0).kind = 10) || decide ((L.getD i.toNat pv0).kind = 11)) = false := h2
      rw [h2, Bool.false_or] at g3
      repeat (refine And.intro ?_ ?_; first | omega | (simp only [Lay.d_n]; omega) | (simp only [decide_eq_true_eq, decide_eq_false_iff_not, Bool.or_eq_false_iff, Bool.and_eq_true, Bool.or_eq_true, Bool.and_eq_false_iff, Bool.not_eq_true', Bool.not_eq_false', Lay.d_n]; omega) | (simp only [decide_eq_true_eq, decide_eq_false_iff_not, Bool.or_eq_false_iff, Bool.and_eq_true, Bool.or_eq_true, Bool.and_eq_false_iff, Bool.not_eq_true', Bool.not_eq_false']; omega) | (simp only [decide_eq_true_eq, decide_eq_false_iff_not, Bool.or_eq_false_iff]; simp only [Lay.d_n]; omega))
      exact again (i + 1) [] (.of rfl rfl rfl rfl rfl rfl) ⟨by omega, by omega, g3⟩ (by omega)
  have h1 : ¬ i < L.length := of_decide_eq_false h1
  rw [List.drop_eq_nil_of_le (by omega), layT] at g3
  have hlay := g3.symm
  refine xl_makeG tt_ok ptY (.op ⟨#[]⟩) 40 L.length rfl rfl rfl rfl rfl rfl rfl rfl rfl (by kernel_rfl) rfl rfl rfl (by omega) (by omega) ?_
  refine xl_go tt_ok ?_
  refine x_loop (σ := Int × List Cd.Tk) (fun (i, M) => ⟨[(34, .v (.int .i64 i)), (33, .v (.int .i64 L.length)), (32, .r 0), (7, .r 1)], [], [(0, .sl (pvY.d L)), (1, .row 73 (ptY.d M))], 2⟩)
    (fun (i, M) _ => 0 ≤ i ∧ i ≤ L.length ∧ M.length = L.length ∧ M.take i.toNat = toksV (L.take i.toNat)) (fun (i, _) => (L.length - i).toNat) (fun (_, _) => Nat.le_refl _) (0, List.replicate L.length (.op ⟨#[]⟩)) [] (.of rfl rfl rfl rfl rfl rfl)
    ⟨by omega, by omega, by simp, by simp [toksV]⟩ ?_
  rintro ⟨j, M⟩ u2 hu2 ⟨k1, k2, k3, k4⟩
  have hle := hu1.trans hu2
  refine x_vc tt_ok ?_
  refine x_if (fun h2 => ?_) (fun h2 => ?_)
  · have h2 : j < L.length := of_decide_eq_true h2
    repeat (refine And.intro ?_ ?_; first | omega | (simp only [Lay.d_n]; omega) | (simp only [decide_eq_true_eq, decide_eq_false_iff_not, Bool.or_eq_false_iff, Bool.and_eq_true, Bool.or_eq_true, Bool.and_eq_false_iff, Bool.not_eq_true', Bool.not_eq_false', Lay.d_n]; omega) | (simp only [decide_eq_true_eq, decide_eq_false_iff_not, Bool.or_eq_false_iff, Bool.and_eq_true, Bool.or_eq_true, Bool.and_eq_false_iff, Bool.not_eq_true', Bool.not_eq_false']; omega) | (simp only [decide_eq_true_eq, decide_eq_false_iff_not, Bool.or_eq_false_iff]; simp only [Lay.d_n]; omega))
    refine xl_call0 (ptV (rdT (L.getD j.toNat pv0).kind (L.getD j.toNat pv0).text)) rfl rfl rfl rfl fn47 rfl rfl (fun E w' F hs' => read_any (L.getD j.toNat pv0) w' (hT _ (hget j k1 h2)) ((hg.sub hle.sub).imm hs'.imm)) ?_
    refine xl_go tt_ok ?_
    repeat (refine And.intro ?_ ?_; first | omega | (simp only [Lay.d_n]; omega) | (simp only [decide_eq_true_eq, decide_eq_false_iff_not, Bool.or_eq_false_iff, Bool.and_eq_true, Bool.or_eq_true, Bool.and_eq_false_iff, Bool.not_eq_true', Bool.not_eq_false', Lay.d_n]; omega) | (simp only [decide_eq_true_eq, decide_eq_false_iff_not, Bool.or_eq_false_iff, Bool.and_eq_true, Bool.or_eq_true, Bool.and_eq_false_iff, Bool.not_eq_true', Bool.not_eq_false']; omega) | (simp only [decide_eq_true_eq, decide_eq_false_iff_not, Bool.or_eq_false_iff]; simp only [Lay.d_n]; omega))
    refine xl_set tt_ok ptY M (rdT (L.getD j.toNat pv0).kind (L.getD j.toNat pv0).text) (cs := [.bool (Cd.isNum (rdT (L.getD j.toNat pv0).kind (L.getD j.toNat pv0).text)), .int .u64 (Cd.vT (rdT (L.getD j.toNat pv0).kind (L.getD j.toNat pv0).text)), .bool (Cd.uT (rdT (L.getD j.toNat pv0).kind (L.getD j.toNat pv0).text)), .string (Cd.opT (rdT (L.getD j.toNat pv0).kind (L.getD j.toNat pv0).text))])
      rfl rfl rfl rfl rfl rfl rfl (by omega) (by omega) rfl rfl (Nat.le_refl 4) rfl ?_
    refine xl_go tt_ok ?_
    repeat (refine And.intro ?_ ?_; first | omega | (simp only [Lay.d_n]; omega) | (simp only [decide_eq_true_eq, decide_eq_false_iff_not, Bool.or_eq_false_iff, Bool.and_eq_true, Bool.or_eq_true, Bool.and_eq_false_iff, Bool.not_eq_true', Bool.not_eq_false', Lay.d_n]; omega) | (simp only [decide_eq_true_eq, decide_eq_false_iff_not, Bool.or_eq_false_iff, Bool.and_eq_true, Bool.or_eq_true, Bool.and_eq_false_iff, Bool.not_eq_true', Bool.not_eq_false']; omega) | (simp only [decide_eq_true_eq, decide_eq_false_iff_not, Bool.or_eq_false_iff]; simp only [Lay.d_n]; omega))
    refine again (j + 1, M.set j.toNat (rdT (L.getD j.toNat pv0).kind (L.getD j.toNat pv0).text)) [] (.of rfl rfl rfl rfl rfl rfl) ⟨by omega, by omega, by rw [List.length_set]; exact k3, ?_⟩ (by simp only; omega)
    rw [show (j + 1).toNat = j.toNat + 1 by omega, take_get (x := rdT (L.getD j.toNat pv0).kind (L.getD j.toNat pv0).text) (List.getElem?_set_self (by omega)), List.take_set_of_le (Nat.le_refl _), k4,
      take_get (List.getElem?_eq_getElem (by omega : j.toNat < L.length)), toksV, toksV, List.map_append, List.getD_eq_getElem?_getD, List.getElem?_eq_getElem (by omega : j.toNat < L.length)]
    rfl
  have h2 : ¬ j < L.length := of_decide_eq_false h2
  have eM : M = toksV L := by
    rw [List.take_of_length_le (by omega), List.take_of_length_le (by omega)] at k4
    exact k4
  obtain ⟨T, hTT⟩ : ∃ T, T = toksV L := ⟨_, rfl⟩
  rw [← hTT] at eM v2 v3 v4 v5
  subst eM
  have hnum : Cd.nums M := by rw [hTT]; exact toksV_nums L
  have hmm := Cd.mea_measure M
  refine xl_call0 (.tuple #[.int .i64 (Cd.meaV M).1, .bool (Cd.meaV M).2]) rfl rfl rfl rfl fn48 rfl rfl (fun E w' F hs' => measure_any M (E 1) w' (hs'.rowAt (k := 1) rfl) ((hO.sub hle.sub).imm hs'.imm) (by omega)) ?_
  refine xl_go tt_ok ?_
  refine x_if (fun h3 => ?_) (fun h3 => ?_)
  · have h3 : (!(Cd.meaV M).2) = true := h3
    rw [if_neg (by rw [Bool.not_eq_true'] at h3; rw [h3]; simp)] at hmm
    rw [v2 hlay hmm]
    exact fin1 (fun _ _ => rfl)
  have h3 : (!(Cd.meaV M).2) = false := h3
  rw [if_pos (by simpa using h3)] at hmm
  refine x_if (fun h4 => ?_) (fun h4 => ?_)
  · have h4 : (Cd.meaV M).1 > 256 := of_decide_eq_true h4
    rw [v3 _ hlay hmm h4]
    exact fin1 (fun _ _ => rfl)
  have h4 : ¬ (Cd.meaV M).1 > 256 := of_decide_eq_false h4
  have v4 := v4 _ hlay hmm h4
  have v5 := v5 _ hlay hmm h4
  obtain ⟨tr, htr, _⟩ := Cd.measure_some hmm
  obtain ⟨_, _, y, fu, hrel, hfu⟩ := (Cd.cond_law htr.clean hnum (f := 3 * L.length + 3) (by omega)).2 _ hmm
  generalize Cd.ofF (3 * L.length + 3) M = W at v4 v5 hrel hfu
  have hcho := (read_all fu fu (Nat.le_refl _)).1 M 0 0 true y [] W.E hnum (by omega) (by omega) (by omega) (hfu fu (Nat.le_refl _))
  obtain ⟨y, yu⟩ := y
  refine xl_pack tt_ok 1 [.int .i64 0, .int .i64 0] rfl rfl rfl (fun A c => rfl) rfl rfl rfl rfl rfl rfl rfl rfl (by decide) rfl rfl (by decide) rfl ?_
  refine xl_go tt_ok ?_
  refine xl_callSC hcho opMono (hO.sub hle.sub) [2, 1] rfl rfl rfl rfl fn49 rfl rfl rfl rfl rfl rfl rfl (fun _ => rfl) (fun _ u3 hu3 _ => ?_)
  refine xl_go tt_ok ?_
  refine x_if (fun h5 => ?_) (fun h5 => ?_)
  · have h5 : W.E ≠ 0 := of_decide_eq_true h5
    rw [v4 h5]
    refine x_draw mix (by kernel_rfl) (xd_go tt_ok ?_)
    exact fin1 (fun _ _ => rfl)
  · have h5 : W.E = 0 := Classical.not_not.1 (of_decide_eq_false h5)
    rw [v5 h5]
    obtain ⟨r1, r2⟩ := hrel
    rw [← r1, ← r2 h5]
    refine x_draw mix (by kernel_rfl) (xd_go tt_ok ?_)
    exact fin1 (fun _ _ => rfl)
set_option maxRecDepth 100000 in
theorem holds_any (L : List PV) (x : Value) (w : World) (hx : SlAt (im w) x (pvY.d L)) (hL : L.length ≤ 1000000) (hT : ∀ t ∈ L, t.text.size ≤ 4294967280) (hg : Glob (im w)) (hO : OpG (im w)) :
    Calls Tryd.prog 31 #[x] w (PureP w fun v _ => v = .tuple #[.bool (holV L).1, .int .i64 (holV L).2]) := by
  unfold holV
  refine x_fun tt_ok Tryd.func31 rfl rfl [(x, pvY.d L)] 1 [.r 0] rfl rfl rfl rfl (fun b hb => by simp at hb; subst hb; exact hx) ?_
  refine x_vc tt_ok ?_
  refine xl_call0 (.tuple #[.int .u64 (valV L).1, .bool (valV L).2.1, .int .i64 (valV L).2.2]) rfl rfl rfl rfl fn26 rfl rfl (fun E w' F hs' => value_any L (E 0) w' (hs'.slAt (k := 0) rfl) hL hT (hg.imm hs'.imm) (hO.imm hs'.imm)) ?_
  refine xl_go tt_ok ?_
  exact fin1 (fun _ _ => rfl)
end Go.Proofs.YtnjmkeijjapejaaDoor
namespace Go.Proofs.YtnjmkeijjapejaaDoor
open Go.GV Go.RowKit
end Go.Proofs.YtnjmkeijjapejaaDoor
namespace Go.Proofs.YtnjmkeijjapejaaDoor
open Go.GV Go.RowKit
end Go.Proofs.YtnjmkeijjapejaaDoor
namespace Go.Proofs.YtnjmkeijjapejaaDoor
open Go.GV Go.RowKit
end Go.Proofs.YtnjmkeijjapejaaDoor
namespace Go.Proofs.YtnjmkeijjapejaaDoor
open Go.GV Go.RowKit
def byC (c : Chr) : UInt8 := UInt8.ofNat c.b.toNat
def logB (s : ByteArray) : ByteArray := ⟨((charsOf s).map byC).toArray⟩
def errK : List Lx.Tk → Int
  | [] => 0
  | t :: r => if t.err ≠ 0 then t.err else errK r
def tks (C : List Chr) (l : ByteArray) : Int → List Lx.Tk → List Tok
  | _, [] => []
  | n, t :: r => ⟨t.kind, sub l t.lo t.hi, (C.getD t.lo charY.dft).pos, (C.getD ((t.hi : Int) - 1).toNat charY.dft).pos + (C.getD ((t.hi : Int) - 1).toNat charY.dft).len, decide (n < t.lo)⟩ :: tks C l t.hi r
def scanE (s : ByteArray) : Int := if checkE s ≠ 0 then checkE s else errK (itsOf (logB s))
def scanT (s : ByteArray) : List Tok := if scanE s = 0 then tks (charsOf s) (logB s) 0 (itsOf (logB s)) else []
theorem logB_size (s : ByteArray) : (logB s).size = (charsOf s).length := by
  show (((charsOf s).map byC).toArray).size = _
  simp
theorem third_range (c : Int) : 0 ≤ third c ∧ third c ≤ 255 := by
  unfold third
  (repeat' split) <;> (constructor <;> omega)
theorem partP_b (s : ByteArray) (i : Int) : 0 ≤ (partP s i).b ∧ (partP s i).b ≤ 255 := by
  unfold partP
  split
  · exact ⟨Int.le_refl _, by show (0 : Int) ≤ 255; decide⟩
  · show 0 ≤ chB s i ∧ chB s i ≤ 255
    unfold chB
    split
    · exact third_range _
    · exact bt_range s i
theorem partsF_b (s : ByteArray) : ∀ (n : Nat) (i : Int), ∀ p ∈ partsF s n i, 0 ≤ p.b ∧ p.b ≤ 255
  | 0, _, p, hp => by cases hp
  | n + 1, i, p, hp => by
    rw [partsF] at hp
    split at hp
    · rcases List.mem_cons.1 hp with rfl | hp
      · exact partP_b s i
      · exact partsF_b s n _ p hp
    · cases hp
theorem chrsL_b : ∀ (L : List Part), (∀ p ∈ L, 0 ≤ p.b ∧ p.b ≤ 255) → ∀ c ∈ chrsL L, 0 ≤ c.b ∧ c.b ≤ 255
  | [], _, c, hc => by cases hc
  | p :: r, h, c, hc => by
    rw [chrsL] at hc
    split at hc
    · exact chrsL_b r (fun p hp => h p (List.mem_cons_of_mem _ hp)) c hc
    · rcases List.mem_cons.1 hc with rfl | hc
      · exact h p (List.mem_cons_self ..)
      · exact chrsL_b r (fun p hp => h p (List.mem_cons_of_mem _ hp)) c hc
theorem charsOf_b {s : ByteArray} {c : Chr} (h : c ∈ charsOf s) : 0 ≤ c.b ∧ c.b ≤ 255 := by
  unfold charsOf at h
  split at h
  · exact chrsL_b _ (partsF_b s _ _) c h
  · cases h
theorem chrsL_mem : ∀ (L : List Part) (c : Chr), c ∈ chrsL L → ∃ p ∈ L, c = ⟨p.b, p.pos, p.len⟩
  | [], c, hc => by cases hc
  | p :: r, c, hc => by
    rw [chrsL] at hc
    split at hc
    · obtain ⟨q, hq, e⟩ := chrsL_mem r c hc
      exact ⟨q, List.mem_cons_of_mem _ hq, e⟩
    · rcases List.mem_cons.1 hc with rfl | hc
      · exact ⟨p, List.mem_cons_self .., rfl⟩
      · obtain ⟨q, hq, e⟩ := chrsL_mem r c hc
        exact ⟨q, List.mem_cons_of_mem _ hq, e⟩
theorem charsOf_pos {s : ByteArray} {c : Chr} (h : c ∈ charsOf s) : 0 ≤ c.pos ∧ 1 ≤ c.len ∧ c.pos + c.len ≤ s.size := by
  unfold charsOf at h
  split at h
  · obtain ⟨p, hp, rfl⟩ := chrsL_mem _ c h
    have := partsV_mem hp
    exact ⟨this.1, this.2.2.1, this.2.2.2.1⟩
  · cases h
theorem byC_nat {c : Chr} (h : 0 ≤ c.b ∧ c.b ≤ 255) : ((byC c).toNat : Int) = c.b := by
  unfold byC
  rw [UInt8.toNat_ofNat']
  omega
set_option maxRecDepth 100000 in
theorem scan_any (s : ByteArray) (w : World) (hs : s.size ≤ 9223372036854775807) (hg : Glob (im w)) : Calls Tryd.prog 50 #[.string s] w (PureP w (OwnT 105 (tokY.d (scanT s)) [.int .i64 (scanE s)])) := by
  refine x_fun tt_ok Tryd.func50 rfl rfl [] 0 [.v (.string s)] rfl rfl rfl rfl (fun b hb => by cases hb) ?_
  refine x_vc tt_ok ?_
  refine xl_callO2 123 (charY.d (charsOf s)) [.int .i64 (checkE s)] rfl rfl rfl rfl fn73 rfl rfl (fun E w F _ => chars_any s w hs) ?_
  refine xl_go tt_ok ?_
  refine x_if (fun h => ?_) (fun h => ?_)
  · have h := of_decide_eq_true h
    have e1 : scanE s = checkE s := by rw [scanE, if_pos h]
    have e2 : scanT s = [] := by rw [scanT, e1, if_neg h]
    rw [e1, e2]
    exact finO2n tokY
  · have h : checkE s = 0 := Classical.not_not.1 (of_decide_eq_false h)
    have hsz := checkE_size h
    have e1 : scanE s = errK (itsOf (logB s)) := by rw [scanE, if_neg (by simpa using h)]
    have hcl : (charsOf s).length ≤ 65536 := by
      have h2 : charsOf s = chrsL (partsV s) := by rw [charsOf, if_pos h]
      rw [h2]
      exact Nat.le_trans (chrsL_len _) (Nat.le_trans (partsV_len s) hsz)
    obtain ⟨C, hC⟩ : ∃ C, C = charsOf s := ⟨_, rfl⟩
    have hl : logB s = ⟨(C.map byC).toArray⟩ := by rw [hC]; rfl
    have hCb : ∀ c ∈ C, 0 ≤ c.b ∧ c.b ≤ 255 := fun c hc => charsOf_b (hC ▸ hc)
    have hCp : ∀ c ∈ C, 0 ≤ c.pos ∧ 1 ≤ c.len ∧ c.pos + c.len ≤ s.size := fun c hc => charsOf_pos (hC ▸ hc)
    have e2 : scanT s = if scanE s = 0 then tks C (logB s) 0 (itsOf (logB s)) else [] := by rw [hC]; rfl
    have hls := logB_size s
    rw [← hC] at hcl hls ⊢
    clear hC
    refine xl_makeN tt_ok byteY (0 : UInt8) (.int .u8 0) 1 C.length rfl rfl rfl rfl rfl rfl rfl rfl rfl rfl (by kernel_rfl) rfl rfl rfl (by omega) (by omega) ?_
    refine xl_go tt_ok ?_
    refine x_loop (σ := Int × List UInt8) (fun (k, L) => ⟨[(28, .v (.int .i64 k)), (27, .v (.int .i64 C.length)), (26, .r 2), (6, .r 4), (4, .p 3 0), (3, .p 1 0), (2, .p 0 0)], [],
        [(0, .box 79 [.v (.slice none 0 0)]), (1, .box 24 [.v (.int .i64 0)]), (2, .row 123 (charY.d C)), (3, .box 119 [.r 2]), (4, .row 5 (byteY.d L))], 5⟩)
      (fun (k, L) _ => 0 ≤ k ∧ k ≤ C.length ∧ L.length = C.length ∧ L.take k.toNat = (C.take k.toNat).map byC) (fun (k, _) => (C.length - k).toNat) (fun (_, _) => Nat.le_refl _) (0, List.replicate C.length 0) [] (.of rfl rfl rfl rfl rfl rfl)
      ⟨by omega, by omega, by simp, by simp⟩ ?_
    rintro ⟨k, L⟩ u hu ⟨g1, g2, g3, g4⟩
    refine x_vc tt_ok ?_
    refine x_if (fun h3 => ?_) (fun h3 => ?_)
    · have h3 : k < C.length := of_decide_eq_true h3
      have hkl : k.toNat < C.length := by omega
      have hm : C.getD k.toNat charY.dft ∈ C := by
        rw [List.getD_eq_getElem?_getD, List.getElem?_eq_getElem hkl]; exact List.getElem_mem _
      have hbn := byC_nat (hCb _ hm)
      repeat (refine And.intro ?_ ?_; first | omega | (simp only [Lay.d_n]; omega) | (simp only [decide_eq_true_eq, decide_eq_false_iff_not, Bool.or_eq_false_iff, Bool.and_eq_true, Bool.or_eq_true, Bool.and_eq_false_iff, Bool.not_eq_true', Bool.not_eq_false', Lay.d_n]; omega) | (simp only [decide_eq_true_eq, decide_eq_false_iff_not, Bool.or_eq_false_iff, Bool.and_eq_true, Bool.or_eq_true, Bool.and_eq_false_iff, Bool.not_eq_true', Bool.not_eq_false']; omega))
      refine xl_set tt_ok byteY L (byC (C.getD k.toNat charY.dft)) (cs := [.int .u8 (C.getD k.toNat charY.dft).b]) rfl rfl rfl rfl rfl rfl rfl g1 (by rw [g3]; exact h3) rfl rfl (Nat.le_refl 1) (by show [Value.int .u8 ((byC (C.getD k.toNat charY.dft)).toNat : Int)] = [Value.int .u8 (C.getD k.toNat charY.dft).b]; rw [hbn]) ?_
      refine xl_go tt_ok ?_
      repeat (refine And.intro ?_ ?_; first | omega | (simp only [Lay.d_n]; omega) | (simp only [decide_eq_true_eq, decide_eq_false_iff_not, Bool.or_eq_false_iff, Bool.and_eq_true, Bool.or_eq_true, Bool.and_eq_false_iff, Bool.not_eq_true', Bool.not_eq_false', Lay.d_n]; omega) | (simp only [decide_eq_true_eq, decide_eq_false_iff_not, Bool.or_eq_false_iff, Bool.and_eq_true, Bool.or_eq_true, Bool.and_eq_false_iff, Bool.not_eq_true', Bool.not_eq_false']; omega))
      refine again (k + 1, L.set k.toNat (byC (C.getD k.toNat charY.dft))) [] (.of rfl rfl rfl rfl rfl rfl) ⟨by omega, by omega, by rw [List.length_set]; exact g3, ?_⟩ (by simp only; omega)
      have hk : k.toNat < L.length := by omega
      rw [show (k + 1).toNat = k.toNat + 1 by omega, ← List.take_append_getElem (by rw [List.length_set]; exact hk), List.getElem_set_self, List.take_set_of_le (Nat.le_refl _), g4, ← List.take_append_getElem hkl, List.map_append]
      simp only [List.map_cons, List.map_nil, List.getD_eq_getElem?_getD, List.getElem?_eq_getElem hkl, Option.getD_some]
    · have h3 : ¬ k < C.length := of_decide_eq_false h3
      have hL : L = C.map byC := by
        rw [show k.toNat = C.length by omega, List.take_of_length_le (by omega), List.take_length] at g4; exact g4
      subst hL
      refine xl_bytesStr (C.map byC) rfl rfl rfl rfl Tryd.underlying91 Tryd.underlying5 Tryd.underlying9 rfl (fun E w F hs => hs.rowAt (k := 4) rfl) ?_
      rw [← hl]
      refine xl_go tt_ok ?_
      clear g4 g3
      generalize logB s = l at hls e1 e2 hl ⊢
      refine xl_call _ rfl rfl rfl rfl fn74 rfl rfl (fun E w F _ => itemsFn_any l w) (fun v u1 u2 hu2 hs2 hv => ?_)
      obtain ⟨bk, rfl, hbk⟩ := hv
      have hb2 := of_sub_cut hs2 hbk
      have hg2 : Glob u2 := (hg.sub hu.sub).sub hu2.sub
      refine xl_go tt_ok ?_
      refine x_nilCell 6 105 tokY [] [] rfl ?_
      refine x_range2 (σ := List Tok × Int) (τ := Int) rfl fn110 (items_iter l bk u2 hb2 hg2 (by omega)) [(11, .p 7 0), (10, .p 6 0), (9, .p 5 0), (4, .p 3 0), (3, .p 1 0), (2, .p 0 0)]
        (fun (T, n) => [(0, .box 79 [.v (.slice none 0 0)]), (1, .box 24 [.v (.int .i64 0)]), (2, .row 123 (charY.d C)), (3, .box 119 [.r 2]), (5, .box 9 [.v (.string l)]), (6, .box 79 [.r 10]), (7, .box 3 [.v (.int .i64 n)]), (10, .row 105 (tokY.d T))]) (fun _ => 11)
        (fun k (T, n) _ => T.length ≤ k ∧ errK (itsOf l) = errK ((itsOf l).drop k) ∧ tks C l 0 (itsOf l) = T ++ tks C l n ((itsOf l).drop k))
        (fun v => [(0, .box 79 [.v (.slice none 0 0)]), (1, .box 24 [.v (.int .i64 v)])]) (fun _ => 11)
        (fun v e _ => e = .ret ∧ errK (itsOf l) = v ∧ v ≠ 0) ([], 0) [(10, some 8)] (.of rfl rfl rfl rfl rfl rfl) ⟨Nat.le_refl _, rfl, rfl⟩ rfl
        (fun _ => rfl) (fun _ => rfl) (fun _ => by decide) (fun _ => by decide) rfl rfl (fun lb k x s' u3 Fr Fr' hx hu3 hgr => ?_) (fun s' u3 hu3 hgr => ?_) (fun v e u3 hu3 hgr => ?_)
      · obtain ⟨T, n⟩ := s'
        obtain ⟨g0, g1, g2⟩ := hgr
        rw [List.getElem?_map] at hx
        obtain ⟨t, ht, rfl⟩ := Option.map_eq_some_iff.1 hx
        rw [drop_get ht] at g1 g2
        have hm := its_mem (List.mem_of_getElem? ht)
        have hlen := its_len l
        have hk : k < (itsOf l).length := (List.getElem?_eq_some_iff.1 ht).1
        refine x_vc tt_ok ?_
        refine ⟨rfl, rfl, x_vc tt_ok ?_⟩
        refine x_if (fun h4 => ?_) (fun h4 => ?_)
        · have h4 := of_decide_eq_true h4
          rw [errK, if_pos h4] at g1
          exact ⟨t.err, [], .of rfl rfl rfl rfl rfl rfl, rfl, g1, h4⟩
        · have h4 : t.err = 0 := Classical.not_not.1 (of_decide_eq_false h4)
          rw [errK, if_neg (by simpa using h4)] at g1
          rw [tks] at g2
          have hm : t.lo < t.hi ∧ t.hi ≤ l.size := by
            rcases hm with hm | hm
            · exact absurd h4 hm
            · exact hm.2
          have q1 : (C.getD t.lo charY.dft) ∈ C := by
            rw [List.getD_eq_getElem?_getD, List.getElem?_eq_getElem (by omega : t.lo < C.length)]; exact List.getElem_mem _
          have q2 : (C.getD ((t.hi : Int) - 1).toNat charY.dft) ∈ C := by
            rw [List.getD_eq_getElem?_getD, List.getElem?_eq_getElem (by omega : ((t.hi : Int) - 1).toNat < C.length)]; exact List.getElem_mem _
          have q1 := hCp _ q1
          have q2 := hCp _ q2
          have next : (T ++ [(⟨t.kind, sub l t.lo t.hi, (C.getD t.lo charY.dft).pos, (C.getD ((t.hi : Int) - 1).toNat charY.dft).pos + (C.getD ((t.hi : Int) - 1).toNat charY.dft).len, decide (n < t.lo)⟩ : Tok)]).length ≤ k + 1 ∧ errK (itsOf l) = errK ((itsOf l).drop (k + 1)) ∧ tks C l 0 (itsOf l) = (T ++ [(⟨t.kind, sub l t.lo t.hi, (C.getD t.lo charY.dft).pos, (C.getD ((t.hi : Int) - 1).toNat charY.dft).pos + (C.getD ((t.hi : Int) - 1).toNat charY.dft).len, decide (n < t.lo)⟩ : Tok)]) ++ tks C l t.hi ((itsOf l).drop (k + 1)) :=
            ⟨by rw [List.length_append]; simp only [List.length_singleton]; omega, g1, by rw [g2, List.append_assoc]; rfl⟩
          repeat (refine And.intro ?_ ?_; first | omega | (simp only [Lay.d_n]; omega) | (simp only [decide_eq_true_eq, decide_eq_false_iff_not, Bool.or_eq_false_iff, Bool.and_eq_true, Bool.or_eq_true, Bool.and_eq_false_iff, Bool.not_eq_true', Bool.not_eq_false', Lay.d_n]; omega) | (simp only [decide_eq_true_eq, decide_eq_false_iff_not, Bool.or_eq_false_iff, Bool.and_eq_true, Bool.or_eq_true, Bool.and_eq_false_iff, Bool.not_eq_true', Bool.not_eq_false']; omega))
          refine x_drawA mix ?_
          refine xa_pures tt_ok (fuel := 21) [1, 4, 6, 10, 15, 17, 20] rfl (by kernel_rfl) (by kernel_rfl) (fun _ _ _ hh => hh) (by kernel_rfl) (by kernel_rfl) ?_
          refine xa_late2 tt_ok (fuel := 3) 0 24 [2, 3, 5, 7, 8, 9, 11, 12, 13, 14, 16, 18, 19, 21, 22, 23, 24] rfl rfl rfl (by kernel_rfl) (by kernel_rfl) (by kernel_rfl) (by kernel_rfl) (by kernel_rfl) (xd_go tt_ok ?_)
          repeat (refine And.intro ?_ ?_; first | omega | (simp only [Lay.d_n]; omega) | (simp only [decide_eq_true_eq, decide_eq_false_iff_not, Bool.or_eq_false_iff, Bool.and_eq_true, Bool.or_eq_true, Bool.and_eq_false_iff, Bool.not_eq_true', Bool.not_eq_false', Lay.d_n]; omega) | (simp only [decide_eq_true_eq, decide_eq_false_iff_not, Bool.or_eq_false_iff, Bool.and_eq_true, Bool.or_eq_true, Bool.and_eq_false_iff, Bool.not_eq_true', Bool.not_eq_false']; omega))
          refine ⟨rfl, ?_, ?_⟩
          · refine xa_chain (fuel := 1) [25, 26] rfl rfl (by kernel_rfl) ?_
            refine xl_push tt_ok tokY T (⟨t.kind, sub l t.lo t.hi, (C.getD t.lo charY.dft).pos, (C.getD ((t.hi : Int) - 1).toNat charY.dft).pos + (C.getD ((t.hi : Int) - 1).toNat charY.dft).len, decide (n < t.lo)⟩ : Tok) 48 rfl rfl rfl rfl rfl rfl rfl rfl rfl rfl rfl rfl (by kernel_rfl) rfl rfl rfl rfl rfl (fun n hn => by cases hn; decide) rfl rfl rfl (by omega) (by omega) ?_
            refine xl_end ?_
            refine xa_one 27 (by kernel_rfl) rfl (xl_go tt_ok ?_)
            refine xa_done (by kernel_rfl) rfl ?_
            exact ⟨(T ++ [(⟨t.kind, sub l t.lo t.hi, (C.getD t.lo charY.dft).pos, (C.getD ((t.hi : Int) - 1).toNat charY.dft).pos + (C.getD ((t.hi : Int) - 1).toNat charY.dft).len, decide (n < t.lo)⟩ : Tok)], (t.hi : Int)), [(10, some 13)], .of rfl rfl rfl rfl rfl rfl, next⟩
          · refine xa_two 0 25 (by kernel_rfl) rfl rfl (xl_go tt_ok ?_) ?_
            · refine xa_chain (fuel := 1) [25, 26] rfl rfl (by kernel_rfl) ?_
              refine xl_push tt_ok tokY T (⟨t.kind, sub l t.lo t.hi, (C.getD t.lo charY.dft).pos, (C.getD ((t.hi : Int) - 1).toNat charY.dft).pos + (C.getD ((t.hi : Int) - 1).toNat charY.dft).len, decide (n < t.lo)⟩ : Tok) 48 rfl rfl rfl rfl rfl rfl rfl rfl rfl rfl rfl rfl (by kernel_rfl) rfl rfl rfl rfl rfl (fun n hn => by cases hn; decide) rfl rfl rfl (by omega) (by omega) ?_
              refine xl_end ?_
              refine xa_one 27 (by kernel_rfl) rfl (xl_go tt_ok ?_)
              refine xa_done (by kernel_rfl) rfl ?_
              exact ⟨(T ++ [(⟨t.kind, sub l t.lo t.hi, (C.getD t.lo charY.dft).pos, (C.getD ((t.hi : Int) - 1).toNat charY.dft).pos + (C.getD ((t.hi : Int) - 1).toNat charY.dft).len, decide (n < t.lo)⟩ : Tok)], (t.hi : Int)), [(10, some 13)], .of rfl rfl rfl rfl rfl rfl, next⟩
            · refine xl_build tt_ok tokY [(⟨t.kind, sub l t.lo t.hi, (C.getD t.lo charY.dft).pos, (C.getD ((t.hi : Int) - 1).toNat charY.dft).pos + (C.getD ((t.hi : Int) - 1).toNat charY.dft).len, decide (n < t.lo)⟩ : Tok)] [_] rfl rfl rfl rfl rfl rfl rfl rfl rfl rfl rfl rfl rfl rfl rfl ?_
              refine xl_end ?_
              refine xa_one 0 (by kernel_rfl) rfl (xl_go tt_ok ?_)
              refine xa_one 26 (by kernel_rfl) rfl ?_
              refine xl_append tt_ok tokY T [(⟨t.kind, sub l t.lo t.hi, (C.getD t.lo charY.dft).pos, (C.getD ((t.hi : Int) - 1).toNat charY.dft).pos + (C.getD ((t.hi : Int) - 1).toNat charY.dft).len, decide (n < t.lo)⟩ : Tok)] 48 rfl rfl rfl rfl rfl rfl rfl rfl (by kernel_rfl) rfl rfl rfl (fun E w F hs => hs.rowAt (k := 13) rfl) tokOne rfl (by simp only [List.length_singleton]; omega) (by simp only [List.length_singleton]; omega) ?_
              refine xl_end ?_
              refine xa_one 27 (by kernel_rfl) rfl (xl_go tt_ok ?_)
              refine xa_done (by kernel_rfl) rfl ?_
              exact ⟨(T ++ [(⟨t.kind, sub l t.lo t.hi, (C.getD t.lo charY.dft).pos, (C.getD ((t.hi : Int) - 1).toNat charY.dft).pos + (C.getD ((t.hi : Int) - 1).toNat charY.dft).len, decide (n < t.lo)⟩ : Tok)], (t.hi : Int)), [(10, some 14)], .of rfl rfl rfl rfl rfl rfl, next⟩
      · obtain ⟨T, n⟩ := s'
        obtain ⟨g0, g1, g2⟩ := hgr
        rw [List.length_map, List.drop_length] at g1 g2
        have e3 : scanE s = 0 := by rw [e1, g1]; rfl
        have e4 : scanT s = T := by rw [e2, if_pos e3, g2]; simp [tks]
        rw [e3, e4]
        exact finO2 (k := 10) rfl
      · obtain ⟨rfl, g1, g2⟩ := hgr
        have e3 : scanE s = v := by rw [e1, g1]
        have e4 : scanT s = [] := by rw [e2, e3, if_neg g2]
        rw [e3, e4]
        exact finO2n tokY
end Go.Proofs.YtnjmkeijjapejaaDoor
namespace Go.Proofs.YtnjmkeijjapejaaDoor
open Go.GV Go.RowKit
end Go.Proofs.YtnjmkeijjapejaaDoor
namespace Go.Proofs.YtnjmkeijjapejaaDoor
open Go.GV Go.RowKit
theorem tks_len (C : List Chr) (l : ByteArray) : ∀ (xs : List Lx.Tk) (n : Int), (tks C l n xs).length = xs.length
  | [], _ => rfl
  | x :: r, n => by rw [tks, List.length_cons, tks_len C l r, List.length_cons]
end Go.Proofs.YtnjmkeijjapejaaDoor
namespace Go.Proofs.YtnjmkeijjapejaaDoor
open Go.GV Go.RowKit
theorem scanE_zero {s : ByteArray} (h : scanE s = 0) : checkE s = 0 ∧ errK (itsOf (logB s)) = 0 ∧ scanT s = tks (charsOf s) (logB s) 0 (itsOf (logB s)) ∧ (logB s).size ≤ 65536 := by
  have hc : checkE s = 0 := by
    unfold scanE at h
    split at h
    · rename_i h2; exact absurd h h2
    · rename_i h2; exact Classical.not_not.1 h2
  refine ⟨hc, ?_, ?_, ?_⟩
  · unfold scanE at h
    rw [if_neg (by simpa using hc)] at h; exact h
  · rw [scanT, if_pos h]
  · rw [logB_size]
    have h2 : charsOf s = chrsL (partsV s) := by rw [charsOf, if_pos hc]
    rw [h2]
    exact Nat.le_trans (chrsL_len _) (Nat.le_trans (partsV_len s) (checkE_size hc))
theorem scanT_len (s : ByteArray) : (scanT s).length ≤ 65537 := by
  by_cases h : scanE s = 0
  · obtain ⟨_, _, e3, e4⟩ := scanE_zero h
    rw [e3, tks_len]
    have := its_len (logB s)
    omega
  · rw [scanT, if_neg h]; simp
end Go.Proofs.YtnjmkeijjapejaaDoor
namespace Go.Proofs.YtnjmkeijjapejaaDoor
open Go.GV Go.RowKit
def toksP (s : ByteArray) : List PV := (bareFrom false (scanT (s ++ (⟨#[10]⟩ : ByteArray)))).map ofT
def fewT (L : List PV) : Bool := decide (L.length ≤ 65537) && L.all fun t => decide (t.text.size ≤ 65537)
theorem fewT_spec {L : List PV} (h : fewT L = true) : L.length ≤ 65537 ∧ ∀ t ∈ L, t.text.size ≤ 4294967280 := by
  unfold fewT at h
  rw [Bool.and_eq_true, decide_eq_true_eq, List.all_eq_true] at h
  refine ⟨h.1, fun t ht => ?_⟩
  have := of_decide_eq_true (h.2 t ht)
  omega
set_option maxRecDepth 100000 in
theorem toks_any (s : ByteArray) (w : World) (hs : s.size ≤ 1000) (hf : fewT (toksP s) = true) (hg : Glob (im w)) : Calls Tryd.prog 32 #[.string s] w (PureP w fun v u => OwnAt u v 52 (pvY.d (toksP s))) := by
  have hz : (s ++ (⟨#[10]⟩ : ByteArray)).size ≤ 9223372036854775807 := by rw [ByteArray.size_append, show (⟨#[10]⟩ : ByteArray).size = 1 from rfl]; omega
  have hl := (fewT_spec hf).1
  unfold toksP at hl ⊢
  rw [List.length_map] at hl
  have hsl := scanT_len (s ++ (⟨#[10]⟩ : ByteArray))
  refine x_fun tt_ok Tryd.func32 rfl rfl [] 0 [.v (.string s)] rfl rfl rfl rfl (fun b hb => by cases hb) ?_
  refine x_vc tt_ok ?_
  refine And.intro (by show s.size + 1 ≤ _; omega) ?_
  refine xl_callO2 105 (tokY.d (scanT (s ++ (⟨#[10]⟩ : ByteArray)))) [.int .i64 (scanE (s ++ (⟨#[10]⟩ : ByteArray)))] rfl rfl rfl rfl fn50 rfl rfl (fun E w' F hs' => scan_any _ w' hz (hg.imm hs'.imm)) ?_
  refine xl_go tt_ok ?_
  refine xl_callO 105 (tokY.d (bareFrom false (scanT (s ++ (⟨#[10]⟩ : ByteArray))))) rfl rfl rfl rfl fn52 rfl rfl (fun E w' F hs' => bare_any _ (E 0) w' (hs'.rowAt (k := 0) rfl) (by omega)) ?_
  refine xl_go tt_ok ?_
  refine xl_callO 52 (pvY.d ((bareFrom false (scanT (s ++ (⟨#[10]⟩ : ByteArray)))).map ofT)) rfl rfl rfl rfl fn51 rfl rfl (fun E w' F hs' => of_any _ (E 1) w' (hs'.rowAt (k := 1) rfl) (by omega)) ?_
  refine xl_go tt_ok ?_
  exact finO (k := 2) rfl
set_option maxRecDepth 100000 in
theorem worth_any (s : ByteArray) (v : Int) (q : Bool) (w : World) (hs : s.size ≤ 1000) (hf : fewT (toksP s) = true) (hv : valV (toksP s) = (v, q, 0)) (hg : Glob (im w)) (hO : OpG (im w)) :
    Calls Tryd.prog 28 #[.string s, .int .u64 v, .bool q] w (PureP w fun x _ => x = .bool true) := by
  obtain ⟨z1, z2⟩ := fewT_spec hf
  refine x_fun tt_ok Tryd.func28 rfl rfl [] 0 [.v (.string s), .v (.int .u64 v), .v (.bool q)] rfl rfl rfl rfl (fun b hb => by cases hb) ?_
  refine x_vc tt_ok ?_
  refine xl_callO 52 (pvY.d (toksP s)) rfl rfl rfl rfl fn32 rfl rfl (fun E w' F hs' => toks_any s w' hs hf (hg.imm hs'.imm)) ?_
  refine xl_go tt_ok ?_
  refine xl_call0 (.tuple #[.int .u64 v, .bool q, .int .i64 0]) rfl rfl rfl rfl fn26 rfl rfl (fun E w' F hs' => by
    have h := value_any (toksP s) (E 0) w' (hs'.rowAt (k := 0) rfl) (by omega) z2 (hg.imm hs'.imm) (hO.imm hs'.imm)
    rw [hv] at h
    exact h) ?_
  refine xl_go tt_ok ?_
  refine fin1 (fun _ _ => ?_)
  show Value.bool ((decide ((0 : Int) = 0) && decide (v = v)) && decide (q = q)) = _
  simp
def alS : ByteArray := ⟨#[49, 32, 43, 32, 50, 32, 42, 32, 51, 32, 45, 32, 45, 52]⟩
set_option maxRecDepth 100000 in
theorem alive_any (w : World) (hg : Glob (im w)) (hO : OpG (im w)) : Calls Tryd.prog 24 #[] w (PureP w fun x _ => x = .bool true) := by
  refine x_fun tt_ok Tryd.func24 rfl rfl [] 0 [] rfl rfl rfl rfl (fun b hb => by cases hb) ?_
  refine x_vc tt_ok ?_
  refine xl_call0 (.bool true) rfl rfl rfl rfl fn28 rfl rfl (fun E w' F hs' => worth_any alS 11 false w' (by decide) (by kernel_rfl) (by kernel_rfl) (hg.imm hs'.imm) (hO.imm hs'.imm)) ?_
  refine xl_go tt_ok ?_
  exact fin1 (fun _ _ => rfl)
end Go.Proofs.YtnjmkeijjapejaaDoor
namespace Go.Cd
theorem W.br {l : List Tk} {t : Tr} (h : W 0 l t) {n : Int} (hn : n ≤ 11) : W n (.op lp :: (l ++ [.op rp])) (.par t) := .par hn h
def brk (l : List Tk) : List Tk := .op lp :: (l ++ [.op rp])
theorem cho_tree {c a b : List Tk} {z x y : Tr} (hc : W 0 c z) (ha : W 0 a x) (hb : W 0 b y) : W 0 (brk c ++ .op qm :: (brk a ++ .op cl :: brk b)) (.cho (.par z) (.par x) (.par y)) :=
  .cho (by omega) (hc.br (by omega)) (ha.br (by omega)) (hb.br (by omega))
def par (w : Wo) : Wo := { w with D := w.D + 1 }
end Go.Cd
namespace Go.Proofs.YtnjmkeijjapejaaDoor
open Go.GV Go.RowKit
theorem toksV_len (L : List PV) : (toksV L).length = L.length := List.length_map ..
theorem valV_tree {L : List PV} {t : Cd.Tr} (hl : layT L = false) (ht : Cd.W 0 (toksV L) t) (hd : Cd.dep t ≤ 256) :
    valV L = if (Cd.val t).E ≠ 0 then (0, false, (Cd.val t).E) else ((Cd.val t).V, (Cd.val t).U, 0) := by
  unfold valV
  rw [if_neg (by rw [hl]; simp), Cd.measure_tree ht, (Cd.doc_tree ht).2.2 (3 * L.length + 3) (by rw [toksV_len]; omega)]
  simp only
  rw [if_neg (by omega)]
theorem small_tree {L : List PV} (hn : L.length ≤ 100) (he : (valV L).2.2 = 0 ∨ (valV L).2.2 = 71) :
    layT L = false ∧ ∃ t, Cd.W 0 (toksV L) t ∧ Cd.dep t ≤ 100 ∧ ((Cd.val t).E = 0 ∨ (Cd.val t).E = 71) ∧ Cd.rg (Cd.val t).V ∧
      valV L = if (Cd.val t).E ≠ 0 then (0, false, (Cd.val t).E) else ((Cd.val t).V, (Cd.val t).U, 0) := by
  have hl : layT L = false := by
    cases h : layT L with
    | false => rfl
    | true => unfold valV at he; rw [if_pos h] at he; simp at he
  refine ⟨hl, ?_⟩
  cases hm : Cd.measure (toksV L) with
  | none => unfold valV at he; rw [if_neg (by rw [hl]; simp), hm] at he; simp at he
  | some d =>
    obtain ⟨t, ht, hd⟩ := Cd.measure_some hm
    have h1 := Cd.dep_len ht
    rw [toksV_len] at h1
    have e := valV_tree hl ht (by omega)
    refine ⟨t, ht, by omega, ?_, Cd.rg_val ht (toksV_nums L), e⟩
    rw [e] at he
    by_cases h : (Cd.val t).E ≠ 0
    · rw [if_pos h] at he; exact he
    · exact .inl (Classical.not_not.1 h)
def opP (s : ByteArray) : PV := ⟨5, s, false, none, 0, 0⟩
def brP (L : List PV) : List PV := opP Cd.lp :: (L ++ [opP Cd.rp])
theorem toksV_app (A B : List PV) : toksV (A ++ B) = toksV A ++ toksV B := List.map_append ..
theorem toksV_cons (x : PV) (B : List PV) : toksV (x :: B) = rdT x.kind x.text :: toksV B := rfl
theorem toksV_br (L : List PV) : toksV (brP L) = Cd.brk (toksV L) := by
  unfold brP Cd.brk
  rw [toksV_cons, toksV_app, show rdT (opP Cd.lp).kind (opP Cd.lp).text = .op Cd.lp by kernel_rfl, show toksV [opP Cd.rp] = [.op Cd.rp] by kernel_rfl]
theorem layT_app : ∀ (A B : List PV), layT (A ++ B) = (layT A || layT B)
  | [], B => by simp [layT]
  | x :: A, B => by simp only [List.cons_append, layT, layT_app A B, Bool.or_assoc]
theorem layT_op (s : ByteArray) (A : List PV) : layT (opP s :: A) = layT A := by
  simp [layT, opP]
theorem layT_br (L : List PV) : layT (brP L) = layT L := by
  unfold brP
  rw [layT_op, layT_app, show layT [opP Cd.rp] = false from rfl, Bool.or_false]
def joinP (Ls : List (List PV)) (ops : List ByteArray) : Nat → List PV
  | 0 => []
  | i + 1 => joinP Ls ops i ++ (if 0 < i then [opP (ops.getD (i - 1) ⟨#[]⟩)] else []) ++ brP (Ls.getD i [])
theorem choice_law {C A B : List PV} (hc : C.length ≤ 100) (ha : A.length ≤ 100) (hb : B.length ≤ 100) (ec : (valV C).2.2 = 0 ∨ (valV C).2.2 = 71)
    (ea : (valV A).2.2 = 0 ∨ (valV A).2.2 = 71) (eb : (valV B).2.2 = 0 ∨ (valV B).2.2 = 71) {J : List PV} (hJ : J = joinP [C, A, B] [Cd.qm, Cd.cl] 3) :
    ((holV C).2 ≠ 0 → valV J = (0, false, (holV C).2)) ∧
    ((holV C).2 = 0 → ∀ P, P = (if (holV C).1 = true then valV A else valV B) →
      (P.2.2 ≠ 0 → (valV J).2.2 = P.2.2) ∧ (P.2.2 = 0 → (valV J).2.2 = 0 ∧ (valV J).1 = P.1 ∧ ((valV J).2.1 = true ∨ ((valV A).2.1 = false ∧ (valV B).2.1 = false)))) := by
  obtain ⟨lc, z, hz, dz, ez, rz, vz⟩ := small_tree hc ec
  obtain ⟨la, x, hx, dx, ex, rx, vx⟩ := small_tree ha ea
  obtain ⟨lb, y, hy, dy, ey, ry, vy⟩ := small_tree hb eb
  have eJ : J = brP C ++ opP Cd.qm :: (brP A ++ opP Cd.cl :: brP B) := by rw [hJ]; simp [joinP]
  have tJ : toksV J = Cd.brk (toksV C) ++ .op Cd.qm :: (Cd.brk (toksV A) ++ .op Cd.cl :: Cd.brk (toksV B)) := by
    rw [eJ]
    simp only [toksV_app, toksV_cons, toksV_br]
    rw [show rdT (opP Cd.qm).kind (opP Cd.qm).text = .op Cd.qm by kernel_rfl, show rdT (opP Cd.cl).kind (opP Cd.cl).text = .op Cd.cl by kernel_rfl]
  have lJ : layT J = false := by
    rw [eJ]
    simp only [layT_app, layT_op, layT_br, lc, la, lb, Bool.or_self]
  have hJ := valV_tree lJ (by rw [tJ]; exact Cd.cho_tree hz hx hy) (by simp only [Cd.dep]; omega)
  have hv : Cd.val (.cho (.par z) (.par x) (.par y)) = Cd.choW (Cd.par (Cd.val z)) (Cd.par (Cd.val x)) (Cd.par (Cd.val y)) := rfl
  rw [hv] at hJ
  obtain ⟨Z, hZ⟩ : ∃ Z, Z = Cd.val z := ⟨_, rfl⟩
  obtain ⟨X, hX⟩ : ∃ X, X = Cd.val x := ⟨_, rfl⟩
  obtain ⟨Y, hY⟩ : ∃ Y, Y = Cd.val y := ⟨_, rfl⟩
  rw [← hZ] at vz hJ
  rw [← hX] at vx hJ
  rw [← hY] at vy hJ
  unfold Cd.choW Cd.par at hJ
  simp only at hJ
  have hC : holV C = (decide ((valV C).2.2 = 0) && decide ((valV C).1 ≠ 0), (valV C).2.2) := rfl
  by_cases c0 : Z.E ≠ 0
  · rw [if_pos c0] at vz
    rw [vz] at hC
    simp only [c0, ne_eq, not_false_eq_true, if_true] at hJ
    rw [hC]
    exact ⟨fun _ => hJ, fun h => absurd h c0⟩
  · rw [if_neg c0] at vz
    rw [vz] at hC
    rw [if_neg c0, if_neg c0] at hJ
    rw [hC]
    refine ⟨fun h => absurd rfl h, fun _ P hP => ?_⟩
    have key : ∀ (Q : Cd.Wo) (L : List PV), (valV L = if Q.E ≠ 0 then (0, false, Q.E) else (Q.V, Q.U, 0)) → P = valV L →
        (valV J = if Q.E ≠ 0 then (0, false, Q.E) else (Q.V, X.U || Y.U, 0)) →
        (P.2.2 ≠ 0 → (valV J).2.2 = P.2.2) ∧ (P.2.2 = 0 → (valV J).2.2 = 0 ∧ (valV J).1 = P.1 ∧ ((valV J).2.1 = true ∨ ((valV A).2.1 = false ∧ (valV B).2.1 = false))) := by
      intro Q L hL hP hJ
      by_cases c1 : Q.E ≠ 0
      · rw [if_pos c1] at hL hJ
        rw [hP, hL, hJ]
        exact ⟨fun _ => rfl, fun h => absurd h c1⟩
      · rw [if_neg c1] at hL hJ
        rw [hP, hL, hJ]
        refine ⟨fun h => absurd rfl h, fun _ => ⟨rfl, rfl, ?_⟩⟩
        by_cases h : (X.U || Y.U) = true
        · exact .inl h
        · have h : (X.U || Y.U) = false := by simpa using h
          rw [Bool.or_eq_false_iff] at h
          refine .inr ⟨?_, ?_⟩
          · rw [vx]; split
            · rfl
            · exact h.1
          · rw [vy]; split
            · rfl
            · exact h.2
    by_cases c2 : Z.V ≠ 0
    · rw [if_pos (show (decide ((0 : Int) = 0) && decide (Z.V ≠ 0)) = true by simpa using c2)] at hP
      simp only [c2, ne_eq, not_false_eq_true, if_true] at hJ
      exact key X A vx hP hJ
    · rw [if_neg (show ¬ (decide ((0 : Int) = 0) && decide (Z.V ≠ 0)) = true by simpa using c2)] at hP
      have c2 := Classical.not_not.1 c2
      simp only [c2, ne_eq, not_true_eq_false, if_false] at hJ
      exact key Y B vy hP hJ
end Go.Proofs.YtnjmkeijjapejaaDoor
namespace Go.Proofs.YtnjmkeijjapejaaDoor
open Go.GV Go.RowKit
set_option maxRecDepth 100000 in
theorem op_any (s : ByteArray) (w : World) : Calls Tryd.prog 33 #[.string s] w (PureP w fun v _ => v = pvA (opP s)) := by
  refine x_fun tt_ok Tryd.func33 rfl rfl [] 0 [.v (.string s)] rfl rfl rfl rfl (fun b hb => by cases hb) ?_
  refine x_vc tt_ok ?_
  exact fin1 (fun _ _ => rfl)
def grV (L : List PV) : Bool := decide (600 < (L.length : Int)) || L.any fun t => decide (100 < (t.text.size : Int))
set_option maxRecDepth 100000 in
theorem great_any (L : List PV) (x : Value) (w : World) (hx : SlAt (im w) x (pvY.d L)) : Calls Tryd.prog 46 #[x] w (PureP w fun v _ => v = .bool (grV L)) := by
  refine x_fun tt_ok Tryd.func46 rfl rfl [(x, pvY.d L)] 1 [.r 0] rfl rfl rfl rfl (fun b hb => by simp at hb; subst hb; exact hx) ?_
  refine x_vc tt_ok ?_
  unfold grV
  refine x_if (fun h1 => ?_) (fun h1 => ?_)
  · have h1 : (L.length : Int) > 600 := of_decide_eq_true h1
    rw [decide_eq_true (show 600 < (L.length : Int) from h1), Bool.true_or]
    exact fin1 (fun _ _ => rfl)
  have h1 : ¬ (L.length : Int) > 600 := of_decide_eq_false h1
  rw [decide_eq_false (show ¬ 600 < (L.length : Int) from h1), Bool.false_or]
  refine x_loop (σ := Int) (fun i => ⟨[(3, .v (.int .i64 i)), (0, .r 0)], [], [(0, .sl (pvY.d L))], 1⟩)
    (fun i _ => 0 ≤ i ∧ i ≤ L.length ∧ (L.take i.toNat).any (fun t => decide (100 < (t.text.size : Int))) = false) (fun i => (L.length - i).toNat) (fun _ => Nat.le_refl _) 0 [] (.of rfl rfl rfl rfl rfl rfl) ⟨by omega, by omega, by simp⟩ ?_
  rintro i u1 hu1 ⟨g1, g2, g3⟩
  refine x_vc tt_ok ?_
  refine x_if (fun h2 => ?_) (fun h2 => ?_)
  · have h2 : i < L.length := of_decide_eq_true h2
    have hi : L[i.toNat]? = some (L.getD i.toNat pv0) := by rw [List.getD_eq_getElem?_getD, List.getElem?_eq_getElem (by omega : i.toNat < L.length)]; rfl
    repeat (refine And.intro ?_ ?_; first | omega | (simp only [Lay.d_n]; omega) | (simp only [decide_eq_true_eq, decide_eq_false_iff_not, Bool.or_eq_false_iff, Bool.and_eq_true, Bool.or_eq_true, Bool.and_eq_false_iff, Bool.not_eq_true', Bool.not_eq_false', Lay.d_n]; omega) | (simp only [decide_eq_true_eq, decide_eq_false_iff_not, Bool.or_eq_false_iff, Bool.and_eq_true, Bool.or_eq_true, Bool.and_eq_false_iff, Bool.not_eq_true', Bool.not_eq_false']; omega) | (simp only [decide_eq_true_eq, decide_eq_false_iff_not, Bool.or_eq_false_iff]; simp only [Lay.d_n]; omega))
    refine x_if (fun h3 => ?_) (fun h3 => ?_)
    · have h3 : ((L.getD i.toNat pv0).text.size : Int) > 100 := of_decide_eq_true h3
      have e : L.any (fun t => decide (100 < (t.text.size : Int))) = true := List.any_eq_true.2 ⟨_, List.mem_of_getElem? hi, decide_eq_true h3⟩
      rw [e]
      exact fin1 (fun _ _ => rfl)
    · have h3 : ¬ ((L.getD i.toNat pv0).text.size : Int) > 100 := of_decide_eq_false h3
      repeat (refine And.intro ?_ ?_; first | omega | (simp only [Lay.d_n]; omega) | (simp only [decide_eq_true_eq, decide_eq_false_iff_not, Bool.or_eq_false_iff, Bool.and_eq_true, Bool.or_eq_true, Bool.and_eq_false_iff, Bool.not_eq_true', Bool.not_eq_false', Lay.d_n]; omega) | (simp only [decide_eq_true_eq, decide_eq_false_iff_not, Bool.or_eq_false_iff, Bool.and_eq_true, Bool.or_eq_true, Bool.and_eq_false_iff, Bool.not_eq_true', Bool.not_eq_false']; omega) | (simp only [decide_eq_true_eq, decide_eq_false_iff_not, Bool.or_eq_false_iff]; simp only [Lay.d_n]; omega))
      refine again (i + 1) [] (.of rfl rfl rfl rfl rfl rfl) ⟨by omega, by omega, ?_⟩ (by omega)
      rw [show (i + 1).toNat = i.toNat + 1 by omega, take_get hi, List.any_append, g3]
      simpa using h3
  have h2 : ¬ i < L.length := of_decide_eq_false h2
  rw [List.take_of_length_le (by omega)] at g3
  rw [g3]
  exact fin1 (fun _ _ => rfl)
def smV (L : List PV) : Bool := (decide ((L.length : Int) ≤ 100) && (decide ((valV L).2.2 = 0) || decide ((valV L).2.2 = 71))) && !grV L
theorem smV_spec {L : List PV} (h : smV L = true) : L.length ≤ 100 ∧ ((valV L).2.2 = 0 ∨ (valV L).2.2 = 71) := by
  unfold smV at h
  simp only [Bool.and_eq_true, Bool.or_eq_true, decide_eq_true_eq] at h
  exact ⟨by omega, h.1.2⟩
def smallE (L : List PV) : Prop := L.length ≤ 1000000 ∧ ∀ t ∈ L, t.text.size ≤ 4294967280
set_option maxRecDepth 100000 in
theorem small_any (L : List PV) (x : Value) (w : World) (hx : SlAt (im w) x (pvY.d L)) (hL : smallE L) (hg : Glob (im w)) (hO : OpG (im w)) : Calls Tryd.prog 25 #[x] w (PureP w fun v _ => v = .bool (smV L)) := by
  refine x_fun tt_ok Tryd.func25 rfl rfl [(x, pvY.d L)] 1 [.r 0] rfl rfl rfl rfl (fun b hb => by simp at hb; subst hb; exact hx) ?_
  refine x_vc tt_ok ?_
  refine xl_call0 (.tuple #[.int .u64 (valV L).1, .bool (valV L).2.1, .int .i64 (valV L).2.2]) rfl rfl rfl rfl fn26 rfl rfl (fun E w' F hs' => value_any L (E 0) w' (hs'.slAt (k := 0) rfl) hL.1 hL.2 (hg.imm hs'.imm) (hO.imm hs'.imm)) ?_
  refine xl_go tt_ok ?_
  refine xl_gcallF (.bool (grV L)) rfl rfl rfl rfl fn46 rfl rfl (fun E w' F hs' => great_any L (E 0) w' (hs'.slAt (k := 0) rfl)) ?_
  refine xl_go tt_ok ?_
  exact fin1 (fun _ _ => rfl)
end Go.Proofs.YtnjmkeijjapejaaDoor
namespace Go.Proofs.YtnjmkeijjapejaaDoor
open Go.GV Go.RowKit
def valY : Lay Value := ⟨[fun v => v], .slice none 0 0⟩
theorem joinP_len {Ls : List (List PV)} {ops : List ByteArray} (h : ∀ i, (Ls.getD i []).length ≤ 100) : ∀ n, (joinP Ls ops n).length ≤ 103 * n
  | 0 => Nat.le_refl _
  | n + 1 => by
    have h1 := joinP_len (ops := ops) h n
    have h2 := h n
    have h3 : (if 0 < n then [opP (ops.getD (n - 1) ⟨#[]⟩)] else []).length ≤ 1 := by split <;> simp
    unfold joinP brP
    simp only [List.length_append, List.length_cons, List.length_nil]
    omega
theorem joinP_mem {Ls : List (List PV)} {ops : List ByteArray} (P : PV → Prop) (ho : ∀ i, P (opP (ops.getD i ⟨#[]⟩))) (h1 : P (opP Cd.lp)) (h2 : P (opP Cd.rp)) (hL : ∀ i, ∀ t ∈ Ls.getD i [], P t) : ∀ n, ∀ t ∈ joinP Ls ops n, P t
  | 0, t, h => by cases h
  | n + 1, t, h => by
    unfold joinP brP at h
    rcases List.mem_append.1 h with h | h
    · rcases List.mem_append.1 h with h | h
      · exact joinP_mem P ho h1 h2 hL n t h
      · split at h
        · rw [List.mem_singleton.1 h]; exact ho _
        · cases h
    · rcases List.mem_cons.1 h with rfl | h
      · exact h1
      · rcases List.mem_append.1 h with h | h
        · exact hL n t h
        · rw [List.mem_singleton.1 h]; exact h2
set_option maxHeartbeats 2000000 in
set_option maxRecDepth 100000 in
theorem joined_any (xs : List Value) (Ls : List (List PV)) (ops : List ByteArray) (x y : Value) (w : World) (hx : SlAt (im w) x (valY.d xs)) (hy : SlAt (im w) y (strY.d ops)) (hl : xs.length = Ls.length) (ho : xs.length ≤ ops.length + 1)
    (hs : ∀ i, i < xs.length → SlAt (im w) (xs.getD i (.slice none 0 0)) (pvY.d (Ls.getD i []))) (h10 : Ls.length ≤ 10) (hz : ∀ i, (Ls.getD i []).length ≤ 100) :
    Calls Tryd.prog 27 #[x, y] w (PureP w fun v u => OwnAt u v 52 (pvY.d (joinP Ls ops Ls.length))) := by
  have hlen := joinP_len (ops := ops) hz
  refine x_fun tt_ok Tryd.func27 rfl rfl [(x, valY.d xs), (y, strY.d ops)] 2 [.r 0, .r 1] rfl rfl rfl rfl (fun b hb => by
    simp at hb
    rcases hb with rfl | rfl
    · exact hx
    · exact hy) ?_
  refine x_vc tt_ok ?_
  refine x_nil 5 52 pvY rfl ?_
  refine x_vc tt_ok ?_
  refine x_loop (σ := Nat) (fun i => ⟨[(6, .v (.int .i64 i)), (5, .r 3), (1, .r 1), (0, .r 0)], [], [(3, .row 52 (pvY.d (joinP Ls ops i))), (1, .sl (strY.d ops)), (0, .sl (valY.d xs))], 4⟩)
    (fun i _ => i ≤ Ls.length) (fun i => Ls.length - i) (fun _ => by show 3 ≤ 4; omega) 0 [(3, some 2)] (.of rfl rfl rfl rfl rfl rfl) (Nat.zero_le _) ?_
  intro i u1 hu1 g1
  have hli := hlen i
  refine x_seq (x_vc tt_ok ?_)
  refine x_if (fun h1 => ?_) (fun h1 => ?_)
  · have h1 : (i : Int) < xs.length := of_decide_eq_true h1
    obtain ⟨M, hM⟩ : ∃ M, M = joinP Ls ops i ++ (if 0 < i then [opP (ops.getD (i - 1) ⟨#[]⟩)] else []) := ⟨_, rfl⟩
    have hMl : M.length ≤ 103 * i + 1 := by rw [hM, List.length_append]; have : (if 0 < i then [opP (ops.getD (i - 1) ⟨#[]⟩)] else []).length ≤ 1 := by split <;> simp
                                            omega
    have hzi := hz i
    refine x_seq (x_block ?_)
    refine x_cut (σ := Unit) (fun _ => ⟨[(6, .v (.int .i64 i)), (5, .r 9), (1, .r 1), (0, .r 0)], [], [(9, .row 52 (pvY.d M)), (1, .sl (strY.d ops)), (0, .sl (valY.d xs))], 10⟩) (fun _ _ => True) (fun _ => by show 4 ≤ 10; omega) ?_ ?_
    · refine x_vc tt_ok ?_
      refine x_if (fun h2 => ?_) (fun h2 => ?_)
      · have h2 : (i : Int) > 0 := of_decide_eq_true h2
        repeat (refine And.intro ?_ ?_; first | omega | (simp only [Lay.d_n]; omega) | (simp only [decide_eq_true_eq, decide_eq_false_iff_not, Bool.or_eq_false_iff, Bool.and_eq_true, Bool.or_eq_true, Bool.and_eq_false_iff, Bool.not_eq_true', Bool.not_eq_false', Lay.d_n]; omega) | (simp only [decide_eq_true_eq, decide_eq_false_iff_not, Bool.or_eq_false_iff, Bool.and_eq_true, Bool.or_eq_true, Bool.and_eq_false_iff, Bool.not_eq_true', Bool.not_eq_false']; omega) | (simp only [decide_eq_true_eq, decide_eq_false_iff_not, Bool.or_eq_false_iff]; simp only [Lay.d_n]; omega))
        rw [if_pos (by omega)] at hM
        have hop : (ops.getD ((i : Int) - 1).toNat strY.dft) = ops.getD (i - 1) ⟨#[]⟩ := by rw [show ((i : Int) - 1).toNat = i - 1 by omega]; rfl
        refine xl_call0 (pvA (opP (ops.getD (i - 1) ⟨#[]⟩))) rfl rfl rfl rfl fn33 rfl rfl (fun E w' F hs' => by rw [← hop]; exact op_any _ w') ?_
        refine xl_go tt_ok ?_
        refine xl_push tt_ok pvY (joinP Ls ops i) (opP (ops.getD (i - 1) ⟨#[]⟩)) 56 rfl rfl rfl rfl rfl rfl rfl rfl rfl rfl rfl rfl (by kernel_rfl) rfl rfl rfl rfl rfl (fun n hn => by cases hn; decide) rfl rfl rfl (by omega) (by omega) ?_
        refine xl_go tt_ok ?_
        rw [← hM]
        exact meet () [(9, some 4)] (.of rfl rfl rfl rfl rfl rfl) trivial
      · have h2 : ¬ (i : Int) > 0 := of_decide_eq_false h2
        rw [if_neg (by omega), List.append_nil] at hM
        rw [← hM]
        exact meet () [(9, some 3)] (.of rfl rfl rfl rfl rfl rfl) trivial
    · rintro _ u2 hu2 _
      have hsi := (hs i (by omega)).mono (hu1.trans hu2)
      refine x_vc tt_ok ?_
      refine xl_call0 (pvA (opP Cd.lp)) rfl rfl rfl rfl fn33 rfl rfl (fun E w' F hs' => op_any _ w') ?_
      refine xl_go tt_ok ?_
      refine xl_push tt_ok pvY M (opP Cd.lp) 56 rfl rfl rfl rfl rfl rfl rfl rfl rfl rfl rfl rfl (by kernel_rfl) rfl rfl rfl rfl rfl (fun n hn => by cases hn; decide) rfl rfl rfl (by omega) (by omega) ?_
      refine xl_go tt_ok ?_
      repeat (refine And.intro ?_ ?_; first | omega | (simp only [Lay.d_n]; omega) | (simp only [decide_eq_true_eq, decide_eq_false_iff_not, Bool.or_eq_false_iff, Bool.and_eq_true, Bool.or_eq_true, Bool.and_eq_false_iff, Bool.not_eq_true', Bool.not_eq_false', Lay.d_n]; omega) | (simp only [decide_eq_true_eq, decide_eq_false_iff_not, Bool.or_eq_false_iff, Bool.and_eq_true, Bool.or_eq_true, Bool.and_eq_false_iff, Bool.not_eq_true', Bool.not_eq_false']; omega) | (simp only [decide_eq_true_eq, decide_eq_false_iff_not, Bool.or_eq_false_iff]; simp only [Lay.d_n]; omega))
      refine xl_append tt_ok pvY (M ++ [opP Cd.lp]) (Ls.getD i []) 56 rfl rfl rfl rfl rfl rfl rfl rfl (by kernel_rfl) rfl rfl rfl (fun E w F hs => hsi.imm hs.imm) (fun x y hy => by
        simp only [Lay.el, pvY, List.map_cons, List.map_nil, List.mem_cons, List.not_mem_nil, or_false] at hy
        rcases hy with rfl | rfl | rfl | rfl <;> rfl) rfl (by rw [List.length_append, List.length_singleton]; omega) (by rw [List.length_append, List.length_singleton]; omega) ?_
      refine xl_go tt_ok ?_
      refine xl_call0 (pvA (opP Cd.rp)) rfl rfl rfl rfl fn33 rfl rfl (fun E w' F hs' => op_any _ w') ?_
      refine xl_go tt_ok ?_
      refine xl_push tt_ok pvY (M ++ [opP Cd.lp] ++ Ls.getD i []) (opP Cd.rp) 56 rfl rfl rfl rfl rfl rfl rfl rfl rfl rfl rfl rfl (by kernel_rfl) rfl rfl rfl rfl rfl (fun n hn => by cases hn; decide) rfl rfl rfl (by simp only [List.length_append, List.length_singleton]; omega) (by simp only [List.length_append, List.length_singleton]; omega) ?_
      refine xl_go tt_ok ?_
      have hN : M ++ [opP Cd.lp] ++ Ls.getD i [] ++ [opP Cd.rp] = joinP Ls ops (i + 1) := by rw [hM, joinP, brP]; simp
      rw [hN]
      refine x_vc tt_ok ?_
      repeat (refine And.intro ?_ ?_; first | omega | (simp only [Lay.d_n]; omega) | (simp only [decide_eq_true_eq, decide_eq_false_iff_not, Bool.or_eq_false_iff, Bool.and_eq_true, Bool.or_eq_true, Bool.and_eq_false_iff, Bool.not_eq_true', Bool.not_eq_false', Lay.d_n]; omega) | (simp only [decide_eq_true_eq, decide_eq_false_iff_not, Bool.or_eq_false_iff, Bool.and_eq_true, Bool.or_eq_true, Bool.and_eq_false_iff, Bool.not_eq_true', Bool.not_eq_false']; omega) | (simp only [decide_eq_true_eq, decide_eq_false_iff_not, Bool.or_eq_false_iff]; simp only [Lay.d_n]; omega))
      exact again (i + 1) [(3, some 12)] (.of rfl rfl rfl rfl rfl rfl) (by omega) (by omega)
  have h1 : ¬ (i : Int) < xs.length := of_decide_eq_false h1
  obtain rfl : i = Ls.length := by omega
  exact finO (k := 3) rfl
end Go.Proofs.YtnjmkeijjapejaaDoor
namespace Go.Proofs.YtnjmkeijjapejaaDoor
open Go.GV Go.RowKit
theorem small_ops (ops : List ByteArray) (h : ops.all (fun s => decide (s.size ≤ 100)) = true) : ∀ i, (opP (ops.getD i ⟨#[]⟩)).text.size ≤ 4294967280 := fun i => by
  show (ops.getD i ⟨#[]⟩).size ≤ _
  rw [List.all_eq_true] at h
  rcases Nat.lt_or_ge i ops.length with hi | hi
  · rw [List.getD_eq_getElem?_getD, List.getElem?_eq_getElem hi]
    have := of_decide_eq_true (h _ (List.getElem_mem hi))
    show ops[i].size ≤ _
    omega
  · rw [List.getD_eq_getElem?_getD, List.getElem?_eq_none hi]
    decide
theorem joinP_small {Ls : List (List PV)} {ops : List ByteArray} (ho : ops.all (fun s => decide (s.size ≤ 100)) = true) (hz : ∀ L ∈ Ls, L.length ≤ 100) (hL : ∀ L ∈ Ls, smallE L) {n : Nat} (hn : n ≤ 10) : smallE (joinP Ls ops n) := by
  have get : ∀ i, Ls.getD i [] ∈ Ls ∨ Ls.getD i [] = [] := fun i => by
    rcases Nat.lt_or_ge i Ls.length with hi | hi
    · left; rw [List.getD_eq_getElem?_getD, List.getElem?_eq_getElem hi]; exact List.getElem_mem hi
    · right; rw [List.getD_eq_getElem?_getD, List.getElem?_eq_none hi]; rfl
  refine ⟨?_, joinP_mem (fun t => t.text.size ≤ 4294967280) (small_ops ops ho) (by decide) (by decide) (fun i t ht => ?_) n⟩
  · have := joinP_len (Ls := Ls) (ops := ops) (fun i => by
      rcases get i with h | h
      · exact hz _ h
      · rw [h]; decide) n
    omega
  · rcases get i with h | h
    · exact (hL _ h).2 t ht
    · rw [h] at ht; cases ht
set_option maxHeartbeats 2000000 in
set_option maxRecDepth 100000 in
theorem choice_any (C A B : List PV) (az ax ay : Option Addr) (cz cx cy : Nat) (w : World) (hzz : SlAt (im w) (Value.slice az C.length cz) (pvY.d C)) (hx : SlAt (im w) (Value.slice ax A.length cx) (pvY.d A)) (hy : SlAt (im w) (Value.slice ay B.length cy) (pvY.d B)) (hC : smallE C) (hA : smallE A) (hB : smallE B) (hg : Glob (im w)) (hO : OpG (im w)) :
    Calls Tryd.prog 10 #[(Value.slice az C.length cz), (Value.slice ax A.length cx), (Value.slice ay B.length cy)] w (PureP w fun v _ => v = .bool true) := by
  refine x_fun tt_ok Tryd.func10 rfl rfl [] 0 [.v (Value.slice az C.length cz), .v (Value.slice ax A.length cx), .v (Value.slice ay B.length cy)] rfl rfl rfl rfl (fun b hb => by cases hb) ?_
  refine x_vc tt_ok ?_
  refine xl_call0 (.bool true) rfl rfl rfl rfl fn24 rfl rfl (fun E w' F hs' => alive_any w' (hg.imm hs'.imm) (hO.imm hs'.imm)) ?_
  refine xl_go tt_ok ?_
  refine xl_call0 (.bool (smV C)) rfl rfl rfl rfl fn25 rfl rfl (fun E w' F hs' => small_any C (Value.slice az C.length cz) w' (hzz.imm hs'.imm) hC (hg.imm hs'.imm) (hO.imm hs'.imm)) ?_
  refine xl_go tt_ok ?_
  refine xl_gcallF (.bool (smV A)) rfl rfl rfl rfl fn25 rfl rfl (fun E w' F hs' => small_any A (Value.slice ax A.length cx) w' (hx.imm hs'.imm) hA (hg.imm hs'.imm) (hO.imm hs'.imm)) ?_
  refine xl_go tt_ok ?_
  refine xl_gcallF (.bool (smV B)) rfl rfl rfl rfl fn25 rfl rfl (fun E w' F hs' => small_any B (Value.slice ay B.length cy) w' (hy.imm hs'.imm) hB (hg.imm hs'.imm) (hO.imm hs'.imm)) ?_
  refine xl_go tt_ok ?_
  refine x_if (fun h1 => ?_) (fun h1 => ?_)
  · exact fin1 (fun _ _ => rfl)
  have h1 : (((!smV C || !smV A) || !smV B) || !true) = false := h1
  simp only [Bool.or_eq_false_iff, Bool.not_eq_false'] at h1
  obtain ⟨⟨⟨sC, sA⟩, sB⟩, _⟩ := h1
  obtain ⟨lC, eC⟩ := smV_spec sC
  obtain ⟨lA, eA⟩ := smV_spec sA
  obtain ⟨lB, eB⟩ := smV_spec sB
  obtain ⟨J, hJ⟩ : ∃ J, J = joinP [C, A, B] [Cd.qm, Cd.cl] 3 := ⟨_, rfl⟩
  have law := choice_law lC lA lB eC eA eB hJ
  have hJs : smallE J := by rw [hJ]; exact joinP_small (by decide) (by simp [lA, lB, lC]) (by simp [hA, hB, hC]) (by decide)
  have hjo := fun (w : World) (x1 y1 : Value) (hx1 : SlAt (im w) x1 (valY.d [(Value.slice az C.length cz), (Value.slice ax A.length cx), (Value.slice ay B.length cy)])) (hy1 : SlAt (im w) y1 (strY.d [Cd.qm, Cd.cl])) (hzz : SlAt (im w) (Value.slice az C.length cz) (pvY.d C)) (hx : SlAt (im w) (Value.slice ax A.length cx) (pvY.d A)) (hy : SlAt (im w) (Value.slice ay B.length cy) (pvY.d B)) =>
    joined_any [(Value.slice az C.length cz), (Value.slice ax A.length cx), (Value.slice ay B.length cy)] [C, A, B] [Cd.qm, Cd.cl] x1 y1 w hx1 hy1 rfl (by simp) (fun i hi => by
      match i, hi with
      | 0, _ => exact hzz
      | 1, _ => exact hx
      | 2, _ => exact hy
      | i + 3, hi => exact absurd hi (by simp)) (by simp) (fun i => by
      match i with
      | 0 => exact lC
      | 1 => exact lA
      | 2 => exact lB
      | i + 3 => exact Nat.zero_le _)
  rw [show [C, A, B].length = 3 from rfl, ← hJ] at hjo
  refine xl_call0 (.tuple #[.bool (holV C).1, .int .i64 (holV C).2]) rfl rfl rfl rfl fn31 rfl rfl (fun E w' F hs' => holds_any C (Value.slice az C.length cz) w' (hzz.imm hs'.imm) hC.1 hC.2 (hg.imm hs'.imm) (hO.imm hs'.imm)) ?_
  refine xl_go tt_ok ?_
  refine xl_call0 (.tuple #[.int .u64 (valV A).1, .bool (valV A).2.1, .int .i64 (valV A).2.2]) rfl rfl rfl rfl fn26 rfl rfl (fun E w' F hs' => value_any A (Value.slice ax A.length cx) w' (hx.imm hs'.imm) hA.1 hA.2 (hg.imm hs'.imm) (hO.imm hs'.imm)) ?_
  refine xl_go tt_ok ?_
  refine xl_call0 (.tuple #[.int .u64 (valV B).1, .bool (valV B).2.1, .int .i64 (valV B).2.2]) rfl rfl rfl rfl fn26 rfl rfl (fun E w' F hs' => value_any B (Value.slice ay B.length cy) w' (hy.imm hs'.imm) hB.1 hB.2 (hg.imm hs'.imm) (hO.imm hs'.imm)) ?_
  refine xl_go tt_ok ?_
  refine xl_build tt_ok valY [(Value.slice az C.length cz), (Value.slice ax A.length cx), (Value.slice ay B.length cy)] [_, _, _] rfl rfl rfl rfl rfl rfl rfl rfl rfl rfl rfl rfl rfl rfl rfl ?_
  refine xl_go tt_ok ?_
  refine xl_build tt_ok strY [Cd.qm, Cd.cl] [_, _] rfl rfl rfl rfl rfl rfl rfl rfl rfl rfl rfl rfl rfl rfl rfl ?_
  refine xl_go tt_ok ?_
  refine xl_callO 52 (pvY.d J) rfl rfl rfl rfl fn27 rfl rfl (fun E w' F hs' => hjo w' (E 0) (E 1) (hs'.rowAt (k := 0) rfl) (hs'.rowAt (k := 1) rfl) (hzz.imm hs'.imm) (hx.imm hs'.imm) (hy.imm hs'.imm)) ?_
  refine xl_go tt_ok ?_
  refine xl_call0 (.tuple #[.int .u64 (valV J).1, .bool (valV J).2.1, .int .i64 (valV J).2.2]) rfl rfl rfl rfl fn26 rfl rfl (fun E w' F hs' => value_any J (E 2) w' (hs'.rowAt (k := 2) rfl) hJs.1 hJs.2 (hg.imm hs'.imm) (hO.imm hs'.imm)) ?_
  refine xl_go tt_ok ?_
  clear hjo hJ
  obtain ⟨k1, k2⟩ := law
  generalize holV C = hC' at *
  generalize valV A = hA' at *
  generalize valV B = hB' at *
  generalize valV J = hJ' at *
  obtain ⟨c1, c2⟩ := hC'
  obtain ⟨a1, a2, a3⟩ := hA'
  obtain ⟨b1, b2, b3⟩ := hB'
  obtain ⟨j1, j2, j3⟩ := hJ'
  refine x_if (fun h2 => ?_) (fun h2 => ?_)
  · have h2 : c2 ≠ 0 := of_decide_eq_true h2
    have k1 := k1 h2
    simp only [Prod.mk.injEq] at k1
    obtain ⟨rfl, rfl, rfl⟩ := k1
    refine fin1 (fun _ _ => ?_)
    show Value.bool (((true && decide (j3 = j3)) && decide ((0 : Int) = 0)) && !false) = _
    simp
  have h2 : ¬ c2 ≠ 0 := of_decide_eq_false h2
  obtain rfl : c2 = 0 := Classical.not_not.1 h2
  have k2 := k2 rfl
  cases c1 with
  | true =>
    have k2 := k2 (a1, a2, a3) rfl
    simp only at k2
    refine x_iff rfl ?_
    refine x_if (fun h3 => ?_) (fun h3 => ?_)
    · have h3 : a3 ≠ 0 := of_decide_eq_true h3
      refine fin1 (fun _ _ => ?_)
      show Value.bool (true && decide (j3 = a3)) = _
      rw [k2.1 h3]; simp
    · have h3 : a3 = 0 := Classical.not_not.1 (of_decide_eq_false h3)
      obtain ⟨q1, q2, q3⟩ := k2.2 h3
      refine fin1 (fun _ _ => ?_)
      show Value.bool (((true && decide (j3 = 0)) && decide (j1 = a1)) && (j2 || (!a2 && !b2))) = _
      rw [q1, q2]
      rcases q3 with q3 | ⟨q3, q4⟩
      · rw [q3]; simp
      · rw [q3, q4]; simp
  | false =>
    have k2 := k2 (b1, b2, b3) rfl
    simp only at k2
    refine x_ift rfl ?_
    refine x_if (fun h3 => ?_) (fun h3 => ?_)
    · have h3 : b3 ≠ 0 := of_decide_eq_true h3
      refine fin1 (fun _ _ => ?_)
      show Value.bool (true && decide (j3 = b3)) = _
      rw [k2.1 h3]; simp
    · have h3 : b3 = 0 := Classical.not_not.1 (of_decide_eq_false h3)
      obtain ⟨q1, q2, q3⟩ := k2.2 h3
      refine fin1 (fun _ _ => ?_)
      show Value.bool (((true && decide (j3 = 0)) && decide (j1 = b1)) && (j2 || (!a2 && !b2))) = _
      rw [q1, q2]
      rcases q3 with q3 | ⟨q3, q4⟩
      · rw [q3]; simp
      · rw [q3, q4]; simp
end Go.Proofs.YtnjmkeijjapejaaDoor
namespace Go.Proofs.YtnjmkeijjapejaaDoor
open Go.GV Go.RowKit
theorem bulk_part {H : Type} {d : DataW H} : ∀ {l : List (DataW H)}, d ∈ l → Rows.uptoBulk d ≤ Rows.uptoBulkAll l
  | x :: r, h => by
    simp only [Rows.uptoBulkAll]
    rcases List.mem_cons.1 h with rfl | h
    · omega
    · have := bulk_part h; omega
theorem bulk_one {H : Type} : ∀ (d : DataW H), 1 ≤ Rows.uptoBulk d
  | .lit l => by cases l <;> simp [Rows.uptoBulk]
  | .nil => by simp [Rows.uptoBulk]
  | .ptr _ => by simp [Rows.uptoBulk]
  | .slice _ _ => by simp [Rows.uptoBulk]
  | .agg _ => by simp [Rows.uptoBulk]
  | .iface _ _ => by simp [Rows.uptoBulk]
  | .map _ => by simp [Rows.uptoBulk]
  | .held _ => by simp [Rows.uptoBulk]
theorem bulk_many {H : Type} {q : Nat} : ∀ (l : List (DataW H)), (∀ d ∈ l, q ≤ Rows.uptoBulk d) → l.length * q ≤ Rows.uptoBulkAll l
  | [], _ => by simp
  | x :: r, h => by
    have h1 := bulk_many r fun d hd => h d (List.mem_cons_of_mem _ hd)
    have h2 := h x (List.mem_cons_self ..)
    simp only [Rows.uptoBulkAll, List.length_cons, Nat.add_mul]
    omega
theorem bulk_len {H : Type} : ∀ (l : List (DataW H)), l.length ≤ Rows.uptoBulkAll l
  | [] => Nat.zero_le _
  | x :: r => by
    have := bulk_len r
    have := bulk_one x
    simp only [Rows.uptoBulkAll, List.length_cons]
    omega
section
variable {H : Type} {enc : TypeId × Value → H} {w : World}
def TrB (enc : TypeId × Value → H) (w : World) (t : TypeId) (cs : List Value) (K : Nat) : Prop :=
  ∃ fuel x, DataW.trod enc Tryd.prog w 0 (fun _ => true) true fuel t cs = some x ∧ Rows.uptoBulk x.1 ≤ K
theorem TrB.tr {t : TypeId} {cs : List Value} {K : Nat} (h : TrB enc w t cs K) : Tr enc Tryd.prog w t cs := by
  obtain ⟨f, x, h1, _⟩ := h
  exact ⟨f, x, h1⟩
theorem TrB.str {t : TypeId} {cs : List Value} {K : Nat} (ht : Tryd.prog.underlying t = some .string) (h : TrB enc w t cs K) : ∃ s : ByteArray, cs = [.string s] ∧ s.size ≤ K := by
  obtain ⟨f, x, h, hz⟩ := h
  obtain ⟨s, h1, h3, h2⟩ := DataW.trod_string ht h
  refine ⟨s, h1, ?_⟩
  rw [h3] at hz
  simp only [Rows.uptoBulk] at hz
  have : s.data.toList.length = s.size := Array.length_toList
  omega
theorem TrB.strct {t : TypeId} {cs : List Value} {K : Nat} {fs : Array Field} (ht : Tryd.prog.underlying t = some (.struct fs)) (h1 : Go.Deep.oneCellFields Tryd.prog fs = true) (h : TrB enc w t cs K) :
    cs.length = Tryd.prog.cellsOf t ∧ ∀ (j : Nat) (f : Field) (x : Value), fs[j]? = some f → cs[j]? = some x → TrB enc w f.type [x] K := by
  obtain ⟨fu, y, h, hz⟩ := h
  obtain ⟨xs, n, _, hy, hl, hxl, hf⟩ := DataW.trod_struct ht h
  refine ⟨hl, fun j f x hj hx => ?_⟩
  obtain ⟨ho, hk⟩ := Go.Deep.hone_of h1 j f hj
  have h2 := hf j f hj
  have hjl : j < fs.size := (Array.getElem?_eq_some_iff.1 hj).1
  have hxs : xs[j]? = some (xs[j]'(by omega)) := List.getElem?_eq_getElem (by omega)
  rw [ho, hk, hxs] at h2
  have e : (cs.drop j).take 1 = [x] := by
    obtain ⟨hjc, hxe⟩ := List.getElem?_eq_some_iff.1 hx
    rw [List.drop_eq_getElem_cons hjc, hxe]; rfl
  rw [e] at h2
  refine ⟨n, _, h2, ?_⟩
  rw [hy] at hz
  simp only [Rows.uptoBulk] at hz
  have := bulk_part (List.mem_map_of_mem (f := (·.1)) (List.getElem_mem (l := xs) (n := j) (by omega)))
  omega
set_option maxRecDepth 100000 in
theorem TrB.slice {t e : TypeId} {x : Value} {m K : Nat} (ht : Tryd.prog.underlying t = some (.slice e)) (hm : Tryd.prog.cellsOf e = m) (h : TrB enc w t [x] K) :
    ∃ A n c, x = .slice A n c ∧ n ≤ K ∧ SlAt (im w) x (dataAt (im w) x m n) ∧ (∀ i : Int, 0 ≤ i → i < n → TrB enc w e ((List.range m).map (cellAt (im w) x m i)) K) ∧
      ∀ q, (∀ fuel cs y, DataW.trod enc Tryd.prog w 0 (fun _ => true) true fuel e cs = some y → q ≤ Rows.uptoBulk y.1) → n * q ≤ K := by
  obtain ⟨A, n, c, h1, h2, h3, _⟩ := h.tr.slice ht hm
  obtain ⟨fu, y, h, hz⟩ := h
  rcases Go.Deep.open_slice ht h with ⟨e1, _⟩ | ⟨a, len, cap, k, n', D, Pl, e1, _, hl, hc, hk, hy, hi⟩
  · rw [h1] at e1
    cases e1
    exact ⟨none, 0, 0, h1, Nat.zero_le _, h3, fun i h1 h2 => by omega, fun q _ => by rw [Nat.zero_mul]; exact Nat.zero_le _⟩
  · rw [h1] at e1
    cases e1
    have hlk : n ≤ k := by rw [hk]; split <;> omega
    rw [hy] at hz
    simp only [Rows.uptoBulk] at hz
    have hbl := bulk_len ((List.range n).map D)
    rw [List.length_map, List.length_range] at hbl
    refine ⟨_, n, c, h1, by omega, h3, ?_, fun q hq => ?_⟩
    rotate_left
    · have hm1 := bulk_many (q := q) ((List.range n).map D) (fun d hd => by
        obtain ⟨i, hi2, rfl⟩ := List.mem_map.1 hd
        rw [List.mem_range] at hi2
        obtain ⟨cs', hcs, ht'⟩ := hi i (by omega)
        exact hq _ _ _ ht')
      rw [List.length_map, List.length_range] at hm1
      omega
    intro i g1 g2
    obtain ⟨i, rfl⟩ : ∃ k : Nat, i = k := ⟨i.toNat, by omega⟩
    obtain ⟨cs', hcs, ht'⟩ := hi i (by omega)
    refine ⟨n', (D i, Pl i), ?_, ?_⟩
    · rw [← ht']
      congr 1
      rw [hm] at hcs
      obtain ⟨_, hcl, hat⟩ := World.cells?_some hcs
      apply List.ext_getElem?
      intro j
      by_cases hj : j < m
      · rw [List.getElem?_map, List.getElem?_range hj, Option.map_some]
        have h4 := hat j hj
        rw [Go.GV.add_add'] at h4
        rw [← h4, h1]
        have hsome : cs'[j]? = some (cs'[j]'(by omega)) := List.getElem?_eq_getElem (by omega)
        rw [hsome] at h4
        have e2 : (im w).cell? (a.add (i * m + j)) = w.cell? (a.add (i * m + j)) := rfl
        simp only [cellAt, Int.toNat_natCast, e2, h4, Option.getD_some]
      · rw [List.getElem?_eq_none (by simp; omega), List.getElem?_eq_none (by omega)]
    · have hin : D i ∈ (List.range n).map D := List.mem_map.2 ⟨i, List.mem_range.2 (by omega), rfl⟩
      have := bulk_part hin
      show Rows.uptoBulk (D i) ≤ K
      omega
def ptB (u : Im) (x : Value) (i : Int) : PV := match cellAt u x 4 i 3 with
  | .slice a n c => ⟨vInt (cellAt u x 4 i 0), vStr (cellAt u x 4 i 1), vBool (cellAt u x 4 i 2), a, n, c⟩
  | _ => pv0
theorem open_ptB {x : Value} {K : Nat} (h : TrB enc w 41 [x] K) (hK : K ≤ 1048576) : ∃ A c L, x = .slice A L.length c ∧ SlAt (im w) (.slice A L.length c) (pvY.d L) ∧ smallE L := by
  obtain ⟨A, n, c, rfl, h2, h3, h4, h5⟩ := h.slice Tryd.underlying41 (by kernel_rfl : _ = 4)
  generalize hx : Value.slice A n c = x at h3 h4
  have h5 := h5 2 (fun fuel cs y hy => by
    obtain ⟨xs, k, _, e, _, hl, _⟩ := DataW.trod_struct Tryd.underlying52 hy
    rw [e]
    simp only [Rows.uptoBulk]
    have h1 := bulk_len (xs.map (·.1))
    rw [List.length_map, hl] at h1
    have h2 : (1 : Nat) ≤ 4 := by decide
    exact Nat.succ_le_succ (Nat.le_trans h2 h1))
  have cell : ∀ i : Nat, i < n → (∃ k, cellAt (im w) x 4 i 0 = .int .i64 k) ∧ (∃ s, cellAt (im w) x 4 i 1 = .string s ∧ s.size ≤ K) ∧ (∃ b, cellAt (im w) x 4 i 2 = .bool b) ∧ (∃ a n c, cellAt (im w) x 4 i 3 = .slice a n c) := by
    intro i hi
    obtain ⟨_, hc⟩ := (h4 i (by omega) (by omega)).strct Tryd.underlying52 (by kernel_rfl)
    obtain ⟨k0, e0, _⟩ := (hc 0 _ _ rfl rfl).tr.int Tryd.underlying3
    obtain ⟨k1, e1, z1⟩ := (hc 1 _ _ rfl rfl).str Tryd.underlying9
    obtain ⟨k2, e2⟩ := (hc 2 _ _ rfl rfl).tr.bool Tryd.underlying4
    obtain ⟨a, n, c, e3, _⟩ := (hc 3 _ _ rfl rfl).slice Tryd.underlying23 (by kernel_rfl : _ = 1)
    exact ⟨⟨k0, by simpa using e0⟩, ⟨k1, by simpa using e1, z1⟩, ⟨k2, by simpa using e2⟩, a, n, c, e3⟩
  obtain ⟨L, hL⟩ : ∃ L, L = (List.range n).map fun i : Nat => ptB (im w) x i := ⟨_, rfl⟩
  have hl : L.length = n := by rw [hL]; simp
  have hget : ∀ i : Nat, i < n → L.getD i pv0 = ptB (im w) x i := fun i hi => by rw [hL, List.getD_eq_getElem?_getD]; simp [hi]
  refine ⟨A, c, L, by rw [← hx, hl], ?_, by omega, fun t ht => ?_⟩
  · rw [hl, hx]
    refine h3.ext (by simp [dataAt, Lay.d, hl]) rfl fun i hi j f f' hf hf' => ?_
    have hi' : i < n := hi
    have hg : L.getD (i : Int).toNat pv0 = ptB (im w) x i := hget i hi'
    obtain ⟨⟨k, e0⟩, ⟨s, e1, _⟩, ⟨b, e2⟩, a, n2, c2, e3⟩ := cell i hi'
    have hp : ptB (im w) x i = ⟨k, s, b, a, n2, c2⟩ := by unfold ptB; rw [e3]; simp only [e0, e1, e2, vInt, vStr, vBool]
    match j, hf, hf' with
    | 0, hf, hf' =>
      cases hf; cases hf'
      show cellAt (im w) x 4 i 0 = .int .i64 (L.getD (i : Int).toNat pv0).kind
      rw [hg, hp, e0]
    | 1, hf, hf' =>
      cases hf; cases hf'
      show cellAt (im w) x 4 i 1 = .string (L.getD (i : Int).toNat pv0).text
      rw [hg, hp, e1]
    | 2, hf, hf' =>
      cases hf; cases hf'
      show cellAt (im w) x 4 i 2 = .bool (L.getD (i : Int).toNat pv0).space
      rw [hg, hp, e2]
    | 3, hf, hf' =>
      cases hf; cases hf'
      show cellAt (im w) x 4 i 3 = .slice (L.getD (i : Int).toNat pv0).pa (L.getD (i : Int).toNat pv0).pn (L.getD (i : Int).toNat pv0).pc
      rw [hg, hp, e3]
    | j + 4, hf, hf' => simp [Lay.d, pvY] at hf'
  · rw [hL] at ht
    obtain ⟨i, hi, rfl⟩ := List.mem_map.1 ht
    rw [List.mem_range] at hi
    obtain ⟨_, ⟨s, e1, z⟩, _, a, n2, c2, e3⟩ := cell i hi
    have : (ptB (im w) x i).text = s := by unfold ptB; rw [e3]; simp only [e1, vStr]
    rw [this]; omega
end
end Go.Proofs.YtnjmkeijjapejaaDoor
namespace Go.Proofs.YtnjmkeijjapejaaDoor
open Go.ChangeShapes Go.WideShapes Go.ChangeAt Go.RowKit Go.GV
def lst : List (String × DataW Unit) := [("reglet/cond.operators", Rows.laid_reglet_cond_operators)]
theorem gOps : Tryd.prog.globalNamed "reglet/cond.operators" = some 0 := by kernel_rfl
theorem lstB (os : Os) : (World.laidAll Tryd.prog os lst).os = os := World.laidAll_os _ _ _
theorem met (os : Os) (args : Array Value) : laidMetH Tryd.prog lst ((World.laidAll Tryd.prog os lst).forCall (fun _ _ => 0) ⟨#[], args, []⟩).memory := by
  rw [MakeChecks.laidMetH_plain _ _ _ (by kernel_rfl)]
  exact laidMet_laidAll args (by kernel_rfl) (by kernel_rfl)
set_option maxRecDepth 100000 in
theorem pair_of {H : Type} {enc : TypeId × Value → H} {W : World} {b : Nat} {sp : Nat → Bool} {hd : Bool} {m : Nat} {cs : List Value} {x : DataW H × List MemPlace} (h : DataW.trod enc Tryd.prog W b sp hd m 182 cs = some x) :
    ∃ (s : ByteArray) (n : Int), cs = [.string s, .int .i64 n] ∧ x.1 = .agg [.lit (.string s.data.toList), .lit (.int .i64 n)] := by
  obtain ⟨xs, k, _, hx, hl, hxl, hf⟩ := DataW.trod_struct Tryd.underlying182 h
  have c182 : Tryd.prog.cellsOf 182 = 2 := by kernel_rfl
  have c9 : Tryd.prog.cellsOf 9 = 1 := by kernel_rfl
  have c3 : Tryd.prog.cellsOf 3 = 1 := by kernel_rfl
  rw [c182] at hl
  have h0 := hf 0 _ rfl
  have h1 := hf 1 _ rfl
  change DataW.trod enc Tryd.prog W b sp hd k 9 ((cs.drop 0).take (Tryd.prog.cellsOf 9)) = xs[0]? at h0
  change DataW.trod enc Tryd.prog W b sp hd k 3 ((cs.drop 1).take (Tryd.prog.cellsOf 3)) = xs[1]? at h1
  rw [c9] at h0
  rw [c3] at h1
  match xs, hxl, cs, hl, h0, h1, hx with
  | [x0, x1], _, [a, c], _, h0, h1, hx =>
    obtain ⟨s, e1, e2, _⟩ := DataW.trod_string Tryd.underlying9 (show DataW.trod _ Tryd.prog W b sp hd k 9 _ = some x0 from h0)
    obtain ⟨n, e3, e4, _⟩ := DataW.trod_int Tryd.underlying3 (show DataW.trod _ Tryd.prog W b sp hd k 3 _ = some x1 from h1)
    have e1 : [a] = [Value.string s] := e1
    have e3 : [c] = [Value.int .i64 n] := e3
    cases e1; cases e3
    refine ⟨s, n, rfl, ?_⟩
    rw [hx, e2, e4]; rfl
def opD (p : ByteArray × Int) : DataW Unit := .agg [.lit (.string p.1.data.toList), .lit (.int .i64 p.2)]
theorem laid_ops : (Rows.laid_reglet_cond_operators : DataW Unit) = .agg (opsL.map opD) := rfl
theorem ops_of_laid {W : World} (h : laidMetH Tryd.prog lst W) : OpG (im W) := by
  rw [MakeChecks.laidMetH_plain _ _ _ (by kernel_rfl)] at h
  obtain ⟨ps, ⟨g0, t0, cs0, f0, p0, q0, hg0, ht0, hv0, hd0, _, _⟩, _, _⟩ := h
  obtain rfl := Option.some.inj (gOps.symm.trans hg0)
  have tOps : (Tryd.prog.globals[0]?).map (·.type) = some 183 := by kernel_rfl
  obtain rfl := Option.some.inj (tOps.symm.trans ht0)
  rw [laid_ops] at hd0
  obtain ⟨xs, m1, _, hx1, hlen, hn, hel⟩ := DataW.trod_array Tryd.underlying183 hd0
  have c182 : Tryd.prog.cellsOf 182 = 2 := by kernel_rfl
  simp only [Prod.mk.injEq, DataW.agg.injEq] at hx1
  intro i hi
  have h1 := hel i hi
  rw [c182] at h1
  have hxi : i < xs.length := by omega
  rw [List.getElem?_eq_getElem hxi] at h1
  obtain ⟨s, n, e1, e2⟩ := pair_of h1
  have h2 : (opsL.map opD)[i]? = (xs.map (·.1))[i]? := by rw [hx1.1]
  have hoi : i < opsL.length := hi
  rw [List.getElem?_map, List.getElem?_map, List.getElem?_eq_getElem hxi, List.getElem?_eq_getElem hoi] at h2
  simp only [Option.map_some, Option.some.injEq] at h2
  rw [e2] at h2
  have hop : opAt i = opsL[i] := by unfold opAt; rw [List.getD_eq_getElem?_getD, List.getElem?_eq_getElem hoi]; rfl
  rw [← hop] at h2
  unfold opD at h2
  simp only [DataW.agg.injEq, List.cons.injEq, DataW.lit.injEq, Lit.string.injEq, Lit.int.injEq, and_true, true_and] at h2
  obtain ⟨k1, k2⟩ := h2
  have hs : s = (opAt i).1 := by
    obtain ⟨⟨l⟩⟩ := s
    generalize (opAt i).1 = z at k1
    obtain ⟨⟨l2⟩⟩ := z
    have k1 : l2 = l := k1
    rw [k1]
  have get : ∀ j : Nat, cs0[j]? = cs0.toList[j]? := fun j => (Array.getElem?_toList).symm
  have d0 : cs0.toList[i * 2]? = some (.string s) := by
    have := congrArg (fun l => l[0]?) e1
    simpa [List.getElem?_take, List.getElem?_drop] using this
  have d1 : cs0.toList[i * 2 + 1]? = some (.int .i64 n) := by
    have := congrArg (fun l => l[1]?) e1
    simpa [List.getElem?_take, List.getElem?_drop] using this
  have v0 := World.var?_cell hg0 hv0 (i * 2)
  have v1 := World.var?_cell hg0 hv0 (i * 2 + 1)
  rw [get, d0, hs] at v0
  rw [get, d1, ← k2] at v1
  exact ⟨v0, v1⟩
end Go.Proofs.YtnjmkeijjapejaaDoor
namespace Go.Proofs.YtnjmkeijjapejaaDoor
open Go.ChangeShapes Go.WideShapes Go.ChangeAt Go.RowKit Go.GV
theorem own : ownKnob Tryd.prog.godebug = none := by kernel_rfl
theorem laidOut : laidOutB Tryd.prog = true := by kernel_rfl
theorem fMaps : mapsRowed Tryd.prog = true := by kernel_rfl
theorem fHeard : Tryd.prog.stopsHeard = true := by kernel_rfl
theorem fEnter : Tryd.prog.mayEnter = true := by kernel_rfl
theorem fLifts : (Rows.condNamesRow.lifted == Tryd.prog.liftsFinal) = true := by kernel_rfl
theorem fMake : (Tryd.prog.make == some Rows.condNamesRow.make) = true := by kernel_rfl
theorem jmk {a0 a1 a2 a3 a4 a5 a6 a7 a8 a9 a10 a11 a12 a13 a14 a15 a16 a17 a18 a19 a20 a21 a22 a23 a24 a25 a26 a27 a28 a29 a30 a31 : Bool} (h0 : a0 = true) (h1 : a1 = true) (h2 : a2 = true) (h3 : a3 = true) (h4 : a4 = true) (h5 : a5 = true) (h6 : a6 = true) (h7 : a7 = true) (h8 : a8 = true) (h9 : a9 = true) (h10 : a10 = true) (h11 : a11 = true) (h12 : a12 = true) (h13 : a13 = true) (h14 : a14 = true) (h15 : a15 = true) (h16 : a16 = true) (h17 : a17 = true) (h18 : a18 = true) (h19 : a19 = true) (h20 : a20 = true) (h21 : a21 = true) (h22 : a22 = true) (h23 : a23 = true) (h24 : a24 = true) (h25 : a25 = true) (h26 : a26 = true) (h27 : a27 = true) (h28 : a28 = true) (h29 : a29 = true) (h30 : a30 = true) (h31 : a31 = true) :
    (a0 && a1 && a2 && a3 && a4 && a5 && a6 && a7 && a8 && a9 && a10 && a11 && a12 && a13 && a14 && a15 && a16 && a17 && a18 && a19 && a20 && a21 && a22 && a23 && a24 && a25 && a26 && a27 && a28 && a29 && a30 && a31) = true := by simp only [h0, h1, h2, h3, h4, h5, h6, h7, h8, h9, h10, h11, h12, h13, h14, h15, h16, h17, h18, h19, h20, h21, h22, h23, h24, h25, h26, h27, h28, h29, h30, h31, Bool.and_self]
end Go.Proofs.YtnjmkeijjapejaaDoor
namespace Go.Proofs.YtnjmkeijjapejaaDoor
open Go.ChangeShapes Go.WideShapes Go.ChangeAt Go.RowKit Go.GV
theorem readsCondChoice (os : Os) {H : Type} (enc : TypeId × Value → H) : ∃ places, DataW.whole enc Tryd.prog ((World.laidAll Tryd.prog os lst).forCall (fun _ _ => 0) ⟨#[], #[.slice none 0 0, .slice none 0 0, .slice none 0 0], []⟩).memory Tryd.f10.params.toList Rows.condChoiceSpec.vars false (#[.slice none 0 0, .slice none 0 0, .slice none 0 0] : Array Value).toList 8 = some ([.nil, .nil, .nil], [], places) :=
  ⟨[], by kernel_rfl⟩
set_option maxRecDepth 100000 in
theorem liftedCondChoice (os : Os) (started : os.Started) (H : Type) (enc : TypeId × Value → H) (F : Stop.Interp) :
    ReturnsInHanded {} Tryd.checked os 10 .any ((Rows.OpenSpec.upto Rows.condChoiceSpec).preRow enc Tryd.prog Tryd.f10 Rows.condChoiceUptoRow.domain false Rows.condChoiceUptoRow.laid) (((Rows.OpenSpec.upto Rows.condChoiceSpec).at F).post enc Tryd.prog Tryd.f10 false true false false) := by
  obtain ⟨places, hx⟩ := readsCondChoice os enc
  refine returnsInHanded_of_row (C := Tryd.checked) (s := Rows.OpenSpec.upto Rows.condChoiceSpec) own started (by kernel_rfl) Tryd.func10
    (witness_row_at (enc := enc) (C := Tryd.checked) false (World.laidAll Tryd.prog os lst) #[.slice none 0 0, .slice none 0 0, .slice none 0 0] (lstB os) (by kernel_rfl) (by kernel_rfl) (by kernel_rfl)
      (OpenSpec.preRow_of_cond 8 hx (by kernel_rfl) (fun k hk => by cases hk; kernel_rfl) (by kernel_rfl) (met os _))) ?_
  intro W base args ds gs before hval0 hW hcnd hcond hz hL hsh _
  have hk : Rows.uptoSmall H (ds ++ gs) = true := hcond _ rfl
  have hval : ∀ (j : Nat) t v, Tryd.f10.params[j]? = some t → args[j]? = some v → Value.okWide Tryd.prog W .any base t v := hval0
  have hW' := hW
  obtain ⟨p, q, hA0, hV, rfl, hfz, hnd⟩ := hW
  have hA : DataW.TrodAll enc Tryd.prog W 0 (fun _ => true) true Tryd.f10.params.toList args.toList ds p := hA0
  rw [Tryd.params10] at hA hval hz
  obtain ⟨v0, vs0, d0, ds0, p0, q0, hargs, rfl, rfl, h0, r0⟩ := trodAll_cons hA
  obtain ⟨v1, vs1, d1, ds1, p1, q1, rfl, rfl, rfl, h1, r1⟩ := trodAll_cons r0
  obtain ⟨v2, vs2, d2, ds2, p2, q2, rfl, rfl, rfl, h2, r2⟩ := trodAll_cons r1
  obtain ⟨rfl, rfl, rfl⟩ := trodAll_nil r2
  obtain rfl : args = #[v0, v1, v2] := by cases args; simp_all
  obtain ⟨rfl, rfl⟩ := trodVars_none hV
  obtain ⟨a0, len0, cap0, e0⟩ := okWide_slice Tryd.underlying41 (hval 0 41 v0 rfl rfl)
  obtain ⟨a1, len1, cap1, e1⟩ := okWide_slice Tryd.underlying41 (hval 1 41 v1 rfl rfl)
  obtain ⟨a2, len2, cap2, e2⟩ := okWide_slice Tryd.underlying41 (hval 2 41 v2 rfl rfl)
  have lt0 : ∀ x ∈ p0, x.block < W.heap.size := by obtain ⟨m, hm⟩ := h0; exact DataW.trod_lt m _ _ _ hm
  have lt1 : ∀ x ∈ p1, x.block < W.heap.size := by obtain ⟨m, hm⟩ := h1; exact DataW.trod_lt m _ _ _ hm
  have lt2 : ∀ x ∈ p2, x.block < W.heap.size := by obtain ⟨m, hm⟩ := h2; exact DataW.trod_lt m _ _ _ hm
  have hb : Rows.uptoBulkAll ([d0, d1, d2] : List (DataW H)) ≤ 1048576 := of_decide_eq_true (by simpa only [Rows.uptoSmall, List.append_nil, List.cons_append, List.nil_append] using hk)
  simp only [Rows.uptoBulkAll] at hb
  have t0 : TrB enc W 41 [v0] 1048576 := by obtain ⟨m, hm⟩ := h0; rw [e0] at hm ⊢; exact ⟨m, _, hm, by show Rows.uptoBulk d0 ≤ _; omega⟩
  have t1 : TrB enc W 41 [v1] 1048576 := by obtain ⟨m, hm⟩ := h1; rw [e1] at hm ⊢; exact ⟨m, _, hm, by show Rows.uptoBulk d1 ≤ _; omega⟩
  have t2 : TrB enc W 41 [v2] 1048576 := by obtain ⟨m, hm⟩ := h2; rw [e2] at hm ⊢; exact ⟨m, _, hm, by show Rows.uptoBulk d2 ≤ _; omega⟩
  obtain ⟨A0, c0, L0, z0, m0, s0⟩ := open_ptB t0 (Nat.le_refl _)
  obtain ⟨A1, c1, L1, z1, m1, s1⟩ := open_ptB t1 (Nat.le_refl _)
  obtain ⟨A2, c2, L2, z2, m2, s2⟩ := open_ptB t2 (Nat.le_refl _)
  have hg : Glob (im W) := Tryd.laysM143.s1_3 W hsh
  have hO : OpG (im W) := ops_of_laid hL
  have key : Calls Tryd.prog 10 #[v0, v1, v2] W (PureP W fun v _ => v = .bool true) := by
    rw [z0, z1, z2]; exact choice_any L0 L1 L2 A0 A1 A2 c0 c1 c2 W m0 m1 m2 s0 s1 s2 hg hO
  clear hA0 hval0
  refine (key).mono fun e W' ⟨v, he, bel, hv⟩ => ?_
  subst he hv
  exact ⟨_, rfl, _, _, _, [], _, [], hW', trodAll_mk1 (shut_bool Tryd.underlying4 _), (trodAll_cons_mk (Below.trod laidOut (by kernel_rfl) (of_decide_eq_true (by kernel_rfl)) h0 bel lt0) (trodAll_cons_mk (Below.trod laidOut (by kernel_rfl) (of_decide_eq_true (by kernel_rfl)) h1 bel lt1) (trodAll_cons_mk (Below.trod laidOut (by kernel_rfl) (of_decide_eq_true (by kernel_rfl)) h2 bel lt2) trodAll_mk0))), rfl, bel.frame _, fun h => by cases h⟩
theorem c910 : (Rows.condChoiceUptoRow.inPlace == Tryd.prog.inPlace 10) = true := by kernel_rfl
theorem c1010 : (Rows.condChoiceUptoRow.unfollowed == Tryd.prog.unfollowed 10) = true := by kernel_rfl
theorem c1110 : (Rows.condChoiceUptoRow.recurses == Tryd.prog.recurses 10) = true := by kernel_rfl
theorem c1210 : (Rows.condChoiceUptoRow.named == Tryd.prog.varsNamed 10) = true := by kernel_rfl
theorem closed10 : joinedFacts Tryd.prog 10 Tryd.f10 (Rows.OpenSpec.upto Rows.condChoiceSpec).bare Rows.condChoiceUptoRow = true :=
  jmk (by kernel_rfl) laidOut fMaps (by kernel_rfl) (by kernel_rfl) (by kernel_rfl) (by kernel_rfl) (by kernel_rfl) (by kernel_rfl) c910 c1010 c1110 c1210 (by kernel_rfl) (by kernel_rfl) (by kernel_rfl) (by kernel_rfl) (by kernel_rfl) (by kernel_rfl) (by kernel_rfl) (by kernel_rfl) (by kernel_rfl) (by kernel_rfl) (by kernel_rfl) fHeard fEnter fLifts fMake (by kernel_rfl) (by kernel_rfl) (by kernel_rfl) (by kernel_rfl)
theorem named10 : Tryd.prog.funcNamed Rows.condChoiceUptoRow.func = some 10 := by kernel_rfl
theorem inst10 : Tryd.f10.isInstance Tryd.prog Rows.condChoiceUptoRow.origin Rows.condChoiceUptoRow.targs := of_decide_eq_true (by kernel_rfl)
theorem wrap10 : Tryd.f10.isWrapper Tryd.prog Rows.condChoiceUptoRow.wrapper Rows.condChoiceUptoRow.mainSum := by unfold Func.isWrapper; first | (rw [if_pos (by decide +kernel)]; kernel_rfl) | (rw [if_neg (by decide +kernel)]; exact ⟨rfl, rfl⟩)
theorem over10 : Rows.CondChoiceUptoSaid :=
  OpenClaim.holds_of_cond 10 Tryd.f10 rfl rfl rfl rfl rfl rfl rfl ⟨rfl, rfl, rfl, rfl, rfl⟩ rfl rfl rfl rfl rfl named10 Tryd.func10 closed10 inst10 wrap10
    (fun os started H enc _ F => by rw [OpenClaim.pre_eq_preRow]; exact liftedCondChoice os started H enc F)
theorem condChoiceUpto_card : Rows.CondChoiceUptoCardSaid :=
  Claim7.holds_tied_plain_at .later [] _ _ _ _
    over10 (fun _ h => by cases h) (by kernel_rfl) (fun _ h => by cases h) condChoiceUpto_row_tie rfl ⟨rfl, rfl⟩ (by kernel_rfl) rfl
    (fun f fn hf hfn => by
      obtain rfl : f = 10 := Option.some.inj (named10.symm.trans hf) |>.symm
      obtain rfl : fn = Tryd.f10 := (Option.some.inj (Tryd.func10.symm.trans hfn)).symm
      exact ⟨by kernel_rfl, fun j t ht => by
        rw [Tryd.params10] at ht
        obtain rfl : t = 41 := by simpa using Array.mem_of_getElem? ht
        exact (show Tryd.prog.wantsStandIn 41 = false by kernel_rfl)⟩)
    (by kernel_rfl)
#print axioms condChoiceUpto_card
end Go.Proofs.YtnjmkeijjapejaaDoor
