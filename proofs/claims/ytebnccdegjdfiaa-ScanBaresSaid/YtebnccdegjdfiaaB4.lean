/- The statement of ScanBares, out of its walk: for every list the law answers true, and the list stays. -/
import Derived.Test.YtebnccdegjdfiaaB3
import Derived.Test.YtebnccdegjdfiaaRows
import Derived.ProofKit
import Derived.OpenShut
import Derived.ShutString
import Derived.ChangeOld
import Derived.Below
import Derived.SizedLaws
namespace Go.Proofs.Ytebnccdegjdfiaa
open Go.ChangeShapes Go.WideShapes Go.ChangeAt Go.RowKit Go.GV

theorem own : ownKnob Try.prog.godebug = none := by kernel_rfl
theorem laidOut : laidOutB Try.prog = true := by kernel_rfl

section
variable {H : Type} {enc : TypeId × Value → H} {w : World}

def tokAt (u : Im) (x : Value) (i : Int) : Tok := ⟨vInt (cellAt u x 5 i 0), vStr (cellAt u x 5 i 1), vInt (cellAt u x 5 i 2), vInt (cellAt u x 5 i 3), vBool (cellAt u x 5 i 4)⟩
def toksAt (u : Im) (x : Value) : List Tok := (List.range (vN x)).map fun i : Nat => tokAt u x i

theorem toksAt_getD (u : Im) (x : Value) {i : Nat} (h : i < vN x) : (toksAt u x).getD i tok0 = tokAt u x i := by
  rw [List.getD_eq_getElem?_getD]
  simp [toksAt, h]

theorem open_toks {x : Value} (h : Tr enc Try.prog w 22 [x]) : SlAt (im w) x (tokY.d (toksAt (im w) x)) := by
  obtain ⟨A, n, c, h1, h2, h3, h4⟩ := h.slice Try.underlying22 (by kernel_rfl : _ = 5)
  have hn : vN x = n := by rw [h1]; rfl
  refine h3.ext (by simp [dataAt, Lay.d, toksAt, hn]) rfl fun i hi j f f' hf hf' => ?_
  have hi' : i < n := hi
  obtain ⟨_, hc⟩ := (h4 i (by omega) (by omega)).strct Try.underlying26 (by kernel_rfl)
  have hg := toksAt_getD (im w) x (i := i) (by omega)
  obtain ⟨k0, e0, _⟩ := (hc 0 _ _ rfl rfl).int Try.underlying3
  obtain ⟨k1, e1, _⟩ := (hc 1 _ _ rfl rfl).str Try.underlying9
  obtain ⟨k2, e2, _⟩ := (hc 2 _ _ rfl rfl).int Try.underlying3
  obtain ⟨k3, e3, _⟩ := (hc 3 _ _ rfl rfl).int Try.underlying3
  obtain ⟨k4, e4⟩ := (hc 4 _ _ rfl rfl).bool Try.underlying4
  simp only [List.cons.injEq, and_true] at e0 e1 e2 e3 e4
  have hg' : (toksAt (im w) x).getD (i : Int).toNat tok0 = tokAt (im w) x i := hg
  match j, hf, hf' with
  | 0, hf, hf' =>
    cases hf; cases hf'
    show cellAt (im w) x 5 i 0 = .int .i64 ((toksAt (im w) x).getD (i : Int).toNat tok0).kind
    rw [hg']; simp only [tokAt, e0, vInt]
  | 1, hf, hf' =>
    cases hf; cases hf'
    show cellAt (im w) x 5 i 1 = .string ((toksAt (im w) x).getD (i : Int).toNat tok0).text
    rw [hg']; simp only [tokAt, e1, vStr]
  | 2, hf, hf' =>
    cases hf; cases hf'
    show cellAt (im w) x 5 i 2 = .int .i64 ((toksAt (im w) x).getD (i : Int).toNat tok0).lo
    rw [hg']; simp only [tokAt, e2, vInt]
  | 3, hf, hf' =>
    cases hf; cases hf'
    show cellAt (im w) x 5 i 3 = .int .i64 ((toksAt (im w) x).getD (i : Int).toNat tok0).hi
    rw [hg']; simp only [tokAt, e3, vInt]
  | 4, hf, hf' =>
    cases hf; cases hf'
    show cellAt (im w) x 5 i 4 = .bool ((toksAt (im w) x).getD (i : Int).toNat tok0).space
    rw [hg']; simp only [tokAt, e4, vBool]
  | j + 5, hf, hf' => simp [Lay.d] at hf'

theorem toks_sized {ts : List TypeId} {ds : List (DataW H)} (hz : (DataW.weightsEach Try.prog ts ds).all (· ≤ reachBytes) = true) {j : Nat} {a : Option Addr} {n c : Nat} {d : DataW H} {p : List MemPlace}
    (ht : ts[j]? = some 22) (hd : ds[j]? = some d) (h : DataW.Trod enc Try.prog w 0 (fun _ => true) true 22 (.slice a n c) d p) : n * 48 ≤ 140737488355328 := by
  obtain ⟨fuel, hf⟩ := h
  rcases Go.Deep.open_slice Try.underlying22 hf with ⟨h1, _⟩ | ⟨ad, len, cap, k, m, D, Pl, h1, _, _, _, _, h2, _⟩
  · have : n = 0 := by simp [Value.cells] at h1; omega
    omega
  · simp only [Value.cells, List.cons.injEq, and_true, Value.slice.injEq] at h1
    simp only [Prod.mk.injEq] at h2
    have h3 := sized_slice hz ht (hd.trans (congrArg some h2.1)) Try.underlying22
    have hb : Try.prog.bytesOf 26 = 48 := by kernel_rfl
    have hr : reachBytes < 2 ^ 47 := reachBytes_lt
    rw [hb] at h3
    simp only [List.length_map, List.length_range] at h3
    have : n = len := h1.2.1
    omega
end

/-! ### The row -/
set_option maxRecDepth 100000 in
theorem lifted (os : Os) (started : os.Started) (H : Type) (enc : TypeId × Value → H) :
    ReturnsInHanded {} Try.checked os 3 .any (Rows.scanBaresSpec.pre6 enc Try.prog Try.f3 Rows.scanBaresRow.domain false) (Rows.scanBaresSpec.post enc Try.prog Try.f3 false true false false) := by
  refine returnsInHanded_of_change_sized (C := Try.checked) own started (by kernel_rfl) Try.func3
    (ChangeSpec.witness6 (enc := enc) (C := Try.checked) false ⟨#[], #[.slice none 0 0], []⟩ 8 (by kernel_rfl) (by kernel_rfl) (by kernel_rfl) (by kernel_rfl)) ?_
  intro W base args ds gs before hval0 hW hcnd hz _
  have hval : ∀ (j : Nat) t v, Try.f3.params[j]? = some t → args[j]? = some v → Value.okWide Try.prog W .any base t v := hval0
  have hW' := hW
  obtain ⟨p, q, hA0, hV, rfl, hfz, hnd⟩ := hW
  have hA : DataW.TrodAll enc Try.prog W 0 (fun _ => true) true Try.f3.params.toList args.toList ds p := hA0
  rw [Try.params3] at hA hval hz
  obtain ⟨v0, vs0, d0, ds0, p0, q0, hargs, rfl, rfl, h0, r0⟩ := trodAll_cons hA
  obtain ⟨rfl, rfl, rfl⟩ := trodAll_nil r0
  obtain rfl : args = #[v0] := by cases args; simp_all
  obtain ⟨rfl, rfl⟩ := trodVars_none hV
  obtain ⟨a0, len0, cap0, rfl⟩ := okWide_slice Try.underlying22 (hval 0 22 v0 rfl rfl)
  have lt0 : ∀ x ∈ p0, x.block < W.heap.size := by obtain ⟨m, hm⟩ := h0; exact DataW.trod_lt m _ _ _ hm
  have t0 : Tr enc Try.prog W 22 [.slice a0 len0 cap0] := by obtain ⟨m, hm⟩ := h0; exact ⟨m, _, hm⟩
  have hn0 := toks_sized (j := 0) hz rfl rfl h0
  clear hA0 hval0
  refine (scanBares_any _ _ W (open_toks t0) (by simpa [toksAt, vN] using hn0)).mono fun e W' ⟨v, he, bel, hv⟩ => ?_
  subst he hv
  exact ⟨_, rfl, _, _, _, [], _, [], hW', trodAll_mk1 (shut_bool Try.underlying4 _), (trodAll_cons_mk (Below.trod laidOut (by kernel_rfl) (of_decide_eq_true (by kernel_rfl)) h0 bel lt0) trodAll_mk0), rfl, bel.frame _, fun h => by cases h⟩

theorem over : Rows.scanBaresRow.holds Try.pinned (OpenSpec.ofChange Rows.scanBaresSpec) :=
  OpenClaim.holds_of_wide 3 Try.f3 rfl rfl rfl rfl rfl rfl rfl ⟨rfl, rfl, rfl, rfl, rfl⟩ rfl rfl rfl rfl rfl (by kernel_rfl) Try.func3 (by kernel_rfl)
    (of_decide_eq_true (by kernel_rfl)) (by unfold Func.isWrapper; first | (rw [if_pos (by decide +kernel)]; kernel_rfl) | (rw [if_neg (by decide +kernel)]; exact ⟨rfl, rfl⟩))
    (fun os started H enc _ => lifted os started H enc)

theorem scanBares_proved : Rows.ScanBaresSaid := over
#print axioms scanBares_proved
end Go.Proofs.Ytebnccdegjdfiaa
