/- The rows of a list of tokens: the program's answer. -/
import Derived.Test.YtdonomneofdhfaaC1
namespace Go.Proofs.Ytdonomneofdhfaa
open Go.GV Go.RowKit

set_option maxRecDepth 100000 in
theorem clone_own (L : List Tok) (x : Value) (w : World) (hx : SlAt (im w) x (tokY.d L)) (hL : L.length * 48 ≤ 140737488355328) :
    Calls Try.prog 85 #[x] w (PureP w fun v u => OwnAt u v 31 (tokY.d L)) := by
  refine x_fun tt_ok Try.func85 rfl rfl [(x, tokY.d L)] 1 [.r 0] rfl rfl rfl rfl (fun b hb => by simp at hb; subst hb; exact hx) ?_
  refine x_vc tt_ok ?_
  refine xl_eqnil tt_ok rfl rfl rfl rfl rfl rfl rfl (fun E w F hs => hs.slAt (k := 0) rfl) (fun b hb => ?_)
  refine xl_go tt_ok ?_
  refine x_if (fun h => ?_) (fun h => ?_)
  · have h0 : L = [] := List.eq_nil_of_length_eq_zero (hb h)
    subst h0
    exact finP fun _ _ _ hs _ => .inl ⟨rfl, rfl⟩
  · refine xl_empty tt_ok tokY rfl rfl rfl rfl rfl rfl rfl ?_
    refine xl_go tt_ok ?_
    refine xl_append tt_ok tokY [] L 48 rfl rfl rfl rfl rfl rfl rfl rfl (by kernel_rfl) rfl rfl rfl (fun E w F hs => hs.slAt (k := 0) rfl) tokOne rfl (by simp; omega) (by simp; omega) ?_
    refine xl_go tt_ok ?_
    exact finO (k := 2) (D := tokY.d L) rfl

structure RowT where
  dir : Bool
  name : ByteArray
  ts : List Tok

def rowT0 : RowT := ⟨false, ⟨#[]⟩, []⟩
def RowT.key (r : RowT) : Bool × ByteArray := (r.dir, r.name)

/-- one line more -/
def addLine (s : List RowT × Bool) (line : List Tok) : List RowT × Bool :=
  if (!(dirF false line).2 && s.2) = true then (s.1.set (s.1.length - 1) { s.1.getD (s.1.length - 1) rowT0 with ts := (s.1.getD (s.1.length - 1) rowT0).ts ++ line }, s.2)
  else (s.1 ++ [⟨(dirF false line).2, (dirF false line).1, line⟩], !(dirF false line).2)

def lnOf (L : List Tok) (p : Nat × Nat) : List Tok := (L.take p.2).drop p.1
def linesOf (L : List Tok) : List (List Tok) := (pcs 0 0 L).map (lnOf L)
def rowsOf (L : List Tok) : List RowT := ((linesOf L).foldl addLine ([], false)).1

/-- the rows in memory: their slices, apart from one another -/
def itemsS (V : List RowV) (R : List RowT) : List SI := List.zipWith (fun v r => ⟨v.toks, 31, tokY.d r.ts⟩) V R

theorem itemsS_set {V : List RowV} {R : List RowT} {i : Nat} {v : RowV} {r : RowT} : itemsS (V.set i v) (R.set i r) = (itemsS V R).set i ⟨v.toks, 31, tokY.d r.ts⟩ := by
  unfold itemsS
  refine List.ext_getElem? fun j => ?_
  simp only [List.getElem?_zipWith, List.getElem?_set, List.length_zipWith]
  by_cases h : i = j
  · subst h
    simp only [if_true]
    by_cases h1 : i < V.length
    · by_cases h2 : i < R.length
      · rw [if_pos h1, if_pos h2, if_pos (by omega)]
      · rw [if_pos h1, if_neg h2, if_neg (by omega)]
    · rw [if_neg h1, if_neg (show ¬ i < min V.length R.length by omega)]
  · simp only [if_neg h]

theorem itemsS_push {V : List RowV} {R : List RowT} (h : V.length = R.length) (v : RowV) (r : RowT) : itemsS (V ++ [v]) (R ++ [r]) = itemsS V R ++ [⟨v.toks, 31, tokY.d r.ts⟩] := by
  unfold itemsS
  rw [List.zipWith_append h]; rfl

theorem itemsS_get {V : List RowV} {R : List RowT} {i : Nat} (h1 : i < V.length) (h2 : i < R.length) : (itemsS V R)[i]? = some ⟨(V.getD i row0).toks, 31, tokY.d (R.getD i rowT0).ts⟩ := by
  unfold itemsS
  rw [List.getElem?_zipWith, List.getElem?_eq_getElem h1, List.getElem?_eq_getElem h2]
  simp [List.getD_eq_getElem?_getD, List.getElem?_eq_getElem h1, List.getElem?_eq_getElem h2]

theorem pcs_sum (L : List Tok) : ∀ (r : List Tok) (f i : Nat), f ≤ i → i + r.length ≤ L.length → (((pcs f i r).map (lnOf L)).map List.length).sum = i - f + r.length
  | [], f, i, h, hl => by
    simp only [pcs]
    split
    · simp [lnOf]; simp at hl; omega
    · simp; omega
  | t :: r, f, i, h, hl => by
    simp only [List.length_cons] at hl
    simp only [pcs, List.length_cons]
    split
    · have := pcs_sum L r (i + 1) (i + 1) (Nat.le_refl _) (by omega)
      simp only [List.map_cons, List.sum_cons, this, lnOf, List.length_drop, List.length_take]
      omega
    · have := pcs_sum L r f (i + 1) (by omega) (by omega)
      rw [this]; omega

def sizeR (R : List RowT) : Nat := (R.map (fun r => r.ts.length)).sum

theorem sum_set : ∀ (l : List Nat) (i : Nat) (a : Nat), i < l.length → (l.set i a).sum + l.getD i 0 = l.sum + a
  | [], i, a, h => by simp at h
  | x :: l, 0, a, h => by simp; omega
  | x :: l, i + 1, a, h => by
    simp only [List.length_cons, Nat.add_lt_add_iff_right] at h
    have := sum_set l i a h
    simp only [List.set_cons_succ, List.sum_cons, List.getD_cons_succ]
    omega

theorem addLine_size (s : List RowT × Bool) (line : List Tok) (h : s.2 = true → s.1 ≠ []) : sizeR (addLine s line).1 = sizeR s.1 + line.length ∧ ((addLine s line).2 = true → (addLine s line).1 ≠ []) ∧ (addLine s line).1.length ≤ s.1.length + 1 := by
  unfold addLine
  split
  · rename_i hc
    simp only [Bool.and_eq_true] at hc
    have hne := h hc.2
    have hpos : s.1.length - 1 < s.1.length := by
      cases hs : s.1 with
      | nil => exact absurd hs hne
      | cons => simp
    refine ⟨?_, fun _ hh => ?_, by simp⟩
    · unfold sizeR
      rw [List.map_set]
      have := sum_set (s.1.map (fun r => r.ts.length)) (s.1.length - 1) ((s.1.getD (s.1.length - 1) rowT0).ts ++ line).length (by simpa using hpos)
      have e : (s.1.map (fun r => r.ts.length)).getD (s.1.length - 1) 0 = (s.1.getD (s.1.length - 1) rowT0).ts.length := by
        simp [List.getD_eq_getElem?_getD, List.getElem?_eq_getElem hpos]
      rw [e] at this
      simp only [List.length_append] at this ⊢
      omega
    · have := congrArg List.length hh
      simp at this
      exact hne this
  · refine ⟨?_, fun _ => by simp, by simp⟩
    simp [sizeR]

theorem getD_size {R : List RowT} {i : Nat} (h : i < R.length) : (R.getD i rowT0).ts.length ≤ sizeR R := by
  unfold sizeR
  induction R generalizing i with
  | nil => simp at h
  | cons r R ih =>
    cases i with
    | zero => simp
    | succ i =>
      simp only [List.length_cons, Nat.add_lt_add_iff_right] at h
      have := ih h
      simp only [List.getD_cons_succ, List.map_cons, List.sum_cons]
      omega

def PiecesFn (x : Value) (v : Value) (u : Im) : Prop := ∃ b, v = .func (.func 128) #[] #[.pointer (some ⟨b, 0, none⟩)] ∧ u.h b = some (.cells #[x] 22 (0, 0))

set_option maxRecDepth 100000 in
theorem piecesFn_any (A : Option Addr) (n c : Nat) (w : World) : Calls Try.prog 83 #[.slice A n c] w (PureP w (PiecesFn (.slice A n c))) := by
  refine x_fun tt_ok Try.func83 rfl rfl [] 0 [.v (.slice A n c)] rfl rfl rfl rfl (fun b hb => by cases hb) ?_
  refine x_vc tt_ok ?_
  refine finP (fun E w' F hs hu => ?_)
  obtain ⟨b, h1, h2⟩ := hs.boxNew (k := 0) rfl hu
  refine ⟨b, ?_, h2⟩
  simp [SV.den, tupV, ptrOf, h1]

/-- the answer: a slice of rows, each with memory of its own -/
def RowsR (R : List RowT) : Value → Im → Prop := StarR (fun (s : Option Addr × Nat × List RowV) => .slice s.1 R.length s.2.1) (fun s => itemsS s.2.2 R ++ [⟨.slice s.1 R.length s.2.1, 28, rowY.d s.2.2⟩]) (fun s => s.2.2.map RowV.key = R.map RowT.key)

theorem rowOne : ∀ x : RowV, ∀ y ∈ rowY.el x, oneB y = true := by
  intro x y hy
  simp [Lay.el] at hy
  rcases hy with rfl | rfl | rfl <;> rfl

set_option maxRecDepth 100000 in
theorem rows_any (L : List Tok) (A : Option Addr) (c : Nat) (w : World) (hx : SlAt (im w) (.slice A L.length c) (tokY.d L)) (hL : L.length * 48 ≤ 140737488355328) :
    Calls Try.prog 23 #[.slice A L.length c] w (PureP w (RowsR (rowsOf L))) := by
  refine x_fun tt_ok Try.func23 rfl rfl [] 0 [.v (.slice A L.length c)] rfl rfl rfl rfl (fun b hb => by cases hb) ?_
  refine x_vc tt_ok ?_
  refine xl_call _ rfl rfl rfl rfl fn83 rfl rfl (fun E w F _ => piecesFn_any _ _ _ w) (fun v u1 u2 hu2 hs2 hv => ?_)
  obtain ⟨b, rfl, hb⟩ := hv
  have hb2 := of_sub_cut hs2 hb
  have hx2 : SlAt u2 (.slice A L.length c) (tokY.d L) := hx.le hu2
  refine xl_go tt_ok ?_
  refine x_nilCell 0 28 rowY [] [] rfl ?_
  refine x_star0 0 ?_
  refine x_range (σ := Bool × List RowV × List RowT) (τ := Empty) rfl fn128 (pieces_iter L A c b u2 hb2 hx2 hL) [(3, .p 0 0), (4, .p 1 0), (0, .v (.slice A L.length c))]
    (fun (run, V, R) => [(0, .box 23 [.r 5]), (1, .box 4 [.v (.bool run)]), (5, .row 28 (rowY.d V)), (3, .gen (starHp (itemsS V R)))]) (fun _ => 6)
    (fun k (run, V, R) _ => ((linesOf L).take k).foldl addLine ([], false) = (R, run) ∧ V.map RowV.key = R.map RowT.key ∧ sizeR R = (((linesOf L).take k).map List.length).sum ∧ (run = true → R ≠ []) ∧ R.length ≤ k)
    (fun _ => []) (fun _ => 6) (fun _ e _ => False) (false, [], []) [(5, some 2)] (.of rfl rfl rfl rfl rfl rfl) ⟨rfl, rfl, rfl, (fun h => by cases h), Nat.le_refl _⟩ rfl
    (fun _ => rfl) (fun _ => rfl) (fun _ => by decide) (fun _ => by decide) rfl (fun l k x s u3 Fr Fr' hx hu3 hg => ?_) (fun s u3 hu3 hg => ?_) (fun _ e u3 hu3 hg => hg.elim)
  · obtain ⟨run, V, R⟩ := s
    rw [List.getElem?_map] at hx
    obtain ⟨p, hp, rfl⟩ := Option.map_eq_some_iff.1 hx
    have hm := pcs_mem L 0 0 p (Nat.le_refl _) (List.mem_of_getElem? hp)
    have hln : SlAt u3 (pcV A c p) (tokY.d (lnOf L p)) := partV_slAt (hx2.le hu3) (by omega) (by omega)
    have hll : (lnOf L p).length = p.2 - p.1 := by simp [lnOf]; omega
    obtain ⟨g1, g2, g3, g4, g5⟩ := hg
    have hk : (linesOf L)[k]? = some (lnOf L p) := by rw [linesOf, List.getElem?_map, hp]; rfl
    have hadd := addLine_size (R, run) (lnOf L p) g4
    have hVR : V.length = R.length := by have := congrArg List.length g2; simpa using this
    have hpl := pcs_len L 0 0 (Nat.le_refl _)
    have hkl : k < (pcs 0 0 L).length := (List.getElem?_eq_some_iff.1 hp).1
    have hsum : sizeR R + (lnOf L p).length ≤ L.length := by
      have h1 := pcs_sum L L 0 0 (Nat.le_refl _) (by omega)
      rw [g3]
      have h2 := congrArg (fun l => (l.map List.length).sum) (List.take_append_drop k (linesOf L))
      simp only [List.map_append, List.sum_append] at h2
      rw [show (linesOf L).drop k = lnOf L p :: (linesOf L).drop (k + 1) from drop_get hk] at h2
      simp only [List.map_cons, List.sum_cons] at h2
      have h3 : ((linesOf L).map List.length).sum = L.length := by rw [linesOf, h1]; omega
      omega
    have next : ((linesOf L).take (k + 1)).foldl addLine ([], false) = addLine (R, run) (lnOf L p) := by
      rw [take_get hk, List.foldl_append, g1]; rfl
    have nsum : (((linesOf L).take (k + 1)).map List.length).sum = sizeR R + (lnOf L p).length := by
      rw [take_get hk, List.map_append, List.sum_append, ← g3]; simp
    refine x_vc tt_ok ?_
    refine ⟨rfl, rfl, x_vc tt_ok ?_⟩
    refine xl_call0 (.tuple #[.string (dirF false (lnOf L p)).1, .bool (dirF false (lnOf L p)).2]) rfl rfl rfl rfl fn84 rfl rfl (fun E w F hs => directive_any _ _ w (hln.imm hs.imm) (by omega)) ?_
    refine xl_go tt_ok ?_
    refine x_if (fun h => ?_) (fun h => ?_)
    · have h1 : (!(dirF false (lnOf L p)).2 && run) = true := h
      rw [addLine, if_pos h1] at next hadd
      obtain ⟨hd1, hd2⟩ := Bool.and_eq_true_iff.1 h1
      subst hd2
      have hRne := g4 rfl
      have hpos : 0 < R.length := List.length_pos_iff.2 hRne
      have hi : (((V.length : Nat) : Int) - 1).toNat < V.length := by omega
      have hi2 : (((V.length : Nat) : Int) - 1).toNat < R.length := by omega
      have hei : (((V.length : Nat) : Int) - 1).toNat = R.length - 1 := by omega
      have hts := getD_size hi2
      repeat (refine And.intro ?_ ?_; first | omega | (simp only [Lay.d_n]; omega))
      refine xl_unpark 31 3 (((V.length : Nat) : Int) - 1).toNat rfl rfl (itemsS_get hi hi2) ?_
      refine xl_append tt_ok tokY (R.getD (((V.length : Nat) : Int) - 1).toNat rowT0).ts (lnOf L p) 48 rfl rfl rfl rfl rfl rfl rfl rfl (by kernel_rfl) rfl rfl rfl (fun E w F hs => hln.imm hs.imm) tokOne rfl (by omega) (by omega) ?_
      refine xl_go tt_ok ?_
      refine xl_park 7 3 (((V.length : Nat) : Int) - 1).toNat rfl rfl (List.getElem?_set_self (by rw [itemsS, List.length_zipWith]; omega)) rfl (fun A' c' => ?_)
      refine xl_set tt_ok (cs := [.slice A' (tokY.d ((R.getD (((V.length : Nat) : Int) - 1).toNat rowT0).ts ++ lnOf L p)).n c']) rowY V { V.getD (((V.length : Nat) : Int) - 1).toNat row0 with ta := A', tn := (tokY.d ((R.getD (((V.length : Nat) : Int) - 1).toNat rowT0).ts ++ lnOf L p)).n, tc := c' } rfl rfl rfl rfl rfl rfl rfl (by simp only [Lay.d_n]; omega) (by simp only [Lay.d_n]; omega) rfl rfl (Nat.le_refl 3) rfl ?_
      refine xl_go tt_ok ?_
      rw [List.set_set]
      have e := itemsS_set (V := V) (R := R) (i := (((V.length : Nat) : Int) - 1).toNat) (v := { V.getD (((V.length : Nat) : Int) - 1).toNat row0 with ta := A', tn := (tokY.d ((R.getD (((V.length : Nat) : Int) - 1).toNat rowT0).ts ++ lnOf L p)).n, tc := c' })
        (r := { R.getD (((V.length : Nat) : Int) - 1).toNat rowT0 with ts := (R.getD (((V.length : Nat) : Int) - 1).toNat rowT0).ts ++ lnOf L p })
      refine ⟨(true, V.set (((V.length : Nat) : Int) - 1).toNat { V.getD (((V.length : Nat) : Int) - 1).toNat row0 with ta := A', tn := (tokY.d ((R.getD (((V.length : Nat) : Int) - 1).toNat rowT0).ts ++ lnOf L p)).n, tc := c' }, R.set (((V.length : Nat) : Int) - 1).toNat { R.getD (((V.length : Nat) : Int) - 1).toNat rowT0 with ts := (R.getD (((V.length : Nat) : Int) - 1).toNat rowT0).ts ++ lnOf L p }), [], ?_, ?_⟩
      · simp only [e]
        exact .of rfl rfl rfl rfl rfl rfl
      · rw [hei]
        refine ⟨next, ?_, by rw [nsum]; exact hadd.1, fun h => hadd.2.1 h, by have := hadd.2.2; simp at this ⊢; omega⟩
        rw [List.map_set, List.map_set, g2]
        congr 1
        have := congrArg (fun l => l.getD (R.length - 1) row0.key) g2
        simp only [List.getD_eq_getElem?_getD, List.getElem?_map] at this ⊢
        rw [List.getElem?_eq_getElem (by omega : R.length - 1 < V.length), List.getElem?_eq_getElem (by omega : R.length - 1 < R.length)] at this ⊢
        exact this
    · have h1 : (!(dirF false (lnOf L p)).2 && run) = false := h
      rw [addLine, if_neg (by rw [h1]; simp)] at next hadd
      generalize hD : dirF false (lnOf L p) = dn at h1 next hadd ⊢
      have pz : (R ++ [(⟨dn.2, dn.1, lnOf L p⟩ : RowT)]).length ≤ k + 1 := by simp; omega
      refine x_via (σ := Option Addr × Nat) (fun (A', c') => ⟨[(7, .v (.bool dn.2)), (4, .p 1 0), (3, .p 0 0)], [],
          [(4, .gen Fr'), (0, .box 23 [.r 6]), (1, .box 4 [.v (.bool run)]), (6, .row 28 (rowY.d (V ++ [⟨dn.2, dn.1, A', (tokY.d (lnOf L p)).n, c'⟩]))), (3, .gen (starHp (itemsS V R ++ [⟨.slice A' (tokY.d (lnOf L p)).n c', 31, tokY.d (lnOf L p)⟩])))], 7⟩) (fun _ _ => True) (fun _ => (by decide : 6 ≤ 7)) ?_ ?_
      · refine x_drawA mix ?_
        refine xa_pures tt_ok (fuel := 6) [1, 2, 3] rfl (by kernel_rfl) (by kernel_rfl) (fun _ _ _ hh => hh) (by kernel_rfl) (by kernel_rfl) ?_
        refine xa_two 0 4 (by kernel_rfl) rfl rfl (xl_go tt_ok ?_) ?_
        · refine xa_chain (fuel := 0) [4, 5, 6, 7, 8] rfl rfl (by kernel_rfl) ?_
          refine xl_callO 31 (tokY.d (lnOf L p)) rfl rfl rfl rfl fn85 rfl rfl (fun E w F hs => clone_own _ _ w (hln.imm hs.imm) (by omega)) ?_
          refine xl_parkN 6 3 rfl rfl (fun A' c' => ?_)
          refine xl_go tt_ok ?_
          refine xl_build tt_ok rowY [⟨dn.2, dn.1, A', (tokY.d (lnOf L p)).n, c'⟩] [_] rfl rfl rfl rfl rfl rfl rfl rfl rfl rfl rfl rfl rfl rfl rfl ?_
          refine xl_append tt_ok rowY V [⟨dn.2, dn.1, A', (tokY.d (lnOf L p)).n, c'⟩] 48 rfl rfl rfl rfl rfl rfl rfl rfl (by kernel_rfl) rfl rfl rfl (fun E w F hs => hs.rowAt (k := 7) rfl) rowOne rfl (by simp only [List.length_singleton]; omega) (by simp only [List.length_singleton]; omega) ?_
          refine xl_go tt_ok ?_
          refine xa_done (by kernel_rfl) rfl ?_
          exact meet (A', c') [(6, some 8)] (.of rfl rfl rfl rfl rfl rfl) trivial
        · refine xl_callO 31 (tokY.d (lnOf L p)) rfl rfl rfl rfl fn85 rfl rfl (fun E w F hs => clone_own _ _ w (hln.imm hs.imm) (by omega)) ?_
          refine xl_parkN 6 3 rfl rfl (fun A' c' => ?_)
          refine xl_end ?_
          refine xa_two 0 5 (by kernel_rfl) rfl rfl (xl_go tt_ok ?_) (xl_go tt_ok ?_)
          · refine xa_chain (fuel := 0) [5, 6, 7, 8] rfl rfl (by kernel_rfl) ?_
            refine xl_go tt_ok ?_
            refine xl_build tt_ok rowY [⟨dn.2, dn.1, A', (tokY.d (lnOf L p)).n, c'⟩] [_] rfl rfl rfl rfl rfl rfl rfl rfl rfl rfl rfl rfl rfl rfl rfl ?_
            refine xl_append tt_ok rowY V [⟨dn.2, dn.1, A', (tokY.d (lnOf L p)).n, c'⟩] 48 rfl rfl rfl rfl rfl rfl rfl rfl (by kernel_rfl) rfl rfl rfl (fun E w F hs => hs.rowAt (k := 7) rfl) rowOne rfl (by simp only [List.length_singleton]; omega) (by simp only [List.length_singleton]; omega) ?_
            refine xl_go tt_ok ?_
            refine xa_done (by kernel_rfl) rfl ?_
            exact meet (A', c') [(6, some 8)] (.of rfl rfl rfl rfl rfl rfl) trivial
          · refine xa_two 0 6 (by kernel_rfl) rfl rfl (xl_go tt_ok ?_) ?_
            · refine xa_chain (fuel := 0) [6, 7, 8] rfl rfl (by kernel_rfl) ?_
              refine xl_build tt_ok rowY [⟨dn.2, dn.1, A', (tokY.d (lnOf L p)).n, c'⟩] [_] rfl rfl rfl rfl rfl rfl rfl rfl rfl rfl rfl rfl rfl rfl rfl ?_
              refine xl_append tt_ok rowY V [⟨dn.2, dn.1, A', (tokY.d (lnOf L p)).n, c'⟩] 48 rfl rfl rfl rfl rfl rfl rfl rfl (by kernel_rfl) rfl rfl rfl (fun E w F hs => hs.rowAt (k := 7) rfl) rowOne rfl (by simp only [List.length_singleton]; omega) (by simp only [List.length_singleton]; omega) ?_
              refine xl_go tt_ok ?_
              refine xa_done (by kernel_rfl) rfl ?_
              exact meet (A', c') [(6, some 8)] (.of rfl rfl rfl rfl rfl rfl) trivial
            · refine xl_build tt_ok rowY [⟨dn.2, dn.1, A', (tokY.d (lnOf L p)).n, c'⟩] [_] rfl rfl rfl rfl rfl rfl rfl rfl rfl rfl rfl rfl rfl rfl rfl ?_
              refine xl_end ?_
              refine xa_chain (fuel := 0) [0, 7, 8] rfl rfl (by kernel_rfl) ?_
              refine xl_go tt_ok ?_
              refine xl_append tt_ok rowY V [⟨dn.2, dn.1, A', (tokY.d (lnOf L p)).n, c'⟩] 48 rfl rfl rfl rfl rfl rfl rfl rfl (by kernel_rfl) rfl rfl rfl (fun E w F hs => hs.rowAt (k := 7) rfl) rowOne rfl (by simp only [List.length_singleton]; omega) (by simp only [List.length_singleton]; omega) ?_
              refine xl_go tt_ok ?_
              refine xa_done (by kernel_rfl) rfl ?_
              exact meet (A', c') [(6, some 8)] (.of rfl rfl rfl rfl rfl rfl) trivial
      · rintro ⟨A', c'⟩ u4 hu4 _
        refine ⟨(!dn.2, V ++ [⟨dn.2, dn.1, A', (tokY.d (lnOf L p)).n, c'⟩], R ++ [⟨dn.2, dn.1, lnOf L p⟩]), [(5, some 6)], ?_, next, ?_, by rw [nsum]; exact hadd.1, fun h => hadd.2.1 h, pz⟩
        · have e := itemsS_push hVR (⟨dn.2, dn.1, A', (tokY.d (lnOf L p)).n, c'⟩ : RowV) (⟨dn.2, dn.1, lnOf L p⟩ : RowT)
          simp only [e]
          exact .of rfl rfl rfl rfl rfl rfl
        · rw [List.map_append, List.map_append, g2]; rfl
  · obtain ⟨run, V, R⟩ := s
    obtain ⟨g1, g2, _⟩ := hg
    have e1 : ((pcs 0 0 L).map (pcV A c)).length = (linesOf L).length := by simp [linesOf]
    rw [e1, List.take_length] at g1
    have hVR : V.length = R.length := by have := congrArg List.length g2; simpa using this
    have hR : R = rowsOf L := by rw [rowsOf, g1]
    subst hR
    refine finStarO (k := 5) (ks := 3) rfl rfl (fun A' c' => ⟨(A', c', V), fun E hE => ?_, ?_, g2⟩)
    · show E 5 = _
      rw [hE, Lay.d_n, hVR]
    · rw [Lay.d_n, hVR]
end Go.Proofs.Ytdonomneofdhfaa
