/- The rows of a list of tokens: the document's answer. -/
import Derived.Test.YtdonomneofdhfaaC2
namespace Go.Proofs.Ytdonomneofdhfaa
open Go.GV Go.RowKit

def hashB (b : List Tok) : Bool := decide (0 < (b.length : Int)) && (decide ((b.getD 0 tok0).kind = 5) && (decide ((b.getD 0 tok0).text = ⟨#[35]⟩) || decide ((b.getD 0 tok0).text = ⟨#[37, 58]⟩)))

set_option maxRecDepth 100000 in
theorem hash_any (L : List Tok) (x : Value) (w : World) (hx : SlAt (im w) x (tokY.d L)) :
    Calls Try.prog 87 #[x] w (PureP w fun v _ => v = .bool (hashB L)) := by
  refine x_fun tt_ok Try.func87 rfl rfl [(x, tokY.d L)] 1 [.r 0] rfl rfl rfl rfl (fun b hb => by simp at hb; subst hb; exact hx) ?_
  refine x_vc tt_ok ?_
  repeat (refine And.intro ?_ ?_; first | omega | (simp only [decide_eq_true_eq, decide_eq_false_iff_not, Bool.and_eq_true]; simp only [Lay.d_n]; omega))
  refine fin1 (fun _ _ => ?_)
  show Value.bool _ = _
  unfold hashB
  rw [← Bool.and_assoc]
  rfl

/-- what a bare line says of its being a directive -/
def dirB : List Tok → ByteArray × Bool
  | [] => (⟨#[]⟩, false)
  | t :: r => if noHash t then (⟨#[]⟩, false) else match r with
    | [] => (⟨#[]⟩, true)
    | t2 :: _ => if t2.kind = 1 then (t2.text, true) else (⟨#[]⟩, true)

theorem dirF_true (dr : Bool) (L : List Tok) : dirF true L = (match bareFrom dr L with
    | [] => (⟨#[]⟩, true)
    | t2 :: _ => if t2.kind = 1 then (t2.text, true) else (⟨#[]⟩, true)) := by
  induction L generalizing dr with
  | nil => rfl
  | cons t r ih =>
    simp only [dirF, bareFrom]
    cases hg : gone t with
    | true => simp only [if_true]; exact ih true
    | false => simp

theorem dirF_bare (dr : Bool) (L : List Tok) : dirF false L = dirB (bareFrom dr L) := by
  induction L generalizing dr with
  | nil => rfl
  | cons t r ih =>
    simp only [dirF, bareFrom]
    cases hg : gone t with
    | true => simp only [if_true]; exact ih true
    | false =>
      simp only [Bool.false_eq_true, if_false, dirB, Bool.not_false, Bool.true_and, if_true]
      have : noHash { t with space := t.space || dr } = noHash t := rfl
      rw [this, dirF_true false]

theorem hash_dir (b : List Tok) : (dirB b).2 = hashB b := by
  cases b with
  | nil => rfl
  | cons t r =>
    simp only [dirB, hashB, noHash, List.getD_cons_zero, List.length_cons]
    rw [decide_eq_true (show 0 < ((r.length + 1 : Nat) : Int) by omega)]
    by_cases h5 : t.kind = 5
    · by_cases h1 : t.text = ⟨#[35]⟩
      · simp [h5, h1]
        cases r with
        | nil => rfl
        | cons => simp only; split <;> rfl
      · by_cases h2 : t.text = ⟨#[37, 58]⟩
        · simp [h5, h2]
          cases r with
          | nil => rfl
          | cons => simp only; split <;> rfl
        · simp [h5, h1, h2]
    · simp [h5]

/-- the name, as the document finds it -/
def nameB (b : List Tok) : ByteArray := if (hashB b && (decide (1 < (b.length : Int)) && decide ((b.getD 1 tok0).kind = 1))) = true then (b.getD 1 tok0).text else ⟨#[]⟩
theorem name_dir (b : List Tok) : (dirB b).1 = nameB b := by
  unfold nameB
  rw [← hash_dir]
  cases b with
  | nil => rfl
  | cons t r =>
    simp only [dirB]
    split
    · simp
    · cases r with
      | nil => simp
      | cons t2 r =>
        simp only [List.length_cons, List.getD_cons_succ, List.getD_cons_zero]
        rw [decide_eq_true (show 1 < ((r.length + 1 + 1 : Nat) : Int) by omega)]
        by_cases h : t2.kind = 1
        · simp [h]
        · simp [h]

theorem key_dir {V : List RowV} {R : List RowT} (h : V.map RowV.key = R.map RowT.key) (i : Nat) : (V.getD i row0).dir = (R.getD i rowT0).dir := by
  have hl : V.length = R.length := by have := congrArg List.length h; simpa using this
  rcases Nat.lt_or_ge i V.length with hi | hi
  · have := congrArg (fun l => l.getD i row0.key) h
    simp only [List.getD_eq_getElem?_getD, List.getElem?_map] at this ⊢
    rw [List.getElem?_eq_getElem hi, List.getElem?_eq_getElem (by omega)] at this ⊢
    exact congrArg Prod.fst this
  · simp only [List.getD_eq_getElem?_getD]
    rw [List.getElem?_eq_none hi, List.getElem?_eq_none (by omega)]; rfl

set_option maxRecDepth 100000 in
theorem refRows_any (L : List Tok) (x : Value) (w : World) (hx : SlAt (im w) x (tokY.d L)) (hL : L.length * 48 ≤ 140737488355328) :
    Calls Try.prog 24 #[x] w (PureP w (RowsR (rowsOf L))) := by
  refine x_fun tt_ok Try.func24 rfl rfl [(x, tokY.d L)] 1 [.r 0] rfl rfl rfl rfl (fun b hb => by simp at hb; subst hb; exact hx) ?_
  refine x_vc tt_ok ?_
  refine x_nil 3 28 rowY rfl ?_
  refine x_nil 4 31 tokY rfl ?_
  refine x_star0 0 ?_
  refine x_loop (σ := Int × List RowV × List RowT × Bool × Int × List Tok) (fun (i, V, R, run, f, ln) => ⟨[(5, .v (.int .i64 i)), (4, .r 5), (3, .r 4), (0, .r 0)], [], [(0, .sl (tokY.d L)), (4, .row 28 (rowY.d V)), (5, .row 31 (tokY.d ln)), (3, .gen (starHp (itemsS V R)))], 6⟩)
    (fun (i, V, R, run, f, ln) _ => 0 ≤ f ∧ f ≤ i ∧ i ≤ L.length ∧ (i = L.length → f = i) ∧ ln = (L.take i.toNat).drop f.toNat ∧ (∃ pre, pcs 0 0 L = pre ++ pcs f.toNat i.toNat (L.drop i.toNat) ∧ (pre.map (lnOf L)).foldl addLine ([], false) = (R, run) ∧ (sizeR R : Int) = f ∧ R.length ≤ i) ∧ V.map RowV.key = R.map RowT.key ∧ (run = (decide (0 < (R.length : Int)) && !(R.getD (R.length - 1) rowT0).dir)))
    (fun (i, _, _, _, _, _) => (L.length - i).toNat) (fun (_, _, _, _, _, _) => (by decide : 4 ≤ 6)) (0, [], [], false, 0, []) [(4, some 1), (5, some 2)] (.of rfl rfl rfl rfl rfl rfl)
    ⟨by omega, by omega, by omega, by omega, (by simp), ⟨[], by simp, rfl, rfl, by simp⟩, rfl, rfl⟩ ?_
  rintro ⟨i, V, R, run, f, ln⟩ u hu ⟨g0, g1, g2, g3, rfl, ⟨pre, g4, g5, g6, g7⟩, g8, g9⟩
  have hVR : V.length = R.length := by have := congrArg List.length g8; simpa using this
  refine x_vc tt_ok ?_
  refine x_if (fun h => ?_) (fun h => ?_)
  · have h2 : i < L.length := of_decide_eq_true h
    have ei : (i + 1).toNat = i.toNat + 1 := by omega
    have hline : ((L.take i.toNat).drop f.toNat) ++ [L.getD i.toNat tok0] = lnOf L (f.toNat, (i + 1).toNat) := by
      rw [lnOf, take_succ_getD (d := tok0) (by omega) h2, List.drop_append_of_le_length (by rw [List.length_take]; omega)]
    have hll : ((L.take i.toNat).drop f.toNat).length = i.toNat - f.toNat := by rw [List.length_drop, List.length_take]; omega
    have hll2 : (lnOf L (f.toNat, (i + 1).toNat)).length = i.toNat + 1 - f.toNat := by rw [← hline, List.length_append, hll]; simp; omega
    rw [drop_at (d := tok0) (by omega) h2, ei] at g4
    simp only [pcs] at g4
    repeat (refine And.intro ?_ ?_; first | omega | (simp only [Lay.d_n]; omega))
    refine xl_push tt_ok tokY ((L.take i.toNat).drop f.toNat) (L.getD i.toNat tok0) 48 rfl rfl rfl rfl rfl rfl rfl rfl rfl rfl rfl rfl (by kernel_rfl) rfl rfl rfl rfl rfl (fun n hn => by cases hn; decide) rfl rfl rfl (by omega) (by omega) ?_
    rw [hline]
    refine xl_go tt_ok ?_
    repeat (refine And.intro ?_ ?_; first | omega | (simp only [Lay.d_n]; omega) | (simp only [decide_eq_true_eq, decide_eq_false_iff_not, Bool.or_eq_false_iff, Bool.and_eq_true, Bool.or_eq_true, Bool.and_eq_false_iff, Bool.not_eq_true', Bool.not_eq_false', Lay.d_n]; omega) | (simp only [decide_eq_true_eq, decide_eq_false_iff_not, Bool.or_eq_false_iff, Bool.and_eq_true, Bool.or_eq_true, Bool.and_eq_false_iff, Bool.not_eq_true', Bool.not_eq_false']; omega))
    refine x_if (fun h3 => ?_) (fun h3 => ?_)
    · have h4 : (decide ((L.getD i.toNat tok0).kind ≠ 9) && decide (i < (L.length : Int) - 1)) = true := h3
      rw [Bool.and_eq_true, decide_eq_true_eq, decide_eq_true_eq] at h4
      rw [if_neg h4.1] at g4
      repeat (refine And.intro ?_ ?_; first | omega | (simp only [Lay.d_n]; omega) | (simp only [decide_eq_true_eq, decide_eq_false_iff_not, Bool.or_eq_false_iff, Bool.and_eq_true, Bool.or_eq_true, Bool.and_eq_false_iff, Bool.not_eq_true', Bool.not_eq_false', Lay.d_n]; omega) | (simp only [decide_eq_true_eq, decide_eq_false_iff_not, Bool.or_eq_false_iff, Bool.and_eq_true, Bool.or_eq_true, Bool.and_eq_false_iff, Bool.not_eq_true', Bool.not_eq_false']; omega))
      exact again (i + 1, V, R, run, f, lnOf L (f.toNat, (i + 1).toNat)) [(5, some 6)] (.of rfl rfl rfl rfl rfl rfl) ⟨by omega, by omega, by omega, by omega, rfl, ⟨pre, by rw [ei]; exact g4, g5, g6, by omega⟩, g8, g9⟩ (by simp only; omega)
    · have h4 : (decide ((L.getD i.toNat tok0).kind ≠ 9) && decide (i < (L.length : Int) - 1)) = false := h3
      have gnext : pcs 0 0 L = (pre ++ [(f.toNat, (i + 1).toNat)]) ++ pcs (i + 1).toNat (i + 1).toNat (L.drop (i + 1).toNat) := by
        rw [List.append_assoc, List.singleton_append, ei]
        by_cases hk : (L.getD i.toNat tok0).kind = 9
        · rw [if_pos hk] at g4; exact g4
        · rw [decide_eq_true hk, Bool.true_and, decide_eq_false_iff_not] at h4
          rw [if_neg hk, List.drop_eq_nil_of_le (by omega)] at g4
          rw [g4, List.drop_eq_nil_of_le (by omega)]
          simp only [pcs]
          rw [if_pos (by omega), if_neg (by omega)]
      refine xl_callO 31 (tokY.d (bareFrom false (lnOf L (f.toNat, (i + 1).toNat)))) rfl rfl rfl rfl fn86 rfl rfl (fun E w F hs => refBare_any _ _ w (hs.rowAt (k := 6) rfl) (by omega)) ?_
      refine xl_go tt_ok ?_
      obtain ⟨b, hb⟩ : ∃ b, b = bareFrom false (lnOf L (f.toNat, (i + 1).toNat)) := ⟨_, rfl⟩
      rw [← hb]
      refine xl_call0 (.bool (hashB b)) rfl rfl rfl rfl fn87 rfl rfl (fun E w F hs => hash_any b _ w (hs.rowAt (k := 7) rfl)) ?_
      refine xl_parkN 6 3 rfl rfl (fun A' c' => ?_)
      refine xl_go tt_ok ?_
      repeat (refine And.intro ?_ ?_; first | omega | (simp only [Lay.d_n]; omega) | (simp only [decide_eq_true_eq, decide_eq_false_iff_not, Bool.or_eq_false_iff, Bool.and_eq_true, Bool.or_eq_true, Bool.and_eq_false_iff, Bool.not_eq_true', Bool.not_eq_false', Lay.d_n]; omega) | (simp only [decide_eq_true_eq, decide_eq_false_iff_not, Bool.or_eq_false_iff, Bool.and_eq_true, Bool.or_eq_true, Bool.and_eq_false_iff, Bool.not_eq_true', Bool.not_eq_false']; omega))
      refine x_if (fun hn => ?_) (fun hn => ?_)
      · have hnm : nameB b = (b.getD 1 tok0).text := by
          unfold nameB; rw [if_pos (by rw [← Bool.and_assoc]; exact hn)]
        have hlen : 1 < b.length := by
          have hh := hn
          simp only [Bool.and_eq_true, decide_eq_true_eq, Lay.d_n] at hh
          have h9 : (1 : Int) < (b.length : Int) := of_decide_eq_true hh.1.2
          omega
        repeat (refine And.intro ?_ ?_; first | omega | (simp only [Lay.d_n]; omega) | (simp only [decide_eq_true_eq, decide_eq_false_iff_not, Bool.or_eq_false_iff, Bool.and_eq_true, Bool.or_eq_true, Bool.and_eq_false_iff, Bool.not_eq_true', Bool.not_eq_false', Lay.d_n]; omega) | (simp only [decide_eq_true_eq, decide_eq_false_iff_not, Bool.or_eq_false_iff, Bool.and_eq_true, Bool.or_eq_true, Bool.and_eq_false_iff, Bool.not_eq_true', Bool.not_eq_false']; omega))
        refine x_if (fun h5 => ?_) (fun h5 => ?_)
        · have hc : (!(hashB b) && (decide (0 < (V.length : Int)) && !(V.getD ((V.length : Int) - 1).toNat row0).dir)) = true := by rw [← Bool.and_assoc]; exact h5
          rw [Bool.and_eq_true, Bool.and_eq_true, decide_eq_true_eq] at hc
          have hi : ((V.length : Int) - 1).toNat < V.length := by omega
          have hi2 : ((V.length : Int) - 1).toNat < R.length := by omega
          have hts := getD_size hi2
          repeat (refine And.intro ?_ ?_; first | omega | (simp only [Lay.d_n]; omega) | (simp only [decide_eq_true_eq, decide_eq_false_iff_not, Bool.or_eq_false_iff, Bool.and_eq_true, Bool.or_eq_true, Bool.and_eq_false_iff, Bool.not_eq_true', Bool.not_eq_false', Lay.d_n]; omega) | (simp only [decide_eq_true_eq, decide_eq_false_iff_not, Bool.or_eq_false_iff, Bool.and_eq_true, Bool.or_eq_true, Bool.and_eq_false_iff, Bool.not_eq_true', Bool.not_eq_false']; omega))
          refine xl_unpark 86 3 ((V.length : Int) - 1).toNat rfl rfl (by rw [List.getElem?_append_left (by rw [itemsS, List.length_zipWith]; omega)]; exact itemsS_get hi hi2) ?_
          refine xl_append tt_ok tokY (R.getD ((V.length : Int) - 1).toNat rowT0).ts (lnOf L (f.toNat, (i + 1).toNat)) 48 rfl rfl rfl rfl rfl rfl rfl rfl (by kernel_rfl) rfl rfl rfl (fun E w F hs => hs.starAt (s := 3) (i := R.length) rfl (by
            rw [List.getElem?_set, if_neg (by omega), List.getElem?_append_right (by rw [itemsS, List.length_zipWith]; omega)]
            rw [show R.length - (itemsS V R).length = 0 by rw [itemsS, List.length_zipWith]; omega]; rfl)) tokOne rfl (by omega) (by omega) ?_
          refine xl_go tt_ok ?_
          repeat (refine And.intro ?_ ?_; first | omega | (simp only [Lay.d_n]; omega) | (simp only [decide_eq_true_eq, decide_eq_false_iff_not, Bool.or_eq_false_iff, Bool.and_eq_true, Bool.or_eq_true, Bool.and_eq_false_iff, Bool.not_eq_true', Bool.not_eq_false', Lay.d_n]; omega) | (simp only [decide_eq_true_eq, decide_eq_false_iff_not, Bool.or_eq_false_iff, Bool.and_eq_true, Bool.or_eq_true, Bool.and_eq_false_iff, Bool.not_eq_true', Bool.not_eq_false']; omega))
          refine xl_park 10 3 ((V.length : Int) - 1).toNat rfl rfl (List.getElem?_set_self (by rw [List.length_append, itemsS, List.length_zipWith]; omega)) rfl (fun A2 c2 => ?_)
          refine xl_set tt_ok (cs := [.slice A2 (tokY.d ((R.getD ((V.length : Int) - 1).toNat rowT0).ts ++ lnOf L (f.toNat, (i + 1).toNat))).n c2]) rowY V { V.getD ((V.length : Int) - 1).toNat row0 with ta := A2, tn := (tokY.d ((R.getD ((V.length : Int) - 1).toNat rowT0).ts ++ lnOf L (f.toNat, (i + 1).toNat))).n, tc := c2 } rfl rfl rfl rfl rfl rfl rfl (by simp only [Lay.d_n]; omega) (by simp only [Lay.d_n]; omega) rfl rfl (Nat.le_refl 3) rfl ?_
          refine xl_starTake 3 R.length rfl ?_
          refine xl_go tt_ok ?_
          repeat (refine And.intro ?_ ?_; first | omega | (simp only [Lay.d_n]; omega) | (simp only [decide_eq_true_eq, decide_eq_false_iff_not, Bool.or_eq_false_iff, Bool.and_eq_true, Bool.or_eq_true, Bool.and_eq_false_iff, Bool.not_eq_true', Bool.not_eq_false', Lay.d_n]; omega) | (simp only [decide_eq_true_eq, decide_eq_false_iff_not, Bool.or_eq_false_iff, Bool.and_eq_true, Bool.or_eq_true, Bool.and_eq_false_iff, Bool.not_eq_true', Bool.not_eq_false']; omega))
          have hset : (((itemsS V R ++ [(⟨.slice A' (tokY.d (lnOf L (f.toNat, (i + 1).toNat))).n c', 31, tokY.d (lnOf L (f.toNat, (i + 1).toNat))⟩ : SI)]).set ((V.length : Int) - 1).toNat SI.hole).set ((V.length : Int) - 1).toNat (⟨.slice A2 (tokY.d ((R.getD ((V.length : Int) - 1).toNat rowT0).ts ++ lnOf L (f.toNat, (i + 1).toNat))).n c2, 31, tokY.d ((R.getD ((V.length : Int) - 1).toNat rowT0).ts ++ lnOf L (f.toNat, (i + 1).toNat))⟩ : SI)).take R.length =
              itemsS (V.set ((V.length : Int) - 1).toNat { V.getD ((V.length : Int) - 1).toNat row0 with ta := A2, tn := (tokY.d ((R.getD ((V.length : Int) - 1).toNat rowT0).ts ++ lnOf L (f.toNat, (i + 1).toNat))).n, tc := c2 }) (R.set ((V.length : Int) - 1).toNat { R.getD ((V.length : Int) - 1).toNat rowT0 with ts := (R.getD ((V.length : Int) - 1).toNat rowT0).ts ++ lnOf L (f.toNat, (i + 1).toNat) }) := by
            rw [List.set_set, itemsS_set, List.set_append_left _ _ (by rw [itemsS, List.length_zipWith]; omega), List.take_left' (by rw [List.length_set, itemsS, List.length_zipWith]; omega)]; rfl
          simp only [hset]
          have hdd : (V.getD ((V.length : Int) - 1).toNat row0).dir = (R.getD (R.length - 1) rowT0).dir := by rw [key_dir g8]; congr 2; omega
          have hrun : run = true := by rw [g9, decide_eq_true (show 0 < (R.length : Int) by omega), ← hdd]; simpa using hc.2.2
          have hadd : addLine (R, run) (lnOf L (f.toNat, (i + 1).toNat)) = (R.set ((V.length : Int) - 1).toNat { R.getD ((V.length : Int) - 1).toNat rowT0 with ts := (R.getD ((V.length : Int) - 1).toNat rowT0).ts ++ lnOf L (f.toNat, (i + 1).toNat) }, run) := by
            have h1 : ((V.length : Int) - 1).toNat = R.length - 1 := by omega
            rw [addLine, dirF_bare false, ← hb, hash_dir, hrun, if_pos (by rw [Bool.and_true]; exact hc.1), h1]
          have q1 : 0 ≤ i + 1 := by omega
          have q3 : i + 1 ≤ (L.length : Int) := by omega
          have q5 : ((L.length : Int) - (i + 1)).toNat < ((L.length : Int) - i).toNat := by omega
          have q4 : ((R.set ((V.length : Int) - 1).toNat { R.getD ((V.length : Int) - 1).toNat rowT0 with ts := (R.getD ((V.length : Int) - 1).toNat rowT0).ts ++ lnOf L (f.toNat, (i + 1).toNat) }).length : Int) ≤ i + 1 := by rw [List.length_set]; omega
          refine again (i + 1, V.set ((V.length : Int) - 1).toNat { V.getD ((V.length : Int) - 1).toNat row0 with ta := A2, tn := (tokY.d ((R.getD ((V.length : Int) - 1).toNat rowT0).ts ++ lnOf L (f.toNat, (i + 1).toNat))).n, tc := c2 }, R.set ((V.length : Int) - 1).toNat { R.getD ((V.length : Int) - 1).toNat rowT0 with ts := (R.getD ((V.length : Int) - 1).toNat rowT0).ts ++ lnOf L (f.toNat, (i + 1).toNat) }, run, i + 1, []) [(5, none)] (.of rfl rfl rfl rfl rfl rfl)
            ⟨q1, Int.le_refl _, q3, fun _ => rfl, (by simp), ⟨pre ++ [(f.toNat, (i + 1).toNat)], gnext, by rw [List.map_append, List.foldl_append, g5]; exact hadd, ?_, q4⟩, ?_, ?_⟩ q5
          · have := (addLine_size (R, run) (lnOf L (f.toNat, (i + 1).toNat)) (fun _ hh => by have h9 : R = [] := hh; rw [h9] at hi2; simp at hi2)).1
            rw [hadd] at this
            rw [this]; show ((sizeR R + (lnOf L (f.toNat, (i + 1).toNat)).length : Nat) : Int) = i + 1
            omega
          · rw [List.map_set, List.map_set, g8]
            congr 1
            have := congrArg (fun l => l.getD ((V.length : Int) - 1).toNat row0.key) g8
            simp only [List.getD_eq_getElem?_getD, List.getElem?_map] at this ⊢
            rw [List.getElem?_eq_getElem hi, List.getElem?_eq_getElem hi2] at this ⊢
            exact this
          · show run = (decide (0 < ((R.set ((V.length : Int) - 1).toNat { R.getD ((V.length : Int) - 1).toNat rowT0 with ts := (R.getD ((V.length : Int) - 1).toNat rowT0).ts ++ lnOf L (f.toNat, (i + 1).toNat) }).length : Int)) && !((R.set ((V.length : Int) - 1).toNat { R.getD ((V.length : Int) - 1).toNat rowT0 with ts := (R.getD ((V.length : Int) - 1).toNat rowT0).ts ++ lnOf L (f.toNat, (i + 1).toNat) }).getD ((R.set ((V.length : Int) - 1).toNat { R.getD ((V.length : Int) - 1).toNat rowT0 with ts := (R.getD ((V.length : Int) - 1).toNat rowT0).ts ++ lnOf L (f.toNat, (i + 1).toNat) }).length - 1) rowT0).dir)
            rw [List.length_set, hrun, decide_eq_true (show 0 < (R.length : Int) by omega), List.getD_eq_getElem?_getD, List.getElem?_set, if_pos (by omega), if_pos (by omega)]
            show true = (true && !(R.getD ((V.length : Int) - 1).toNat rowT0).dir)
            rw [show ((V.length : Int) - 1).toNat = R.length - 1 by omega, ← hdd]
            simpa using hc.2.2
        · have hc : (!(hashB b) && (decide (0 < (V.length : Int)) && !(V.getD ((V.length : Int) - 1).toNat row0).dir)) = false := by rw [← Bool.and_assoc]; exact h5
          refine xl_push tt_ok rowY V ⟨hashB b, (b.getD 1 tok0).text, A', (tokY.d (lnOf L (f.toNat, (i + 1).toNat))).n, c'⟩ 48 rfl rfl rfl rfl rfl rfl rfl rfl rfl rfl rfl rfl (by kernel_rfl) rfl rfl rfl rfl rfl (fun n hn => by cases hn; decide) rfl rfl rfl (by omega) (by omega) ?_
          refine xl_go tt_ok ?_
          repeat (refine And.intro ?_ ?_; first | omega | (simp only [Lay.d_n]; omega) | (simp only [decide_eq_true_eq, decide_eq_false_iff_not, Bool.or_eq_false_iff, Bool.and_eq_true, Bool.or_eq_true, Bool.and_eq_false_iff, Bool.not_eq_true', Bool.not_eq_false', Lay.d_n]; omega) | (simp only [decide_eq_true_eq, decide_eq_false_iff_not, Bool.or_eq_false_iff, Bool.and_eq_true, Bool.or_eq_true, Bool.and_eq_false_iff, Bool.not_eq_true', Bool.not_eq_false']; omega))
          have e : itemsS V R ++ [(⟨.slice A' (tokY.d (lnOf L (f.toNat, (i + 1).toNat))).n c', 31, tokY.d (lnOf L (f.toNat, (i + 1).toNat))⟩ : SI)] = itemsS (V ++ [(⟨hashB b, (b.getD 1 tok0).text, A', (tokY.d (lnOf L (f.toNat, (i + 1).toNat))).n, c'⟩ : RowV)]) (R ++ [(⟨hashB b, (b.getD 1 tok0).text, lnOf L (f.toNat, (i + 1).toNat)⟩ : RowT)]) := (itemsS_push hVR (⟨hashB b, (b.getD 1 tok0).text, A', (tokY.d (lnOf L (f.toNat, (i + 1).toNat))).n, c'⟩ : RowV) (⟨hashB b, (b.getD 1 tok0).text, lnOf L (f.toNat, (i + 1).toNat)⟩ : RowT)).symm
          have hrun : (!(hashB b) && run) = false := by
            rw [g9]
            by_cases h0 : 0 < (R.length : Int)
            · have hdd : (V.getD ((V.length : Int) - 1).toNat row0).dir = (R.getD (R.length - 1) rowT0).dir := by rw [key_dir g8]; congr 2; omega
              rw [decide_eq_true h0, ← hdd]
              rw [decide_eq_true (show 0 < (V.length : Int) by omega)] at hc
              exact hc
            · rw [decide_eq_false h0]; simp
          have hadd : addLine (R, run) (lnOf L (f.toNat, (i + 1).toNat)) = (R ++ [⟨hashB b, (b.getD 1 tok0).text, lnOf L (f.toNat, (i + 1).toNat)⟩], !(hashB b)) := by
            rw [addLine, dirF_bare false, ← hb, hash_dir, if_neg (by rw [hrun]; simp), name_dir, hnm]
          simp only [e]
          have q1 : 0 ≤ i + 1 := by omega
          have q3 : i + 1 ≤ (L.length : Int) := by omega
          have q5 : ((L.length : Int) - (i + 1)).toNat < ((L.length : Int) - i).toNat := by omega
          have q4 : ((R ++ [(⟨hashB b, (b.getD 1 tok0).text, lnOf L (f.toNat, (i + 1).toNat)⟩ : RowT)]).length : Int) ≤ i + 1 := by rw [List.length_append, List.length_singleton]; omega
          refine again (i + 1, V ++ [⟨hashB b, (b.getD 1 tok0).text, A', (tokY.d (lnOf L (f.toNat, (i + 1).toNat))).n, c'⟩], R ++ [⟨hashB b, (b.getD 1 tok0).text, lnOf L (f.toNat, (i + 1).toNat)⟩], !(hashB b), i + 1, []) [(4, some 9), (5, none)] (.of rfl rfl rfl rfl rfl rfl)
            ⟨q1, Int.le_refl _, q3, fun _ => rfl, (by simp), ⟨pre ++ [(f.toNat, (i + 1).toNat)], gnext, by rw [List.map_append, List.foldl_append, g5]; exact hadd, ?_, q4⟩, ?_, ?_⟩ q5
          · simp only [sizeR, List.map_append, List.sum_append] at g6 ⊢
            simp; omega
          · rw [List.map_append, List.map_append, g8]; rfl
          · simp
        
      · have hnm : nameB b = ⟨#[]⟩ := by
          unfold nameB
          have hn' : (hashB b && decide (1 < (b.length : Int)) && decide ((b.getD 1 tok0).kind = 1)) = false := hn
          rw [if_neg (by rw [← Bool.and_assoc, hn']; simp)]
        repeat (refine And.intro ?_ ?_; first | omega | (simp only [Lay.d_n]; omega) | (simp only [decide_eq_true_eq, decide_eq_false_iff_not, Bool.or_eq_false_iff, Bool.and_eq_true, Bool.or_eq_true, Bool.and_eq_false_iff, Bool.not_eq_true', Bool.not_eq_false', Lay.d_n]; omega) | (simp only [decide_eq_true_eq, decide_eq_false_iff_not, Bool.or_eq_false_iff, Bool.and_eq_true, Bool.or_eq_true, Bool.and_eq_false_iff, Bool.not_eq_true', Bool.not_eq_false']; omega))
        refine x_if (fun h5 => ?_) (fun h5 => ?_)
        · have hc : (!(hashB b) && (decide (0 < (V.length : Int)) && !(V.getD ((V.length : Int) - 1).toNat row0).dir)) = true := by rw [← Bool.and_assoc]; exact h5
          rw [Bool.and_eq_true, Bool.and_eq_true, decide_eq_true_eq] at hc
          have hi : ((V.length : Int) - 1).toNat < V.length := by omega
          have hi2 : ((V.length : Int) - 1).toNat < R.length := by omega
          have hts := getD_size hi2
          repeat (refine And.intro ?_ ?_; first | omega | (simp only [Lay.d_n]; omega) | (simp only [decide_eq_true_eq, decide_eq_false_iff_not, Bool.or_eq_false_iff, Bool.and_eq_true, Bool.or_eq_true, Bool.and_eq_false_iff, Bool.not_eq_true', Bool.not_eq_false', Lay.d_n]; omega) | (simp only [decide_eq_true_eq, decide_eq_false_iff_not, Bool.or_eq_false_iff, Bool.and_eq_true, Bool.or_eq_true, Bool.and_eq_false_iff, Bool.not_eq_true', Bool.not_eq_false']; omega))
          refine xl_unpark 86 3 ((V.length : Int) - 1).toNat rfl rfl (by rw [List.getElem?_append_left (by rw [itemsS, List.length_zipWith]; omega)]; exact itemsS_get hi hi2) ?_
          refine xl_append tt_ok tokY (R.getD ((V.length : Int) - 1).toNat rowT0).ts (lnOf L (f.toNat, (i + 1).toNat)) 48 rfl rfl rfl rfl rfl rfl rfl rfl (by kernel_rfl) rfl rfl rfl (fun E w F hs => hs.starAt (s := 3) (i := R.length) rfl (by
            rw [List.getElem?_set, if_neg (by omega), List.getElem?_append_right (by rw [itemsS, List.length_zipWith]; omega)]
            rw [show R.length - (itemsS V R).length = 0 by rw [itemsS, List.length_zipWith]; omega]; rfl)) tokOne rfl (by omega) (by omega) ?_
          refine xl_go tt_ok ?_
          repeat (refine And.intro ?_ ?_; first | omega | (simp only [Lay.d_n]; omega) | (simp only [decide_eq_true_eq, decide_eq_false_iff_not, Bool.or_eq_false_iff, Bool.and_eq_true, Bool.or_eq_true, Bool.and_eq_false_iff, Bool.not_eq_true', Bool.not_eq_false', Lay.d_n]; omega) | (simp only [decide_eq_true_eq, decide_eq_false_iff_not, Bool.or_eq_false_iff, Bool.and_eq_true, Bool.or_eq_true, Bool.and_eq_false_iff, Bool.not_eq_true', Bool.not_eq_false']; omega))
          refine xl_park 10 3 ((V.length : Int) - 1).toNat rfl rfl (List.getElem?_set_self (by rw [List.length_append, itemsS, List.length_zipWith]; omega)) rfl (fun A2 c2 => ?_)
          refine xl_set tt_ok (cs := [.slice A2 (tokY.d ((R.getD ((V.length : Int) - 1).toNat rowT0).ts ++ lnOf L (f.toNat, (i + 1).toNat))).n c2]) rowY V { V.getD ((V.length : Int) - 1).toNat row0 with ta := A2, tn := (tokY.d ((R.getD ((V.length : Int) - 1).toNat rowT0).ts ++ lnOf L (f.toNat, (i + 1).toNat))).n, tc := c2 } rfl rfl rfl rfl rfl rfl rfl (by simp only [Lay.d_n]; omega) (by simp only [Lay.d_n]; omega) rfl rfl (Nat.le_refl 3) rfl ?_
          refine xl_starTake 3 R.length rfl ?_
          refine xl_go tt_ok ?_
          repeat (refine And.intro ?_ ?_; first | omega | (simp only [Lay.d_n]; omega) | (simp only [decide_eq_true_eq, decide_eq_false_iff_not, Bool.or_eq_false_iff, Bool.and_eq_true, Bool.or_eq_true, Bool.and_eq_false_iff, Bool.not_eq_true', Bool.not_eq_false', Lay.d_n]; omega) | (simp only [decide_eq_true_eq, decide_eq_false_iff_not, Bool.or_eq_false_iff, Bool.and_eq_true, Bool.or_eq_true, Bool.and_eq_false_iff, Bool.not_eq_true', Bool.not_eq_false']; omega))
          have hset : (((itemsS V R ++ [(⟨.slice A' (tokY.d (lnOf L (f.toNat, (i + 1).toNat))).n c', 31, tokY.d (lnOf L (f.toNat, (i + 1).toNat))⟩ : SI)]).set ((V.length : Int) - 1).toNat SI.hole).set ((V.length : Int) - 1).toNat (⟨.slice A2 (tokY.d ((R.getD ((V.length : Int) - 1).toNat rowT0).ts ++ lnOf L (f.toNat, (i + 1).toNat))).n c2, 31, tokY.d ((R.getD ((V.length : Int) - 1).toNat rowT0).ts ++ lnOf L (f.toNat, (i + 1).toNat))⟩ : SI)).take R.length =
              itemsS (V.set ((V.length : Int) - 1).toNat { V.getD ((V.length : Int) - 1).toNat row0 with ta := A2, tn := (tokY.d ((R.getD ((V.length : Int) - 1).toNat rowT0).ts ++ lnOf L (f.toNat, (i + 1).toNat))).n, tc := c2 }) (R.set ((V.length : Int) - 1).toNat { R.getD ((V.length : Int) - 1).toNat rowT0 with ts := (R.getD ((V.length : Int) - 1).toNat rowT0).ts ++ lnOf L (f.toNat, (i + 1).toNat) }) := by
            rw [List.set_set, itemsS_set, List.set_append_left _ _ (by rw [itemsS, List.length_zipWith]; omega), List.take_left' (by rw [List.length_set, itemsS, List.length_zipWith]; omega)]; rfl
          simp only [hset]
          have hdd : (V.getD ((V.length : Int) - 1).toNat row0).dir = (R.getD (R.length - 1) rowT0).dir := by rw [key_dir g8]; congr 2; omega
          have hrun : run = true := by rw [g9, decide_eq_true (show 0 < (R.length : Int) by omega), ← hdd]; simpa using hc.2.2
          have hadd : addLine (R, run) (lnOf L (f.toNat, (i + 1).toNat)) = (R.set ((V.length : Int) - 1).toNat { R.getD ((V.length : Int) - 1).toNat rowT0 with ts := (R.getD ((V.length : Int) - 1).toNat rowT0).ts ++ lnOf L (f.toNat, (i + 1).toNat) }, run) := by
            have h1 : ((V.length : Int) - 1).toNat = R.length - 1 := by omega
            rw [addLine, dirF_bare false, ← hb, hash_dir, hrun, if_pos (by rw [Bool.and_true]; exact hc.1), h1]
          have q1 : 0 ≤ i + 1 := by omega
          have q3 : i + 1 ≤ (L.length : Int) := by omega
          have q5 : ((L.length : Int) - (i + 1)).toNat < ((L.length : Int) - i).toNat := by omega
          have q4 : ((R.set ((V.length : Int) - 1).toNat { R.getD ((V.length : Int) - 1).toNat rowT0 with ts := (R.getD ((V.length : Int) - 1).toNat rowT0).ts ++ lnOf L (f.toNat, (i + 1).toNat) }).length : Int) ≤ i + 1 := by rw [List.length_set]; omega
          refine again (i + 1, V.set ((V.length : Int) - 1).toNat { V.getD ((V.length : Int) - 1).toNat row0 with ta := A2, tn := (tokY.d ((R.getD ((V.length : Int) - 1).toNat rowT0).ts ++ lnOf L (f.toNat, (i + 1).toNat))).n, tc := c2 }, R.set ((V.length : Int) - 1).toNat { R.getD ((V.length : Int) - 1).toNat rowT0 with ts := (R.getD ((V.length : Int) - 1).toNat rowT0).ts ++ lnOf L (f.toNat, (i + 1).toNat) }, run, i + 1, []) [(5, none)] (.of rfl rfl rfl rfl rfl rfl)
            ⟨q1, Int.le_refl _, q3, fun _ => rfl, (by simp), ⟨pre ++ [(f.toNat, (i + 1).toNat)], gnext, by rw [List.map_append, List.foldl_append, g5]; exact hadd, ?_, q4⟩, ?_, ?_⟩ q5
          · have := (addLine_size (R, run) (lnOf L (f.toNat, (i + 1).toNat)) (fun _ hh => by have h9 : R = [] := hh; rw [h9] at hi2; simp at hi2)).1
            rw [hadd] at this
            rw [this]; show ((sizeR R + (lnOf L (f.toNat, (i + 1).toNat)).length : Nat) : Int) = i + 1
            omega
          · rw [List.map_set, List.map_set, g8]
            congr 1
            have := congrArg (fun l => l.getD ((V.length : Int) - 1).toNat row0.key) g8
            simp only [List.getD_eq_getElem?_getD, List.getElem?_map] at this ⊢
            rw [List.getElem?_eq_getElem hi, List.getElem?_eq_getElem hi2] at this ⊢
            exact this
          · show run = (decide (0 < ((R.set ((V.length : Int) - 1).toNat { R.getD ((V.length : Int) - 1).toNat rowT0 with ts := (R.getD ((V.length : Int) - 1).toNat rowT0).ts ++ lnOf L (f.toNat, (i + 1).toNat) }).length : Int)) && !((R.set ((V.length : Int) - 1).toNat { R.getD ((V.length : Int) - 1).toNat rowT0 with ts := (R.getD ((V.length : Int) - 1).toNat rowT0).ts ++ lnOf L (f.toNat, (i + 1).toNat) }).getD ((R.set ((V.length : Int) - 1).toNat { R.getD ((V.length : Int) - 1).toNat rowT0 with ts := (R.getD ((V.length : Int) - 1).toNat rowT0).ts ++ lnOf L (f.toNat, (i + 1).toNat) }).length - 1) rowT0).dir)
            rw [List.length_set, hrun, decide_eq_true (show 0 < (R.length : Int) by omega), List.getD_eq_getElem?_getD, List.getElem?_set, if_pos (by omega), if_pos (by omega)]
            show true = (true && !(R.getD ((V.length : Int) - 1).toNat rowT0).dir)
            rw [show ((V.length : Int) - 1).toNat = R.length - 1 by omega, ← hdd]
            simpa using hc.2.2
        · have hc : (!(hashB b) && (decide (0 < (V.length : Int)) && !(V.getD ((V.length : Int) - 1).toNat row0).dir)) = false := by rw [← Bool.and_assoc]; exact h5
          refine xl_push tt_ok rowY V ⟨hashB b, ⟨#[]⟩, A', (tokY.d (lnOf L (f.toNat, (i + 1).toNat))).n, c'⟩ 48 rfl rfl rfl rfl rfl rfl rfl rfl rfl rfl rfl rfl (by kernel_rfl) rfl rfl rfl rfl rfl (fun n hn => by cases hn; decide) rfl rfl rfl (by omega) (by omega) ?_
          refine xl_go tt_ok ?_
          repeat (refine And.intro ?_ ?_; first | omega | (simp only [Lay.d_n]; omega) | (simp only [decide_eq_true_eq, decide_eq_false_iff_not, Bool.or_eq_false_iff, Bool.and_eq_true, Bool.or_eq_true, Bool.and_eq_false_iff, Bool.not_eq_true', Bool.not_eq_false', Lay.d_n]; omega) | (simp only [decide_eq_true_eq, decide_eq_false_iff_not, Bool.or_eq_false_iff, Bool.and_eq_true, Bool.or_eq_true, Bool.and_eq_false_iff, Bool.not_eq_true', Bool.not_eq_false']; omega))
          have e : itemsS V R ++ [(⟨.slice A' (tokY.d (lnOf L (f.toNat, (i + 1).toNat))).n c', 31, tokY.d (lnOf L (f.toNat, (i + 1).toNat))⟩ : SI)] = itemsS (V ++ [(⟨hashB b, ⟨#[]⟩, A', (tokY.d (lnOf L (f.toNat, (i + 1).toNat))).n, c'⟩ : RowV)]) (R ++ [(⟨hashB b, ⟨#[]⟩, lnOf L (f.toNat, (i + 1).toNat)⟩ : RowT)]) := (itemsS_push hVR (⟨hashB b, ⟨#[]⟩, A', (tokY.d (lnOf L (f.toNat, (i + 1).toNat))).n, c'⟩ : RowV) (⟨hashB b, ⟨#[]⟩, lnOf L (f.toNat, (i + 1).toNat)⟩ : RowT)).symm
          have hrun : (!(hashB b) && run) = false := by
            rw [g9]
            by_cases h0 : 0 < (R.length : Int)
            · have hdd : (V.getD ((V.length : Int) - 1).toNat row0).dir = (R.getD (R.length - 1) rowT0).dir := by rw [key_dir g8]; congr 2; omega
              rw [decide_eq_true h0, ← hdd]
              rw [decide_eq_true (show 0 < (V.length : Int) by omega)] at hc
              exact hc
            · rw [decide_eq_false h0]; simp
          have hadd : addLine (R, run) (lnOf L (f.toNat, (i + 1).toNat)) = (R ++ [⟨hashB b, ⟨#[]⟩, lnOf L (f.toNat, (i + 1).toNat)⟩], !(hashB b)) := by
            rw [addLine, dirF_bare false, ← hb, hash_dir, if_neg (by rw [hrun]; simp), name_dir, hnm]
          simp only [e]
          have q1 : 0 ≤ i + 1 := by omega
          have q3 : i + 1 ≤ (L.length : Int) := by omega
          have q5 : ((L.length : Int) - (i + 1)).toNat < ((L.length : Int) - i).toNat := by omega
          have q4 : ((R ++ [(⟨hashB b, ⟨#[]⟩, lnOf L (f.toNat, (i + 1).toNat)⟩ : RowT)]).length : Int) ≤ i + 1 := by rw [List.length_append, List.length_singleton]; omega
          refine again (i + 1, V ++ [⟨hashB b, ⟨#[]⟩, A', (tokY.d (lnOf L (f.toNat, (i + 1).toNat))).n, c'⟩], R ++ [⟨hashB b, ⟨#[]⟩, lnOf L (f.toNat, (i + 1).toNat)⟩], !(hashB b), i + 1, []) [(4, some 9), (5, none)] (.of rfl rfl rfl rfl rfl rfl)
            ⟨q1, Int.le_refl _, q3, fun _ => rfl, (by simp), ⟨pre ++ [(f.toNat, (i + 1).toNat)], gnext, by rw [List.map_append, List.foldl_append, g5]; exact hadd, ?_, q4⟩, ?_, ?_⟩ q5
          · simp only [sizeR, List.map_append, List.sum_append] at g6 ⊢
            simp; omega
          · rw [List.map_append, List.map_append, g8]; rfl
          · simp
        
  · have h2 : ¬ (i < (L.length : Int)) := of_decide_eq_false h
    rw [List.drop_eq_nil_of_le (by omega)] at g4
    have hfi := g3 (by omega)
    simp only [pcs] at g4
    rw [if_neg (by omega), List.append_nil] at g4
    have hR : R = rowsOf L := by rw [rowsOf, linesOf, g4, g5]
    subst hR
    refine finStarO (k := 4) (ks := 3) rfl rfl (fun A' c' => ⟨(A', c', V), fun E hE => ?_, ?_, g8⟩)
    · show E 4 = _
      rw [hE, Lay.d_n, hVR]
    · rw [Lay.d_n, hVR]
end Go.Proofs.Ytdonomneofdhfaa
