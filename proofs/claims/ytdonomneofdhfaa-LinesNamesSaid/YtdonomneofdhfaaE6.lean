/- What stands at a place of a text: a header, a comment, a token. -/
import Derived.Test.YtdonomneofdhfaaE5
import Derived.Test.YtdonomneofdhfaaH
namespace Go.Proofs.Ytdonomneofdhfaa
open Go.GV Go.RowKit

/-- the library's own variable holds a number -/
def Glob (u : Im) : Prop := ∃ m, u.cell? ⟨0, 0, none⟩ = some (.int .i64 m)
theorem Glob.sub {u u' : Im} (h : Glob u) (hu : u.sub u') : Glob u' := by
  obtain ⟨m, h⟩ := h
  exact ⟨m, hu.cell h⟩
theorem Glob.imm {u : Im} {w : World} (h : Glob u) (hw : Imm u w) : Glob (im w) := h.sub ⟨fun b o hb => hw.h b o hb⟩

theorem pure_of {f : Nat} {args : Array Value} {w : World} {v : Value} (h : Calls Try.prog f args w fun e w' => e = .returned v ∧ w' = w) : Calls Try.prog f args w (PureP w fun x _ => x = v) := by
  refine h.mono ?_
  rintro e w' ⟨rfl, rfl⟩
  exact ⟨v, rfl, Below.refl _ _, rfl⟩

theorem index_open : ∀ l : List UInt8, (Lib.index l [42, 47] = -1 ∧ Lx.endC (l.map fun b => (b.toNat : Int)) = 0) ∨ (∃ n : Nat, Lib.index l [42, 47] = n ∧ Lx.endC (l.map fun b => (b.toNat : Int)) = n + 2)
  | [] => .inl ⟨rfl, rfl⟩
  | [a] => by
    left
    refine ⟨?_, rfl⟩
    have : ([42, 47] : List UInt8).isPrefixOf [a] = false := by
      simp [List.isPrefixOf]
    rw [Lib.index, this]; rfl
  | a :: b :: r => by
    have ih := index_open (b :: r)
    have e : ([42, 47] : List UInt8).isPrefixOf (a :: b :: r) = (decide ((a.toNat : Int) = 42) && decide ((b.toNat : Int) = 47)) := by
      have q : ∀ (x : UInt8) (k : UInt8), (k == x) = decide ((x.toNat : Int) = (k.toNat : Int)) := fun x k => by
        rw [Bool.eq_iff_iff]
        simp only [beq_iff_eq, decide_eq_true_eq]
        constructor
        · rintro rfl; rfl
        · intro h; exact (UInt8.toNat_inj.1 (Int.ofNat.inj h)).symm
      simp only [List.isPrefixOf, Bool.and_true]
      rw [q, q]; rfl
    rw [Lib.index, e]
    simp only [List.map_cons, Lx.endC]
    cases (decide ((a.toNat : Int) = 42) && decide ((b.toNat : Int) = 47)) with
    | true => exact .inr ⟨0, rfl, rfl⟩
    | false =>
      simp only [Bool.false_eq_true, if_false]
      simp only [List.map_cons] at ih
      rcases ih with ⟨h1, h2⟩ | ⟨n, h1, h2⟩
      · left
        rw [h1, h2]; exact ⟨rfl, rfl⟩
      · right
        refine ⟨n + 1, ?_, by rw [h2]⟩
        rw [h1]
        have : ((n : Int) == -1) = false := by simp
        rw [this]; simp

theorem indexByte_nl : ∀ l : List UInt8, (if Lib.indexByte l 10 < 0 then (l.length : Int) else Lib.indexByte l 10) = (Lx.run Lx.notNl (l.map fun b => (b.toNat : Int)) : Int)
  | [] => rfl
  | b :: r => by
    have ih := indexByte_nl r
    have hge := Lib.indexByte_ge r 10
    rw [Lib.indexByte, List.map_cons, run_cons]
    by_cases h : b = 10
    · subst h; rfl
    · have h1 : (b == 10) = false := by simpa using h
      have h2 : Lx.notNl (b.toNat : Int) = true := by
        unfold Lx.notNl
        rw [Bool.not_eq_true', decide_eq_false_iff_not]
        intro h3
        exact h (UInt8.toNat_inj.1 (Int.ofNat.inj h3))
      rw [h1, if_pos h2]
      simp only [Bool.false_eq_true, if_false, List.length_cons]
      by_cases h3 : Lib.indexByte r 10 = -1
      · rw [h3] at ih ⊢
        simp only [beq_self_eq_true, if_true] at ih ⊢
        rw [if_pos (by omega)] at ih ⊢
        omega
      · have h4 : (Lib.indexByte r 10 == -1) = false := by simpa using h3
        rw [h4]
        simp only [Bool.false_eq_true, if_false]
        rw [if_neg (by omega)] at ih ⊢
        omega

theorem isOpen_eq {s : ByteArray} {i : Int} (h0 : 0 ≤ i) (h1 : i ≤ s.size) : hasP (sub s i s.size) ⟨#[47, 42]⟩ = Lx.isOpen (tl s i) := by
  rw [hasP_bl, bl_rest s h0 h1]; rfl
theorem isLine_eq {s : ByteArray} {i : Int} (h0 : 0 ≤ i) (h1 : i ≤ s.size) : hasP (sub s i s.size) ⟨#[47, 47]⟩ = Lx.isLine (tl s i) := by
  rw [hasP_bl, bl_rest s h0 h1]; rfl
theorem isOpen_len {s : ByteArray} {i : Int} (h0 : 0 ≤ i) (h : Lx.isOpen (tl s i) = true) : i + 2 ≤ s.size := by
  have h := of_decide_eq_true h
  have := congrArg List.length h
  rw [List.length_take, tl_len] at this
  simp only [List.length_cons, List.length_nil] at this
  omega

theorem itemP_eq (hdr : Bool) (l : Lx.Bs) : Lx.itemP hdr l = if hdr = true ∧ 0 < Lx.hdrN l then ⟨7, Lx.hdrN l, 0⟩
    else if Lx.isOpen l = true then (match Lx.endC (l.drop 2) with
      | 0 => ⟨0, 0, 20⟩
      | n + 1 => ⟨8, n + 3, 0⟩)
    else if Lx.isLine l = true then ⟨8, Lx.run Lx.notNl l, 0⟩ else longL l := rfl

set_option maxRecDepth 100000 in
theorem item_any (s : ByteArray) (i : Int) (hdr : Bool) (h0 : 0 ≤ i) (h1 : i < s.size) (hz : s.size ≤ 4294967280) (w : World) (hg : Glob (im w)) :
    Calls Try.prog 132 #[.string s, .int .i64 i, .bool hdr] w (PureP w fun v _ => v = itV i (Lx.itemP hdr (tl s i))) := by
  have hz' : s.size ≤ 140737488355328 := by omega
  rw [itemP_eq]
  refine x_fun tt_ok Try.func132 rfl rfl [] 0 [.v (.string s), .v (.int .i64 i), .v (.bool hdr)] rfl rfl rfl rfl (fun b hb => by cases hb) ?_
  refine x_seq ?_
  refine x_vc tt_ok ?_
  refine x_cut (σ := Unit) (fun _ => ⟨[(6, .p 0 0), (1, .v (.int .i64 i)), (0, .v (.string s))], [],
      [(0, .box 129 [.v (.int .i64 0), .v (.int .i64 0), .v (.int .i64 0)])], 1⟩)
    (fun _ _ => ¬ (hdr = true ∧ 0 < Lx.hdrN (tl s i))) (fun _ => Nat.le_refl 1) ?_ ?_
  · refine x_vc tt_ok ?_
    refine x_if (fun h => ?_) (fun h => ?_)
    · refine xl_call0 (.int .i64 (hdrE s i)) rfl rfl rfl rfl fn150 rfl rfl (fun E w F _ => hdr_any s i h0 h1 hz' w) ?_
      refine xl_go tt_ok ?_
      refine x_if (fun h2 => ?_) (fun h2 => ?_)
      · have h3 : 0 < hdrE s i := of_decide_eq_true h2
        have h4 : 0 < Lx.hdrN (tl s i) := by
          unfold hdrE atE at h3
          split at h3 <;> omega
        rw [if_pos ⟨h, h4⟩]
        have e : hdrE s i = i + Lx.hdrN (tl s i) := by unfold hdrE atE; rw [if_neg (by omega)]
        rw [e]
        exact fin1 (fun _ _ => rfl)
      · have h3 : ¬ 0 < hdrE s i := of_decide_eq_false h2
        refine meet () [] (.of rfl rfl rfl rfl rfl rfl) ?_
        rintro ⟨_, h4⟩
        unfold hdrE atE at h3
        rw [if_neg (by omega)] at h3
        omega
    · exact meet () [] (.of rfl rfl rfl rfl rfl rfl) (fun ⟨h5, _⟩ => by rw [h] at h5; cases h5)
  · rintro _ u hu hn
    rw [if_neg hn]
    clear hn
    have hgu : Glob u := hg.sub hu.sub
    refine x_vc tt_ok ?_
    repeat (refine And.intro ?_ ?_; first | omega | (simp only [Lay.d_n]; omega) | (simp only [decide_eq_true_eq, decide_eq_false_iff_not, Bool.or_eq_false_iff, Bool.and_eq_true, Bool.or_eq_true, Bool.and_eq_false_iff, Bool.not_eq_true', Bool.not_eq_false', Lay.d_n]; omega) | (simp only [decide_eq_true_eq, decide_eq_false_iff_not, Bool.or_eq_false_iff, Bool.and_eq_true, Bool.or_eq_true, Bool.and_eq_false_iff, Bool.not_eq_true', Bool.not_eq_false']; omega))
    refine xl_call0 (.bool (Lx.isOpen (tl s i))) rfl rfl rfl rfl fn151 rfl rfl (fun E w F _ => by rw [← isOpen_eq h0 (by omega)]; exact hasP_any _ _ w) ?_
    refine xl_go tt_ok ?_
    refine x_if (fun h => ?_) (fun h => ?_)
    · rw [if_pos h]
      have hl := isOpen_len h0 h
      have hd : (tl s i).drop 2 = bl (sub s (i + 2) s.size) := by
        rw [tl_tl s h0, bl_rest s (by omega) (by omega)]; rfl
      rw [hd]
      repeat (refine And.intro ?_ ?_; first | omega | (simp only [Lay.d_n]; omega) | (simp only [decide_eq_true_eq, decide_eq_false_iff_not, Bool.or_eq_false_iff, Bool.and_eq_true, Bool.or_eq_true, Bool.and_eq_false_iff, Bool.not_eq_true', Bool.not_eq_false', Lay.d_n]; omega) | (simp only [decide_eq_true_eq, decide_eq_false_iff_not, Bool.or_eq_false_iff, Bool.and_eq_true, Bool.or_eq_true, Bool.and_eq_false_iff, Bool.not_eq_true', Bool.not_eq_false']; omega))
      have hi := index_open (sub s (i + 2) s.size).data.toList
      refine xl_call0 (.int .i64 (Lib.index (sub s (i + 2) s.size).data.toList [42, 47])) rfl rfl rfl rfl fn152 rfl rfl (fun E w F hs => by
        obtain ⟨m, hm⟩ := hgu.imm hs.imm
        refine pure_of (Try.strings_Index _ _ m w ?_ hm)
        have : ((sub s (i + 2) s.size).size : Int) = s.size - (i + 2) := sub_size (by omega) (by omega) (Int.le_refl _)
        omega) ?_
      refine xl_go tt_ok ?_
      have hbl : Lx.endC (bl (sub s (i + 2) s.size)) = Lx.endC ((sub s (i + 2) s.size).data.toList.map fun b => (b.toNat : Int)) := rfl
      rcases hi with ⟨e1, e2⟩ | ⟨n, e1, e2⟩
      · rw [e1, hbl, e2]
        refine x_ift rfl ?_
        exact fin1 (fun _ _ => rfl)
      · have hn := Lx.endC_le ((sub s (i + 2) s.size).data.toList.map fun b => (b.toNat : Int))
        rw [e2, List.length_map, Array.length_toList] at hn
        have hsz : ((sub s (i + 2) s.size).size : Int) = s.size - (i + 2) := sub_size (by omega) (by omega) (Int.le_refl _)
        have hsz2 : (sub s (i + 2) s.size).data.size = (sub s (i + 2) s.size).size := rfl
        rw [e1, hbl, e2]
        refine x_iff (decide_eq_false (by omega)) ?_
        repeat (refine And.intro ?_ ?_; first | omega | (simp only [Lay.d_n]; omega) | (simp only [decide_eq_true_eq, decide_eq_false_iff_not, Bool.or_eq_false_iff, Bool.and_eq_true, Bool.or_eq_true, Bool.and_eq_false_iff, Bool.not_eq_true', Bool.not_eq_false', Lay.d_n]; omega) | (simp only [decide_eq_true_eq, decide_eq_false_iff_not, Bool.or_eq_false_iff, Bool.and_eq_true, Bool.or_eq_true, Bool.and_eq_false_iff, Bool.not_eq_true', Bool.not_eq_false']; omega))
        refine fin1 (fun _ _ => ?_)
        show Value.tuple #[.agg #[.int .i64 8, .int .i64 i, .int .i64 (i + 2 + (n : Int) + 2)], .int .i64 0] = Value.tuple #[.agg #[.int .i64 8, .int .i64 i, .int .i64 (i + ((n + 1 + 3 : Nat) : Int))], .int .i64 0]
        rw [show i + 2 + (n : Int) + 2 = i + ((n + 1 + 3 : Nat) : Int) by omega]
    · rw [if_neg (by rw [h]; simp)]
      repeat (refine And.intro ?_ ?_; first | omega | (simp only [Lay.d_n]; omega) | (simp only [decide_eq_true_eq, decide_eq_false_iff_not, Bool.or_eq_false_iff, Bool.and_eq_true, Bool.or_eq_true, Bool.and_eq_false_iff, Bool.not_eq_true', Bool.not_eq_false', Lay.d_n]; omega) | (simp only [decide_eq_true_eq, decide_eq_false_iff_not, Bool.or_eq_false_iff, Bool.and_eq_true, Bool.or_eq_true, Bool.and_eq_false_iff, Bool.not_eq_true', Bool.not_eq_false']; omega))
      refine xl_call0 (.bool (Lx.isLine (tl s i))) rfl rfl rfl rfl fn151 rfl rfl (fun E w F _ => by rw [← isLine_eq h0 (by omega)]; exact hasP_any _ _ w) ?_
      refine xl_go tt_ok ?_
      refine x_if (fun h2 => ?_) (fun h2 => ?_)
      · rw [if_pos h2]
        repeat (refine And.intro ?_ ?_; first | omega | (simp only [Lay.d_n]; omega) | (simp only [decide_eq_true_eq, decide_eq_false_iff_not, Bool.or_eq_false_iff, Bool.and_eq_true, Bool.or_eq_true, Bool.and_eq_false_iff, Bool.not_eq_true', Bool.not_eq_false', Lay.d_n]; omega) | (simp only [decide_eq_true_eq, decide_eq_false_iff_not, Bool.or_eq_false_iff, Bool.and_eq_true, Bool.or_eq_true, Bool.and_eq_false_iff, Bool.not_eq_true', Bool.not_eq_false']; omega))
        have hi := indexByte_nl (sub s i s.size).data.toList
        have hsz : ((sub s i s.size).size : Int) = s.size - i := sub_size h0 (by omega) (Int.le_refl _)
        have hsz2 : ((sub s i s.size).data.toList.length : Int) = s.size - i := by rw [Array.length_toList]; exact hsz
        have hrun : (Lx.run Lx.notNl (tl s i) : Int) = (Lx.run Lx.notNl ((sub s i s.size).data.toList.map fun b => (b.toNat : Int)) : Int) := by
          rw [← bl_rest s h0 (by omega)]; rfl
        rw [← hrun, hsz2] at hi
        refine xl_call0 (.int .i64 (Lib.indexByte (sub s i s.size).data.toList 10)) rfl rfl rfl rfl fn118 rfl rfl (fun E w F hs => pure_of (Try.strings_IndexByte _ 10 w)) ?_
        refine xl_go tt_ok ?_
        obtain ⟨x, hx⟩ : ∃ x, x = Lib.indexByte (sub s i s.size).data.toList 10 := ⟨_, rfl⟩
        have hge := Lib.indexByte_ge (sub s i s.size).data.toList 10
        have hrl := Lx.run_le Lx.notNl (tl s i)
        rw [tl_len] at hrl
        rw [← hx] at hi hge ⊢
        have e : ∀ y : Int, y = (Lx.run Lx.notNl (tl s i) : Int) → itV i ⟨8, Lx.run Lx.notNl (tl s i), 0⟩ = Value.tuple #[.agg #[.int .i64 8, .int .i64 i, .int .i64 (i + y)], .int .i64 0] := by
          rintro y rfl; rfl
        refine x_if (fun h3 => ?_) (fun h3 => ?_)
        · rw [if_pos (of_decide_eq_true h3)] at hi
          repeat (refine And.intro ?_ ?_; first | omega | (simp only [Lay.d_n]; omega) | (simp only [decide_eq_true_eq, decide_eq_false_iff_not, Bool.or_eq_false_iff, Bool.and_eq_true, Bool.or_eq_true, Bool.and_eq_false_iff, Bool.not_eq_true', Bool.not_eq_false', Lay.d_n]; omega) | (simp only [decide_eq_true_eq, decide_eq_false_iff_not, Bool.or_eq_false_iff, Bool.and_eq_true, Bool.or_eq_true, Bool.and_eq_false_iff, Bool.not_eq_true', Bool.not_eq_false']; omega))
          rw [e _ hi]
          exact fin1 (fun _ _ => rfl)
        · rw [if_neg (of_decide_eq_false h3)] at hi
          repeat (refine And.intro ?_ ?_; first | omega | (simp only [Lay.d_n]; omega) | (simp only [decide_eq_true_eq, decide_eq_false_iff_not, Bool.or_eq_false_iff, Bool.and_eq_true, Bool.or_eq_true, Bool.and_eq_false_iff, Bool.not_eq_true', Bool.not_eq_false', Lay.d_n]; omega) | (simp only [decide_eq_true_eq, decide_eq_false_iff_not, Bool.or_eq_false_iff, Bool.and_eq_true, Bool.or_eq_true, Bool.and_eq_false_iff, Bool.not_eq_true', Bool.not_eq_false']; omega))
          rw [e _ hi]
          exact fin1 (fun _ _ => rfl)
      · rw [if_neg (by rw [h2]; simp)]
        by_cases he : (longL (tl s i)).err = 0
        · have hv : itV i (longL (tl s i)) = .tuple #[.agg #[.int .i64 (longL (tl s i)).kind, .int .i64 i, .int .i64 (i + (longL (tl s i)).len)], .int .i64 0] := if_pos he
          rw [hv]
          refine xl_call0 (.tuple #[.agg #[.int .i64 (longL (tl s i)).kind, .int .i64 i, .int .i64 (i + (longL (tl s i)).len)], .int .i64 0]) rfl rfl rfl rfl fn153 rfl rfl (fun E w F _ => by rw [← hv]; exact long_any s i h0 h1 hz' w) ?_
          refine xl_go tt_ok ?_
          exact fin1 (fun _ _ => rfl)
        · have hv : itV i (longL (tl s i)) = .tuple #[.agg #[.int .i64 0, .int .i64 0, .int .i64 0], .int .i64 (longL (tl s i)).err] := if_neg he
          rw [hv]
          refine xl_call0 (.tuple #[.agg #[.int .i64 0, .int .i64 0, .int .i64 0], .int .i64 (longL (tl s i)).err]) rfl rfl rfl rfl fn153 rfl rfl (fun E w F _ => by rw [← hv]; exact long_any s i h0 h1 hz' w) ?_
          refine xl_go tt_ok ?_
          exact fin1 (fun _ _ => rfl)
end Go.Proofs.Ytdonomneofdhfaa
