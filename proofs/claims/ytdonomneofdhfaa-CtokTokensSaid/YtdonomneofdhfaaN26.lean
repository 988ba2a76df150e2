/- The tokens of C of a list: both programs' answers, and the walk of the law CtokTokens. -/
import Derived.Test.YtdonomneofdhfaaN24
import Derived.Test.YtdonomneofdhfaaL5
namespace Go.GV
open Go.RowKit
theorem finO3 {w0 : World} {ow : Own} {nx : Nat} {u : Im} {k : Nat} {e : TypeId} {D : Data} {y z : Value} (hk : look ow k = some (.row e D)) : Done w0 (OwnT e D [y, z]) [.r k, .v y, .v z] ow nx u :=
  finP fun _ _ _ hs hu => ⟨_, rfl, hs.rowOwn hk hu⟩
theorem finO3n {α : Type} {w0 : World} {ow : Own} {nx : Nat} {u : Im} {e : TypeId} (Y : Lay α) {y z : Value} : Done w0 (OwnT e (Y.d []) [y, z]) [.v (.slice none 0 0), .v y, .v z] ow nx u :=
  finP fun _ _ _ _ _ => ⟨_, rfl, .inl ⟨rfl, rfl⟩⟩
end Go.GV
namespace Go.Proofs.Ytdonomneofdhfaa
open Go.GV Go.RowKit

abbrev CT := Int × ByteArray
abbrev ctY : Lay CT := ⟨[fun c => .int .i64 c.1, fun c => .string c.2], (0, ⟨#[]⟩)⟩
def okC (t : Tok) : Bool := decide (clsE t.kind t.text = 0)
def outC (b : List Tok) : List CT := b.map fun t => clsA t.kind t.text
def tokAll (b : List Tok) : Bool := b.all okC
def tokBad (b : List Tok) : Int := ((b.takeWhile okC).length : Int)
def ctL (b : List Tok) : List CT := if tokAll b = true then outC b else []
def ctI (b : List Tok) : Int := if tokAll b = true then 0 else tokBad b
def ctE (b : List Tok) : Int := if tokAll b = true then 0 else 40

theorem clsE_two (k : Int) (t : ByteArray) : clsE k t = 0 ∨ clsE k t = 40 := by
  unfold clsE; split
  · exact .inr rfl
  · exact .inl rfl
theorem tok_bad {b : List Tok} {i : Nat} {t : Tok} (hi : b[i]? = some t) (hp : tokAll (b.take i) = true) (ht : okC t = false) : tokAll b = false ∧ tokBad b = i := by
  constructor
  · unfold tokAll
    rw [List.all_eq_false]
    exact ⟨t, List.mem_of_getElem? hi, by rw [ht]; simp⟩
  · have e : b = b.take i ++ t :: b.drop (i + 1) := by
      rw [← drop_get hi, List.take_append_drop]
    unfold tokBad
    have hl : (b.take i).length = i := by rw [List.length_take]; have := (List.getElem?_eq_some_iff.1 hi).1; omega
    conv => lhs; rw [e]
    rw [List.takeWhile_append_of_pos (fun x hx => List.all_eq_true.1 hp x hx), List.takeWhile_cons, if_neg (by rw [ht]; simp), List.append_nil, hl]
theorem tok_next {b : List Tok} {i : Nat} {t : Tok} (hi : b[i]? = some t) (hp : tokAll (b.take i) = true) (ht : okC t = true) : tokAll (b.take (i + 1)) = true ∧ outC (b.take (i + 1)) = outC (b.take i) ++ [clsA t.kind t.text] := by
  unfold tokAll outC at *
  rw [take_get hi, List.all_append, hp, List.map_append]
  simp [ht]

theorem bare_text (P : ByteArray → Prop) : ∀ (L : List Tok) (dr : Bool), (∀ t ∈ L, P t.text) → ∀ t ∈ bareFrom dr L, P t.text
  | [], dr, _, t, ht => by simp [bareFrom] at ht
  | x :: r, dr, h, t, ht => by
    simp only [bareFrom] at ht
    split at ht
    · exact bare_text P r true (fun y hy => h y (List.mem_cons_of_mem _ hy)) t ht
    · rcases List.mem_cons.1 ht with rfl | ht
      · exact h x (List.mem_cons_self ..)
      · exact bare_text P r false (fun y hy => h y (List.mem_cons_of_mem _ hy)) t ht

theorem getD_mem {α : Type} {L : List α} {i : Nat} {d : α} (h : i < L.length) : L.getD i d ∈ L ∧ L[i]? = some (L.getD i d) := by
  have e : L[i]? = some (L.getD i d) := by rw [List.getD_eq_getElem?_getD, List.getElem?_eq_getElem h]; rfl
  exact ⟨List.mem_of_getElem? e, e⟩

set_option maxRecDepth 100000 in
theorem tokensC_any (L : List Tok) (x : Value) (w : World) (hx : SlAt (im w) x (tokY.d L)) (hL : L.length * 48 ≤ 140737488355328) (hT : ∀ t ∈ L, t.text.size ≤ 4294967280) (hg : Glob (im w)) :
    Calls Try.prog 73 #[x] w (PureP w (OwnT 86 (ctY.d (ctL (bareFrom false L))) [.int .i64 (ctI (bareFrom false L)), .int .i64 (ctE (bareFrom false L))])) := by
  have hbl := bareFrom_le false L
  have hbt := bare_text (fun t => t.size ≤ 4294967280) L false hT
  refine x_fun tt_ok Try.func73 rfl rfl [(x, tokY.d L)] 1 [.r 0] rfl rfl rfl rfl (fun b hb => by simp at hb; subst hb; exact hx) ?_
  refine x_vc tt_ok ?_
  refine xl_callO 31 (tokY.d (bareFrom false L)) rfl rfl rfl rfl fn46 rfl rfl (fun E w F hs => bare_any L _ w (hs.slAt (k := 0) rfl) hL) ?_
  refine xl_go tt_ok ?_
  generalize bareFrom false L = b at *
  refine xl_make0 tt_ok ctY 24 b.length rfl rfl rfl rfl rfl rfl rfl (by kernel_rfl) rfl rfl rfl (by omega) (by omega) ?_
  refine xl_go tt_ok ?_
  refine x_loop (σ := Int × List CT) (fun (i, O) => ⟨[(18, .v (.int .i64 i)), (17, .v (.int .i64 b.length)), (16, .r 1), (6, .r 3)], [], [(1, .row 31 (tokY.d b)), (3, .row 86 (ctY.d O))], 4⟩)
    (fun (i, O) _ => 0 ≤ i ∧ i ≤ b.length ∧ O = outC (b.take i.toNat) ∧ tokAll (b.take i.toNat) = true) (fun (i, _) => (b.length - i).toNat) (fun (_, _) => by simp only; omega) (0, []) [(3, some 2)] (.of rfl rfl rfl rfl rfl rfl)
    ⟨by omega, by omega, rfl, rfl⟩ ?_
  rintro ⟨i, O⟩ u hu ⟨g1, g2, g3, g4⟩
  refine x_vc tt_ok ?_
  refine x_if (fun h => ?_) (fun h => ?_)
  · have h : i < b.length := of_decide_eq_true h
    obtain ⟨hm, hi⟩ := getD_mem (L := b) (i := i.toNat) (d := tokY.dft) (by omega)
    have hsz := hbt _ hm
    have hOl : O.length ≤ i.toNat := by rw [g3]; unfold outC; rw [List.length_map, List.length_take]; omega
    repeat (refine And.intro ?_ ?_; first | omega | (simp only [Lay.d_n]; omega) | (simp only [decide_eq_true_eq, decide_eq_false_iff_not, Bool.or_eq_false_iff, Bool.and_eq_true, Bool.or_eq_true, Bool.and_eq_false_iff, Bool.not_eq_true', Bool.not_eq_false', Lay.d_n]; omega) | (simp only [decide_eq_true_eq, decide_eq_false_iff_not, Bool.or_eq_false_iff, Bool.and_eq_true, Bool.or_eq_true, Bool.and_eq_false_iff, Bool.not_eq_true', Bool.not_eq_false']; omega))
    obtain ⟨t, ht⟩ : ∃ t, t = b.getD i.toNat tokY.dft := ⟨_, rfl⟩
    rw [← ht] at hm hi hsz
    refine xl_call0 (.tuple #[.agg #[.int .i64 (clsA t.kind t.text).1, .string (clsA t.kind t.text).2], .int .i64 (clsE t.kind t.text)]) rfl rfl rfl rfl fn61 rfl rfl (fun E w F hs' => by rw [ht]; rw [ht] at hsz; exact class_any (b.getD i.toNat tokY.dft).kind (b.getD i.toNat tokY.dft).text w hsz ((hg.sub hu.sub).imm hs'.imm)) ?_
    refine xl_go tt_ok ?_
    refine x_if (fun h2 => ?_) (fun h2 => ?_)
    · have h2 : clsE t.kind t.text ≠ 0 := of_decide_eq_true h2
      obtain ⟨e1, e2⟩ := tok_bad hi g4 (show okC t = false from decide_eq_false h2)
      have e3 : ctL b = [] := by unfold ctL; rw [if_neg (by rw [e1]; simp)]
      have e4 : ctI b = i := by unfold ctI; rw [if_neg (by rw [e1]; simp), e2]; omega
      have e5 : ctE b = clsE t.kind t.text := by
        unfold ctE; rw [if_neg (by rw [e1]; simp)]
        rcases clsE_two t.kind t.text with h3 | h3
        · exact absurd h3 h2
        · rw [h3]
      rw [e3, e4, e5]
      exact finO3n ctY
    · have h2 : clsE t.kind t.text = 0 := Classical.not_not.1 (of_decide_eq_false h2)
      obtain ⟨e1, e2⟩ := tok_next hi g4 (show okC t = true from decide_eq_true h2)
      refine xl_push tt_ok ctY O (clsA t.kind t.text) 24 rfl rfl rfl rfl rfl rfl rfl rfl rfl rfl rfl rfl (by kernel_rfl) rfl rfl rfl rfl rfl (fun n hn => by cases hn; decide) rfl rfl rfl (by omega) (by omega) ?_
      refine xl_go tt_ok ?_
      repeat (refine And.intro ?_ ?_; first | omega | (simp only [Lay.d_n]; omega) | (simp only [decide_eq_true_eq, decide_eq_false_iff_not, Bool.or_eq_false_iff, Bool.and_eq_true, Bool.or_eq_true, Bool.and_eq_false_iff, Bool.not_eq_true', Bool.not_eq_false', Lay.d_n]; omega) | (simp only [decide_eq_true_eq, decide_eq_false_iff_not, Bool.or_eq_false_iff, Bool.and_eq_true, Bool.or_eq_true, Bool.and_eq_false_iff, Bool.not_eq_true', Bool.not_eq_false']; omega))
      refine again (i + 1, O ++ [clsA t.kind t.text]) [(3, some 6)] (.of rfl rfl rfl rfl rfl rfl) ⟨by omega, by omega, ?_, ?_⟩ (by simp only; omega)
      · rw [show (i + 1).toNat = i.toNat + 1 by omega, e2, g3]
      · rw [show (i + 1).toNat = i.toNat + 1 by omega]; exact e1
  · have h : ¬ i < b.length := of_decide_eq_false h
    rw [List.take_of_length_le (by omega)] at g3 g4
    have e3 : ctL b = O := by unfold ctL; rw [if_pos g4, g3]
    have e4 : ctI b = 0 := by unfold ctI; rw [if_pos g4]
    have e5 : ctE b = 0 := by unfold ctE; rw [if_pos g4]
    rw [e3, e4, e5]
    exact finO3 rfl
end Go.Proofs.Ytdonomneofdhfaa
