/- Walks over the functions that compare lists of tokens. -/
import Derived.Test.YtmjapnhchcnfmaaW1
namespace Go.Proofs.Ytmjapnhchcnfmaa
open Go.GV Go.RowKit

set_option maxRecDepth 100000 in
theorem equal_any (n m : Nat) (T U : Int → ByteArray) (x y : Value) (w : World) (hx : SlAt (im w) x (txs n T)) (hy : SlAt (im w) y (txs m U)) (hn : n ≤ 9223372036854775807) :
    Calls Try.prog 34 #[x, y] w (PureP w fun v _ => v = .bool (pb (SameT n T m U))) := by
  refine x_fun tt_ok Try.func34 rfl rfl [(x, txs n T), (y, txs m U)] 2 [.r 0, .r 1] rfl rfl rfl rfl (fun b hb => by simp at hb; rcases hb with rfl | rfl <;> assumption) ?_
  refine x_vc tt_ok ?_
  refine x_if (fun h => ?_) (fun h => ?_)
  · refine fin1 (fun _ _ => ?_)
    have h' : ¬ n = m := by simp at h; omega
    rw [pb_false (fun hh => h' hh.1)]; rfl
  · have h' : n = m := by simp at h; omega
    subst h'
    refine x_loop (σ := Int) (fun i => ⟨[(13, .v (.int .i64 i)), (12, .v (.int .i64 n)), (0, .r 0), (1, .r 1)], [], [(0, .sl (txs n T)), (1, .sl (txs n U))], 2⟩)
      (fun i _ => 0 ≤ i ∧ i ≤ n ∧ ∀ j, 0 ≤ j → j < i → T j = U j) (fun i => (n - i).toNat) (fun _ => Nat.le_refl _) 0 [] (.of rfl rfl rfl rfl rfl rfl) ⟨by omega, by omega, fun j _ _ => by omega⟩ ?_
    rintro i u hu ⟨g1, g2, g3⟩
    refine x_vc tt_ok ?_
    refine x_if (fun h => ?_) (fun h => ?_)
    · have h2 : i < n := by simpa using h
      refine x_draw mix (by kernel_rfl) (xd_go tt_ok ?_)
      repeat (refine And.intro ?_ ?_; first | omega | (simp <;> omega))
      refine x_if (fun h3 => ?_) (fun h3 => ?_)
      · refine fin1 (fun _ _ => ?_)
        rw [pb_false (fun hh => by simp [hh.2 i g1 h2] at h3)]; rfl
      · repeat (refine And.intro ?_ ?_; first | omega | (simp <;> omega))
        refine again (i + 1) [] (.of rfl rfl rfl rfl rfl rfl) ⟨by omega, by omega, fun j hj1 hj2 => ?_⟩ (by omega)
        by_cases hji : j = i
        · subst hji; simpa using h3
        · exact g3 j hj1 (by omega)
    · have h2 : i = n := by simp at h; omega
      refine fin1 (fun _ _ => ?_)
      rw [pb_true ⟨rfl, fun j hj1 hj2 => g3 j hj1 (by omega)⟩]; rfl

/-- what a token of a run is: its cells -/
structure PT where
  n : Nat
  k : Int → Int
  t : Int → ByteArray
  sp : Int → Bool
  pa : Int → Option Addr
  pc : Int → Nat
  pn : Int → Nat
  pt : Int → Int → ByteArray

abbrev PT.v (p : PT) (i : Int) : Value := .slice (p.pa i) (p.pn i) (p.pc i)
abbrev PT.d (p : PT) : GV.Data := ⟨p.n, [fun i => .int .i64 (p.k i), fun i => .string (p.t i), fun i => .bool (p.sp i), fun i => p.v i]⟩

structure PTat (u : Im) (x : Value) (p : PT) : Prop where
  at' : SlAt u x p.d
  parts : ∀ i : Int, 0 ≤ i → i < p.n → SlAt u (p.v i) (txs (p.pn i) (p.pt i)) ∧ p.pn i ≤ 9223372036854775807
  le : p.n ≤ 9223372036854775807

theorem PTat.on {u : Im} {x : Value} {p : PT} (h : PTat u x p) {y : Value} {w : World} (hi : Imm u w) (hs : SlAt (im w) y p.d) : PTat (im w) y p :=
  ⟨hs, fun i h1 h2 => ⟨(h.parts i h1 h2).1.imm hi, (h.parts i h1 h2).2⟩, h.le⟩
theorem PTat.mono {u u' : Im} {x : Value} {p : PT} (h : PTat u x p) (hu : u.le u') : PTat u' x p :=
  ⟨h.at'.mono hu, fun i h1 h2 => ⟨(h.parts i h1 h2).1.mono hu, (h.parts i h1 h2).2⟩, h.le⟩

def Same1 (p : PT) (i : Int) (q : PT) (j : Int) : Prop := p.k i = q.k j ∧ p.t i = q.t j ∧ SameT (p.pn i) (p.pt i) (q.pn j) (q.pt j)
def SameP (p q : PT) : Prop := p.n = q.n ∧ ∀ i : Int, 0 ≤ i → i < p.n → Same1 p i q i

abbrev aggP (p : PT) (i : Int) : Value := .agg #[.int .i64 (p.k i), .string (p.t i), .bool (p.sp i), p.v i]

set_option maxRecDepth 100000 in
theorem same1_any (p q : PT) (i j : Int) (w : World) (hx : SlAt (im w) (p.v i) (txs (p.pn i) (p.pt i))) (hy : SlAt (im w) (q.v j) (txs (q.pn j) (q.pt j))) (hn : p.pn i ≤ 9223372036854775807) :
    Calls Try.prog 47 #[aggP p i, aggP q j] w (PureP w fun v _ => v = .bool (pb (Same1 p i q j))) := by
  refine x_fun tt_ok Try.func47 rfl rfl [] 0 [.v (aggP p i), .v (aggP q j)] rfl rfl rfl rfl (fun b hb => by cases hb) ?_
  refine x_vc tt_ok ?_
  refine xl_gcall0 (.bool (pb (SameT (p.pn i) (p.pt i) (q.pn j) (q.pt j)))) rfl rfl rfl rfl fn34 rfl rfl (fun _ E w F hs => equal_any _ _ _ _ _ _ w (hx.imm hs.imm) (hy.imm hs.imm) hn) ?_
  refine xl_go tt_ok ?_
  refine fin1 (fun _ _ => ?_)
  show Value.bool _ = _
  congr 1
  rw [Bool.eq_iff_iff]
  simp [pb_iff, Same1, and_assoc]

set_option maxRecDepth 100000 in
theorem equalFunc_any (p q : PT) (x y : Value) (w : World) (hx : PTat (im w) x p) (hy : PTat (im w) y q) :
    Calls Try.prog 35 #[x, y, .func (.func 47) #[] #[]] w (PureP w fun v _ => v = .bool (pb (SameP p q))) := by
  refine x_fun tt_ok Try.func35 rfl rfl [(x, p.d), (y, q.d)] 2 [.r 0, .r 1, .v (.func (.func 47) #[] #[])] rfl rfl rfl rfl (fun b hb => by simp at hb; rcases hb with rfl | rfl; exact hx.at'; exact hy.at') ?_
  refine x_vc tt_ok ?_
  refine x_if (fun h => ?_) (fun h => ?_)
  · refine fin1 (fun _ _ => ?_)
    have h' : ¬ p.n = q.n := by simp at h; omega
    rw [pb_false (fun hh => h' hh.1)]; rfl
  · have h' : p.n = q.n := by simp at h; omega
    have hle := hx.le
    refine x_loop (σ := Int) (fun i => ⟨[(17, .v (.int .i64 i)), (16, .v (.int .i64 p.n)), (15, .r 0), (0, .r 0), (1, .r 1), (2, .v (.func (.func 47) #[] #[]))], [], [(0, .sl p.d), (1, .sl q.d)], 2⟩)
      (fun i _ => 0 ≤ i ∧ i ≤ p.n ∧ ∀ j, 0 ≤ j → j < i → Same1 p j q j) (fun i => (p.n - i).toNat) (fun _ => Nat.le_refl _) 0 [] (.of rfl rfl rfl rfl rfl rfl) ⟨by omega, by omega, fun j _ _ => by omega⟩ ?_
    rintro i u hu ⟨g1, g2, g3⟩
    refine x_vc tt_ok ?_
    refine x_if (fun h => ?_) (fun h => ?_)
    · have h2 : i < p.n := by simpa using h
      repeat (refine And.intro ?_ ?_; first | omega | (simp <;> omega))
      refine xl_call0 (.bool (pb (Same1 p i q i))) rfl rfl rfl rfl fn47 rfl rfl (fun E w F hs => same1_any p q i i w (((hx.parts i g1 h2).1.mono hu).imm hs.imm) (((hy.parts i g1 (by omega)).1.mono hu).imm hs.imm) (hx.parts i g1 h2).2) ?_
      refine xl_go tt_ok ?_
      refine x_if (fun h3 => ?_) (fun h3 => ?_)
      · refine fin1 (fun _ _ => ?_)
        have h4 : ¬ Same1 p i q i := fun hh => by rw [pb_true hh] at h3; cases h3
        rw [pb_false (fun hh => h4 (hh.2 i g1 h2))]; rfl
      · have h4 : Same1 p i q i := pb_iff.1 (by simpa using h3)
        repeat (refine And.intro ?_ ?_; first | omega | (simp <;> omega))
        refine again (i + 1) [] (.of rfl rfl rfl rfl rfl rfl) ⟨by omega, by omega, fun j hj1 hj2 => ?_⟩ (by omega)
        by_cases hji : j = i
        · subst hji; exact h4
        · exact g3 j hj1 (by omega)
    · have h2 : i = p.n := by simp at h; omega
      refine fin1 (fun _ _ => ?_)
      rw [pb_true ⟨h', fun j hj1 hj2 => g3 j hj1 (by omega)⟩]; rfl

set_option maxRecDepth 100000 in
theorem prepSame_any (p q : PT) (x y : Value) (w : World) (hx : PTat (im w) x p) (hy : PTat (im w) y q) :
    Calls Try.prog 23 #[x, y] w (PureP w fun v _ => v = .bool (pb (SameP p q))) := by
  refine x_fun tt_ok Try.func23 rfl rfl [(x, p.d), (y, q.d)] 2 [.r 0, .r 1] rfl rfl rfl rfl (fun b hb => by simp at hb; rcases hb with rfl | rfl; exact hx.at'; exact hy.at') ?_
  refine x_vc tt_ok ?_
  refine xl_call0 (.bool (pb (SameP p q))) rfl rfl rfl rfl fn35 rfl rfl (fun E w F hs => equalFunc_any p q _ _ w (hx.on hs.imm (hs.slAt (k := 0) rfl)) (hy.on hs.imm (hs.slAt (k := 1) rfl))) ?_
  refine xl_go tt_ok ?_
  exact fin1 (fun _ _ => rfl)

set_option maxRecDepth 100000 in
theorem refSame_any (p q : PT) (x y : Value) (w : World) (hx : PTat (im w) x p) (hy : PTat (im w) y q) :
    Calls Try.prog 24 #[x, y] w (PureP w fun v _ => v = .bool (pb (SameP p q))) := by
  refine x_fun tt_ok Try.func24 rfl rfl [(x, p.d), (y, q.d)] 2 [.r 0, .r 1] rfl rfl rfl rfl (fun b hb => by simp at hb; rcases hb with rfl | rfl; exact hx.at'; exact hy.at') ?_
  refine x_vc tt_ok ?_
  refine x_if (fun h => ?_) (fun h => ?_)
  · refine fin1 (fun _ _ => ?_)
    have h' : ¬ p.n = q.n := by simp at h; omega
    rw [pb_false (fun hh => h' hh.1)]; rfl
  · have h' : p.n = q.n := by simp at h; omega
    have hle := hx.le
    refine x_loop (σ := Int) (fun i => ⟨[(5, .v (.int .i64 i)), (0, .r 0), (1, .r 1)], [], [(0, .sl p.d), (1, .sl q.d)], 2⟩)
      (fun i _ => 0 ≤ i ∧ i ≤ p.n ∧ ∀ j, 0 ≤ j → j < i → Same1 p j q j) (fun i => (p.n - i).toNat) (fun _ => Nat.le_refl _) 0 [] (.of rfl rfl rfl rfl rfl rfl) ⟨by omega, by omega, fun j _ _ => by omega⟩ ?_
    rintro i u hu ⟨g1, g2, g3⟩
    refine x_vc tt_ok ?_
    refine x_if (fun h => ?_) (fun h => ?_)
    · have h2 : i < p.n := by simpa using h
      have h5 : i < q.n := by omega
      refine x_draw mix (by kernel_rfl) (xd_go tt_ok ?_)
      repeat (refine And.intro ?_ ?_; first | omega | (simp <;> omega))
      refine xd_call0 (.bool (pb (SameT (p.pn i) (p.pt i) (q.pn i) (q.pt i)))) rfl rfl rfl rfl fn33 rfl rfl
        (fun _ E w F hs => sameTexts_any _ _ _ _ _ _ w (((hx.parts i g1 h2).1.mono hu).imm hs.imm) (((hy.parts i g1 h5).1.mono hu).imm hs.imm) (hx.parts i g1 h2).2) ?_
      refine xd_go tt_ok ?_
      refine x_if (fun h3 => ?_) (fun h3 => ?_)
      · refine fin1 (fun _ _ => ?_)
        have h4 : ¬ Same1 p i q i := fun hh => by
          obtain ⟨a1, a2, a3⟩ := hh
          simp [a1, a2, pb_true a3] at h3
        rw [pb_false (fun hh => h4 (hh.2 i g1 h2))]; rfl
      · have h4 : Same1 p i q i := by
          simp only [Bool.or_eq_false_iff, decide_eq_false_iff_not, Bool.not_eq_false', pb_iff] at h3
          exact ⟨by simpa using h3.1.1, by simpa using h3.1.2, h3.2⟩
        repeat (refine And.intro ?_ ?_; first | omega | (simp <;> omega))
        refine again (i + 1) [] (.of rfl rfl rfl rfl rfl rfl) ⟨by omega, by omega, fun j hj1 hj2 => ?_⟩ (by omega)
        by_cases hji : j = i
        · subst hji; exact h4
        · exact g3 j hj1 (by omega)
    · have h2 : i = p.n := by simp at h; omega
      refine fin1 (fun _ _ => ?_)
      rw [pb_true ⟨h', fun j hj1 hj2 => g3 j hj1 (by omega)⟩]; rfl

theorem SameP.symm {p q : PT} (h : SameP p q) : SameP q p :=
  ⟨h.1.symm, fun i h1 h2 => have h3 := h.2 i h1 (by rw [h.1]; exact h2)
    ⟨h3.1.symm, h3.2.1.symm, h3.2.2.1.symm, fun j h4 h5 => (h3.2.2.2 j h4 (by rw [h3.2.2.1]; exact h5)).symm⟩⟩
theorem SameP.refl (p : PT) : SameP p p := ⟨rfl, fun _ _ _ => ⟨rfl, rfl, rfl, fun _ _ _ => rfl⟩⟩

set_option maxRecDepth 100000 in
theorem prepSames_any (p q : PT) (x y : Value) (w : World) (hx : PTat (im w) x p) (hy : PTat (im w) y q) :
    Calls Try.prog 7 #[x, y] w (PureP w fun v _ => v = .bool true) := by
  refine x_fun tt_ok Try.func7 rfl rfl [(x, p.d), (y, q.d)] 2 [.r 0, .r 1] rfl rfl rfl rfl (fun b hb => by simp at hb; rcases hb with rfl | rfl; exact hx.at'; exact hy.at') ?_
  refine x_vc tt_ok ?_
  refine xl_call0 (.bool (pb (SameP p q))) rfl rfl rfl rfl fn23 rfl rfl (fun E w F hs => prepSame_any p q _ _ w (hx.on hs.imm (hs.slAt (k := 0) rfl)) (hy.on hs.imm (hs.slAt (k := 1) rfl))) ?_
  refine xl_go tt_ok ?_
  refine xl_call0 (.bool (pb (SameP p q))) rfl rfl rfl rfl fn24 rfl rfl (fun E w F hs => refSame_any p q _ _ w (hx.on hs.imm (hs.slAt (k := 0) rfl)) (hy.on hs.imm (hs.slAt (k := 1) rfl))) ?_
  refine xl_go tt_ok ?_
  refine xl_gcall0 (.bool (pb (SameP p p))) rfl rfl rfl rfl fn23 rfl rfl (fun _ E w F hs => prepSame_any p p _ _ w (hx.on hs.imm (hs.slAt (k := 0) rfl)) (hx.on hs.imm (hs.slAt (k := 0) rfl))) ?_
  refine xl_go tt_ok ?_
  refine xl_gcall0 (.bool (pb (SameP q p))) rfl rfl rfl rfl fn23 rfl rfl (fun _ E w F hs => prepSame_any q p _ _ w (hy.on hs.imm (hs.slAt (k := 1) rfl)) (hx.on hs.imm (hs.slAt (k := 0) rfl))) ?_
  refine xl_go tt_ok ?_
  refine xl_gcall0 (.bool (pb (SameP p q))) rfl rfl rfl rfl fn24 rfl rfl (fun _ E w F hs => refSame_any p q _ _ w (hx.on hs.imm (hs.slAt (k := 0) rfl)) (hy.on hs.imm (hs.slAt (k := 1) rfl))) ?_
  refine xl_go tt_ok ?_
  refine fin1 (fun _ _ => ?_)
  have e : pb (SameP q p) = pb (SameP p q) := by rw [Bool.eq_iff_iff]; simp only [pb_iff]; exact ⟨SameP.symm, SameP.symm⟩
  show Value.bool _ = _
  rw [e, pb_true (SameP.refl p)]; simp
end Go.Proofs.Ytmjapnhchcnfmaa
