/- Part 1 of the lemmas behind the claim: K, W1, W2. -/
set_option linter.unusedSimpArgs false
set_option linter.unusedVariables false
namespace Go.Lx
abbrev Bs := List Int
def letter (c : Int) : Bool := (decide (97 ≤ c) && decide (c ≤ 122)) || (decide (65 ≤ c) && decide (c ≤ 90)) || decide (c = 95)
def digit (c : Int) : Bool := decide (48 ≤ c) && decide (c ≤ 57)
def white (c : Int) : Bool := decide (c = 32) || decide (c = 9) || decide (c = 11) || decide (c = 12)
def sign (c : Int) : Bool := decide (c = 43) || decide (c = 45)
def expo (c : Int) : Bool := decide (c = 101) || decide (c = 69) || decide (c = 112) || decide (c = 80)
def alnum (c : Int) : Bool := letter c || digit c
def okc (c : Int) : Bool := alnum c || decide (c = 46)
def run (p : Int → Bool) : Bs → Nat
  | [] => 0
  | c :: r => match p c with
    | true => run p r + 1
    | false => 0
def wordN : Bs → Nat
  | [] => 0
  | c :: r => match letter c with
    | true => run alnum r + 1
    | false => 0
def isWord : Bs → Bool
  | [] => false
  | c :: r => letter c && r.all alnum
theorem all_take_run (p : Int → Bool) : ∀ (l : Bs) (m : Nat), m ≤ l.length → ((l.take m).all p = true ↔ m ≤ run p l)
  | [], m, h => by simp at h; subst h; simp [run]
  | c :: r, 0, _ => by simp
  | c :: r, m + 1, h => by
    simp only [List.length_cons, Nat.add_le_add_iff_right] at h
    have ih := all_take_run p r m h
    simp only [List.take_succ_cons, List.all_cons, run, Bool.and_eq_true]
    cases hp : p c with
    | true => simp [ih]
    | false => simp
theorem run_le (p : Int → Bool) : ∀ l : Bs, run p l ≤ l.length
  | [] => Nat.le_refl _
  | c :: r => by
    have := run_le p r
    simp only [run, List.length_cons]
    split <;> omega
theorem isWord_take {l : Bs} {m : Nat} (h : m ≤ l.length) : isWord (l.take m) = true ↔ 1 ≤ m ∧ m ≤ wordN l := by
  cases l with
  | nil => simp at h; subst h; simp [isWord]
  | cons c r =>
    cases m with
    | zero => simp [isWord]
    | succ m =>
      simp only [List.length_cons, Nat.add_le_add_iff_right] at h
      simp only [List.take_succ_cons, isWord, wordN, Bool.and_eq_true, all_take_run alnum r m h]
      cases letter c with
      | true => simp
      | false => simp
theorem wordN_le (l : Bs) : wordN l ≤ l.length := by
  cases l with
  | nil => exact Nat.le_refl _
  | cons c r =>
    have := run_le alnum r
    simp only [wordN, List.length_cons]
    split <;> omega
def okp (a b : Int) : Bool := okc b || (sign b && expo a)
def runP : Int → Bs → Nat
  | _, [] => 0
  | a, b :: r => match okp a b with
    | true => runP b r + 1
    | false => 0
def allP : Int → Bs → Bool
  | _, [] => true
  | a, b :: r => okp a b && allP b r
theorem allP_take : ∀ (l : Bs) (a : Int) (m : Nat), m ≤ l.length → (allP a (l.take m) = true ↔ m ≤ runP a l)
  | [], a, m, h => by simp at h; subst h; simp [runP, allP]
  | c :: r, a, 0, _ => by simp [allP]
  | c :: r, a, m + 1, h => by
    simp only [List.length_cons, Nat.add_le_add_iff_right] at h
    have ih := allP_take r c m h
    simp only [List.take_succ_cons, allP, runP, Bool.and_eq_true]
    cases okp a c with
    | true => simp [ih]
    | false => simp
theorem runP_le : ∀ (l : Bs) (a : Int), runP a l ≤ l.length
  | [], _ => Nat.le_refl _
  | c :: r, a => by
    have := runP_le r c
    simp only [runP, List.length_cons]
    split <;> omega
def numN : Bs → Nat
  | [] => 0
  | c :: r => match digit c with
    | true => runP c r + 1
    | false => match decide (c = 46), r with
      | true, d :: r' => match digit d with
        | true => runP d r' + 2
        | false => 0
      | _, _ => 0
def isNum : Bs → Bool
  | [] => false
  | c :: r => match digit c with
    | true => allP c r
    | false => match decide (c = 46), r with
      | true, d :: r' => digit d && allP d r'
      | _, _ => false
def numS : Bs → Nat
  | [] => 0
  | c :: _ => match digit c with
    | true => 1
    | false => 2
theorem numN_le (l : Bs) : numN l ≤ l.length := by
  match l with
  | [] => exact Nat.le_refl _
  | [c] =>
    simp only [numN, runP, List.length_cons, List.length_nil]
    cases digit c with
    | true => simp
    | false => cases decide (c = 46) <;> simp
  | c :: d :: r =>
    have h1 := runP_le (d :: r) c
    have h2 := runP_le r d
    simp only [List.length_cons] at h1 ⊢
    simp only [numN]
    cases digit c with
    | true => simp only; omega
    | false =>
      cases decide (c = 46) with
      | false => simp
      | true =>
        show (match digit d with
          | true => runP d r + 2
          | false => 0) ≤ _
        split
        · show runP d r + 2 ≤ r.length + 1 + 1
          omega
        · exact Nat.zero_le _
theorem isNum_take {l : Bs} {m : Nat} (h : m ≤ l.length) : isNum (l.take m) = true ↔ 0 < numN l ∧ numS l ≤ m ∧ m ≤ numN l := by
  match l, m, h with
  | [], m, h => simp at h; subst h; simp [isNum, numN]
  | c :: r, 0, _ =>
    simp only [List.take_zero, isNum, numS]
    constructor
    · intro h; cases h
    · rintro ⟨_, h, _⟩; split at h <;> omega
  | [c], m + 1, h =>
    simp at h; subst h
    simp only [List.take_succ_cons, List.take_zero, isNum, numN, numS, allP, runP]
    cases digit c with
    | true => simp
    | false => cases decide (c = 46) <;> simp
  | c :: d :: r, 1, h =>
    simp only [List.take_succ_cons, List.take_zero, isNum, numN, numS, allP]
    cases hd : digit c with
    | true => simp
    | false =>
      cases decide (c = 46) with
      | true => cases digit d <;> simp
      | false => simp
  | c :: d :: r, m + 2, h =>
    simp only [List.length_cons, Nat.add_le_add_iff_right] at h
    have h1 := allP_take (d :: r) c (m + 1) (by simp; omega)
    have h2 := allP_take r d m h
    simp only [List.take_succ_cons] at h1 ⊢
    simp only [isNum, numN, numS]
    cases digit c with
    | true => simp only [h1]; omega
    | false =>
      cases decide (c = 46) with
      | true =>
        simp only
        cases digit d with
        | true => simp only [Bool.true_and, h2]; omega
        | false => simp
      | false => simp
def bodyN (q : Int) : Bs → Nat
  | [] => 0
  | [c] => match decide (c = q) && decide (c ≠ 10) with
    | true => 1
    | false => 0
  | c :: d :: r => match decide (c = 10) with
    | true => 0
    | false => match decide (c = q) with
      | true => 1
      | false => match decide (c = 92) with
        | true => match decide (d = 10), bodyN q r with
          | false, n + 1 => n + 3
          | _, _ => 0
        | false => match bodyN q (d :: r) with
          | 0 => 0
          | n + 1 => n + 2
def pieces (q : Int) : Bs → Bool
  | [] => true
  | [c] => !(decide (c = q) || decide (c = 10)) && !decide (c = 92)
  | c :: d :: r => match decide (c = q) || decide (c = 10) with
    | true => false
    | false => match decide (c = 92) with
      | true => !decide (d = 10) && pieces q r
      | false => pieces q (d :: r)
theorem bodyN_le (q : Int) : ∀ l : Bs, bodyN q l ≤ l.length
  | [] => Nat.le_refl _
  | [c] => by
    simp only [bodyN, List.length_cons, List.length_nil]
    split <;> omega
  | c :: d :: r => by
    have h1 := bodyN_le q r
    have h2 := bodyN_le q (d :: r)
    simp only [List.length_cons] at h2 ⊢
    unfold bodyN
    split
    · omega
    · split
      · omega
      · split
        · split <;> omega
        · split <;> omega
theorem body_take (q : Int) (hq : q ≠ 92) (hq2 : q ≠ 10) : ∀ (l : Bs) (m : Nat), m < l.length → ((pieces q (l.take m) = true ∧ l[m]? = some q) ↔ bodyN q l = m + 1)
  | [], m, h => by simp at h
  | [c], m, h => by
    simp at h; subst h
    simp only [List.take_zero, pieces, bodyN, List.getElem?_cons_zero, Option.some.injEq, true_and]
    by_cases hc : c = q
    · subst hc; simp [hq2]
    · simp [hc]
  | c :: d :: r, 0, h => by
    simp only [List.take_zero, pieces, bodyN, List.getElem?_cons_zero, Option.some.injEq, true_and, Nat.zero_add]
    by_cases h10 : c = 10
    · subst h10
      simp only [decide_true]
      constructor
      · intro hh; exact absurd hh.symm hq2
      · intro hh; cases hh
    · rw [decide_eq_false h10]
      by_cases hc : c = q
      · subst hc; simp
      · rw [decide_eq_false hc]
        constructor
        · intro hh; exact absurd hh hc
        · intro hh
          simp only at hh
          split at hh
          · split at hh <;> omega
          · split at hh <;> omega
  | c :: d :: r, 1, h => by
    simp only [List.take_succ_cons, List.take_zero, pieces, List.getElem?_cons_succ, List.getElem?_cons_zero, Option.some.injEq]
    have ih := body_take q hq hq2 (d :: r) 0 (by simp)
    simp only [List.take_zero, pieces, List.getElem?_cons_zero, Option.some.injEq, true_and, Nat.zero_add] at ih
    unfold bodyN
    by_cases h10 : c = 10
    · subst h10; simp
    · rw [decide_eq_false h10]
      by_cases hc : c = q
      · subst hc; simp
      · rw [decide_eq_false hc]
        by_cases h92 : c = 92
        · rw [decide_eq_true h92]
          simp only [Bool.or_self, Bool.not_false, Bool.not_true, Bool.and_false, Bool.false_eq_true, false_and, false_iff]
          split <;> omega
        · rw [decide_eq_false h92]
          simp only [Bool.or_self, Bool.not_false, Bool.and_self, true_and, ih]
          split <;> omega
  | c :: d :: r, m + 2, h => by
    simp only [List.length_cons, Nat.add_lt_add_iff_right] at h
    have ih1 := body_take q hq hq2 (d :: r) (m + 1) (by simp; omega)
    simp only [List.take_succ_cons, List.getElem?_cons_succ] at ih1 ⊢
    unfold bodyN
    cases m with
    | zero =>
      have ih2 := body_take q hq hq2 r 0 h
      simp only [List.take_zero, pieces, true_and] at ih1 ih2 ⊢
      by_cases h10 : c = 10
      · subst h10; simp
      · rw [decide_eq_false h10]
        by_cases hc : c = q
        · subst hc; simp
        · rw [decide_eq_false hc]
          by_cases h92 : c = 92
          · rw [decide_eq_true h92]
            simp only [Bool.or_self, Bool.and_true]
            by_cases hd : d = 10
            · rw [decide_eq_true hd]; simp
            · rw [decide_eq_false hd]
              simp only [Bool.not_false, true_and, ih2]
              split
              · rename_i n _ hn; rw [hn]; omega
              · rename_i hn
                constructor
                · intro h5; exact absurd h5 (by intro h6; exact hn _ rfl h6)
                · intro h5; cases h5
          · rw [decide_eq_false h92]
            simp only [Bool.or_self, ih1]
            split <;> omega
    | succ m =>
      have ih2 := body_take q hq hq2 r (m + 1) h
      simp only [pieces]
      by_cases h10 : c = 10
      · subst h10; simp
      · rw [decide_eq_false h10]
        by_cases hc : c = q
        · subst hc; simp
        · rw [decide_eq_false hc]
          by_cases h92 : c = 92
          · rw [decide_eq_true h92]
            simp only [Bool.or_self]
            by_cases hd : d = 10
            · rw [decide_eq_true hd]; simp
            · rw [decide_eq_false hd]
              simp only [Bool.not_false, Bool.true_and, ih2]
              split
              · rename_i n _ hn; rw [hn]; omega
              · rename_i hn
                constructor
                · intro h5; exact absurd h5 (by intro h6; exact hn _ rfl h6)
                · intro h5; cases h5
          · rw [decide_eq_false h92]
            simp only [Bool.or_self]
            rw [ih1]
            split <;> omega
def punS : List Bs := [[91], [93], [40], [41], [123], [125], [46], [45, 62], [43, 43], [45, 45], [38], [42], [43], [45], [126], [33], [47], [37], [60, 60], [62, 62], [60], [62], [60, 61], [62, 61], [61, 61], [33, 61], [94], [124], [38, 38], [124, 124], [63], [58], [59], [46, 46, 46], [61], [42, 61], [47, 61], [37, 61], [43, 61], [45, 61], [60, 60, 61], [62, 62, 61], [38, 61], [94, 61], [124, 61], [44], [35], [35, 35], [60, 58], [58, 62], [60, 37], [37, 62], [37, 58], [37, 58, 37, 58]]
def isPun (t : Bs) : Bool := punS.contains t
def punDown : Nat → Bs → Nat
  | 0, _ => 0
  | n + 1, l => match isPun (l.take (n + 1)) with
    | true => n + 1
    | false => punDown n l
def punN (l : Bs) : Nat := punDown (min 4 l.length) l
def quoteB (c : Int) : Bool := decide (c = 39) || decide (c = 34)
def noPun (c : Int) : Bool := alnum c || quoteB c || decide (c = 10) || white c || decide (c = 92)
theorem pun_facts : ∀ t ∈ punS, (1 ≤ t.length ∧ t.length ≤ 4) ∧ t.all (fun c => !noPun c) = true ∧ (t.head? = some 46 → t.length = 1 ∨ t[1]? = some 46) := by decide
theorem isPun_mem {t : Bs} : isPun t = true ↔ t ∈ punS := by unfold isPun; simp
theorem punDown_le : ∀ (n : Nat) (l : Bs), punDown n l ≤ n
  | 0, _ => Nat.le_refl _
  | n + 1, l => by
    have := punDown_le n l
    simp only [punDown]; split <;> omega
theorem punDown_is : ∀ (n : Nat) (l : Bs), 0 < punDown n l → isPun (l.take (punDown n l)) = true
  | 0, _, h => by cases h
  | n + 1, l, h => by
    have ih := punDown_is n l
    simp only [punDown] at h ⊢
    split
    · assumption
    · rename_i hh; rw [hh] at h; exact ih h
theorem punDown_max : ∀ (n : Nat) (l : Bs) (m : Nat), m ≤ n → isPun (l.take m) = true → m ≤ punDown n l
  | 0, _, m, h, _ => h
  | n + 1, l, m, h, hp => by
    simp only [punDown]
    split
    · exact h
    · rename_i hh
      have hne : m ≠ n + 1 := fun e => by subst e; rw [hp] at hh; cases hh
      exact punDown_max n l m (by omega) hp
theorem punN_is {l : Bs} (h : 0 < punN l) : isPun (l.take (punN l)) = true := punDown_is _ l h
theorem punN_le (l : Bs) : punN l ≤ l.length := Nat.le_trans (punDown_le _ l) (Nat.min_le_right ..)
theorem punN_max {l : Bs} {m : Nat} (hm : m ≤ l.length) (h : isPun (l.take m) = true) : m ≤ punN l := by
  refine punDown_max _ l m ?_ h
  have := (pun_facts _ (isPun_mem.1 h)).1
  rw [List.length_take] at this
  omega
def prefN : Bs → Nat
  | [] => 0
  | c :: r => match decide (c = 117) && decide (r.head? = some 56) && decide (r[1]? = some 34) with
    | true => 2
    | false => match decide (c = 117) || decide (c = 85) || decide (c = 76) with
      | true => 1
      | false => 0
def litQ (l : Bs) : Int × Nat :=
  match l.drop (prefN l) with
  | [] => (0, 0)
  | q :: r =>
    if q = 34 then (match bodyN 34 r with
      | 0 => (0, 0)
      | n + 1 => (4, prefN l + 1 + (n + 1)))
    else if q = 39 then (match bodyN 39 r with
      | 0 => (0, 0)
      | 1 => (0, 0)
      | n + 2 => (3, prefN l + 1 + (n + 2)))
    else (0, 0)
def litAt (q : Int) (p t : Bs) : Bool :=
  decide (p.length + 2 ≤ t.length) && (decide (t.take p.length = p) && (decide (t[p.length]? = some q) && (decide (t[t.length - 1]? = some q) && pieces q ((t.take (t.length - 1)).drop (p.length + 1)))))
def isLit (q : Int) : List Bs → Bs → Bool
  | [], _ => false
  | p :: ps, t => match litAt q p t with
    | true => decide (q = 34) || decide (p.length + 2 < t.length)
    | false => isLit q ps t
def pre39 : List Bs := [[], [117], [85], [76]]
def pre34 : List Bs := [[], [117, 56], [117], [85], [76]]
def kindR (t : Bs) : Int :=
  if t = [10] then 9 else if isWord t then 1 else if isNum t then 2 else if isLit 39 pre39 t then 3 else if isLit 34 pre34 t then 4 else if isPun t then 5 else 0
theorem litAt_take {q : Int} {p l : Bs} {m : Nat} (hm : m ≤ l.length) (hq : q ≠ 92) (hq2 : q ≠ 10) :
    litAt q p (l.take m) = true ↔ l.take p.length = p ∧ l[p.length]? = some q ∧ 0 < bodyN q (l.drop (p.length + 1)) ∧ m = p.length + 1 + bodyN q (l.drop (p.length + 1)) := by
  have hl : (l.take m).length = m := by rw [List.length_take]; omega
  unfold litAt
  simp only [Bool.and_eq_true, decide_eq_true_eq, hl]
  constructor
  · rintro ⟨h1, h2, h3, h4, h5⟩
    rw [List.take_take, Nat.min_eq_left (by omega)] at h2
    rw [List.getElem?_take, if_pos (by omega)] at h3 h4
    have e : ((l.take m).take (m - 1)).drop (p.length + 1) = (l.drop (p.length + 1)).take (m - p.length - 2) := by
      rw [List.take_take, Nat.min_eq_left (by omega), List.drop_take]
      congr 1; omega
    rw [e] at h5
    have e2 : (l.drop (p.length + 1))[m - p.length - 2]? = some q := by
      rw [List.getElem?_drop, ← h4]; congr 1; omega
    have := (body_take q hq hq2 (l.drop (p.length + 1)) (m - p.length - 2) (by rw [List.length_drop]; omega)).1 ⟨h5, e2⟩
    exact ⟨h2, h3, by omega, by omega⟩
  · rintro ⟨h1, h2, h3, h4⟩
    have hb := bodyN_le q (l.drop (p.length + 1))
    rw [List.length_drop] at hb
    have := (body_take q hq hq2 (l.drop (p.length + 1)) (m - p.length - 2) (by rw [List.length_drop]; omega)).2 (by omega)
    refine ⟨by omega, ?_, ?_, ?_, ?_⟩
    · rw [List.take_take, Nat.min_eq_left (by omega)]; exact h1
    · rw [List.getElem?_take, if_pos (by omega)]; exact h2
    · rw [List.getElem?_take, if_pos (by omega), ← this.2, List.getElem?_drop]; congr 1; omega
    · have e : ((l.take m).take (m - 1)).drop (p.length + 1) = (l.drop (p.length + 1)).take (m - p.length - 2) := by
        rw [List.take_take, Nat.min_eq_left (by omega), List.drop_take]
        congr 1; omega
      rw [e]; exact this.1
theorem quote_getD {q c : Int} (h : q = 39 ∨ q = 34) (e : c = q) : quoteB c = true := by subst e; rcases h with rfl | rfl <;> rfl
theorem pref_of {q : Int} (hq : q = 39 ∨ q = 34) {p l : Bs} (hp : p ∈ pre34) (hp2 : p = [117, 56] → q = 34) (h1 : l.take p.length = p) (h2 : l[p.length]? = some q) : prefN l = p.length := by
  simp only [pre34, List.mem_cons, List.not_mem_nil, or_false] at hp
  match l, h1, h2 with
  | [], h1, h2 => simp at h2
  | c :: r, h1, h2 =>
    rcases hp with rfl | rfl | rfl | rfl | rfl
    · simp only [List.length_nil, List.getElem?_cons_zero, Option.some.injEq] at h2
      subst h2
      rcases hq with rfl | rfl <;> rfl
    · match r, h1, h2 with
      | [], h1, h2 => simp at h2
      | [d], h1, h2 => simp at h2
      | d :: e :: r, h1, h2 =>
        have := hp2 rfl
        subst this
        have e2 : e = 34 := by simpa using h2
        have e1 : c = 117 ∧ d = 56 := by simpa using h1
        rw [e2, e1.1, e1.2]; rfl
    all_goals
      simp only [List.length_cons, List.length_nil, Nat.zero_add, List.take_succ_cons, List.take_zero, List.cons.injEq, and_true] at h1
      subst h1
      simp only [List.length_cons, List.length_nil, Nat.zero_add, List.getElem?_cons_succ] at h2
      have h3 : ¬ r.head? = some 56 := by
        intro hh
        rw [List.head?_eq_getElem?, h2] at hh
        rcases hq with rfl | rfl <;> cases hh
      simp [prefN, h3]
theorem pref_mem (l : Bs) : ∃ p ∈ pre34, p.length = prefN l ∧ (∀ q, l[prefN l]? = some q → (q = 39 ∨ q = 34) → l.take (prefN l) = p ∧ (p = [117, 56] → q = 34)) := by
  match l with
  | [] => exact ⟨[], by simp [pre34], rfl, fun q h => by simp [prefN] at h⟩
  | c :: r =>
    simp only [prefN]
    split
    · rename_i h
      simp only [Bool.and_eq_true, decide_eq_true_eq] at h
      obtain ⟨⟨rfl, h2⟩, h3⟩ := h
      match r, h2, h3 with
      | [], h2, _ => simp at h2
      | [d], _, h3 => simp at h3
      | d :: e :: r, h2, h3 =>
        simp at h2 h3
        subst h2 h3
        refine ⟨[117, 56], by simp [pre34], rfl, fun q h hq => ⟨rfl, fun _ => ?_⟩⟩
        simp at h; exact h.symm
    · split
      · rename_i h
        simp only [Bool.or_eq_true, decide_eq_true_eq] at h
        refine ⟨[c], ?_, rfl, fun q _ _ => ⟨rfl, fun e => by cases e⟩⟩
        rcases h with (rfl | rfl) | rfl <;> simp [pre34]
      · exact ⟨[], by simp [pre34], rfl, fun q _ _ => ⟨rfl, fun e => by cases e⟩⟩
theorem isLit_take {q : Int} (hq : q = 39 ∨ q = 34) {l : Bs} {m : Nat} (hm : m ≤ l.length) : ∀ {ps : List Bs}, (∀ p ∈ ps, p ∈ pre34 ∧ (p = [117, 56] → q = 34)) →
    (isLit q ps (l.take m) = true ↔ (∃ p ∈ ps, l.take p.length = p ∧ p.length = prefN l) ∧ l[prefN l]? = some q ∧ 0 < bodyN q (l.drop (prefN l + 1)) ∧ m = prefN l + 1 + bodyN q (l.drop (prefN l + 1)) ∧ (q = 34 ∨ 1 < bodyN q (l.drop (prefN l + 1))))
  | [], _ => by simp [isLit]
  | p :: ps, hps => by
    have hq1 : q ≠ 92 := by rcases hq with rfl | rfl <;> decide
    have hq2 : q ≠ 10 := by rcases hq with rfl | rfl <;> decide
    have ih := isLit_take hq hm (ps := ps) (fun p' hp' => hps p' (List.mem_cons_of_mem _ hp'))
    have hl : (l.take m).length = m := by rw [List.length_take]; omega
    simp only [isLit]
    split
    · rename_i h
      rw [litAt_take hm hq1 hq2] at h
      obtain ⟨h1, h2, h3, h4⟩ := h
      obtain ⟨hp, hp2⟩ := hps p (List.mem_cons_self ..)
      have e := pref_of hq hp hp2 h1 h2
      rw [e]
      simp only [Bool.or_eq_true, decide_eq_true_eq, hl]
      constructor
      · intro h5
        refine ⟨⟨p, List.mem_cons_self .., h1, rfl⟩, h2, h3, h4, ?_⟩
        rcases h5 with h5 | h5
        · exact .inl h5
        · right; omega
      · rintro ⟨_, _, _, _, h5⟩
        rcases h5 with h5 | h5
        · exact .inl h5
        · right; omega
    · rename_i h
      rw [ih]
      constructor
      · rintro ⟨⟨p', hp', h1⟩, h2⟩
        exact ⟨⟨p', List.mem_cons_of_mem _ hp', h1⟩, h2⟩
      · rintro ⟨⟨p', hp', h1, h2⟩, h3⟩
        rcases List.mem_cons.1 hp' with rfl | hp'
        · exfalso
          rw [← h2] at h3
          have := (litAt_take (p := p') hm hq1 hq2).2 ⟨h1, h3.1, h3.2.1, h3.2.2.1⟩
          rw [this] at h; cases h
        · exact ⟨⟨p', hp', h1, h2⟩, h3⟩
theorem drop_cons_of {l : Bs} {k : Nat} {q : Int} (h : l[k]? = some q) : l.drop k = q :: l.drop (k + 1) := by
  obtain ⟨hk, rfl⟩ := List.getElem?_eq_some_iff.1 h
  exact List.drop_eq_getElem_cons hk
theorem drop_nil_of {l : Bs} {k : Nat} (h : l[k]? = none) : l.drop k = [] := List.drop_eq_nil_of_le (List.getElem?_eq_none_iff.1 h)
theorem lit39_take {l : Bs} {m : Nat} (hm : m ≤ l.length) : isLit 39 pre39 (l.take m) = true ↔ (litQ l).1 = 3 ∧ m = (litQ l).2 := by
  rw [isLit_take (.inl rfl) hm (by decide)]
  unfold litQ
  cases hd : l[prefN l]? with
  | none => rw [drop_nil_of hd]; simp
  | some q =>
    rw [drop_cons_of hd]
    simp only [Option.some.injEq]
    by_cases h34 : q = 34
    · subst h34
      simp only [if_true]
      constructor
      · rintro ⟨_, h, _⟩; cases h
      · rintro ⟨h, _⟩; split at h <;> cases h
    · rw [if_neg h34]
      by_cases h39 : q = 39
      · subst h39
        rw [if_pos rfl]
        constructor
        · rintro ⟨_, _, h1, h2, h3⟩
          have h3 : 1 < bodyN 39 (l.drop (prefN l + 1)) := by
            rcases h3 with h3 | h3
            · cases h3
            · exact h3
          split
          · omega
          · omega
          · rename_i n hn; exact ⟨rfl, by omega⟩
        · rintro ⟨h1, h2⟩
          split at h1
          · cases h1
          · cases h1
          · rename_i n hn
            rw [hn] at h2 ⊢
            simp only at h2
            obtain ⟨p, hp, e, hh⟩ := pref_mem l
            obtain ⟨e1, e2⟩ := hh 39 hd (.inl rfl)
            refine ⟨⟨p, ?_, by rw [e]; exact e1, e⟩, rfl, by omega, by omega, .inr (by omega)⟩
            simp only [pre34, List.mem_cons, List.not_mem_nil, or_false] at hp
            simp only [pre39, List.mem_cons, List.not_mem_nil, or_false]
            rcases hp with rfl | rfl | rfl | rfl | rfl
            · simp
            · have := e2 rfl; cases this
            · simp
            · simp
            · simp
      · rw [if_neg h39]
        constructor
        · rintro ⟨_, h, _⟩; exact absurd h h39
        · rintro ⟨h, _⟩; cases h
theorem lit34_take {l : Bs} {m : Nat} (hm : m ≤ l.length) : isLit 34 pre34 (l.take m) = true ↔ (litQ l).1 = 4 ∧ m = (litQ l).2 := by
  rw [isLit_take (.inr rfl) hm (by decide)]
  unfold litQ
  cases hd : l[prefN l]? with
  | none => rw [drop_nil_of hd]; simp
  | some q =>
    rw [drop_cons_of hd]
    simp only [Option.some.injEq]
    by_cases h34 : q = 34
    · subst h34
      simp only [if_true]
      constructor
      · rintro ⟨_, _, h1, h2, h3⟩
        split
        · omega
        · rename_i n hn; exact ⟨rfl, by omega⟩
      · rintro ⟨h1, h2⟩
        split at h1
        · cases h1
        · rename_i n hn
          rw [hn] at h2 ⊢
          simp only at h2
          obtain ⟨p, hp, e, hh⟩ := pref_mem l
          obtain ⟨e1, e2⟩ := hh 34 hd (.inr rfl)
          exact ⟨⟨p, hp, by rw [e]; exact e1, e⟩, by simp, by omega, by omega, by simp⟩
    · rw [if_neg h34]
      constructor
      · rintro ⟨_, h, _⟩; exact absurd h h34
      · rintro ⟨h, _⟩
        split at h
        · split at h <;> cases h
        · cases h
theorem litQ_facts (l : Bs) : ((litQ l).1 = 0 ∧ (litQ l).2 = 0) ∨ (((litQ l).1 = 3 ∨ (litQ l).1 = 4) ∧ 2 ≤ (litQ l).2 ∧ (litQ l).2 ≤ l.length ∧ prefN l + 2 ≤ (litQ l).2 ∧ ∃ q, (q = 39 ∨ q = 34) ∧ l[prefN l]? = some q) := by
  unfold litQ
  cases hd : l[prefN l]? with
  | none => rw [drop_nil_of hd]; exact .inl ⟨rfl, rfl⟩
  | some q =>
    rw [drop_cons_of hd]
    have hk := (List.getElem?_eq_some_iff.1 hd).1
    have hb := bodyN_le q (l.drop (prefN l + 1))
    rw [List.length_drop] at hb
    by_cases h34 : q = 34
    · subst h34
      simp only [if_true]
      split
      · exact .inl ⟨rfl, rfl⟩
      · rename_i n hn
        exact .inr ⟨.inr rfl, by show 2 ≤ prefN l + 1 + (n + 1); omega, by show prefN l + 1 + (n + 1) ≤ _; omega, by show _ ≤ prefN l + 1 + (n + 1); omega, 34, .inr rfl, rfl⟩
    · simp only [if_neg h34]
      by_cases h39 : q = 39
      · subst h39
        simp only [if_true]
        split
        · exact .inl ⟨rfl, rfl⟩
        · exact .inl ⟨rfl, rfl⟩
        · rename_i n hn
          exact .inr ⟨.inl rfl, by show 2 ≤ prefN l + 1 + (n + 2); omega, by show prefN l + 1 + (n + 2) ≤ _; omega, by show _ ≤ prefN l + 1 + (n + 2); omega, 39, .inl rfl, rfl⟩
      · simp only [if_neg h39]
        exact .inl (by simp)
def bestL (l : Bs) : Int × Nat :=
  if 0 < (litQ l).2 then litQ l else if 0 < wordN l then (1, wordN l) else if 0 < numN l then (2, numN l) else if 0 < punN l then (5, punN l) else (0, 0)
def bestG (l : Bs) : Int × Nat :=
  let a := if 0 < (litQ l).2 then litQ l else (0, 0)
  let b := if a.2 < wordN l then (1, wordN l) else a
  let c := if b.2 < numN l then (2, numN l) else b
  if c.2 < punN l then (5, punN l) else c
theorem letter_cases {c : Int} (h : letter c = true) : (97 ≤ c ∧ c ≤ 122) ∨ (65 ≤ c ∧ c ≤ 90) ∨ c = 95 := by
  unfold letter at h
  simp only [Bool.or_eq_true, Bool.and_eq_true, decide_eq_true_eq] at h
  omega
theorem digit_cases {c : Int} (h : digit c = true) : 48 ≤ c ∧ c ≤ 57 := by
  unfold digit at h
  simpa only [Bool.and_eq_true, decide_eq_true_eq] using h
theorem wordN_head {l : Bs} (h : 0 < wordN l) : ∃ c r, l = c :: r ∧ letter c = true := by
  cases l with
  | nil => cases h
  | cons c r =>
    cases hc : letter c with
    | true => exact ⟨c, r, rfl, hc⟩
    | false => simp [wordN, hc] at h
theorem numN_head {l : Bs} (h : 0 < numN l) : ∃ c r, l = c :: r ∧ (digit c = true ∨ (c = 46 ∧ ∃ d r', r = d :: r' ∧ digit d = true ∧ 2 ≤ numN l)) := by
  cases l with
  | nil => cases h
  | cons c r =>
    refine ⟨c, r, rfl, ?_⟩
    cases hc : digit c with
    | true => exact .inl rfl
    | false =>
      right
      simp only [numN, hc] at h ⊢
      by_cases h46 : c = 46
      · rw [decide_eq_true h46] at h ⊢
        cases r with
        | nil => cases h
        | cons d r' =>
          simp only at h ⊢
          cases hd : digit d with
          | true => exact ⟨h46, d, r', rfl, hd, by simp⟩
          | false => rw [hd] at h; cases h
      · rw [decide_eq_false h46] at h
        simp at h
theorem punN_head {l : Bs} (h : 0 < punN l) : ∃ c r, l = c :: r ∧ noPun c = false ∧ (c = 46 → punN l = 1 ∨ r.head? = some 46) := by
  have h1 := punN_is h
  have h2 := pun_facts _ (isPun_mem.1 h1)
  cases l with
  | nil => simp at h2
  | cons c r =>
    obtain ⟨k, hk⟩ : ∃ k, punN (c :: r) = k + 1 := ⟨punN (c :: r) - 1, by omega⟩
    have hle := punN_le (c :: r)
    rw [hk] at h1 h2 hle ⊢
    simp only [List.length_cons, Nat.add_le_add_iff_right] at hle
    simp only [List.take_succ_cons, List.all_cons, Bool.and_eq_true, Bool.not_eq_true', List.head?_cons, Option.some.injEq, List.length_cons, List.length_take, List.getElem?_cons_succ] at h2
    refine ⟨c, r, rfl, h2.2.1.1, fun hc => ?_⟩
    rcases h2.2.2 hc with h3 | h3
    · left; omega
    · right
      rw [List.getElem?_take] at h3
      split at h3
      · rw [List.head?_eq_getElem?]; exact h3
      · cases h3
theorem prefN_head (c : Int) (r : Bs) : prefN (c :: r) = 0 ∨ ((c = 117 ∨ c = 85 ∨ c = 76) ∧ prefN (c :: r) ≤ 2 ∧ 1 ≤ prefN (c :: r)) := by
  simp only [prefN]
  split
  · rename_i h
    simp only [Bool.and_eq_true, decide_eq_true_eq] at h
    exact .inr ⟨.inl h.1.1, Nat.le_refl _, by omega⟩
  · split
    · rename_i h
      simp only [Bool.or_eq_true, decide_eq_true_eq] at h
      refine .inr ⟨?_, by omega, Nat.le_refl _⟩
      rcases h with (h | h) | h
      · exact .inl h
      · exact .inr (.inl h)
      · exact .inr (.inr h)
    · exact .inl rfl
theorem lit_head {l : Bs} (h : 0 < (litQ l).2) : ∃ c r, l = c :: r ∧ (quoteB c = true ∨ c = 117 ∨ c = 85 ∨ c = 76) := by
  rcases litQ_facts l with ⟨_, h0⟩ | ⟨_, _, _, _, q, hq, hl⟩
  · omega
  · cases l with
    | nil => simp at hl
    | cons c r =>
      refine ⟨c, r, rfl, ?_⟩
      rcases prefN_head c r with h1 | ⟨h1, _⟩
      · rw [h1] at hl
        simp at hl
        exact .inl (quote_getD hq hl)
      · exact .inr h1
theorem noPun_quote {c : Int} (h : quoteB c = true) : noPun c = true := by unfold noPun; rw [h]; simp
theorem noPun_letter {c : Int} (h : letter c = true) : noPun c = true := by unfold noPun alnum; rw [h]; simp
theorem noPun_digit {c : Int} (h : digit c = true) : noPun c = true := by unfold noPun alnum; rw [h]; simp
theorem quote_cases {c : Int} (h : quoteB c = true) : c = 39 ∨ c = 34 := by
  unfold quoteB at h
  simpa only [Bool.or_eq_true, decide_eq_true_eq] using h
theorem lit_num {l : Bs} (h : 0 < (litQ l).2) : numN l = 0 := by
  obtain ⟨c, r, rfl, hc⟩ := lit_head h
  rcases Nat.eq_zero_or_pos (numN (c :: r)) with h0 | h0
  · exact h0
  · obtain ⟨c', r', e, h1⟩ := numN_head h0
    cases e
    exfalso
    have hcc : c = 39 ∨ c = 34 ∨ c = 117 ∨ c = 85 ∨ c = 76 := by
      rcases hc with hc | hc
      · rcases quote_cases hc with hc | hc
        · exact .inl hc
        · exact .inr (.inl hc)
      · exact .inr (.inr hc)
    rcases h1 with h1 | ⟨h1, _⟩
    · have := digit_cases h1; omega
    · omega
theorem lit_pun {l : Bs} (h : 0 < (litQ l).2) : punN l = 0 := by
  obtain ⟨c, r, rfl, hc⟩ := lit_head h
  rcases Nat.eq_zero_or_pos (punN (c :: r)) with h0 | h0
  · exact h0
  · obtain ⟨c', r', e, h1, _⟩ := punN_head h0
    cases e
    exfalso
    have : noPun c = true := by
      rcases hc with hc | hc
      · exact noPun_quote hc
      · apply noPun_letter
        unfold letter
        simp only [Bool.or_eq_true, Bool.and_eq_true, decide_eq_true_eq]
        omega
    rw [this] at h1; cases h1
theorem word_num {l : Bs} (h : 0 < wordN l) : numN l = 0 := by
  obtain ⟨c, r, rfl, hc⟩ := wordN_head h
  rcases Nat.eq_zero_or_pos (numN (c :: r)) with h0 | h0
  · exact h0
  · obtain ⟨c', r', e, h1⟩ := numN_head h0
    cases e
    exfalso
    have := letter_cases hc
    rcases h1 with h1 | ⟨h1, _⟩
    · have := digit_cases h1; omega
    · omega
theorem word_pun {l : Bs} (h : 0 < wordN l) : punN l = 0 := by
  obtain ⟨c, r, rfl, hc⟩ := wordN_head h
  rcases Nat.eq_zero_or_pos (punN (c :: r)) with h0 | h0
  · exact h0
  · obtain ⟨c', r', e, h1, _⟩ := punN_head h0
    cases e
    rw [noPun_letter hc] at h1; cases h1
theorem num_pun {l : Bs} (h : 0 < numN l) : punN l < numN l := by
  obtain ⟨c, r, rfl, h1⟩ := numN_head h
  rcases Nat.eq_zero_or_pos (punN (c :: r)) with h0 | h0
  · omega
  · obtain ⟨c', r', e, h2, h3⟩ := punN_head h0
    cases e
    rcases h1 with h1 | ⟨h1, d, r', rfl, hd, h5⟩
    · rw [noPun_digit h1] at h2; cases h2
    · rcases h3 h1 with h4 | h4
      · omega
      · simp at h4
        subst h4
        cases hd
theorem lit_word {l : Bs} (h : 0 < (litQ l).2) : wordN l < (litQ l).2 := by
  rcases litQ_facts l with ⟨_, h0⟩ | ⟨_, h2, h3, h4, q, hq, hl⟩
  · omega
  · rcases Nat.lt_or_ge (prefN l) (wordN l) with hlt | hge
    · exfalso
      have := (isWord_take (l := l) (m := prefN l + 1) (by have := (List.getElem?_eq_some_iff.1 hl).1; omega)).2 ⟨by omega, hlt⟩
      have hk := (List.getElem?_eq_some_iff.1 hl).1
      have hm : q ∈ l.take (prefN l + 1) := by
        rw [List.take_add_one, hl]; simp
      have hall : ∀ x ∈ l.take (prefN l + 1), alnum x = true := by
        intro x hx
        cases l with
        | nil => simp at hx
        | cons c r =>
          simp only [List.take_succ_cons, isWord, Bool.and_eq_true, List.all_eq_true] at this hx
          rcases List.mem_cons.1 hx with rfl | hx
          · unfold alnum; rw [this.1]; rfl
          · exact this.2 x hx
      have := hall q hm
      rcases hq with rfl | rfl <;> cases this
    · omega
theorem bestG_eq (l : Bs) : bestG l = bestL l := by
  unfold bestG bestL
  by_cases h1 : 0 < (litQ l).2
  · have a1 := lit_num h1
    have a2 := lit_pun h1
    have a3 := lit_word h1
    simp only [if_pos h1, if_neg (show ¬ (litQ l).2 < wordN l by omega), a1, a2, Nat.not_lt_zero, if_false]
  · simp only [if_neg h1]
    by_cases h2 : 0 < wordN l
    · have a1 := word_num h2
      have a2 := word_pun h2
      simp only [if_pos h2, a1, a2, Nat.not_lt_zero, if_false]
    · simp only [if_neg h2]
      by_cases h3 : 0 < numN l
      · have := num_pun h3
        simp only [if_pos h3, if_neg (show ¬ numN l < punN l by omega)]
      · simp only [if_neg h3]
theorem bestL_le (l : Bs) : (bestL l).2 ≤ l.length := by
  unfold bestL
  have h1 := wordN_le l
  have h2 := numN_le l
  have h3 := punN_le l
  split
  · rcases litQ_facts l with ⟨_, h0⟩ | ⟨_, h2, h3, _⟩ <;> omega
  · split
    · exact h1
    · split
      · exact h2
      · split
        · exact h3
        · exact Nat.zero_le _
theorem bestL_zero (l : Bs) : (bestL l).1 = 0 ↔ (bestL l).2 = 0 := by
  unfold bestL
  split
  · rename_i h
    rcases litQ_facts l with ⟨_, h0⟩ | ⟨h1, h2, _⟩
    · omega
    · constructor
      · intro h3; rw [h3] at h1; omega
      · intro h3; omega
  · split
    · simp; omega
    · split
      · simp; omega
      · split
        · simp; omega
        · simp
theorem kindR_take {l : Bs} {m : Nat} (hm : m ≤ l.length) (hl : l.head? ≠ some 10) :
    (∀ k, kindR (l.take m) = k → k ≠ 0 → 0 < m ∧ m ≤ (bestL l).2) ∧ (0 < m → m = (bestL l).2 → kindR (l.take m) = (bestL l).1) := by
  have hno : ¬ l.take m = [10] := by
    intro h
    apply hl
    cases l with
    | nil => simp at h
    | cons c r =>
      cases m with
      | zero => simp at h
      | succ m => simp at h; rw [h.1]; rfl
  have w := isWord_take hm
  have n := isNum_take hm
  have q3 := lit39_take hm
  have q4 := lit34_take hm
  have pm := punN_max hm
  have lf := litQ_facts l
  unfold kindR
  rw [if_neg hno]
  constructor
  · intro k hk hk0
    unfold bestL
    split at hk
    · rename_i h
      have h1 := w.1 h
      split
      · have := lit_word (by assumption : 0 < (litQ l).2); omega
      · rw [if_pos (by omega)]; exact h1
    · split at hk
      · rename_i h
        have h1 := n.1 h
        have h2 : numS l ≥ 1 := by
          cases l with
          | nil => simp [numN] at h1
          | cons c r => simp only [numS]; split <;> omega
        split
        · have := lit_num (by assumption : 0 < (litQ l).2); omega
        · split
          · have := word_num (by assumption : 0 < wordN l); omega
          · rw [if_pos h1.1]; exact ⟨by omega, h1.2.2⟩
      · split at hk
        · rename_i h
          obtain ⟨h1, h2⟩ := q3.1 h
          have : 0 < (litQ l).2 := by rcases lf with ⟨h0, _⟩ | ⟨_, h0, _⟩ <;> omega
          rw [if_pos this]; exact ⟨by omega, by omega⟩
        · split at hk
          · rename_i h
            obtain ⟨h1, h2⟩ := q4.1 h
            have : 0 < (litQ l).2 := by rcases lf with ⟨h0, _⟩ | ⟨_, h0, _⟩ <;> omega
            rw [if_pos this]; exact ⟨by omega, by omega⟩
          · split at hk
            · rename_i h
              have h1 := pm h
              have h2 := (pun_facts _ (isPun_mem.1 h)).1
              rw [List.length_take] at h2
              split
              · have := lit_pun (by assumption : 0 < (litQ l).2); omega
              · split
                · have := word_pun (by assumption : 0 < wordN l); omega
                · split
                  · have := num_pun (by assumption : 0 < numN l); exact ⟨by omega, by show m ≤ numN l; omega⟩
                  · rw [if_pos (by omega)]; exact ⟨by omega, h1⟩
            · exact absurd hk.symm hk0
  · intro h0 e
    unfold bestL at e ⊢
    by_cases c1 : 0 < (litQ l).2
    · rw [if_pos c1] at e ⊢
      have a1 := lit_word c1
      have a2 := lit_num c1
      rw [if_neg (fun h => by have := w.1 h; omega), if_neg (fun h => by have := n.1 h; omega)]
      rcases lf with ⟨_, h⟩ | ⟨h, _⟩
      · omega
      · rcases h with h | h
        · rw [if_pos (q3.2 ⟨h, e⟩), h]
        · rw [if_neg (fun h' => by have := (q3.1 h').1; omega), if_pos (q4.2 ⟨h, e⟩), h]
    · rw [if_neg c1] at e ⊢
      by_cases c2 : 0 < wordN l
      · rw [if_pos c2] at e ⊢
        rw [if_pos (w.2 ⟨by omega, by have : m = wordN l := e; omega⟩)]
      · rw [if_neg c2] at e ⊢
        rw [if_neg (fun h => by have := w.1 h; omega)]
        by_cases c3 : 0 < numN l
        · rw [if_pos c3] at e ⊢
          have e : m = numN l := e
          rw [if_pos (n.2 ⟨c3, ?_, by omega⟩)]
          obtain ⟨c, r, rfl, h1⟩ := numN_head c3
          simp only [numS]
          split
          · omega
          · rename_i hd
            rcases h1 with h1 | ⟨_, _, _, _, _, h5⟩
            · rw [h1] at hd; cases hd
            · omega
        · rw [if_neg c3] at e ⊢
          rw [if_neg (fun h => by have := (n.1 h).1; omega)]
          have hq0 : (litQ l).2 = 0 := by omega
          rw [if_neg (fun h => by have := (q3.1 h).2; omega), if_neg (fun h => by have := (q4.1 h).2; omega)]
          by_cases c4 : 0 < punN l
          · rw [if_pos c4] at e ⊢
            have e : m = punN l := e
            rw [if_pos (by rw [e]; exact punN_is c4)]
          · rw [if_neg c4] at e
            have e : m = 0 := e
            omega
def hdrGo (close : Int) : Bs → Nat
  | [] => 0
  | c :: r => match decide (c = 10) with
    | true => 0
    | false => match decide (c = close) with
      | true => 1
      | false => match hdrGo close r with
        | 0 => 0
        | n + 1 => n + 2
def hdrN : Bs → Nat
  | [] => 0
  | c :: r =>
    if c = 60 then (match hdrGo 62 r with
      | 0 => 0
      | n + 1 => n + 2)
    else if c = 34 then (match hdrGo 34 r with
      | 0 => 0
      | n + 1 => n + 2)
    else 0
def endC : Bs → Nat
  | [] => 0
  | [_] => 0
  | a :: b :: r => match decide (a = 42) && decide (b = 47) with
    | true => 2
    | false => match endC (b :: r) with
      | 0 => 0
      | n + 1 => n + 2
def notNl (c : Int) : Bool := !decide (c = 10)
structure Item where
  kind : Int
  len : Nat
  err : Int
  deriving DecidableEq
def isOpen (l : Bs) : Bool := decide (l.take 2 = [47, 42])
def isLine (l : Bs) : Bool := decide (l.take 2 = [47, 47])
def qHead : Bs → Bool
  | c :: _ => quoteB c
  | [] => false
def itemP (hdr : Bool) (l : Bs) : Item :=
  if hdr = true ∧ 0 < hdrN l then ⟨7, hdrN l, 0⟩
  else if isOpen l = true then (match endC (l.drop 2) with
    | 0 => ⟨0, 0, 20⟩
    | n + 1 => ⟨8, n + 3, 0⟩)
  else if isLine l = true then ⟨8, run notNl l, 0⟩
  else if l.head? = some 10 then ⟨9, 1, 0⟩
  else if (bestL l).1 ≠ 0 then ⟨(bestL l).1, (bestL l).2, 0⟩
  else if qHead l = true then ⟨0, 0, 21⟩
  else ⟨6, 1, 0⟩
theorem hdrGo_le (q : Int) : ∀ l : Bs, hdrGo q l ≤ l.length
  | [] => Nat.le_refl _
  | c :: r => by
    have := hdrGo_le q r
    simp only [hdrGo, List.length_cons]
    split
    · omega
    · split
      · omega
      · split <;> omega
theorem hdrN_le (l : Bs) : hdrN l ≤ l.length := by
  cases l with
  | nil => exact Nat.le_refl _
  | cons c r =>
    have h1 := hdrGo_le 62 r
    have h2 := hdrGo_le 34 r
    simp only [hdrN, List.length_cons]
    split
    · split <;> omega
    · split
      · split <;> omega
      · omega
theorem endC_le : ∀ l : Bs, endC l ≤ l.length
  | [] => Nat.le_refl _
  | [_] => Nat.zero_le _
  | a :: b :: r => by
    have := endC_le (b :: r)
    simp only [List.length_cons] at this ⊢
    simp only [endC]
    split
    · omega
    · split <;> omega
theorem itemP_le (hdr : Bool) {l : Bs} (hl : l ≠ []) : (itemP hdr l).len ≤ l.length ∧ ((itemP hdr l).err = 0 → 1 ≤ (itemP hdr l).len) := by
  have hpos : 1 ≤ l.length := by
    cases l with
    | nil => exact absurd rfl hl
    | cons => simp
  unfold itemP
  split
  · rename_i h; exact ⟨hdrN_le l, fun _ => h.2⟩
  · split
    · rename_i h
      have h1 := endC_le (l.drop 2)
      rw [List.length_drop] at h1
      split
      · exact ⟨Nat.zero_le _, fun h => by cases h⟩
      · rename_i n hn
        exact ⟨by show n + 3 ≤ _; omega, fun _ => by show 1 ≤ n + 3; omega⟩
    · split
      · rename_i h
        refine ⟨run_le _ l, fun _ => ?_⟩
        simp only [isLine, decide_eq_true_eq] at h
        match l, h with
        | a :: b :: r, h =>
          simp at h
          obtain ⟨rfl, rfl⟩ := h
          simp [run, notNl]
        | [a], h => simp at h
      · split
        · exact ⟨hpos, fun _ => Nat.le_refl _⟩
        · split
          · rename_i h
            refine ⟨bestL_le l, fun _ => ?_⟩
            have : (bestL l).2 ≠ 0 := fun hh => h ((bestL_zero l).2 hh)
            show 1 ≤ (bestL l).2
            omega
          · split
            · exact ⟨Nat.zero_le _, fun h => by cases h⟩
            · exact ⟨hpos, fun _ => Nat.le_refl _⟩
def after (st kind : Int) (t : Bs) : Int :=
  if kind = 8 then st else if kind = 9 then 0
  else if st = 0 ∧ kind = 5 ∧ (t = [35] ∨ t = [37, 58]) then 1
  else if st = 1 ∧ kind = 1 ∧ t = [105, 110, 99, 108, 117, 100, 101] then 2 else 3
structure Tk where
  kind : Int
  lo : Nat
  hi : Nat
  err : Int
  deriving DecidableEq
def itemsF : Nat → Int → Nat → Bs → List Tk
  | 0, _, _, _ => []
  | _ + 1, _, _, [] => []
  | n + 1, st, i, c :: r =>
    match white c with
    | true => itemsF n st (i + 1) r
    | false =>
      if (itemP (decide (st = 2)) (c :: r)).err ≠ 0 then [⟨0, 0, 0, (itemP (decide (st = 2)) (c :: r)).err⟩]
      else ⟨(itemP (decide (st = 2)) (c :: r)).kind, i, i + (itemP (decide (st = 2)) (c :: r)).len, 0⟩ ::
        itemsF n (after st (itemP (decide (st = 2)) (c :: r)).kind ((c :: r).take (itemP (decide (st = 2)) (c :: r)).len)) (i + (itemP (decide (st = 2)) (c :: r)).len) ((c :: r).drop (itemP (decide (st = 2)) (c :: r)).len)
def itemsL (l : Bs) : List Tk := itemsF l.length 0 0 l
theorem itemsF_fuel : ∀ (n m : Nat) (st : Int) (i : Nat) (l : Bs), l.length ≤ n → l.length ≤ m → itemsF n st i l = itemsF m st i l
  | 0, 0, _, _, _, _, _ => rfl
  | 0, m + 1, _, _, l, h, _ => by
    have : l = [] := List.eq_nil_of_length_eq_zero (by omega)
    subst this; rfl
  | n + 1, 0, _, _, l, _, h => by
    have : l = [] := List.eq_nil_of_length_eq_zero (by omega)
    subst this; rfl
  | n + 1, m + 1, st, i, [], _, _ => rfl
  | n + 1, m + 1, st, i, c :: r, h1, h2 => by
    simp only [List.length_cons] at h1 h2
    simp only [itemsF]
    split
    · exact itemsF_fuel n m _ _ r (by omega) (by omega)
    · split
      · rfl
      · rename_i h
        have hle := itemP_le (decide (st = 2)) (l := c :: r) (by simp)
        have h3 := hle.2 (by simpa using h)
        rw [itemsF_fuel n m _ _ _ (by rw [List.length_drop, List.length_cons]; omega) (by rw [List.length_drop, List.length_cons]; omega)]
def chain : Nat → Nat → List Tk → Prop
  | i, n, [] => i ≤ n
  | i, n, t :: r => (t.err = 0 ∧ i ≤ t.lo ∧ t.lo < t.hi ∧ t.hi ≤ n ∧ chain t.hi n r) ∨ (t.err ≠ 0 ∧ r = [])
theorem chain_weaken : ∀ {xs : List Tk} {i j n : Nat}, j ≤ i → chain i n xs → chain j n xs
  | [], _, _, _, h, hc => Nat.le_trans h hc
  | _ :: _, _, _, _, h, hc => by
    rcases hc with ⟨h1, h2, h3⟩ | h1
    · exact .inl ⟨h1, by omega, h3⟩
    · exact .inr h1
theorem itemsF_chain : ∀ (n : Nat) (st : Int) (i : Nat) (l : Bs), chain i (i + l.length) (itemsF n st i l)
  | 0, _, i, l => Nat.le_add_right ..
  | n + 1, st, i, [] => Nat.le_refl _
  | n + 1, st, i, c :: r => by
    simp only [itemsF]
    split
    · have := itemsF_chain n st (i + 1) r
      rw [List.length_cons, show i + (r.length + 1) = i + 1 + r.length by omega]
      exact chain_weaken (Nat.le_succ i) this
    · split
      · rename_i h
        exact .inr ⟨h, rfl⟩
      · rename_i h
        have hle := itemP_le (decide (st = 2)) (l := c :: r) (by simp)
        have h3 := hle.2 (by simpa using h)
        have := itemsF_chain n (after st (itemP (decide (st = 2)) (c :: r)).kind ((c :: r).take (itemP (decide (st = 2)) (c :: r)).len)) (i + (itemP (decide (st = 2)) (c :: r)).len) ((c :: r).drop (itemP (decide (st = 2)) (c :: r)).len)
        rw [List.length_drop, show i + (itemP (decide (st = 2)) (c :: r)).len + ((c :: r).length - (itemP (decide (st = 2)) (c :: r)).len) = i + (c :: r).length by omega] at this
        exact .inl ⟨rfl, Nat.le_refl _, by show i < i + _; omega, by show i + _ ≤ _; omega, this⟩
theorem run_take (p : Int → Bool) : ∀ (l : Bs) (n : Nat), run p l ≤ n → run p (l.take n) = run p l
  | [], n, _ => by simp
  | c :: r, 0, h => by
    simp only [run] at h ⊢
    cases hc : p c with
    | true => rw [hc] at h; simp at h
    | false => rfl
  | c :: r, n + 1, h => by
    simp only [List.take_succ_cons, run] at h ⊢
    cases hc : p c with
    | true => rw [hc] at h; simp at h; simp only [run_take p r n h]
    | false => rfl
theorem head_take {l : Bs} {n : Nat} (hn : 0 < n) : (l.take n).head? = l.head? := by
  cases l with
  | nil => simp
  | cons c r =>
    cases n with
    | zero => omega
    | succ n => rfl
theorem bestL_take {l : Bs} {n : Nat} (hl : l.head? ≠ some 10) (hn : (bestL l).2 ≤ n) (hn0 : 0 < n) : bestL (l.take n) = bestL l := by
  rcases Nat.lt_or_ge l.length n with hlt | hge
  · rw [List.take_of_length_le (by omega)]
  have hl' : (l.take n).head? ≠ some 10 := by rw [head_take hn0]; exact hl
  have hlen : (l.take n).length = n := by rw [List.length_take]; omega
  obtain ⟨k1, k2⟩ := kindR_take (l := l) (m := (bestL l).2) (bestL_le l) hl
  obtain ⟨j1, j2⟩ := kindR_take (l := l.take n) (m := (bestL (l.take n)).2) (bestL_le _) hl'
  have e1 : (l.take n).take (bestL l).2 = l.take (bestL l).2 := by rw [List.take_take, Nat.min_eq_left hn]
  have hle := bestL_le (l.take n)
  rw [hlen] at hle
  have e2 : (l.take n).take (bestL (l.take n)).2 = l.take (bestL (l.take n)).2 := by rw [List.take_take, Nat.min_eq_left hle]
  have a1 : (bestL l).2 ≤ (bestL (l.take n)).2 := by
    rcases Nat.eq_zero_or_pos (bestL l).2 with h0 | h0
    · omega
    · have hk := k2 h0 rfl
      have hb : (bestL l).1 ≠ 0 := fun hh => by have := (bestL_zero l).1 hh; omega
      exact ((kindR_take (l := l.take n) (m := (bestL l).2) (by omega) hl').1 _ rfl (by rw [e1, hk]; exact hb)).2
  have a2 : (bestL (l.take n)).2 ≤ (bestL l).2 := by
    rcases Nat.eq_zero_or_pos (bestL (l.take n)).2 with h0 | h0
    · omega
    · have hk := j2 h0 rfl
      rw [e2] at hk
      have hb : (bestL (l.take n)).1 ≠ 0 := fun hh => by have := (bestL_zero (l.take n)).1 hh; omega
      exact ((kindR_take (l := l) (m := (bestL (l.take n)).2) (by omega) hl).1 _ rfl (by rw [hk]; exact hb)).2
  have e : (bestL (l.take n)).2 = (bestL l).2 := by omega
  rcases Nat.eq_zero_or_pos (bestL l).2 with h0 | h0
  · exact Prod.ext (by rw [(bestL_zero l).2 h0, (bestL_zero (l.take n)).2 (by omega)]) e
  · have hk := k2 h0 rfl
    have hk2 := j2 (by omega) rfl
    rw [e2, e, hk] at hk2
    exact Prod.ext hk2.symm e
theorem endC_take : ∀ (l : Bs) (n : Nat), 0 < endC l → endC l ≤ n → endC (l.take n) = endC l
  | [], _, h, _ => by cases h
  | [_], _, h, _ => by cases h
  | a :: b :: r, n, h, hn => by
    have hle : 2 ≤ endC (a :: b :: r) := by
      simp only [endC] at h ⊢
      split
      · omega
      · split
        · rename_i h1 _ h2; rw [h1] at h; simp only [h2] at h; omega
        · omega
    obtain ⟨k, rfl⟩ : ∃ k, n = k + 2 := ⟨n - 2, by omega⟩
    simp only [List.take_succ_cons]
    simp only [endC] at h hn ⊢
    cases hc : (decide (a = 42) && decide (b = 47)) with
    | true => rfl
    | false =>
      rw [hc] at h hn
      simp only at h hn ⊢
      have e : (b :: r).take (k + 1) = b :: r.take k := rfl
      rw [← e]
      rcases Nat.eq_zero_or_pos (endC (b :: r)) with h0 | h0
      · rw [h0] at h; cases h
      · have := endC_take (b :: r) (k + 1) h0 (by
          cases hm : endC (b :: r) with
          | zero => omega
          | succ m => rw [hm] at hn; simp only at hn; omega)
        rw [this]
theorem take2_take {l : Bs} {n : Nat} (hn : 2 ≤ n) : (l.take n).take 2 = l.take 2 := by rw [List.take_take, Nat.min_eq_left hn]
theorem itemP_take {l : Bs} {n : Nat} (hl : l ≠ []) (he : (itemP false l).err = 0) (hn : (itemP false l).len ≤ n) : itemP false (l.take n) = itemP false l := by
  have h1 := (itemP_le false hl).2 he
  have hn0 : 0 < n := by omega
  rcases Nat.lt_or_ge l.length n with hlt | hge
  · rw [List.take_of_length_le (by omega)]
  have hlen : (l.take n).length = n := by rw [List.length_take]; omega
  have hhead : (l.take n).head? = l.head? := head_take hn0
  by_cases ho : isOpen l = true
  · have e : itemP false l = (match endC (l.drop 2) with
      | 0 => ⟨0, 0, 20⟩
      | n + 1 => ⟨8, n + 3, 0⟩) := by
      unfold itemP; rw [if_neg (by simp), if_pos ho]
    rw [e] at he hn ⊢
    cases hm : endC (l.drop 2) with
    | zero => rw [hm] at he; cases he
    | succ m =>
      rw [hm] at hn
      have hn : m + 3 ≤ n := hn
      have ho' : isOpen (l.take n) = true := by
        unfold isOpen at ho ⊢; rw [take2_take (by omega)]; exact ho
      unfold itemP
      rw [if_neg (by simp), if_pos ho', List.drop_take, endC_take _ _ (by omega) (by omega), hm]
  · by_cases hs : isLine l = true
    · have e : itemP false l = ⟨8, run notNl l, 0⟩ := by
        unfold itemP; rw [if_neg (by simp), if_neg ho, if_pos hs]
      rw [e] at hn ⊢
      have hn : run notNl l ≤ n := hn
      have hr : 2 ≤ run notNl l := by
        simp only [isLine, decide_eq_true_eq] at hs
        match l, hs with
        | a :: b :: r, h =>
          simp at h
          obtain ⟨rfl, rfl⟩ := h
          simp [run, notNl]
        | [a], h => simp at h
        | [], h => simp at h
      have ho' : ¬ isOpen (l.take n) = true := by
        unfold isOpen at ho ⊢; rw [take2_take (by omega)]; exact ho
      have hs' : isLine (l.take n) = true := by
        unfold isLine at hs ⊢; rw [take2_take (by omega)]; exact hs
      unfold itemP
      rw [if_neg (by simp), if_neg ho', if_pos hs', run_take _ _ _ hn]
    · -- neither: no shorter text is one
      have two : ∀ x : Bs, x.length = 2 → (l.take n).take 2 = x → l.take 2 = x := by
        intro x hx hh
        rcases Nat.lt_or_ge n 2 with h2 | h2
        · rw [List.take_take, Nat.min_eq_right (by omega)] at hh
          have : x.length = n := by rw [← hh, hlen]
          omega
        · rw [take2_take h2] at hh; exact hh
      have ho' : ¬ isOpen (l.take n) = true := fun hh => ho (by
        unfold isOpen at hh ⊢
        rw [decide_eq_true_eq] at hh ⊢
        exact two _ rfl hh)
      have hs' : ¬ isLine (l.take n) = true := fun hh => hs (by
        unfold isLine at hh ⊢
        rw [decide_eq_true_eq] at hh ⊢
        exact two _ rfl hh)
      by_cases hnl : l.head? = some 10
      · unfold itemP
        rw [if_neg (by simp), if_neg ho', if_neg hs', if_pos (by rw [hhead]; exact hnl), if_neg (by simp), if_neg ho, if_neg hs, if_pos hnl]
      · have hb : (bestL l).2 ≤ n := by
          by_cases hb : (bestL l).1 ≠ 0
          · have e : itemP false l = ⟨(bestL l).1, (bestL l).2, 0⟩ := by
              unfold itemP; rw [if_neg (by simp), if_neg ho, if_neg hs, if_neg hnl, if_pos hb]
            rw [e] at hn; exact hn
          · have := (bestL_zero l).1 (by simpa using hb); omega
        have hq : qHead (l.take n) = qHead l := by
          cases l with
          | nil => exact absurd rfl hl
          | cons c r =>
            obtain ⟨k, rfl⟩ : ∃ k, n = k + 1 := ⟨n - 1, by omega⟩
            rfl
        unfold itemP
        rw [if_neg (show ¬ (false = true ∧ 0 < hdrN (l.take n)) by simp), if_neg ho', if_neg hs', if_neg (by rw [hhead]; exact hnl), bestL_take hnl hb hn0, hq, if_neg (show ¬ (false = true ∧ 0 < hdrN l) by simp), if_neg ho, if_neg hs, if_neg hnl]
theorem alnum_nl {c : Int} (h : alnum c = true) : notNl c = true := by
  unfold notNl
  rw [Bool.not_eq_true', decide_eq_false_iff_not]
  rintro rfl
  cases h
theorem okp_nl {a b : Int} (h : okp a b = true) : notNl b = true := by
  unfold notNl
  rw [Bool.not_eq_true', decide_eq_false_iff_not]
  rintro rfl
  simp [okp, okc, alnum, letter, digit, sign] at h
theorem noPun_nl {c : Int} (h : noPun c = false) : notNl c = true := by
  unfold notNl
  rw [Bool.not_eq_true', decide_eq_false_iff_not]
  rintro rfl
  cases h
theorem allP_nl : ∀ (l : Bs) (a : Int), allP a l = true → l.all notNl = true
  | [], _, _ => rfl
  | b :: r, a, h => by
    simp only [allP, Bool.and_eq_true] at h
    simp only [List.all_cons, okp_nl h.1, allP_nl r b h.2, Bool.and_self]
theorem digit_nl {c : Int} (h : digit c = true) : notNl c = true := alnum_nl (by unfold alnum; rw [h]; simp)
theorem isNum_nl : ∀ {t : Bs}, isNum t = true → t.all notNl = true
  | [], _ => rfl
  | c :: r, h => by
    simp only [isNum] at h
    simp only [List.all_cons, Bool.and_eq_true]
    cases hc : digit c with
    | true =>
      rw [hc] at h
      exact ⟨digit_nl hc, allP_nl r c h⟩
    | false =>
      rw [hc] at h
      by_cases h46 : c = 46
      · subst h46
        cases r with
        | nil => cases h
        | cons d r' =>
          simp only [decide_true, Bool.and_eq_true] at h
          simp only [List.all_cons, Bool.and_eq_true]
          exact ⟨rfl, digit_nl h.1, allP_nl r' d h.2⟩
      · rw [decide_eq_false h46] at h
        simp at h
theorem isWord_nl {t : Bs} (h : isWord t = true) : t.all notNl = true := by
  cases t with
  | nil => rfl
  | cons c r =>
    simp only [isWord, Bool.and_eq_true, List.all_eq_true] at h
    simp only [List.all_cons, Bool.and_eq_true, List.all_eq_true]
    exact ⟨alnum_nl (by unfold alnum; rw [h.1]; rfl), fun x hx => alnum_nl (h.2 x hx)⟩
theorem isPun_nl {t : Bs} (h : isPun t = true) : t.all notNl = true := by
  have := (pun_facts t (isPun_mem.1 h)).2.1
  simp only [List.all_eq_true, Bool.not_eq_true'] at this ⊢
  exact fun x hx => noPun_nl (this x hx)
theorem pieces_nl (q : Int) : ∀ {t : Bs}, pieces q t = true → t.all notNl = true
  | [], _ => rfl
  | [c], h => by
    simp only [pieces, Bool.and_eq_true, Bool.not_eq_true', Bool.or_eq_false_iff] at h
    simp [notNl]
    simpa using h.1.2
  | c :: d :: r, h => by
    simp only [pieces] at h
    cases hc : (decide (c = q) || decide (c = 10)) with
    | true => rw [hc] at h; cases h
    | false =>
      rw [hc] at h
      simp only at h
      rw [Bool.or_eq_false_iff, decide_eq_false_iff_not, decide_eq_false_iff_not] at hc
      by_cases h92 : c = 92
      · rw [decide_eq_true h92] at h
        simp only [Bool.and_eq_true, Bool.not_eq_true', decide_eq_false_iff_not] at h
        have ih := pieces_nl q (t := r) h.2
        simp only [List.all_cons, Bool.and_eq_true, notNl, Bool.not_eq_true', decide_eq_false_iff_not]
        exact ⟨hc.2, h.1, ih⟩
      · rw [decide_eq_false h92] at h
        simp only at h
        have ih := pieces_nl q (t := d :: r) h
        rw [List.all_cons, ih, Bool.and_true]
        unfold notNl
        rw [decide_eq_false hc.2]; rfl
theorem isLit_nl {q : Int} (hq : q = 39 ∨ q = 34) : ∀ {ps : List Bs} {t : Bs}, (∀ p ∈ ps, p.all notNl = true) → isLit q ps t = true → t.all notNl = true
  | [], _, _, h => by cases h
  | p :: ps, t, hp, h => by
    simp only [isLit] at h
    cases hc : litAt q p t with
    | false => rw [hc] at h; exact isLit_nl hq (fun x hx => hp x (List.mem_cons_of_mem _ hx)) h
    | true =>
      unfold litAt at hc
      simp only [Bool.and_eq_true, decide_eq_true_eq] at hc
      obtain ⟨h1, h2, h3, h4, h5⟩ := hc
      have hqn : notNl q = true := by rcases hq with rfl | rfl <;> rfl
      have e1 : t = t.take (t.length - 1) ++ [q] := by
        have h6 : t.length - 1 < t.length := by omega
        have h7 := List.take_append_getElem (l := t) (i := t.length - 1) h6
        rw [List.getElem?_eq_getElem h6, Option.some.injEq] at h4
        rw [h4, show t.length - 1 + 1 = t.length by omega, List.take_length] at h7
        exact h7.symm
      have e2 : t.take (t.length - 1) = p ++ q :: (t.take (t.length - 1)).drop (p.length + 1) := by
        have h6 : (t.take (t.length - 1))[p.length]? = some q := by rw [List.getElem?_take, if_pos (by omega)]; exact h3
        have h7 := List.take_append_drop p.length (t.take (t.length - 1))
        rw [drop_cons_of h6, List.take_take, Nat.min_eq_left (by omega), h2] at h7
        exact h7.symm
      rw [e1, List.all_append, e2, List.all_append, List.all_cons, hp p (List.mem_cons_self ..), hqn, pieces_nl q h5]
      simp [hqn]
theorem best_nl {l : Bs} (hl : l.head? ≠ some 10) : (bestL l).2 ≤ run notNl l := by
  rcases Nat.eq_zero_or_pos (bestL l).2 with h0 | h0
  · omega
  rw [← all_take_run notNl l _ (bestL_le l)]
  have hk := (kindR_take (bestL_le l) hl).2 h0 rfl
  have hb : (bestL l).1 ≠ 0 := fun hh => by have := (bestL_zero l).1 hh; omega
  rw [← hk] at hb
  unfold kindR at hb
  split at hb
  · rename_i h
    exfalso
    apply hl
    cases l with
    | nil => simp at h
    | cons c r =>
      obtain ⟨m, hm⟩ : ∃ m, (bestL (c :: r)).2 = m + 1 := ⟨(bestL (c :: r)).2 - 1, by omega⟩
      rw [hm] at h
      simp at h
      rw [h.1]; rfl
  · split at hb
    · rename_i h; exact isWord_nl h
    · split at hb
      · rename_i h; exact isNum_nl h
      · split at hb
        · rename_i h; exact isLit_nl (.inl rfl) (by decide) h
        · split at hb
          · rename_i h; exact isLit_nl (.inr rfl) (by decide) h
          · split at hb
            · rename_i h; exact isPun_nl h
            · exact absurd rfl hb
theorem itemsF_nil (n : Nat) (st : Int) (i : Nat) : itemsF n st i [] = [] := by cases n <;> rfl
end Go.Lx
namespace Go.Lx
theorem mem_tail {c : Int} {l : Bs} (h : (10 : Int) ∈ c :: l) (hc : c ≠ 10) : (10 : Int) ∈ l := by
  rcases List.mem_cons.1 h with h | h
  · exact absurd h.symm hc
  · exact h
theorem run_nl : ∀ (l r : Bs), (10 : Int) ∈ l → run notNl (l ++ r) = run notNl l
  | [], _, h => by cases h
  | c :: l, r, h => by
    simp only [List.cons_append, run]
    by_cases hc : c = 10
    · subst hc; rfl
    · rw [run_nl l r (mem_tail h hc)]
theorem run_nl_lt : ∀ (l : Bs), (10 : Int) ∈ l → run notNl l < l.length
  | [], h => by cases h
  | c :: l, h => by
    simp only [run, List.length_cons]
    by_cases hc : c = 10
    · subst hc; show 0 < _; omega
    · have := run_nl_lt l (mem_tail h hc)
      split <;> omega
theorem hdrGo_nl (q : Int) : ∀ (l r : Bs), (10 : Int) ∈ l → hdrGo q (l ++ r) = hdrGo q l
  | [], _, h => by cases h
  | c :: l, r, h => by
    simp only [List.cons_append, hdrGo]
    by_cases hc : c = 10
    · subst hc; rfl
    · rw [hdrGo_nl q l r (mem_tail h hc)]
theorem hdrGo_run (q : Int) : ∀ l : Bs, hdrGo q l ≤ run notNl l
  | [] => Nat.le_refl _
  | c :: l => by
    have ih := hdrGo_run q l
    simp only [hdrGo, run]
    by_cases hc : c = 10
    · subst hc; exact Nat.le_refl _
    · have e : notNl c = true := by simp [notNl, hc]
      rw [decide_eq_false hc, e]
      simp only
      split
      · omega
      · split <;> omega
theorem hdrN_nl {l : Bs} (r : Bs) (h : (10 : Int) ∈ l) : hdrN (l ++ r) = hdrN l := by
  cases l with
  | nil => cases h
  | cons c l =>
    simp only [List.cons_append, hdrN]
    by_cases hc : c = 10
    · subst hc; rfl
    · rw [hdrGo_nl 62 l r (mem_tail h hc), hdrGo_nl 34 l r (mem_tail h hc)]
theorem hdrN_run (l : Bs) : hdrN l ≤ run notNl l := by
  cases l with
  | nil => exact Nat.le_refl _
  | cons c l =>
    have h1 := hdrGo_run 62 l
    have h2 := hdrGo_run 34 l
    simp only [hdrN, run]
    by_cases h60 : c = 60
    · subst h60
      rw [if_pos rfl, show notNl 60 = true from rfl]
      simp only
      split <;> omega
    · rw [if_neg h60]
      by_cases h34 : c = 34
      · subst h34
        rw [if_pos rfl, show notNl 34 = true from rfl]
        simp only
        split <;> omega
      · rw [if_neg h34]; exact Nat.zero_le _
theorem endC_app : ∀ (l r : Bs), 0 < endC l → endC (l ++ r) = endC l
  | [], _, h => by cases h
  | [_], _, h => by cases h
  | a :: b :: l, r, h => by
    simp only [List.cons_append, endC] at h ⊢
    cases hc : (decide (a = 42) && decide (b = 47)) with
    | true => rfl
    | false =>
      rw [hc] at h
      simp only at h ⊢
      have h0 : 0 < endC (b :: l) := by
        rcases Nat.eq_zero_or_pos (endC (b :: l)) with h0 | h0
        · rw [h0] at h; cases h
        · exact h0
      have := endC_app (b :: l) r h0
      rw [List.cons_append] at this
      rw [this]
theorem endC_last : ∀ (l : Bs), 0 < endC l → l[endC l - 1]? = some 47
  | [], h => by cases h
  | [_], h => by cases h
  | a :: b :: l, h => by
    simp only [endC] at h ⊢
    cases hc : (decide (a = 42) && decide (b = 47)) with
    | true =>
      simp only [Bool.and_eq_true, decide_eq_true_eq] at hc
      rw [hc.2]; rfl
    | false =>
      rw [hc] at h
      simp only at h ⊢
      have h0 : 0 < endC (b :: l) := by
        rcases Nat.eq_zero_or_pos (endC (b :: l)) with h0 | h0
        · rw [h0] at h; cases h
        · exact h0
      have ih := endC_last (b :: l) h0
      have hgt : 2 ≤ endC (b :: l) := by
        rcases Nat.lt_or_ge (endC (b :: l)) 2 with h1 | h1
        · have e1 : endC (b :: l) = 1 := by omega
          exfalso
          cases l with
          | nil => cases e1
          | cons c l =>
            simp only [endC] at e1
            split at e1
            · cases e1
            · split at e1 <;> omega
        · exact h1
      obtain ⟨m, hm⟩ : ∃ m, endC (b :: l) = m + 2 := ⟨endC (b :: l) - 2, by omega⟩
      rw [hm] at ih ⊢
      simp only at ih ⊢
      exact ih
theorem take2_nl {l : Bs} (r : Bs) (h : (10 : Int) ∈ l) {x : Int} : ((l ++ r).take 2 = [47, x]) ↔ (l.take 2 = [47, x]) := by
  match l, h with
  | [c], h =>
    have : c = 10 := (List.mem_singleton.1 h).symm
    subst this
    simp
  | a :: b :: l, _ => exact Iff.rfl
theorem head_app {l : Bs} (r : Bs) (h : (10 : Int) ∈ l) : (l ++ r).head? = l.head? := by
  cases l with
  | nil => cases h
  | cons => rfl
theorem bestL_nl {l : Bs} (r : Bs) (h : (10 : Int) ∈ l) (hh : l.head? ≠ some 10) : bestL (l ++ r) = bestL l ∧ (bestL l).2 < l.length := by
  have hh' : (l ++ r).head? ≠ some 10 := by rw [head_app r h]; exact hh
  have h1 := best_nl hh'
  rw [run_nl l r h] at h1
  have h2 := run_nl_lt l h
  have h3 : 0 < l.length := by omega
  have := bestL_take hh' (n := l.length) (by omega) h3
  rw [List.take_left' rfl] at this
  rw [this]
  exact ⟨rfl, by omega⟩
theorem qHead_app {l : Bs} (r : Bs) (h : (10 : Int) ∈ l) : qHead (l ++ r) = qHead l := by
  cases l with
  | nil => cases h
  | cons => rfl
theorem itemP_nl {hdr : Bool} {l : Bs} (r : Bs) (hl : l.getLast? = some 10) (he : (itemP hdr l).err = 0) :
    itemP hdr (l ++ r) = itemP hdr l ∧ ((itemP hdr l).len = l.length → (itemP hdr l).kind = 9) := by
  have h : (10 : Int) ∈ l := List.mem_of_getLast? hl
  have hrl := run_nl_lt l h
  have ho : isOpen (l ++ r) = isOpen l := by unfold isOpen; rw [decide_eq_decide]; exact take2_nl r h
  have hs : isLine (l ++ r) = isLine l := by unfold isLine; rw [decide_eq_decide]; exact take2_nl r h
  unfold itemP at he ⊢
  rw [hdrN_nl r h, ho, hs, head_app r h, run_nl l r h, qHead_app r h]
  by_cases h1 : hdr = true ∧ 0 < hdrN l
  · simp only [if_pos h1] at he ⊢
    have := hdrN_run l
    exact ⟨trivial, fun hh => by have hh : hdrN l = l.length := hh; omega⟩
  · simp only [if_neg h1] at he ⊢
    by_cases h2 : isOpen l = true
    · simp only [if_pos h2] at he ⊢
      have h2' : 2 ≤ l.length := by
        simp only [isOpen, decide_eq_true_eq] at h2
        have := congrArg List.length h2
        simp only [List.length_take, List.length_cons, List.length_nil] at this
        omega
      rcases Nat.eq_zero_or_pos (endC (l.drop 2)) with h0 | h0
      · rw [h0] at he; cases he
      · have e := endC_app (l.drop 2) r h0
        rw [← List.drop_append_of_le_length h2'] at e
        rw [e]
        refine ⟨rfl, fun hh => ?_⟩
        have hl2 := endC_last (l.drop 2) h0
        obtain ⟨n, hn⟩ : ∃ n, endC (l.drop 2) = n + 1 := ⟨endC (l.drop 2) - 1, by omega⟩
        rw [hn] at hh hl2
        simp only at hh
        rw [List.getElem?_drop] at hl2
        rw [List.getLast?_eq_getElem?] at hl
        rw [show 2 + (n + 1 - 1) = l.length - 1 by omega, hl] at hl2
        cases hl2
    · simp only [if_neg h2] at he ⊢
      by_cases h3 : isLine l = true
      · simp only [if_pos h3] at he ⊢
        exact ⟨trivial, fun hh => by have hh : run notNl l = l.length := hh; omega⟩
      · simp only [if_neg h3] at he ⊢
        by_cases h4 : l.head? = some 10
        · simp only [if_pos h4]
          exact ⟨trivial, fun _ => trivial⟩
        · obtain ⟨b1, b2⟩ := bestL_nl r h h4
          simp only [if_neg h4, b1] at he ⊢
          by_cases h5 : (bestL l).1 ≠ 0
          · simp only [if_pos h5] at he ⊢
            exact ⟨trivial, fun hh => by have hh : (bestL l).2 = l.length := hh; omega⟩
          · simp only [if_neg h5] at he ⊢
            by_cases h6 : qHead l = true
            · simp only [if_pos h6] at he; cases he
            · simp only [if_neg h6]
              refine ⟨trivial, fun hh => ?_⟩
              have hh : 1 = l.length := hh
              exfalso
              match l, hh, hl, h4 with
              | [c], _, hl, h4 => simp at hl h4; exact h4 hl
def lexF : Nat → Int → Bs → List (Int × Bs)
  | 0, _, _ => []
  | _ + 1, _, [] => []
  | n + 1, st, c :: r => match white c with
    | true => lexF n st r
    | false => if (itemP (decide (st = 2)) (c :: r)).err ≠ 0 then []
      else ((itemP (decide (st = 2)) (c :: r)).kind, (c :: r).take (itemP (decide (st = 2)) (c :: r)).len) ::
        lexF n (after st (itemP (decide (st = 2)) (c :: r)).kind ((c :: r).take (itemP (decide (st = 2)) (c :: r)).len)) ((c :: r).drop (itemP (decide (st = 2)) (c :: r)).len)
def okF : Nat → Int → Bs → Prop
  | 0, _, _ => True
  | _ + 1, _, [] => True
  | n + 1, st, c :: r => match white c with
    | true => okF n st r
    | false => (itemP (decide (st = 2)) (c :: r)).err = 0 ∧
        okF n (after st (itemP (decide (st = 2)) (c :: r)).kind ((c :: r).take (itemP (decide (st = 2)) (c :: r)).len)) ((c :: r).drop (itemP (decide (st = 2)) (c :: r)).len)
theorem lexF_nil (n : Nat) (st : Int) : lexF n st [] = [] := by cases n <;> rfl
theorem okF_nil (n : Nat) (st : Int) : okF n st [] := by cases n <;> trivial
theorem item_pos {hdr : Bool} {c : Int} {r : Bs} (he : (itemP hdr (c :: r)).err = 0) : 1 ≤ (itemP hdr (c :: r)).len ∧ (itemP hdr (c :: r)).len ≤ r.length + 1 := by
  have := itemP_le hdr (l := c :: r) (by simp)
  exact ⟨this.2 he, this.1⟩
theorem lexF_fuel : ∀ (n m : Nat) (st : Int) (l : Bs), l.length ≤ n → l.length ≤ m → lexF n st l = lexF m st l ∧ (okF n st l ↔ okF m st l)
  | 0, m, st, l, h, _ => by
    have : l = [] := List.eq_nil_of_length_eq_zero (by omega)
    subst this; rw [lexF_nil, lexF_nil]; exact ⟨rfl, fun _ => okF_nil _ _, fun _ => okF_nil _ _⟩
  | n + 1, 0, st, l, _, h => by
    have : l = [] := List.eq_nil_of_length_eq_zero (by omega)
    subst this; rw [lexF_nil, lexF_nil]; exact ⟨rfl, fun _ => okF_nil _ _, fun _ => okF_nil _ _⟩
  | n + 1, m + 1, st, [], _, _ => ⟨rfl, Iff.rfl⟩
  | n + 1, m + 1, st, c :: r, h1, h2 => by
    simp only [List.length_cons] at h1 h2
    simp only [lexF, okF]
    split
    · exact lexF_fuel n m st r (by omega) (by omega)
    · by_cases he : (itemP (decide (st = 2)) (c :: r)).err = 0
      · have hp := item_pos he
        have ih := lexF_fuel n m (after st (itemP (decide (st = 2)) (c :: r)).kind ((c :: r).take (itemP (decide (st = 2)) (c :: r)).len)) ((c :: r).drop (itemP (decide (st = 2)) (c :: r)).len)
          (by rw [List.length_drop, List.length_cons]; omega) (by rw [List.length_drop, List.length_cons]; omega)
        rw [if_neg (by simpa using he), if_neg (by simpa using he), ih.1]
        exact ⟨rfl, by rw [ih.2]⟩
      · rw [if_pos he, if_pos he]
        exact ⟨rfl, fun h => absurd h.1 he, fun h => absurd h.1 he⟩
theorem lexF_app : ∀ (n : Nat) (l r : Bs) (st : Int) (m : Nat), l.getLast? = some 10 → l.length ≤ n → (l ++ r).length ≤ m → okF n st l →
    lexF m st (l ++ r) = lexF n st l ++ lexF r.length 0 r ∧ (okF m st (l ++ r) ↔ okF r.length 0 r) ∧ ∃ t, (lexF n st l).getLast? = some t ∧ t.1 = 9
  | 0, l, r, st, m, hl, h, _, _ => by
    have : l = [] := List.eq_nil_of_length_eq_zero (by omega)
    subst this; cases hl
  | n + 1, [], r, st, m, hl, _, _, _ => by cases hl
  | n + 1, c :: l, r, st, 0, hl, h, h2, hok => by simp at h2
  | n + 1, c :: l, r, st, m + 1, hl, h, h2, hok => by
    simp only [List.length_cons, List.cons_append] at h h2
    cases hw : white c with
    | true =>
      have hc : c ≠ 10 := by rintro rfl; exact absurd hw (by decide)
      have hl' : l.getLast? = some 10 := by
        cases l with
        | nil => simp at hl; exact absurd hl hc
        | cons d l => rwa [List.getLast?_cons_cons] at hl
      simp only [okF, hw] at hok
      simp only [List.cons_append, lexF, okF, hw]
      exact lexF_app n l r st m hl' (by omega) (by omega) hok
    | false =>
      simp only [okF, hw] at hok
      obtain ⟨he, hok⟩ := hok
      obtain ⟨i1, i2⟩ := itemP_nl r hl he
      have hp := item_pos he
      have hle : (itemP (decide (st = 2)) (c :: l)).len ≤ (c :: l).length := hp.2
      simp only [List.cons_append, lexF, okF, hw]
      rw [List.cons_append] at i1
      rw [i1, if_neg (by simpa using he), if_neg (by simpa using he)]
      have ht : (c :: (l ++ r)).take (itemP (decide (st = 2)) (c :: l)).len = (c :: l).take (itemP (decide (st = 2)) (c :: l)).len := by
        rw [← List.cons_append, List.take_append_of_le_length hle]
      have hd : (c :: (l ++ r)).drop (itemP (decide (st = 2)) (c :: l)).len = (c :: l).drop (itemP (decide (st = 2)) (c :: l)).len ++ r := by
        rw [← List.cons_append, List.drop_append_of_le_length hle]
      rw [ht, hd]
      rcases Nat.lt_or_ge (itemP (decide (st = 2)) (c :: l)).len (c :: l).length with hlt | hge
      · have hl' : ((c :: l).drop (itemP (decide (st = 2)) (c :: l)).len).getLast? = some 10 := by
          rw [List.getLast?_drop, if_neg (by omega)]; exact hl
        obtain ⟨e1, e2, t, e3, e4⟩ := lexF_app n ((c :: l).drop (itemP (decide (st = 2)) (c :: l)).len) r _ m hl' (by rw [List.length_drop, List.length_cons]; omega)
          (by rw [List.length_append, List.length_drop, List.length_cons]; rw [List.length_append] at h2; omega) hok
        rw [e1]
        refine ⟨rfl, ⟨fun hh => e2.1 hh.2, fun hh => ⟨he, e2.2 hh⟩⟩, t, ?_, e4⟩
        cases hx : lexF n (after st (itemP (decide (st = 2)) (c :: l)).kind ((c :: l).take (itemP (decide (st = 2)) (c :: l)).len)) ((c :: l).drop (itemP (decide (st = 2)) (c :: l)).len) with
        | nil => rw [hx] at e3; cases e3
        | cons y ys => rw [hx] at e3; rw [List.getLast?_cons_cons]; exact e3
      · have hkind := i2 (by omega)
        rw [List.drop_eq_nil_of_le hge, List.nil_append, lexF_nil, hkind]
        have ha : after st 9 ((c :: l).take (itemP (decide (st = 2)) (c :: l)).len) = 0 := by unfold after; rw [if_neg (by decide), if_pos rfl]
        rw [ha]
        have hf := lexF_fuel m r.length 0 r (by rw [List.length_append] at h2; omega) (Nat.le_refl _)
        rw [hf.1, hf.2]
        exact ⟨rfl, ⟨fun hh => hh.2, fun hh => ⟨he, hh⟩⟩, _, rfl, rfl⟩
theorem lexF_items (L : Bs) : ∀ (n : Nat) (st : Int) (i : Nat), okF n st (L.drop i) → (itemsF n st i (L.drop i)).map (fun t => (t.kind, (L.take t.hi).drop t.lo)) = lexF n st (L.drop i)
  | 0, _, _, _ => rfl
  | n + 1, st, i, hok => by
    cases hx : L.drop i with
    | nil => rfl
    | cons c r =>
      have hr : L.drop (i + 1) = r := by rw [← List.drop_drop, hx]; rfl
      rw [hx] at hok
      simp only [itemsF, lexF, okF] at hok ⊢
      cases hw : white c with
      | true =>
        rw [hw] at hok
        simp only at hok ⊢
        rw [← hr] at hok ⊢
        exact lexF_items L n st (i + 1) hok
      | false =>
        rw [hw] at hok
        simp only at hok ⊢
        rw [if_neg (by simpa using hok.1), if_neg (by simpa using hok.1)]
        have hd : (c :: r).drop (itemP (decide (st = 2)) (c :: r)).len = L.drop (i + (itemP (decide (st = 2)) (c :: r)).len) := by rw [← hx, List.drop_drop]
        rw [List.map_cons, hd]
        rw [hd] at hok
        rw [lexF_items L n _ _ hok.2]
        congr 2
        rw [← hx, ← List.take_drop]
theorem okF_items : ∀ (n : Nat) (st : Int) (i : Nat) (l : Bs), (∀ t ∈ itemsF n st i l, t.err = 0) ↔ okF n st l
  | 0, _, _, _ => ⟨fun _ => trivial, fun _ t ht => by cases ht⟩
  | n + 1, _, _, [] => ⟨fun _ => trivial, fun _ t ht => by cases ht⟩
  | n + 1, st, i, c :: r => by
    simp only [itemsF, okF]
    cases hw : white c with
    | true => exact okF_items n st (i + 1) r
    | false =>
      simp only
      by_cases he : (itemP (decide (st = 2)) (c :: r)).err = 0
      · rw [if_neg (by simpa using he)]
        have ih := okF_items n (after st (itemP (decide (st = 2)) (c :: r)).kind ((c :: r).take (itemP (decide (st = 2)) (c :: r)).len)) (i + (itemP (decide (st = 2)) (c :: r)).len) ((c :: r).drop (itemP (decide (st = 2)) (c :: r)).len)
        simp only [List.mem_cons, forall_eq_or_imp]
        rw [ih]
        simp [he]
      · rw [if_pos he]
        constructor
        · intro h; exact absurd (h _ (List.mem_singleton.2 rfl)) he
        · intro h; exact absurd h.1 he
end Go.Lx
namespace Go.Lx
def stop (q : Bs) : Prop := q = [] ∨ ∃ h r, q = h :: r ∧ (h = 32 ∨ h = 10)
theorem bodyN_app (q : Int) : ∀ (l r : Bs), 0 < bodyN q l → bodyN q (l ++ r) = bodyN q l
  | [], _, h => by cases h
  | [c], r, h => by
    cases r with
    | nil => rfl
    | cons d r =>
      simp only [bodyN] at h
      have hc : (decide (c = q) && decide (c ≠ 10)) = true := by
        cases hx : (decide (c = q) && decide (c ≠ 10)) with
        | true => rfl
        | false => rw [hx] at h; cases h
      simp only [Bool.and_eq_true, decide_eq_true_eq] at hc
      simp only [List.cons_append, List.nil_append, bodyN]
      rw [decide_eq_false hc.2, decide_eq_true hc.1, decide_eq_true hc.2]
      rfl
  | c :: d :: l, r, h => by
    simp only [List.cons_append]
    unfold bodyN at h ⊢
    cases h10 : decide (c = 10) with
    | true => simp [h10] at h
    | false =>
      rw [h10] at h
      simp only at h ⊢
      cases hq : decide (c = q) with
      | true => rfl
      | false =>
        rw [hq] at h
        simp only at h ⊢
        cases h92 : decide (c = 92) with
        | true =>
          rw [h92] at h
          simp only at h ⊢
          have h0 : 0 < bodyN q l := by
            rcases Nat.eq_zero_or_pos (bodyN q l) with h0 | h0
            · rw [h0] at h; cases hd : decide (d = 10) <;> rw [hd] at h <;> cases h
            · exact h0
          rw [bodyN_app q l r h0]
        | false =>
          rw [h92] at h
          simp only at h ⊢
          have h0 : 0 < bodyN q (d :: l) := by
            rcases Nat.eq_zero_or_pos (bodyN q (d :: l)) with h0 | h0
            · rw [h0] at h; cases h
            · exact h0
          have := bodyN_app q (d :: l) r h0
          rw [List.cons_append] at this
          rw [this]
theorem litQ_app {t : Bs} (r : Bs) (h : 0 < (litQ t).2) : litQ (t ++ r) = litQ t := by
  have hf : 2 ≤ (litQ t).2 ∧ (litQ t).2 ≤ t.length ∧ prefN t + 2 ≤ (litQ t).2 ∧ ∃ q, (q = 39 ∨ q = 34) ∧ t[prefN t]? = some q := by
    rcases litQ_facts t with hf | hf
    · omega
    · exact ⟨hf.2.1, hf.2.2.1, hf.2.2.2.1, hf.2.2.2.2⟩
  obtain ⟨f1, f2, f3, q, hq, hx⟩ := hf
  have hp : prefN (t ++ r) = prefN t := by
    match t, f2, f3, h with
    | [], f2, f3, h => simp only [List.length_nil] at f2; omega
    | [c], f2, f3, h => simp only [List.length_cons, List.length_nil] at f2; omega
    | [c, d], f2, f3, h =>
      simp only [List.length_cons, List.length_nil] at f2
      have h0 : prefN [c, d] = 0 := by omega
      have hc : (decide (c = 117) || decide (c = 85) || decide (c = 76)) = false := by
        cases hc : (decide (c = 117) || decide (c = 85) || decide (c = 76)) with
        | false => rfl
        | true =>
          simp only [prefN, hc] at h0
          split at h0 <;> cases h0
      rw [h0]
      simp only [List.cons_append, prefN, hc]
      simp only [Bool.or_eq_false_iff] at hc
      rw [hc.1.1]; rfl
    | c :: d :: e :: t, _, _, _ => rfl
  have hl : prefN t < t.length := by omega
  have hd0 : t.drop (prefN t) = q :: t.drop (prefN t + 1) := drop_cons_of hx
  have hd : (t ++ r).drop (prefN t) = q :: (t.drop (prefN t + 1) ++ r) := by
    rw [List.drop_append_of_le_length (by omega), hd0]; rfl
  unfold litQ at h ⊢
  rw [hp, hd]
  rw [hd0] at h ⊢
  simp only at h ⊢
  have hb : ∀ k : Int, 0 < bodyN k (t.drop (prefN t + 1)) → bodyN k (t.drop (prefN t + 1) ++ r) = bodyN k (t.drop (prefN t + 1)) := fun k hk => bodyN_app k _ _ hk
  by_cases h34 : q = 34
  · rw [if_pos h34] at h ⊢
    rcases Nat.eq_zero_or_pos (bodyN 34 (t.drop (prefN t + 1))) with h0 | h0
    · rw [h0] at h; cases h
    · rw [if_pos h34, hb 34 h0]
  · rw [if_neg h34] at h ⊢
    by_cases h39 : q = 39
    · rw [if_pos h39] at h ⊢
      rcases Nat.eq_zero_or_pos (bodyN 39 (t.drop (prefN t + 1))) with h0 | h0
      · rw [h0] at h; cases h
      · rw [if_neg h34, if_pos h39, hb 39 h0]
    · rw [if_neg h39] at h; cases h
theorem prefN_two {c : Int} {r : Bs} (h : prefN (c :: r) = 2) : r.head? = some 56 := by
  simp only [prefN] at h
  split at h
  · rename_i hh
    simp only [Bool.and_eq_true, decide_eq_true_eq] at hh
    exact hh.1.2
  · split at h <;> cases h
theorem litQ_zero {t : Bs} (h : (litQ t).2 = 0) : litQ t = (0, 0) := by
  rcases litQ_facts t with hf | hf
  · exact Prod.ext hf.1 hf.2
  · omega
theorem bestL_kind (l : Bs) : (bestL l).1 ≠ 9 := by
  unfold bestL
  split
  · rename_i h
    rcases litQ_facts l with hf | hf
    · omega
    · rcases hf.1 with h1 | h1 <;> rw [h1] <;> decide
  · split
    · simp
    · split
      · simp
      · split <;> simp
theorem item_nl {hdr : Bool} {l : Bs} (h : (itemP hdr l).kind = 9) : l.head? = some 10 ∧ (itemP hdr l).len = 1 := by
  unfold itemP at h ⊢
  split at h
  · cases h
  · split at h
    · split at h <;> cases h
    · split at h
      · cases h
      · split at h
        · rename_i h0 h1 h2 h3
          exact ⟨h3, by rw [if_neg h0, if_neg h1, if_neg h2, if_pos h3]⟩
        · split at h
          · exact absurd h (bestL_kind l)
          · split at h <;> cases h
theorem nl_item (hdr : Bool) (r : Bs) : itemP hdr (10 :: r) = ⟨9, 1, 0⟩ := by
  unfold itemP
  rw [if_neg (by rintro ⟨_, h⟩; exact absurd h (by simp [hdrN])), if_neg (by simp [isOpen]), if_neg (by simp [isLine])]
  exact if_pos rfl
end Go.Lx
