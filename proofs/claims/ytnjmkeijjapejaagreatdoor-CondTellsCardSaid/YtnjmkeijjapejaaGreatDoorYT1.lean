/- Part 1 of the lemmas behind the claim: Q1, Q2, Q3, Q4. -/
set_option linter.unusedSimpArgs false
set_option linter.unusedVariables false
namespace Go.Cd
inductive Tk where
  | num (v : Int) (u : Bool)
  | op (s : ByteArray)
def lp : ByteArray := ⟨#[40]⟩
def rp : ByteArray := ⟨#[41]⟩
def qm : ByteArray := ⟨#[63]⟩
def cl : ByteArray := ⟨#[58]⟩
def plB : ByteArray := ⟨#[43]⟩
def miB : ByteArray := ⟨#[45]⟩
def noB : ByteArray := ⟨#[33]⟩
def tiB : ByteArray := ⟨#[126]⟩
def opT : Tk → ByteArray
  | .num _ _ => ⟨#[]⟩
  | .op s => s
def vT : Tk → Int
  | .num v _ => v
  | .op _ => 0
def uT : Tk → Bool
  | .num _ u => u
  | .op _ => false
def isNum : Tk → Bool
  | .num _ _ => true
  | .op _ => false
def lev (s : ByteArray) : Int :=
  if s = ⟨#[124, 124]⟩ then 1 else if s = ⟨#[38, 38]⟩ then 2 else if s = ⟨#[124]⟩ then 3 else if s = ⟨#[94]⟩ then 4 else if s = ⟨#[38]⟩ then 5 else
  if s = ⟨#[61, 61]⟩ then 6 else if s = ⟨#[33, 61]⟩ then 6 else if s = ⟨#[60]⟩ then 7 else if s = ⟨#[62]⟩ then 7 else if s = ⟨#[60, 61]⟩ then 7 else
  if s = ⟨#[62, 61]⟩ then 7 else if s = ⟨#[60, 60]⟩ then 8 else if s = ⟨#[62, 62]⟩ then 8 else if s = ⟨#[43]⟩ then 9 else if s = ⟨#[45]⟩ then 9 else
  if s = ⟨#[42]⟩ then 10 else if s = ⟨#[47]⟩ then 10 else if s = ⟨#[37]⟩ then 10 else 0
theorem lev_range (s : ByteArray) : 0 ≤ lev s ∧ lev s ≤ 10 := by
  have key : ∀ (c : Prop) [Decidable c] (x y : Int), (0 ≤ x ∧ x ≤ 10) → (0 ≤ y ∧ y ≤ 10) → 0 ≤ (if c then x else y) ∧ (if c then x else y) ≤ 10 := fun c _ x y h1 h2 => by
    by_cases h : c
    · rw [if_pos h]; exact h1
    · rw [if_neg h]; exact h2
  unfold lev
  repeat (refine key _ _ _ (by omega) ?_)
  omega
theorem lev_lp : lev lp = 0 := by decide
theorem lev_rp : lev rp = 0 := by decide
theorem lev_qm : lev qm = 0 := by decide
theorem lev_cl : lev cl = 0 := by decide
theorem lev_empty : lev ⟨#[]⟩ = 0 := by decide
theorem lev_ne {s t : ByteArray} (h : 0 < lev s) (ht : lev t = 0) : s ≠ t := by
  intro e; rw [e] at h; omega
def isPre (s : ByteArray) : Bool := decide (s = plB) || decide (s = miB) || decide (s = noB) || decide (s = tiB)
theorem isPre_cases {s : ByteArray} (h : isPre s = true) : s = plB ∨ s = miB ∨ s = noB ∨ s = tiB := by
  unfold isPre at h
  simp only [Bool.or_eq_true, decide_eq_true_eq] at h
  rcases h with ((h | h) | h) | h
  · exact .inl h
  · exact .inr (.inl h)
  · exact .inr (.inr (.inl h))
  · exact .inr (.inr (.inr h))
theorem pre_lp : isPre lp = false := by decide
theorem pre_rp : isPre rp = false := by decide
theorem pre_qm : isPre qm = false := by decide
theorem pre_cl : isPre cl = false := by decide
theorem pre_empty : isPre ⟨#[]⟩ = false := by decide
theorem pre_ne {s t : ByteArray} (h : isPre s = true) (ht : isPre t = false) : s ≠ t := by
  intro e; rw [e, ht] at h; cases h
inductive Tr where
  | num (v : Int) (u : Bool)
  | par (e : Tr)
  | pre (s : ByteArray) (e : Tr)
  | bin (s : ByteArray) (a b : Tr)
  | cho (c a b : Tr)
inductive W : Int → List Tk → Tr → Prop
  | num (n v u) (h : n ≤ 11) : W n [.num v u] (.num v u)
  | par {n l e} (h : n ≤ 11) (he : W 0 l e) : W n (.op lp :: (l ++ [.op rp])) (.par e)
  | pre {n s l e} (h : n ≤ 11) (hs : isPre s = true) (he : W 11 l e) : W n (.op s :: l) (.pre s e)
  | bin {n s l r a b} (h : n ≤ lev s) (hs : 0 < lev s) (ha : W (lev s) l a) (hb : W (lev s + 1) r b) : W n (l ++ .op s :: r) (.bin s a b)
  | cho {n l m r c a b} (h : n ≤ 0) (hc : W 1 l c) (ha : W 0 m a) (hb : W 0 r b) : W n (l ++ .op qm :: (m ++ .op cl :: r)) (.cho c a b)
theorem W.mono {n m : Int} {l : List Tk} {t : Tr} (h : W n l t) (hm : m ≤ n) : W m l t := by
  cases h with
  | num _ v u h => exact .num _ v u (by omega)
  | par h he => exact .par (by omega) he
  | pre h hs he => exact .pre (by omega) hs he
  | bin h hs ha hb => exact .bin (by omega) hs ha hb
  | cho h hc ha hb => exact .cho (by omega) hc ha hb
def Tr.isCho : Tr → Bool
  | .cho _ _ _ => true
  | _ => false
def Tr.isBin : Tr → Bool
  | .bin _ _ _ => true
  | _ => false
theorem W.noCho {n : Int} {l : List Tk} {t : Tr} (h : W n l t) (hn : 1 ≤ n) : t.isCho = false := by
  cases h with
  | cho h hc ha hb => omega
  | _ => rfl
theorem W.noBin {n : Int} {l : List Tk} {t : Tr} (h : W n l t) (hn : 11 ≤ n) : t.isBin = false := by
  cases h with
  | @bin _ s l r a b h hs ha hb => have := lev_range s; omega
  | _ => rfl
theorem W.ne {n : Int} {l : List Tk} {t : Tr} (h : W n l t) : l ≠ [] := by
  cases h <;> simp
def dep : Tr → Int
  | .num _ _ => 1
  | .par e => dep e + 1
  | .pre _ e => dep e + 1
  | .bin _ a b => max (dep a) (dep b)
  | .cho c a b => 1 + max (dep c) (max (dep a) (dep b))
theorem dep_pos : ∀ t, 1 ≤ dep t
  | .num _ _ => Int.le_refl _
  | .par e => by have := dep_pos e; simp only [dep]; omega
  | .pre _ e => by have := dep_pos e; simp only [dep]; omega
  | .bin _ a b => by have := dep_pos a; simp only [dep]; omega
  | .cho c a b => by have := dep_pos a; simp only [dep]; omega
structure En where
  ch : Bool
  pf : Int
  se : Bool
  dp : Int
structure Me where
  st : List En
  pf : Int
  dp : Int
  af : Bool
def settle : List En → Int → List En × Int
  | e :: r, d => if e.ch && e.se then settle r (1 + max e.dp d) else (e :: r, d)
  | [], d => ([], d)
def step (m : Me) (t : Tk) : Option Me :=
  if m.af = false then
    if isNum t = true then some ⟨m.st, 0, max m.dp (1 + m.pf), true⟩
    else if isPre (opT t) = true then some ⟨m.st, m.pf + 1, m.dp, false⟩
    else if opT t = lp then some ⟨⟨false, m.pf, false, m.dp⟩ :: m.st, 0, 0, false⟩
    else none
  else if opT t = qm then some ⟨⟨true, 0, false, m.dp⟩ :: m.st, m.pf, 0, false⟩
  else if opT t = cl then match settle m.st m.dp with
    | (e :: r, d) => if e.ch = true then some ⟨⟨e.ch, e.pf, true, max e.dp d⟩ :: r, m.pf, 0, false⟩ else none
    | ([], _) => none
  else if opT t = rp then match settle m.st m.dp with
    | (e :: r, d) => if e.ch = true then none else some ⟨r, 0, max e.dp (d + 1 + e.pf), true⟩
    | ([], _) => none
  else if (isNum t || decide (lev (opT t) = 0)) = true then none
  else some ⟨m.st, m.pf, m.dp, false⟩
def runM : Me → List Tk → Option Me
  | m, [] => some m
  | m, t :: r => match step m t with
    | some m' => runM m' r
    | none => none
def m0 : Me := ⟨[], 0, 0, false⟩
def measure (l : List Tk) : Option Int :=
  match runM m0 l with
  | some m => if m.af = true then match settle m.st m.dp with
    | ([], d) => some d
    | _ => none
    else none
  | none => none
theorem step_num {S : List En} {p d : Int} (v : Int) (u : Bool) : step ⟨S, p, d, false⟩ (.num v u) = some ⟨S, 0, max d (1 + p), true⟩ := rfl
theorem step_pre {S : List En} {p d : Int} {s : ByteArray} (h : isPre s = true) : step ⟨S, p, d, false⟩ (.op s) = some ⟨S, p + 1, d, false⟩ := by
  simp only [step, isNum, opT, if_true, Bool.false_eq_true, if_false, h]
theorem step_lp {S : List En} {p d : Int} : step ⟨S, p, d, false⟩ (.op lp) = some ⟨⟨false, p, false, d⟩ :: S, 0, 0, false⟩ := by
  simp only [step, isNum, opT, if_true, Bool.false_eq_true, if_false, pre_lp]
theorem step_qm {S : List En} {p d : Int} : step ⟨S, p, d, true⟩ (.op qm) = some ⟨⟨true, 0, false, d⟩ :: S, p, 0, false⟩ := by
  simp only [step, opT, Bool.true_eq_false, if_false, if_true]
theorem step_cl {S : List En} {p d : Int} : step ⟨S, p, d, true⟩ (.op cl) = match settle S d with
    | (e :: r, d) => if e.ch = true then some ⟨⟨e.ch, e.pf, true, max e.dp d⟩ :: r, p, 0, false⟩ else none
    | ([], _) => none := by
  simp only [step, opT, Bool.true_eq_false, if_false, if_true, show ¬ cl = qm by decide]
theorem step_rp {S : List En} {p d : Int} : step ⟨S, p, d, true⟩ (.op rp) = match settle S d with
    | (e :: r, d) => if e.ch = true then none else some ⟨r, 0, max e.dp (d + 1 + e.pf), true⟩
    | ([], _) => none := by
  simp only [step, opT, Bool.true_eq_false, if_false, if_true, show ¬ rp = qm by decide, show ¬ rp = cl by decide]
theorem step_bin {S : List En} {p d : Int} {s : ByteArray} (h : 0 < lev s) : step ⟨S, p, d, true⟩ (.op s) = some ⟨S, p, d, false⟩ := by
  have h0 : ¬ lev s = 0 := by omega
  simp [step, opT, isNum, lev_ne h lev_qm, lev_ne h lev_cl, lev_ne h lev_rp, h0]
theorem run_tree {n : Int} {l : List Tk} {t : Tr} (h : W n l t) :
    (t.isCho = false → t.isBin = false → ∀ S p d r, runM ⟨S, p, d, false⟩ (l ++ r) = runM ⟨S, 0, max d (p + dep t), true⟩ r) ∧
    (t.isCho = false → ∀ S d r, runM ⟨S, 0, d, false⟩ (l ++ r) = runM ⟨S, 0, max d (dep t), true⟩ r) ∧
    (∃ P d', (∀ S r, runM ⟨S, 0, 0, false⟩ (l ++ r) = runM ⟨P ++ S, 0, d', true⟩ r) ∧ ∀ S', settle (P ++ S') d' = settle S' (dep t)) := by
  have key : ∀ {l : List Tk} {t : Tr}, (t.isCho = false → ∀ S d r, runM ⟨S, 0, d, false⟩ (l ++ r) = runM ⟨S, 0, max d (dep t), true⟩ r) → t.isCho = false →
      ∃ P d', (∀ S r, runM ⟨S, 0, 0, false⟩ (l ++ r) = runM ⟨P ++ S, 0, d', true⟩ r) ∧ ∀ S', settle (P ++ S') d' = settle S' (dep t) := fun {l t} hh hc =>
    ⟨[], dep t, fun S r => by rw [hh hc S 0 r, Int.max_eq_right (by have := dep_pos t; omega)]; rfl, fun _ => rfl⟩
  have key1 : ∀ {l : List Tk} {t : Tr}, (∀ S p d r, runM ⟨S, p, d, false⟩ (l ++ r) = runM ⟨S, 0, max d (p + dep t), true⟩ r) →
      (∀ S d r, runM ⟨S, 0, d, false⟩ (l ++ r) = runM ⟨S, 0, max d (dep t), true⟩ r) := fun {l t} hh S d r => by
    rw [hh S 0 d r, Int.zero_add]
  induction h with
  | num n v u h =>
    have a1 : ∀ S p d r, runM ⟨S, p, d, false⟩ ([Tk.num v u] ++ r) = runM ⟨S, 0, max d (p + dep (.num v u)), true⟩ r := fun S p d r => by
      simp only [List.cons_append, List.nil_append, runM, step_num, dep]
      rw [Int.add_comm]
    exact ⟨fun _ _ => a1, fun _ => key1 a1, key (fun _ => key1 a1) rfl⟩
  | @par n l e h he ih =>
    obtain ⟨_, _, P, d', i1, i2⟩ := ih
    have a1 : ∀ S p d r, runM ⟨S, p, d, false⟩ ((Tk.op lp :: (l ++ [Tk.op rp])) ++ r) = runM ⟨S, 0, max d (p + dep (.par e)), true⟩ r := fun S p d r => by
      simp only [List.cons_append, List.append_assoc, List.nil_append, runM, step_lp]
      rw [i1]
      simp only [runM, step_rp]
      rw [i2]
      simp only [settle, Bool.false_and, Bool.false_eq_true, if_false, dep]
      congr 2
      omega
    exact ⟨fun _ _ => a1, fun _ => key1 a1, key (fun _ => key1 a1) rfl⟩
  | @pre n s l e h hs he ih =>
    have hc := he.noCho (by omega)
    have hb := he.noBin (by omega)
    have a1 : ∀ S p d r, runM ⟨S, p, d, false⟩ ((Tk.op s :: l) ++ r) = runM ⟨S, 0, max d (p + dep (.pre s e)), true⟩ r := fun S p d r => by
      simp only [List.cons_append, runM, step_pre hs]
      rw [ih.1 hc hb]
      simp only [dep]
      congr 2
      omega
    exact ⟨fun _ _ => a1, fun _ => key1 a1, key (fun _ => key1 a1) rfl⟩
  | @bin n s l r a b h hs ha hb i1 i2 =>
    have hca := ha.noCho (by omega)
    have hcb := hb.noCho (by omega)
    have a2 : ∀ S d q, runM ⟨S, 0, d, false⟩ ((l ++ Tk.op s :: r) ++ q) = runM ⟨S, 0, max d (dep (.bin s a b)), true⟩ q := fun S d q => by
      rw [List.append_assoc, i1.2.1 hca]
      simp only [List.cons_append, runM, step_bin hs]
      rw [i2.2.1 hcb]
      simp only [dep]
      congr 2
      omega
    exact ⟨fun _ hh => (Bool.noConfusion hh), fun _ => a2, key (fun _ => a2) rfl⟩
  | @cho n l m r c a b h hc ha hb i1 i2 i3 =>
    have hcc := hc.noCho (by omega)
    obtain ⟨_, _, P, d', j1, j2⟩ := i2
    obtain ⟨_, _, Q, e', k1, k2⟩ := i3
    refine ⟨fun hh => (Bool.noConfusion hh), fun hh => (Bool.noConfusion hh), Q ++ [⟨true, 0, true, max (dep c) (dep a)⟩], e', fun S q => ?_, fun S' => ?_⟩
    · rw [List.append_assoc, i1.2.1 hcc]
      simp only [List.cons_append, List.append_assoc, runM, step_qm]
      rw [j1]
      simp only [runM, step_cl]
      rw [j2]
      simp only [settle, Bool.and_false, Bool.false_eq_true, if_false, if_true]
      rw [k1, Int.max_eq_right (show (0 : Int) ≤ dep c by have := dep_pos c; omega)]
      rfl
    · rw [List.append_assoc, k2]
      simp only [List.cons_append, List.nil_append, settle, Bool.and_true, if_true, dep]
      congr 1
      omega
theorem measure_tree {l : List Tk} {t : Tr} (h : W 0 l t) : measure l = some (dep t) := by
  obtain ⟨_, _, P, d', h1, h2⟩ := run_tree h
  have := h1 [] []
  rw [List.append_nil] at this
  unfold measure m0
  rw [this]
  have h3 := h2 []
  simp only [runM, if_true]
  rw [h3]
  rfl
theorem insert_op {k : Int} {l : List Tk} {t : Tr} (h : W k l t) : t.isCho = false → ∀ {s : ByteArray} {r : List Tk} {u : Tr}, 0 < lev s → k ≤ lev s → W 11 r u →
    ∃ t', W k (l ++ .op s :: r) t' ∧ t'.isCho = false := by
  induction h with
  | num n v x h => exact fun _ s r u hs hk hu => ⟨_, .bin hk hs (.num _ v x (by have := lev_range s; omega)) (hu.mono (by have := lev_range s; omega)), rfl⟩
  | par h he ih => exact fun _ s r u hs hk hu => ⟨_, .bin hk hs (.par (by have := lev_range s; omega) he) (hu.mono (by have := lev_range s; omega)), rfl⟩
  | pre h hp he ih => exact fun _ s r u hs hk hu => ⟨_, .bin hk hs (.pre (by have := lev_range s; omega) hp he) (hu.mono (by have := lev_range s; omega)), rfl⟩
  | @bin n o l m a b h ho ha hb i1 i2 =>
    intro _ s r u hs hk hu
    by_cases hle : lev s ≤ lev o
    · exact ⟨_, .bin hk hs (.bin hle ho ha hb) (hu.mono (by have := lev_range s; omega)), rfl⟩
    · obtain ⟨b', hb', _⟩ := i2 (hb.noCho (by omega)) hs (by omega) hu
      refine ⟨.bin o a b', ?_, rfl⟩
      have := W.bin h ho ha hb'
      simpa using this
  | cho => exact fun hh => (Bool.noConfusion hh)
inductive Pre : Int → List Tk → Prop
  | nil : Pre 0 []
  | cons {p s l} (hs : isPre s = true) (h : Pre p l) : Pre (p + 1) (l ++ [.op s])
theorem Pre.tree {p : Int} {l : List Tk} (h : Pre p l) : ∀ {m : List Tk} {t : Tr}, W 11 m t → ∃ t', W 11 (l ++ m) t' := by
  induction h with
  | nil => exact fun {m t} hm => ⟨t, hm⟩
  | @cons p s l hs h ih =>
    intro m t hm
    obtain ⟨t', ht⟩ := ih (.pre (by omega) hs hm)
    exact ⟨t', by simpa using ht⟩
inductive Seg : Bool → Int → List Tk → Prop
  | first {p l} (h : Pre p l) : Seg false p l
  | next {p x t s l} (hx : W 1 x t) (hs : 0 < lev s) (h : Pre p l) : Seg false p (x ++ .op s :: l)
  | done {x t} (hx : W 1 x t) : Seg true 0 x
theorem Seg.tree {p : Int} {l : List Tk} (h : Seg false p l) {m : List Tk} {t : Tr} (hm : W 11 m t) : Seg true 0 (l ++ m) := by
  cases h with
  | first h =>
    obtain ⟨t', ht⟩ := h.tree hm
    exact .done (ht.mono (by omega))
  | @next p x t2 s l hx hs h =>
    obtain ⟨t', ht⟩ := h.tree hm
    obtain ⟨t3, h3, _⟩ := insert_op hx (hx.noCho (by omega)) hs (by omega) ht
    exact .done (by simpa using h3)
theorem Seg.pre {p : Int} {l : List Tk} (h : Seg false p l) {s : ByteArray} (hs : isPre s = true) : Seg false (p + 1) (l ++ [.op s]) := by
  cases h with
  | first h => exact .first (.cons hs h)
  | next hx ho h =>
    have := Seg.next hx ho (Pre.cons hs h)
    simpa using this
inductive Cx : List En → List Tk → Prop
  | nil : Cx [] []
  | par {e S k x} (h : Cx S k) (hx : Seg false e.pf x) (he : e.ch = false) : Cx (e :: S) (k ++ (x ++ [.op lp]))
  | que {e S k c t} (h : Cx S k) (hc : W 1 c t) (h1 : e.ch = true) (h2 : e.se = false) : Cx (e :: S) (k ++ (c ++ [.op qm]))
  | col {e S k c t a u} (h : Cx S k) (hc : W 1 c t) (ha : W 0 a u) (h1 : e.ch = true) (h2 : e.se = true) : Cx (e :: S) (k ++ (c ++ .op qm :: (a ++ [.op cl])))
theorem Cx.settle : ∀ {S : List En} {k : List Tk}, Cx S k → ∀ {b : List Tk} {t : Tr} (d : Int), W 0 b t →
    ∃ k' b' t', k ++ b = k' ++ b' ∧ Cx (settle S d).1 k' ∧ W 0 b' t' ∧ ∀ e r, (settle S d).1 = e :: r → (e.ch && e.se) = false
  | [], k, h, b, t, d, hb => ⟨k, b, t, rfl, h, hb, fun e r he => by cases he⟩
  | e :: S, k, h, b, t, d, hb => by
    cases hes : (e.ch && e.se) with
    | true =>
      have hs : Cd.settle (e :: S) d = Cd.settle S (1 + max e.dp d) := by simp only [Cd.settle, hes, if_true]
      rw [hs]
      rw [Bool.and_eq_true] at hes
      cases h with
      | par h hx he => rw [hes.1] at he; cases he
      | que h hc h1 h2 => rw [hes.2] at h2; cases h2
      | @col _ _ k0 c t1 a u h hc ha h1 h2 =>
        obtain ⟨k', b', t', e1, e2, e3, e4⟩ := Cx.settle h (1 + max e.dp d) (W.cho (n := 0) (by omega) hc ha hb)
        exact ⟨k', b', t', by rw [← e1]; simp, e2, e3, e4⟩
    | false =>
      have hs : Cd.settle (e :: S) d = (e :: S, d) := by simp only [Cd.settle, hes, Bool.false_eq_true, if_false]
      rw [hs]
      refine ⟨k, b, t, rfl, h, hb, fun e' r he => ?_⟩
      injection he with h1 h2
      rw [← h1]; exact hes
def Rd (m : Me) (l : List Tk) : Prop := ∃ k x, l = k ++ x ∧ Cx m.st k ∧ Seg m.af m.pf x
theorem Rd.step {m m' : Me} {l : List Tk} {t : Tk} (h : Rd m l) (hs : step m t = some m') : Rd m' (l ++ [t]) := by
  obtain ⟨k, x, rfl, hk, hx⟩ := h
  obtain ⟨S, p, d, af⟩ := m
  cases af with
  | false =>
    cases t with
    | num v u =>
      rw [step_num] at hs
      cases hs
      exact ⟨k, x ++ [.num v u], by simp, hk, hx.tree (.num 11 v u (by omega))⟩
    | op s =>
      by_cases hp : isPre s = true
      · rw [step_pre hp] at hs
        cases hs
        exact ⟨k, x ++ [.op s], by simp, hk, hx.pre hp⟩
      · by_cases hl : s = lp
        · subst hl
          rw [step_lp] at hs
          cases hs
          exact ⟨k ++ (x ++ [.op lp]), [], by simp, .par hk hx rfl, .first .nil⟩
        · have e : Cd.step ⟨S, p, d, false⟩ (.op s) = none := by
            simp [Cd.step, isNum, opT, hp, hl]
          rw [e] at hs
          cases hs
  | true =>
    obtain ⟨rfl, tx, htx⟩ : p = 0 ∧ ∃ tx, W 1 x tx := by
      cases hx with
      | done h => exact ⟨rfl, _, h⟩
    cases t with
    | num v u =>
      have e : Cd.step ⟨S, 0, d, true⟩ (.num v u) = none := by
        simp only [Cd.step, isNum, opT, Bool.true_eq_false, if_false, Bool.true_or, if_true, show ¬ (⟨#[]⟩ : ByteArray) = qm by decide, show ¬ (⟨#[]⟩ : ByteArray) = cl by decide, show ¬ (⟨#[]⟩ : ByteArray) = rp by decide]
      rw [e] at hs
      cases hs
    | op s =>
      by_cases h1 : s = qm
      · subst h1
        rw [step_qm] at hs
        cases hs
        exact ⟨k ++ (x ++ [.op qm]), [], by simp, .que hk htx rfl rfl, .first .nil⟩
      by_cases h2 : s = cl
      · subst h2
        rw [step_cl] at hs
        obtain ⟨k', b', t', e1, e2, e3, e4⟩ := Cx.settle hk d (htx.mono (by omega : (0 : Int) ≤ 1))
        generalize hst : Cd.settle S d = sd at hs e2 e4
        obtain ⟨S', d'⟩ := sd
        cases S' with
        | nil => cases hs
        | cons e r =>
          simp only at hs e2 e4
          by_cases hch : e.ch = true
          · rw [if_pos hch] at hs
            cases hs
            have hse : e.se = false := by
              have := e4 e r rfl
              rw [hch, Bool.true_and] at this
              exact this
            cases e2 with
            | par h hx he => rw [hch] at he; cases he
            | col h hc ha h1 h2 => rw [hse] at h2; cases h2
            | @que _ _ k0 c tc h hc h1 h2 =>
              refine ⟨k0 ++ (c ++ .op qm :: (b' ++ [.op cl])), [], ?_, .col (e := ⟨e.ch, e.pf, true, max e.dp d'⟩) h hc e3 hch rfl, .first .nil⟩
              rw [e1]
              simp
          · rw [if_neg hch] at hs
            cases hs
      by_cases h3 : s = rp
      · subst h3
        rw [step_rp] at hs
        obtain ⟨k', b', t', e1, e2, e3, e4⟩ := Cx.settle hk d (htx.mono (by omega : (0 : Int) ≤ 1))
        generalize hst : Cd.settle S d = sd at hs e2 e4
        obtain ⟨S', d'⟩ := sd
        cases S' with
        | nil => cases hs
        | cons e r =>
          simp only at hs e2 e4
          by_cases hch : e.ch = true
          · rw [if_pos hch] at hs
            cases hs
          · rw [if_neg hch] at hs
            cases hs
            cases e2 with
            | que h hc h1 h2 => exact absurd h1 hch
            | col h hc ha h1 h2 => exact absurd h1 hch
            | @par _ _ k0 x0 h hx0 he =>
              refine ⟨k0, x0 ++ (.op lp :: (b' ++ [.op rp])), ?_, h, hx0.tree (.par (by omega) e3)⟩
              rw [e1]
              simp
      · have hr := lev_range s
        by_cases h0 : lev s = 0
        · have e : Cd.step ⟨S, 0, d, true⟩ (.op s) = none := by
            simp [Cd.step, isNum, opT, h1, h2, h3, h0]
          rw [e] at hs
          cases hs
        · rw [step_bin (by omega)] at hs
          cases hs
          exact ⟨k, x ++ [.op s], by simp, hk, .next htx (by omega) .nil⟩
theorem Rd.run : ∀ {l q : List Tk} {m m' : Me}, Rd m q → runM m l = some m' → Rd m' (q ++ l)
  | [], q, m, m', h, hr => by cases hr; rw [List.append_nil]; exact h
  | t :: l, q, m, m', h, hr => by
    simp only [runM] at hr
    split at hr
    · rename_i m1 h1
      have := Rd.run (h.step h1) hr
      simpa using this
    · cases hr
theorem measure_some {l : List Tk} {d : Int} (h : measure l = some d) : ∃ t, W 0 l t ∧ dep t = d := by
  have h0 := h
  unfold measure at h
  split at h
  · rename_i m hm
    split at h
    · rename_i haf
      have h1 : Rd m ([] ++ l) := Rd.run ⟨[], [], rfl, .nil, .first .nil⟩ hm
      obtain ⟨k, x, e, hk, hx⟩ := h1
      obtain ⟨S, p, dd, af⟩ := m
      simp only at haf hk hx h
      subst haf
      cases hx with
      | @done _ tx htx =>
        obtain ⟨k', b', t', e1, e2, e3, e4⟩ := Cx.settle hk dd (htx.mono (by omega : (0 : Int) ≤ 1))
        generalize settle S dd = sd at h e2 e4
        obtain ⟨S', d'⟩ := sd
        cases S' with
        | cons e r => cases h
        | nil =>
          simp only at e2
          cases e2
          rw [List.nil_append] at e e1
          rw [e, e1] at h0 ⊢
          refine ⟨t', e3, ?_⟩
          rw [measure_tree e3] at h0
          exact Option.some.inj h0
    · cases h
  · cases h
end Go.Cd
namespace Go.Cd
structure Wo where
  V : Int
  U : Bool
  D : Int
  E : Int
  bad : Bool
def badW : Wo := ⟨0, false, 0, 0, true⟩
def wr (n : Int) : Int := n % 18446744073709551616
def s64 (a : Int) : Int := if a < 9223372036854775808 then a else a - 18446744073709551616
def truth (b : Bool) : Int := if b = true then 1 else 0
def andI (a b : Int) : Int := ((a.toNat &&& b.toNat : Nat) : Int)
def orI (a b : Int) : Int := ((a.toNat ||| b.toNat : Nat) : Int)
def xorI (a b : Int) : Int := ((a.toNat ^^^ b.toNat : Nat) : Int)
def shlF : Nat → Int → Int
  | 0, v => v
  | n + 1, v => shlF n (wr (v + v))
def shrF (u : Bool) : Nat → Int → Int
  | 0, v => v
  | n + 1, v => shrF u n (if (decide (9223372036854775808 ≤ v) && !u) = true then v / 2 + 9223372036854775808 else v / 2)
def shifted (op : ByteArray) (a : Int) (u : Bool) (b : Int) : Int × Int :=
  if 63 < b then (0, 70) else if op = ⟨#[60, 60]⟩ then (shlF b.toNat a, 0) else (shrF u b.toNat a, 0)
def lessI (u : Bool) (a b : Int) : Bool := u && decide (a < b) || !u && decide (s64 a < s64 b)
def quoI (a b : Int) : Int := if s64 b = -1 then wr (-a) else wr ((s64 a).tdiv (s64 b))
def reckon (op : ByteArray) (a : Int) (au : Bool) (b : Int) (bu : Bool) : Int × Int :=
  if op = plB then (wr (a + b), 0) else if op = miB then (wr (a - b), 0) else if op = ⟨#[42]⟩ then (wr (a * b), 0)
  else if op = ⟨#[38]⟩ then (andI a b, 0) else if op = ⟨#[124]⟩ then (orI a b, 0) else if op = ⟨#[94]⟩ then (xorI a b, 0)
  else if op = ⟨#[61, 61]⟩ then (truth (decide (a = b)), 0) else if op = ⟨#[33, 61]⟩ then (truth (decide (a ≠ b)), 0)
  else if op = ⟨#[60]⟩ then (truth (lessI (au || bu) a b), 0) else if op = ⟨#[62, 61]⟩ then (truth (!lessI (au || bu) a b), 0)
  else if op = ⟨#[62]⟩ then (truth (!lessI (au || bu) a b && decide (a ≠ b)), 0) else if op = ⟨#[60, 61]⟩ then (truth (lessI (au || bu) a b || decide (a = b)), 0)
  else if op = ⟨#[60, 60]⟩ ∨ op = ⟨#[62, 62]⟩ then shifted op a au b
  else if b = 0 then (0, 71)
  else if ((au || bu) && decide (op = ⟨#[47]⟩)) = true then (a / b, 0)
  else if (au || bu) = true then (a % b, 0)
  else if op = ⟨#[47]⟩ then (quoI a b, 0) else (wr (a - wr (quoI a b * b)), 0)
def twoU (op : ByteArray) (a b : Bool) : Bool := decide (lev op ≠ 6) && decide (lev op ≠ 7) && decide (2 < lev op) && (a || b && decide (lev op ≠ 8))
def twoW (op : ByteArray) (a b : Wo) : Wo :=
  let n := lev op
  let U := twoU op a.U b.U
  let D := max a.D b.D
  let bad := a.bad || b.bad
  if a.E ≠ 0 then ⟨0, U, D, a.E, bad⟩
  else if n = 1 ∧ a.V ≠ 0 ∨ n = 2 ∧ a.V = 0 then ⟨truth (decide (n = 1)), U, D, 0, bad⟩
  else if b.E ≠ 0 then ⟨0, U, D, b.E, bad⟩
  else if n < 3 then ⟨truth (decide (b.V ≠ 0)), U, D, 0, bad⟩
  else ⟨(reckon op a.V a.U b.V b.U).1, U, D, (reckon op a.V a.U b.V b.U).2, bad⟩
def choW (c a b : Wo) : Wo :=
  let w := if c.V ≠ 0 then a else b
  ⟨if c.E ≠ 0 then 0 else w.V, a.U || b.U, 1 + max (max c.D a.D) b.D, if c.E ≠ 0 then c.E else w.E, c.bad || a.bad || b.bad⟩
def preW (s : ByteArray) (w : Wo) : Wo :=
  if (w.bad || decide (w.E ≠ 0)) = true then ⟨w.V, if s = noB then false else w.U, w.D + 1, w.E, w.bad⟩
  else if s = miB then ⟨wr (-w.V), w.U, w.D + 1, w.E, w.bad⟩
  else if s = tiB then ⟨18446744073709551615 - w.V, w.U, w.D + 1, w.E, w.bad⟩
  else if s = noB then ⟨truth (decide (w.V = 0)), false, w.D + 1, w.E, w.bad⟩
  else ⟨w.V, w.U, w.D + 1, w.E, w.bad⟩
def val : Tr → Wo
  | .num v u => ⟨v, u, 1, 0, false⟩
  | .par e => { val e with D := (val e).D + 1 }
  | .pre s e => preW s (val e)
  | .bin s a b => twoW s (val a) (val b)
  | .cho c a b => choW (val c) (val a) (val b)
theorem twoW_bad (s : ByteArray) (a b : Wo) : (twoW s a b).bad = (a.bad || b.bad) := by
  unfold twoW
  simp only
  repeat (split; · rfl)
  rfl
theorem twoW_D (s : ByteArray) (a b : Wo) : (twoW s a b).D = max a.D b.D := by
  unfold twoW
  simp only
  repeat (split; · rfl)
  rfl
theorem preW_bad (s : ByteArray) (w : Wo) : (preW s w).bad = w.bad := by
  unfold preW
  repeat (split; · rfl)
  rfl
theorem preW_D (s : ByteArray) (w : Wo) : (preW s w).D = w.D + 1 := by
  unfold preW
  repeat (split; · rfl)
  rfl
theorem val_bad : ∀ t, (val t).bad = false
  | .num _ _ => rfl
  | .par e => val_bad e
  | .pre s e => by rw [val, preW_bad]; exact val_bad e
  | .bin s a b => by rw [val, twoW_bad, val_bad a, val_bad b]; rfl
  | .cho c a b => by simp only [val, choW, val_bad c, val_bad a, val_bad b]; rfl
theorem val_D : ∀ t, (val t).D = dep t
  | .num _ _ => rfl
  | .par e => by simp only [val, dep, val_D e]
  | .pre s e => by rw [val, preW_D, val_D e]; rfl
  | .bin s a b => by rw [val, twoW_D, val_D a, val_D b]; rfl
  | .cho c a b => by simp only [val, choW, dep, val_D c, val_D a, val_D b]; omega
def dl (d : Int) (x : Tk) : Int :=
  if opT x = rp then (if opT x = lp then d + 1 else d) - 1 else if opT x = lp then d + 1 else d
theorem dl_num (d v u) : dl d (.num v u) = d := by
  unfold dl
  rw [if_neg (show ¬ opT (.num v u) = rp by show ¬ (⟨#[]⟩ : ByteArray) = rp; decide), if_neg (show ¬ opT (.num v u) = lp by show ¬ (⟨#[]⟩ : ByteArray) = lp; decide)]
theorem dl_lp (d) : dl d (.op lp) = d + 1 := by
  unfold dl
  rw [if_neg (show ¬ opT (.op lp) = rp by show ¬ lp = rp; decide), if_pos (show opT (.op lp) = lp from rfl)]
theorem dl_rp (d) : dl d (.op rp) = d - 1 := by
  unfold dl
  rw [if_pos (show opT (.op rp) = rp from rfl), if_neg (show ¬ opT (.op rp) = lp by show ¬ rp = lp; decide)]
theorem dl_op {s : ByteArray} (h1 : s ≠ lp) (h2 : s ≠ rp) (d) : dl d (.op s) = d := by
  unfold dl
  rw [if_neg (show ¬ opT (.op s) = rp from h2), if_neg (show ¬ opT (.op s) = lp from h1)]
def quF (i d : Int) : List Tk → Int
  | [] => -1
  | x :: r => if dl d x = 0 ∧ opT x = qm then i else quF (i + 1) (dl d x) r
def coF (i d o : Int) : List Tk → Int
  | [] => -1
  | x :: r => if dl d x = 0 ∧ opT x = cl then (if (if dl d x = 0 ∧ opT x = qm then o + 1 else o) - 1 = 0 then i else coF (i + 1) (dl d x) ((if dl d x = 0 ∧ opT x = qm then o + 1 else o) - 1) r)
    else coF (i + 1) (dl d x) (if dl d x = 0 ∧ opT x = qm then o + 1 else o) r
def ends (x : Tk) : Bool := decide (opT x = ⟨#[]⟩) || decide (opT x = rp)
def loF (i d : Int) (pe : Bool) (at' best : Int) : List Tk → Int
  | [] => at'
  | x :: r => if dl d x = 0 ∧ 0 < lev (opT x) ∧ lev (opT x) ≤ best ∧ pe = true then loF (i + 1) (dl d x) (ends x) i (lev (opT x)) r else loF (i + 1) (dl d x) (ends x) at' best r
theorem empty_qm : ¬ (⟨#[]⟩ : ByteArray) = qm := by decide
theorem empty_cl : ¬ (⟨#[]⟩ : ByteArray) = cl := by decide
theorem qu_skip {n : Int} {l : List Tk} {t : Tr} (h : W n l t) : ∀ i d r, 0 ≤ d → (0 < d ∨ t.isCho = false) → quF i d (l ++ r) = quF (i + l.length) d r := by
  induction h with
  | num n v u h =>
    intro i d r _ _
    simp only [List.cons_append, List.nil_append, quF, dl_num, opT, empty_qm, and_false, if_false, List.length_singleton]
    rfl
  | @par n l e h he ih =>
    intro i d r h0 _
    simp only [List.cons_append, List.append_assoc, List.nil_append, quF, dl_lp, opT]
    rw [if_neg (fun hh => absurd hh.2 (by decide)), ih (i + 1) (d + 1) _ (by omega) (.inl (by omega))]
    simp only [quF, dl_rp, opT]
    rw [if_neg (fun hh => absurd hh.2 (by decide))]
    simp only [List.length_cons, List.length_append, List.length_nil]
    congr 1 <;> omega
  | @pre n s l e h hs he ih =>
    intro i d r h0 _
    simp only [List.cons_append, quF, opT, dl_op (pre_ne hs pre_lp) (pre_ne hs pre_rp)]
    rw [if_neg (fun hh => absurd hh.2 (pre_ne hs pre_qm)), ih (i + 1) d r h0 (.inr (he.noCho (by omega)))]
    simp only [List.length_cons]
    congr 1; omega
  | @bin n s l r a b h hs ha hb i1 i2 =>
    intro i d q h0 _
    rw [List.append_assoc, i1 i d _ h0 (.inr (ha.noCho (by omega)))]
    simp only [List.cons_append, quF, opT, dl_op (lev_ne hs lev_lp) (lev_ne hs lev_rp)]
    rw [if_neg (fun hh => absurd hh.2 (lev_ne hs lev_qm)), i2 _ d q h0 (.inr (hb.noCho (by omega)))]
    simp only [List.length_cons, List.length_append]
    congr 1; omega
  | @cho n l m r c a b h hc ha hb i1 i2 i3 =>
    intro i d q h0 h1
    have hd : 0 < d := h1.resolve_right (fun hh => Bool.noConfusion hh)
    rw [List.append_assoc, i1 i d _ h0 (.inl hd)]
    simp only [List.cons_append, List.append_assoc, quF, opT, dl_op (show qm ≠ lp by decide) (show qm ≠ rp by decide)]
    rw [if_neg (fun hh => by omega), i2 _ d _ h0 (.inl hd)]
    simp only [quF, opT, dl_op (show cl ≠ lp by decide) (show cl ≠ rp by decide)]
    rw [if_neg (fun hh => by omega), i3 _ d q h0 (.inl hd)]
    simp only [List.length_cons, List.length_append]
    congr 1; omega
theorem co_skip {n : Int} {l : List Tk} {t : Tr} (h : W n l t) : ∀ i d o r, 0 ≤ d → (0 < d ∨ t.isCho = false ∨ 1 ≤ o) → coF i d o (l ++ r) = coF (i + l.length) d o r := by
  induction h with
  | num n v u h =>
    intro i d o r _ _
    simp only [List.cons_append, List.nil_append, coF, dl_num, opT, empty_qm, empty_cl, and_false, if_false, List.length_singleton]
    rfl
  | @par n l e h he ih =>
    intro i d o r h0 _
    simp only [List.cons_append, List.append_assoc, List.nil_append, coF, dl_lp, opT, show ¬ lp = qm by decide, show ¬ lp = cl by decide, and_false, if_false]
    rw [ih (i + 1) (d + 1) o _ (by omega) (.inl (by omega))]
    simp only [coF, dl_rp, opT, show ¬ rp = qm by decide, show ¬ rp = cl by decide, and_false, if_false]
    simp only [List.length_cons, List.length_append, List.length_nil]
    congr 1 <;> omega
  | @pre n s l e h hs he ih =>
    intro i d o r h0 _
    simp only [List.cons_append, coF, opT, dl_op (pre_ne hs pre_lp) (pre_ne hs pre_rp), pre_ne hs pre_qm, pre_ne hs pre_cl, and_false, if_false]
    rw [ih (i + 1) d o r h0 (.inr (.inl (he.noCho (by omega))))]
    simp only [List.length_cons]
    congr 1; omega
  | @bin n s l r a b h hs ha hb i1 i2 =>
    intro i d o q h0 _
    rw [List.append_assoc, i1 i d o _ h0 (.inr (.inl (ha.noCho (by omega))))]
    simp only [List.cons_append, coF, opT, dl_op (lev_ne hs lev_lp) (lev_ne hs lev_rp), lev_ne hs lev_qm, lev_ne hs lev_cl, and_false, if_false]
    rw [i2 _ d o q h0 (.inr (.inl (hb.noCho (by omega))))]
    simp only [List.length_cons, List.length_append]
    congr 1; omega
  | @cho n l m r c a b h hc ha hb i1 i2 i3 =>
    intro i d o q h0 h1
    rw [List.append_assoc, i1 i d o _ h0 (.inr (.inl (hc.noCho (by omega))))]
    by_cases hd : 0 < d
    · simp only [List.cons_append, List.append_assoc, coF, opT, dl_op (show qm ≠ lp by decide) (show qm ≠ rp by decide), show ¬ d = 0 by omega, false_and, if_false]
      rw [i2 _ d o _ h0 (.inl hd)]
      simp only [coF, opT, dl_op (show cl ≠ lp by decide) (show cl ≠ rp by decide), show ¬ d = 0 by omega, false_and, if_false]
      rw [i3 _ d o q h0 (.inl hd)]
      simp only [List.length_cons, List.length_append]
      congr 1; omega
    · have hd0 : d = 0 := by omega
      subst hd0
      have ho : 1 ≤ o := (h1.resolve_left hd).resolve_left (fun hh => Bool.noConfusion hh)
      simp only [List.cons_append, List.append_assoc, coF, opT, dl_op (show qm ≠ lp by decide) (show qm ≠ rp by decide), show ¬ qm = cl by decide, and_false, if_false, and_self, if_true]
      rw [i2 _ 0 (o + 1) _ h0 (.inr (.inr (by omega)))]
      simp only [coF, opT, dl_op (show cl ≠ lp by decide) (show cl ≠ rp by decide), show ¬ cl = qm by decide, and_false, if_false, and_self, if_true]
      rw [if_neg (by omega), show o + 1 - 1 = o by omega, i3 _ 0 o q h0 (.inr (.inr ho))]
      simp only [List.length_cons, List.length_append]
      congr 1; omega
theorem ends_num (v u) : ends (.num v u) = true := rfl
theorem ends_rp : ends (.op rp) = true := by decide
theorem lo_deep {n : Int} {l : List Tk} {t : Tr} (h : W n l t) : ∀ i d pe k best r, 0 < d → loF i d pe k best (l ++ r) = loF (i + l.length) d true k best r := by
  induction h with
  | num n v u h =>
    intro i d pe k best r hd
    simp only [List.cons_append, List.nil_append, loF, dl_num, show ¬ d = 0 by omega, false_and, if_false, ends_num, List.length_singleton]
    rfl
  | @par n l e h he ih =>
    intro i d pe k best r hd
    simp only [List.cons_append, List.append_assoc, List.nil_append, loF, dl_lp, show ¬ d + 1 = 0 by omega, false_and, if_false]
    rw [ih _ (d + 1) _ _ _ _ (by omega)]
    simp only [loF, dl_rp, show ¬ d + 1 - 1 = 0 by omega, false_and, if_false, ends_rp]
    simp only [List.length_cons, List.length_append, List.length_nil]
    congr 1 <;> omega
  | @pre n s l e h hs he ih =>
    intro i d pe k best r hd
    simp only [List.cons_append, loF, dl_op (pre_ne hs pre_lp) (pre_ne hs pre_rp), show ¬ d = 0 by omega, false_and, if_false]
    rw [ih _ d _ _ _ _ hd]
    simp only [List.length_cons]
    congr 1; omega
  | @bin n s l r a b h hs ha hb i1 i2 =>
    intro i d pe k best q hd
    rw [List.append_assoc, i1 _ d _ _ _ _ hd]
    simp only [List.cons_append, loF, dl_op (lev_ne hs lev_lp) (lev_ne hs lev_rp), show ¬ d = 0 by omega, false_and, if_false]
    rw [i2 _ d _ _ _ _ hd]
    simp only [List.length_cons, List.length_append]
    congr 1; omega
  | @cho n l m r c a b h hc ha hb i1 i2 i3 =>
    intro i d pe k best q hd
    rw [List.append_assoc, i1 _ d _ _ _ _ hd]
    simp only [List.cons_append, List.append_assoc, loF, dl_op (show qm ≠ lp by decide) (show qm ≠ rp by decide), show ¬ d = 0 by omega, false_and, if_false]
    rw [i2 _ d _ _ _ _ hd]
    simp only [loF, dl_op (show cl ≠ lp by decide) (show cl ≠ rp by decide), show ¬ d = 0 by omega, false_and, if_false]
    rw [i3 _ d _ _ _ _ hd]
    simp only [List.length_cons, List.length_append]
    congr 1; omega
theorem pre_ends {s : ByteArray} (h : isPre s = true) : ends (.op s) = false := by
  rcases isPre_cases h with rfl | rfl | rfl | rfl <;> decide
theorem lev_ends {s : ByteArray} (h : 0 < lev s) : ends (.op s) = false := by
  unfold ends opT
  simp only [Bool.or_eq_false_iff, decide_eq_false_iff_not]
  exact ⟨lev_ne h lev_empty, lev_ne h lev_rp⟩
theorem lo_one {n : Int} {l : List Tk} {t : Tr} (h : W n l t) : t.isCho = false → t.isBin = false → ∀ i k best r, loF i 0 false k best (l ++ r) = loF (i + l.length) 0 true k best r := by
  induction h with
  | num n v u h =>
    intro _ _ i k best r
    simp only [List.cons_append, List.nil_append, loF, dl_num, Bool.false_eq_true, and_false, if_false, ends_num, List.length_singleton]
    rfl
  | @par n l e h he ih =>
    intro _ _ i k best r
    simp only [List.cons_append, List.append_assoc, List.nil_append, loF, dl_lp, Bool.false_eq_true, and_false, if_false]
    rw [lo_deep he _ _ _ _ _ _ (by omega)]
    simp only [loF, dl_rp, opT, lev_rp, show ¬ (0 : Int) < 0 by omega, false_and, and_false, if_false, ends_rp]
    simp only [List.length_cons, List.length_append, List.length_nil]
    congr 1 <;> omega
  | @pre n s l e h hs he ih =>
    intro _ _ i k best r
    simp only [List.cons_append, loF, dl_op (pre_ne hs pre_lp) (pre_ne hs pre_rp), Bool.false_eq_true, and_false, if_false, pre_ends hs]
    rw [ih (he.noCho (by omega)) (he.noBin (by omega))]
    simp only [List.length_cons]
    congr 1; omega
  | bin h hs ha hb i1 i2 => exact fun _ hh => (Bool.noConfusion hh)
  | cho h hc ha hb i1 i2 i3 => exact fun hh => (Bool.noConfusion hh)
def Lo1 (n : Int) (l : List Tk) : Prop := ∀ i k best r, best < n → loF i 0 false k best (l ++ r) = loF (i + l.length) 0 true k best r
def Lo2 (n : Int) (l : List Tk) : Prop := ∀ i k best r, n ≤ best → ∃ k' best', n ≤ best' ∧ loF i 0 false k best (l ++ r) = loF (i + l.length) 0 true k' best' r
theorem lo_bin0 {s : ByteArray} {l r : List Tk} (hs : 0 < lev s) (h1 : Lo1 (lev s) l) (h2 : Lo2 (lev s) l) (h3 : Lo1 (lev s + 1) r) (i k best : Int) (q : List Tk) :
    loF i 0 false k best ((l ++ Tk.op s :: r) ++ q) = if lev s ≤ best then loF (i + (l ++ Tk.op s :: r).length) 0 true (i + l.length) (lev s) q else loF (i + (l ++ Tk.op s :: r).length) 0 true k best q := by
  rw [List.append_assoc, List.cons_append]
  by_cases hle : lev s ≤ best
  · obtain ⟨k', best', k1, k2⟩ := h2 i k best (.op s :: (r ++ q)) hle
    rw [k2, if_pos hle]
    simp only [loF, dl_op (lev_ne hs lev_lp) (lev_ne hs lev_rp), opT]
    rw [if_pos ⟨trivial, hs, k1, trivial⟩, lev_ends hs, h3 _ _ _ _ (by omega)]
    simp only [List.length_cons, List.length_append]
    congr 1; omega
  · rw [h1 i k best _ (by omega), if_neg hle]
    simp only [loF, dl_op (lev_ne hs lev_lp) (lev_ne hs lev_rp), opT]
    rw [if_neg (fun hh => hle hh.2.2.1), lev_ends hs, h3 _ _ _ _ (by omega)]
    simp only [List.length_cons, List.length_append]
    congr 1; omega
theorem lo_main {n : Int} {l : List Tk} {t : Tr} (h : W n l t) : t.isCho = false → 1 ≤ n → Lo1 n l ∧ Lo2 n l := by
  have one : ∀ {n : Int} {l : List Tk} {t : Tr}, W n l t → t.isCho = false → t.isBin = false → Lo1 n l ∧ Lo2 n l :=
    fun h hc hb => ⟨fun i k best r _ => lo_one h hc hb i k best r, fun i k best r hn => ⟨k, best, hn, lo_one h hc hb i k best r⟩⟩
  induction h with
  | num n v u h => exact fun _ _ => one (.num n v u h) rfl rfl
  | par h he ih => exact fun _ _ => one (.par h he) rfl rfl
  | pre h hs he ih => exact fun _ _ => one (.pre h hs he) rfl rfl
  | cho => exact fun hh => (Bool.noConfusion hh)
  | @bin n s l r a b h hs ha hb i1 i2 =>
    intro _ _
    obtain ⟨j1, j2⟩ := i1 (ha.noCho (by omega)) (by omega)
    obtain ⟨j3, _⟩ := i2 (hb.noCho (by omega)) (by omega)
    have main := lo_bin0 hs j1 j2 j3
    refine ⟨fun i k best q hb => ?_, fun i k best q hb => ?_⟩
    · rw [main, if_neg (by omega)]
    · by_cases hle : lev s ≤ best
      · exact ⟨_, lev s, h, by rw [main, if_pos hle]⟩
      · exact ⟨k, best, hb, by rw [main, if_neg hle]⟩
theorem lo_bin {s : ByteArray} {l r : List Tk} {a b : Tr} (hs : 0 < lev s) (ha : W (lev s) l a) (hb : W (lev s + 1) r b) (i k best : Int) (q : List Tk) :
    loF i 0 false k best ((l ++ Tk.op s :: r) ++ q) = if lev s ≤ best then loF (i + (l ++ Tk.op s :: r).length) 0 true (i + l.length) (lev s) q else loF (i + (l ++ Tk.op s :: r).length) 0 true k best q :=
  lo_bin0 hs (lo_main ha (ha.noCho (by omega)) (by omega)).1 (lo_main ha (ha.noCho (by omega)) (by omega)).2 (lo_main hb (hb.noCho (by omega)) (by omega)).1 i k best q
mutual
def ofF : Nat → List Tk → Wo
  | 0, _ => badW
  | f + 1, l => if l = [] then badW else
    if 0 ≤ quF 0 0 l then
      if coF (quF 0 0 l) 0 0 (l.drop (quF 0 0 l).toNat) < 0 then badW
      else choW (sidF f (l.take (quF 0 0 l).toNat)) (ofF f ((l.take (coF (quF 0 0 l) 0 0 (l.drop (quF 0 0 l).toNat)).toNat).drop ((quF 0 0 l).toNat + 1)))
        (ofF f (l.drop ((coF (quF 0 0 l) 0 0 (l.drop (quF 0 0 l).toNat)).toNat + 1)))
    else sidF f l
def sidF : Nat → List Tk → Wo
  | 0, _ => badW
  | f + 1, l => if 0 ≤ loF 0 0 false (-1) 11 l then twoW (opT (l.getD (loF 0 0 false (-1) 11 l).toNat (.num 0 false))) (sidF f (l.take (loF 0 0 false (-1) 11 l).toNat)) (sidF f (l.drop ((loF 0 0 false (-1) 11 l).toNat + 1)))
    else oneF f l
def oneF : Nat → List Tk → Wo
  | 0, _ => badW
  | f + 1, l => if l = [] then badW else
    if l.length = 1 ∧ opT (l.getD 0 (.num 0 false)) = ⟨#[]⟩ then ⟨vT (l.getD 0 (.num 0 false)), uT (l.getD 0 (.num 0 false)), 1, 0, false⟩
    else if opT (l.getD 0 (.num 0 false)) = lp ∧ opT (l.getD (l.length - 1) (.num 0 false)) = rp then { ofF f ((l.take (l.length - 1)).drop 1) with D := (ofF f ((l.take (l.length - 1)).drop 1)).D + 1 }
    else preW (opT (l.getD 0 (.num 0 false))) (if isPre (opT (l.getD 0 (.num 0 false))) = true then oneF f (l.drop 1) else badW)
end
theorem take_app {α : Type} (a b : List α) : (a ++ b).take a.length = a := by simp
theorem drop_app {α : Type} (a b : List α) : (a ++ b).drop a.length = b := by simp
theorem doc_tree {n : Int} {l : List Tk} {t : Tr} (h : W n l t) :
    (t.isCho = false → t.isBin = false → ∀ f, 3 * l.length + 1 ≤ f → oneF f l = val t) ∧
    (t.isCho = false → ∀ f, 3 * l.length + 2 ≤ f → sidF f l = val t) ∧
    (∀ f, 3 * l.length + 3 ≤ f → ofF f l = val t) := by
  have up2 : ∀ {n : Int} {l : List Tk} {t : Tr}, W n l t → t.isCho = false → t.isBin = false → (∀ f, 3 * l.length + 1 ≤ f → oneF f l = val t) → (∀ f, 3 * l.length + 2 ≤ f → sidF f l = val t) := by
    intro n l t h hc hb h1 f hf
    obtain ⟨f, rfl⟩ : ∃ g, f = g + 1 := ⟨f - 1, by omega⟩
    have e := lo_one h hc hb 0 (-1) 11 []
    rw [List.append_nil] at e
    have e2 : loF 0 0 false (-1) 11 l = -1 := e
    simp only [sidF, e2]
    rw [if_neg (by omega)]
    exact h1 f (by omega)
  have up3 : ∀ {n : Int} {l : List Tk} {t : Tr}, W n l t → t.isCho = false → (∀ f, 3 * l.length + 2 ≤ f → sidF f l = val t) → (∀ f, 3 * l.length + 3 ≤ f → ofF f l = val t) := by
    intro n l t h hc h1 f hf
    obtain ⟨f, rfl⟩ : ∃ g, f = g + 1 := ⟨f - 1, by omega⟩
    have e := qu_skip h 0 0 [] (by omega) (.inr hc)
    rw [List.append_nil] at e
    have e2 : quF 0 0 l = -1 := e
    simp only [ofF, e2]
    rw [if_neg h.ne, if_neg (by omega)]
    exact h1 f (by omega)
  induction h with
  | num n v u h =>
    have a1 : ∀ f, 3 * [Tk.num v u].length + 1 ≤ f → oneF f [Tk.num v u] = val (.num v u) := by
      intro f hf
      obtain ⟨f, rfl⟩ : ∃ g, f = g + 1 := ⟨f - 1, by omega⟩
      simp only [oneF]
      rw [if_neg (by simp), if_pos ⟨rfl, rfl⟩]
      rfl
    have a2 := up2 (.num n v u h) rfl rfl a1
    exact ⟨fun _ _ => a1, fun _ => a2, up3 (.num n v u h) rfl a2⟩
  | @par n l e h he ih =>
    have a1 : ∀ f, 3 * (Tk.op lp :: (l ++ [Tk.op rp])).length + 1 ≤ f → oneF f (Tk.op lp :: (l ++ [Tk.op rp])) = val (.par e) := by
      intro f hf
      obtain ⟨f, rfl⟩ : ∃ g, f = g + 1 := ⟨f - 1, by omega⟩
      have hl : (Tk.op lp :: (l ++ [Tk.op rp])).length = l.length + 2 := by simp
      rw [hl] at hf
      have e1 : (Tk.op lp :: (l ++ [Tk.op rp])).getD 0 (.num 0 false) = .op lp := rfl
      have e2 : (Tk.op lp :: (l ++ [Tk.op rp])).getD (l.length + 1) (.num 0 false) = .op rp := by
        rw [List.getD_cons_succ, List.getD_eq_getElem?_getD, List.getElem?_append_right (Nat.le_refl _), Nat.sub_self]; rfl
      have e3 : ((Tk.op lp :: (l ++ [Tk.op rp])).take (l.length + 1)).drop 1 = l := by
        rw [List.take_succ_cons, List.drop_succ_cons, List.drop_zero, take_app]
      simp only [oneF, hl, show l.length + 2 - 1 = l.length + 1 by omega]
      rw [if_neg (by simp), if_neg (by omega), if_pos ⟨by rw [e1]; rfl, by rw [e2]; rfl⟩, e3, ih.2.2 f (by omega)]
      rfl
    have a2 := up2 (.par h he) rfl rfl a1
    exact ⟨fun _ _ => a1, fun _ => a2, up3 (.par h he) rfl a2⟩
  | @pre n s l e h hs he ih =>
    have a1 : ∀ f, 3 * (Tk.op s :: l).length + 1 ≤ f → oneF f (Tk.op s :: l) = val (.pre s e) := by
      intro f hf
      obtain ⟨f, rfl⟩ : ∃ g, f = g + 1 := ⟨f - 1, by omega⟩
      rw [List.length_cons] at hf
      have e1 : (Tk.op s :: l).getD 0 (.num 0 false) = .op s := rfl
      simp only [oneF, e1, opT]
      rw [if_neg (by simp), if_neg (fun hh => pre_ne hs pre_empty hh.2), if_neg (fun hh => pre_ne hs pre_lp hh.1), if_pos hs]
      rw [show (Tk.op s :: l).drop 1 = l from rfl, ih.1 (he.noCho (by omega)) (he.noBin (by omega)) f (by omega)]
      rfl
    have a2 := up2 (.pre h hs he) rfl rfl a1
    exact ⟨fun _ _ => a1, fun _ => a2, up3 (.pre h hs he) rfl a2⟩
  | @bin n s l r a b h hs ha hb i1 i2 =>
    have a2 : ∀ f, 3 * (l ++ Tk.op s :: r).length + 2 ≤ f → sidF f (l ++ Tk.op s :: r) = val (.bin s a b) := by
      intro f hf
      obtain ⟨f, rfl⟩ : ∃ g, f = g + 1 := ⟨f - 1, by omega⟩
      have hr := lev_range s
      have e := lo_bin hs ha hb 0 (-1) 11 []
      rw [List.append_nil, if_pos (by omega), Int.zero_add, Int.zero_add] at e
      have e2 : loF 0 0 false (-1) 11 (l ++ Tk.op s :: r) = (l.length : Int) := e
      rw [List.length_append, List.length_cons] at hf
      simp only [sidF, e2, Int.toNat_natCast]
      have e3 : (l ++ Tk.op s :: r).getD l.length (.num 0 false) = .op s := by
        rw [List.getD_eq_getElem?_getD, List.getElem?_append_right (Nat.le_refl _), Nat.sub_self]; rfl
      have e4 : (l ++ Tk.op s :: r).drop (l.length + 1) = r := by
        rw [← List.drop_drop, drop_app]; rfl
      rw [if_pos (by omega), e3, take_app, e4, i1.2.1 (ha.noCho (by omega)) f (by omega), i2.2.1 (hb.noCho (by omega)) f (by omega)]
      rfl
    exact ⟨fun _ hh => (Bool.noConfusion hh), fun _ => a2, up3 (.bin h hs ha hb) rfl a2⟩
  | @cho n l m r c a b h hc ha hb i1 i2 i3 =>
    refine ⟨fun hh => (Bool.noConfusion hh), fun hh => (Bool.noConfusion hh), ?_⟩
    intro f hf
    obtain ⟨f, rfl⟩ : ∃ g, f = g + 1 := ⟨f - 1, by omega⟩
    have e1 : quF 0 0 (l ++ Tk.op qm :: (m ++ Tk.op cl :: r)) = (l.length : Int) := by
      rw [qu_skip hc 0 0 _ (by omega) (.inr (hc.noCho (by omega)))]
      simp only [quF, opT, dl_op (show qm ≠ lp by decide) (show qm ≠ rp by decide), and_self, if_true]
      omega
    have e2 : coF (l.length : Int) 0 0 (Tk.op qm :: (m ++ Tk.op cl :: r)) = ((l.length + 1 + m.length : Nat) : Int) := by
      simp only [coF, opT, dl_op (show qm ≠ lp by decide) (show qm ≠ rp by decide), show ¬ qm = cl by decide, and_false, if_false, and_self, if_true]
      rw [co_skip ha _ 0 _ _ (by omega) (.inr (.inr (by omega)))]
      simp only [coF, opT, dl_op (show cl ≠ lp by decide) (show cl ≠ rp by decide), show ¬ cl = qm by decide, and_false, if_false, and_self, if_true]
      rw [if_pos (by omega)]
      omega
    have e3 : ((l ++ Tk.op qm :: (m ++ Tk.op cl :: r)).take (l.length + 1 + m.length)).drop (l.length + 1) = m := by
      rw [List.drop_take, ← List.drop_drop, drop_app, show l.length + 1 + m.length - (l.length + 1) = m.length by omega]
      exact take_app m _
    have e4 : (l ++ Tk.op qm :: (m ++ Tk.op cl :: r)).drop (l.length + 1 + m.length + 1) = r := by
      rw [show l.length + 1 + m.length + 1 = l.length + (1 + (m.length + 1)) by omega, ← List.drop_drop, drop_app, ← List.drop_drop, List.drop_succ_cons, List.drop_zero, ← List.drop_drop, drop_app]
      rfl
    simp only [List.length_append, List.length_cons] at hf
    simp only [ofF, e1, Int.toNat_natCast, drop_app, e2, take_app]
    rw [if_neg (by simp), if_pos (by omega), if_neg (by omega), e3, e4, i1.2.1 (hc.noCho (by omega)) f (by omega), i2.2.2 f (by omega), i3.2.2 f (by omega)]
    rfl
def clean (l : List Tk) : Prop := ∀ t ∈ l, isNum t = false → opT t ≠ ⟨#[]⟩
theorem clean.sub {a b : List Tk} (h : clean b) (hs : ∀ t ∈ a, t ∈ b) : clean a := fun t ht => h t (hs t ht)
theorem of_opT {x : Tk} {s : ByteArray} (h : opT x = s) (hs : s ≠ ⟨#[]⟩) : x = .op s := by
  cases x with
  | num v u => exact absurd h.symm hs
  | op t => rw [← h]; rfl
theorem qu_at : ∀ {l : List Tk} {i d : Int}, 0 ≤ quF i d l → ∃ x z, l = x ++ .op qm :: z ∧ quF i d l = i + x.length
  | [], i, d, h => by exact absurd h (by simp [quF])
  | y :: r, i, d, h => by
    simp only [quF] at h ⊢
    split at h
    · rename_i h1
      rw [if_pos h1]
      exact ⟨[], r, by rw [of_opT h1.2 (by decide)]; rfl, by simp⟩
    · rename_i h1
      rw [if_neg h1]
      obtain ⟨x, z, e1, e2⟩ := qu_at h
      exact ⟨y :: x, z, by rw [e1]; rfl, by rw [e2, List.length_cons]; omega⟩
theorem co_at : ∀ {l : List Tk} {i d o : Int}, 0 ≤ coF i d o l → ∃ x z, l = x ++ .op cl :: z ∧ coF i d o l = i + x.length
  | [], i, d, o, h => by exact absurd h (by simp [coF])
  | y :: r, i, d, o, h => by
    simp only [coF] at h ⊢
    generalize (if dl d y = 0 ∧ opT y = qm then o + 1 else o) = o1 at h ⊢
    by_cases h1 : dl d y = 0 ∧ opT y = cl
    · rw [if_pos h1] at h ⊢
      by_cases h2 : o1 - 1 = 0
      · rw [if_pos h2] at h ⊢
        exact ⟨[], r, by rw [of_opT h1.2 (by decide)]; rfl, by simp⟩
      · rw [if_neg h2] at h ⊢
        obtain ⟨x, z, e1, e2⟩ := co_at h
        exact ⟨y :: x, z, by rw [e1]; rfl, by rw [e2, List.length_cons]; omega⟩
    · rw [if_neg h1] at h ⊢
      obtain ⟨x, z, e1, e2⟩ := co_at h
      exact ⟨y :: x, z, by rw [e1]; rfl, by rw [e2, List.length_cons]; omega⟩
theorem lo_at : ∀ {l : List Tk} {i d : Int} {pe : Bool} {k best : Int}, loF i d pe k best l = k ∨ ∃ x s z, l = x ++ .op s :: z ∧ 0 < lev s ∧ loF i d pe k best l = i + x.length
  | [], i, d, pe, k, best => .inl rfl
  | y :: r, i, d, pe, k, best => by
    simp only [loF]
    split
    · rename_i h1
      have hy : y = .op (opT y) := of_opT rfl (lev_ne h1.2.1 lev_empty)
      rcases @lo_at r (i + 1) (dl d y) (ends y) i (lev (opT y)) with e | ⟨x, s, z, e1, e2, e3⟩
      · exact .inr ⟨[], opT y, r, by rw [← hy]; rfl, h1.2.1, by rw [e]; simp⟩
      · exact .inr ⟨y :: x, s, z, by rw [e1]; rfl, e2, by rw [e3, List.length_cons]; omega⟩
    · rcases @lo_at r (i + 1) (dl d y) (ends y) k best with e | ⟨x, s, z, e1, e2, e3⟩
      · exact .inl e
      · exact .inr ⟨y :: x, s, z, by rw [e1]; rfl, e2, by rw [e3, List.length_cons]; omega⟩
theorem lo_bound (l : List Tk) (i d : Int) (pe : Bool) (k best : Int) : loF i d pe k best l = k ∨ i ≤ loF i d pe k best l := by
  rcases @lo_at l i d pe k best with e | ⟨x, s, z, _, _, e⟩
  · exact .inl e
  · right; omega
theorem W.up {n : Int} {l : List Tk} {t : Tr} (h : W n l t) {m : Int} (hm : m ≤ 11) (hc : t.isCho = false) (hb : ∀ s a b, t = .bin s a b → m ≤ lev s) : W m l t := by
  cases h with
  | num _ v u h => exact .num _ v u hm
  | par h he => exact .par hm he
  | pre h hs he => exact .pre hm hs he
  | bin h hs ha hbb => exact .bin (hb _ _ _ rfl) hs ha hbb
  | cho h hc' ha hbb => cases hc
theorem lo_root {l r : List Tk} {a b : Tr} {s : ByteArray} (hs : 0 < lev s) (ha : W 1 l a) (hb : W 1 r b) (h : loF 0 0 false (-1) 11 (l ++ .op s :: r) = (l.length : Int)) : W (lev s) l a ∧ W (lev s + 1) r b := by
  have hr := lev_range s
  have hca := ha.noCho (by omega)
  have hcb := hb.noCho (by omega)
  have h1 : ∃ k best, loF 0 0 false (-1) 11 (l ++ .op s :: r) = loF (l.length : Int) 0 true k best (.op s :: r) ∧ k < l.length ∧ (∀ s' x y, a = .bin s' x y → best = lev s') := by
    cases a with
    | bin s1 x y =>
      cases ha with
      | @bin _ _ la lb _ _ g1 g2 g3 g4 =>
        have hr1 := lev_range s1
        have := lo_bin g2 g3 g4 0 (-1) 11 (.op s :: r)
        rw [if_pos (by omega), Int.zero_add, Int.zero_add] at this
        exact ⟨_, _, this, by simp only [List.length_append, List.length_cons]; omega, fun s' x y e => by cases e; rfl⟩
    | cho => cases hca
    | num => exact ⟨_, _, by rw [lo_one ha rfl rfl, Int.zero_add], by have := List.length_pos_iff.2 ha.ne; omega, fun s' x y e => by cases e⟩
    | par => exact ⟨_, _, by rw [lo_one ha rfl rfl, Int.zero_add], by have := List.length_pos_iff.2 ha.ne; omega, fun s' x y e => by cases e⟩
    | pre => exact ⟨_, _, by rw [lo_one ha rfl rfl, Int.zero_add], by have := List.length_pos_iff.2 ha.ne; omega, fun s' x y e => by cases e⟩
  obtain ⟨k, best, e1, hk, hbest⟩ := h1
  rw [e1] at h
  simp only [loF, dl_op (lev_ne hs lev_lp) (lev_ne hs lev_rp), opT, true_and, and_true, lev_ends hs] at h
  by_cases hle : 0 < lev s ∧ lev s ≤ best
  · rw [if_pos hle] at h
    refine ⟨ha.up (by omega) hca (fun s' x y e => by have := hbest s' x y e; omega), hb.up (by omega) hcb (fun s' x y e => ?_)⟩
    subst e
    cases hb with
    | @bin _ _ la lb _ _ g1 g2 g3 g4 =>
      by_cases hl2 : lev s' ≤ lev s
      · have := lo_bin g2 g3 g4 ((l.length : Int) + 1) (l.length : Int) (lev s) []
        rw [if_pos hl2, List.append_nil] at this
        rw [this] at h
        have h2 : ((l.length : Int) + 1 + la.length) = l.length := h
        omega
      · omega
  · exfalso
    rw [if_neg hle] at h
    rcases lo_bound r ((l.length : Int) + 1) 0 false k best with e | e
    · rw [e] at h; omega
    · omega
theorem not_bad : ∀ (f : Nat) (l : List Tk), clean l → ((ofF f l).bad = false → ∃ t, W 0 l t) ∧ ((sidF f l).bad = false → ∃ t, W 1 l t) ∧ ((oneF f l).bad = false → ∃ t, W 11 l t)
  | 0, l, _ => ⟨fun h => by simp [ofF, badW] at h, fun h => by simp [sidF, badW] at h, fun h => by simp [oneF, badW] at h⟩
  | f + 1, l, hcl => by
    refine ⟨fun h => ?_, fun h => ?_, fun h => ?_⟩
    · simp only [ofF] at h
      split at h
      · cases h
      · split at h
        · rename_i hne hq
          obtain ⟨x, z, e1, e2⟩ := qu_at hq
          rw [Int.zero_add] at e2
          rw [e2, Int.toNat_natCast] at h
          split at h
          · cases h
          · rename_i hc
            rw [e1, drop_app] at h hc
            obtain ⟨y, v, e3, e4⟩ := co_at (by omega : 0 ≤ coF (x.length : Int) 0 0 (.op qm :: z))
            cases y with
            | nil =>
              rw [List.nil_append] at e3
              injection e3 with e5 _
              injection e5 with e5
              exact absurd e5 (by decide)
            | cons y0 m =>
              rw [List.cons_append] at e3
              injection e3 with e5 e6
              subst e6
              rw [e4, List.length_cons] at h
              have e7 : ((x.length : Int) + ((m.length + 1 : Nat) : Int)).toNat = x.length + 1 + m.length := by omega
              have e8 : ((x ++ Tk.op qm :: (m ++ Tk.op cl :: v)).take (x.length + 1 + m.length)).drop (x.length + 1) = m := by
                rw [List.drop_take, ← List.drop_drop, drop_app, show x.length + 1 + m.length - (x.length + 1) = m.length by omega]
                exact take_app m _
              have e9 : (x ++ Tk.op qm :: (m ++ Tk.op cl :: v)).drop (x.length + 1 + m.length + 1) = v := by
                rw [show x.length + 1 + m.length + 1 = x.length + (1 + (m.length + 1)) by omega, ← List.drop_drop, drop_app, ← List.drop_drop, List.drop_succ_cons, List.drop_zero, ← List.drop_drop, drop_app]
                rfl
              rw [e7, e8, e9, take_app] at h
              simp only [choW, Bool.or_eq_false_iff] at h
              subst e1
              obtain ⟨tc, hc1⟩ := (not_bad f x (hcl.sub (by simp +contextual))).2.1 h.1.1
              obtain ⟨ta, ha1⟩ := (not_bad f m (hcl.sub (by simp +contextual))).1 h.1.2
              obtain ⟨tb, hb1⟩ := (not_bad f v (hcl.sub (by simp +contextual))).1 h.2
              exact ⟨_, .cho (by omega) hc1 ha1 hb1⟩
        · obtain ⟨t, ht⟩ := (not_bad f l hcl).2.1 h
          exact ⟨t, ht.mono (by omega)⟩
    · simp only [sidF] at h
      split at h
      · rename_i hq
        rcases @lo_at l 0 0 false (-1) 11 with e | ⟨x, s, z, e1, e2, e3⟩
        · omega
        · rw [Int.zero_add] at e3
          rw [e3, Int.toNat_natCast, twoW_bad, Bool.or_eq_false_iff] at h
          rw [e1, take_app] at h
          have e4 : (x ++ Tk.op s :: z).drop (x.length + 1) = z := by
            rw [← List.drop_drop, drop_app]; rfl
          rw [e4] at h
          rw [e1] at e3
          subst e1
          obtain ⟨ta, ha⟩ := (not_bad f x (hcl.sub (by simp +contextual))).2.1 h.1
          obtain ⟨tb, hb⟩ := (not_bad f z (hcl.sub (by simp +contextual))).2.1 h.2
          obtain ⟨g1, g2⟩ := lo_root e2 ha hb e3
          exact ⟨_, .bin (by omega) e2 g1 g2⟩
      · obtain ⟨t, ht⟩ := (not_bad f l hcl).2.2 h
        exact ⟨t, ht.mono (by omega)⟩
    · simp only [oneF] at h
      split at h
      · cases h
      · rename_i hne
        split at h
        · rename_i h1
          obtain ⟨y, rfl⟩ := List.length_eq_one_iff.1 h1.1
          cases y with
          | num v u => exact ⟨_, .num _ v u (by omega)⟩
          | op s => exact absurd h1.2 (hcl _ (by simp) rfl)
        · rename_i h1
          split at h
          · rename_i h2
            cases l with
            | nil => exact absurd rfl hne
            | cons y r =>
              have hy : y = .op lp := of_opT h2.1 (by decide)
              subst hy
              rcases List.eq_nil_or_concat r with rfl | ⟨m, z, rfl⟩
              · exact absurd h2.2 (by decide)
              · rw [List.concat_eq_append] at h h2 hcl ⊢
                have hl : (Tk.op lp :: (m ++ [z])).length = m.length + 2 := by simp
                rw [hl, show m.length + 2 - 1 = m.length + 1 by omega] at h h2
                have e2 : (Tk.op lp :: (m ++ [z])).getD (m.length + 1) (.num 0 false) = z := by
                  rw [List.getD_cons_succ, List.getD_eq_getElem?_getD, List.getElem?_append_right (Nat.le_refl _), Nat.sub_self]; rfl
                rw [e2] at h2
                have hz : z = .op rp := of_opT h2.2 (by decide)
                subst hz
                have e3 : ((Tk.op lp :: (m ++ [Tk.op rp])).take (m.length + 1)).drop 1 = m := by
                  rw [List.take_succ_cons, List.drop_succ_cons, List.drop_zero, take_app]
                rw [e3] at h
                obtain ⟨t, ht⟩ := (not_bad f m (hcl.sub (by simp +contextual))).1 h
                exact ⟨_, .par (by omega) ht⟩
          · rw [preW_bad] at h
            split at h
            · rename_i hp
              cases l with
              | nil => exact absurd rfl hne
              | cons y r =>
                have hy : y = .op (opT y) := of_opT rfl (pre_ne hp pre_empty)
                obtain ⟨t, ht⟩ := (not_bad f r (hcl.sub (by simp +contextual))).2.2 h
                refine ⟨.pre (opT y) t, ?_⟩
                rw [hy]
                exact .pre (by omega) hp ht
            · cases h
end Go.Cd
namespace Go.Cd
structure Nm where
  b : Int
  u : Bool
def opHd : List Tk → ByteArray
  | [] => ⟨#[]⟩
  | x :: _ => opT x
def flipI (a : Int) : Int := xorI a 9223372036854775808
def cmpP (op : ByteArray) (a b : Int) (u : Bool) : Bool :=
  let x := if u = true then a else flipI a
  let y := if u = true then b else flipI b
  if op = ⟨#[61, 61]⟩ then decide (x = y) else if op = ⟨#[33, 61]⟩ then decide (x ≠ y) else if op = ⟨#[60]⟩ then decide (x < y)
  else if op = ⟨#[62]⟩ then decide (y < x) else if op = ⟨#[60, 61]⟩ then decide (x ≤ y) else decide (y ≤ x)
def failP (live : Bool) (e fl : Int) : Int := if live = true ∧ fl = 0 then e else fl
def divP (op : ByteArray) (a b : Int) (u live : Bool) (fl : Int) : Nm × Int :=
  if b = 0 then (⟨0, u⟩, failP live 71 fl)
  else if (u && decide (op = ⟨#[47]⟩)) = true then (⟨a / b, true⟩, fl)
  else if u = true then (⟨a % b, true⟩, fl)
  else if s64 a = -9223372036854775808 ∧ s64 b = -1 ∧ op = ⟨#[47]⟩ then (⟨a, false⟩, fl)
  else if s64 b = -1 ∧ op = ⟨#[37]⟩ then (⟨0, false⟩, fl)
  else if op = ⟨#[47]⟩ then (⟨wr ((s64 a).tdiv (s64 b)), false⟩, fl)
  else (⟨wr ((s64 a).tmod (s64 b)), false⟩, fl)
def shiP (op : ByteArray) (a b : Nm) (live : Bool) (fl : Int) : Nm × Int :=
  if 63 < b.b then (⟨0, a.u⟩, failP live 70 fl)
  else if op = ⟨#[60, 60]⟩ then (⟨wr (a.b * 2 ^ b.b.toNat), a.u⟩, fl)
  else if a.u = true then (⟨a.b / 2 ^ b.b.toNat, true⟩, fl)
  else (⟨wr (s64 a.b / 2 ^ b.b.toNat), false⟩, fl)
def applyP (op : ByteArray) (a b : Nm) (live : Bool) (fl : Int) : Nm × Int :=
  let u := a.u || b.u
  if op = ⟨#[124]⟩ then (⟨orI a.b b.b, u⟩, fl) else if op = ⟨#[94]⟩ then (⟨xorI a.b b.b, u⟩, fl) else if op = ⟨#[38]⟩ then (⟨andI a.b b.b, u⟩, fl)
  else if op = plB then (⟨wr (a.b + b.b), u⟩, fl) else if op = miB then (⟨wr (a.b - b.b), u⟩, fl) else if op = ⟨#[42]⟩ then (⟨wr (a.b * b.b), u⟩, fl)
  else if op = ⟨#[47]⟩ ∨ op = ⟨#[37]⟩ then divP op a.b b.b u live fl
  else if op = ⟨#[60, 60]⟩ ∨ op = ⟨#[62, 62]⟩ then shiP op a b live fl
  else (⟨truth (cmpP op a.b b.b u), false⟩, fl)
def preP (s : ByteArray) (v : Nm) : Nm :=
  if s = miB then ⟨wr (-v.b), v.u⟩ else if s = tiB then ⟨18446744073709551615 - v.b, v.u⟩ else if s = noB then ⟨truth (decide (v.b = 0)), false⟩ else v
def lazyU (op : ByteArray) (x : Nm) : Bool := decide (decide (x.b ≠ 0) = decide (op = ⟨#[38, 38]⟩))
mutual
def choR : Nat → List Tk → Bool → Int → Option (Nm × List Tk × Int)
  | 0, _, _, _ => none
  | f + 1, l, live, fl => match binR f 1 l live fl with
    | none => none
    | some (c, l1, f1) => if opHd l1 = qm then
        match choR f (l1.drop 1) (live && decide (c.b ≠ 0)) f1 with
        | none => none
        | some (a, l2, f2) => if opHd l2 = cl then match choR f (l2.drop 1) (live && decide (c.b = 0)) f2 with
          | none => none
          | some (b, l3, f3) => some (⟨if c.b ≠ 0 then a.b else b.b, a.u || b.u⟩, l3, f3)
          else none
      else some (c, l1, f1)
def binR : Nat → Int → List Tk → Bool → Int → Option (Nm × List Tk × Int)
  | 0, _, _, _, _ => none
  | f + 1, n, l, live, fl => if n = 11 then preR f l live fl else match binR f (n + 1) l live fl with
    | none => none
    | some (x, l1, f1) => lopR f n x l1 live f1
def lopR : Nat → Int → Nm → List Tk → Bool → Int → Option (Nm × List Tk × Int)
  | 0, _, _, _, _, _ => none
  | f + 1, n, x, l, live, fl => if lev (opHd l) ≠ n then some (x, l, fl)
    else if opHd l = ⟨#[38, 38]⟩ ∨ opHd l = ⟨#[124, 124]⟩ then
      match binR f (n + 1) (l.drop 1) (live && lazyU (opHd l) x) fl with
      | none => none
      | some (y, l1, f1) => lopR f n ⟨if lazyU (opHd l) x = true then truth (decide (y.b ≠ 0)) else truth (decide (opHd l = ⟨#[124, 124]⟩)), false⟩ l1 live f1
    else match binR f (n + 1) (l.drop 1) live fl with
      | none => none
      | some (y, l1, f1) => lopR f n (applyP (opHd l) x y live f1).1 l1 live (applyP (opHd l) x y live f1).2
def preR : Nat → List Tk → Bool → Int → Option (Nm × List Tk × Int)
  | 0, _, _, _ => none
  | f + 1, l, live, fl => match l with
    | [] => none
    | t :: l1 => if isNum t = true then some (⟨vT t, uT t⟩, l1, fl)
      else if opT t = lp then match choR f l1 live fl with
        | none => none
        | some (v, l2, f2) => if opHd l2 = rp then some (v, l2.drop 1, f2) else none
      else match preR f l1 live fl with
        | none => none
        | some (v, l2, f2) => some (preP (opT t) v, l2, f2)
end
def rg (n : Int) : Prop := 0 ≤ n ∧ n < 18446744073709551616
theorem rg_wr (n : Int) : rg (wr n) := ⟨Int.emod_nonneg _ (by decide), Int.emod_lt_of_pos _ (by decide)⟩
theorem wr_rg {n : Int} (h : rg n) : wr n = n := Int.emod_eq_of_lt h.1 h.2
theorem rg0 : rg 0 := ⟨by omega, by omega⟩
theorem rg_truth (b : Bool) : rg (truth b) := by
  unfold rg truth
  split <;> omega
theorem s64_rg {a : Int} (h : rg a) : -9223372036854775808 ≤ s64 a ∧ s64 a < 9223372036854775808 ∧ wr (s64 a) = a := by
  unfold rg at h
  unfold s64 wr
  split <;> omega
theorem rg_and {a b : Int} (ha : rg a) (hb : rg b) : rg (andI a b) := by
  unfold andI rg
  have : a.toNat &&& b.toNat < 2 ^ 64 := Nat.and_lt_two_pow _ (by have := hb.2; have := hb.1; omega)
  omega
theorem rg_or {a b : Int} (ha : rg a) (hb : rg b) : rg (orI a b) := by
  unfold orI rg
  have : a.toNat ||| b.toNat < 2 ^ 64 := Nat.or_lt_two_pow (by have := ha.2; have := ha.1; omega) (by have := hb.2; have := hb.1; omega)
  omega
theorem rg_xor {a b : Int} (ha : rg a) (hb : rg b) : rg (xorI a b) := by
  unfold xorI rg
  have : a.toNat ^^^ b.toNat < 2 ^ 64 := Nat.xor_lt_two_pow (by have := ha.2; have := ha.1; omega) (by have := hb.2; have := hb.1; omega)
  omega
theorem rg_shl : ∀ n v, rg v → rg (shlF n v)
  | 0, _, h => h
  | n + 1, _, _ => rg_shl n _ (rg_wr _)
theorem rg_shr (u : Bool) : ∀ n v, rg v → rg (shrF u n v)
  | 0, _, h => h
  | n + 1, v, h => by
    refine rg_shr u n _ ?_
    unfold rg at h ⊢
    split <;> omega
theorem rg_reckon {op : ByteArray} {a b : Int} {au bu : Bool} (ha : rg a) (hb : rg b) : rg (reckon op a au b bu).1 := by
  have key : ∀ (c : Prop) [Decidable c] (x y : Int × Int), rg x.1 → (¬ c → rg y.1) → rg (ite c x y).1 := fun c _ x y h1 h2 => by
    by_cases h : c
    · rw [if_pos h]; exact h1
    · rw [if_neg h]; exact h2 h
  unfold reckon
  refine key _ _ _ (rg_wr _) fun _ => key _ _ _ (rg_wr _) fun _ => key _ _ _ (rg_wr _) fun _ => key _ _ _ (rg_and ha hb) fun _ => key _ _ _ (rg_or ha hb) fun _ => key _ _ _ (rg_xor ha hb) fun _ =>
    key _ _ _ (rg_truth _) fun _ => key _ _ _ (rg_truth _) fun _ => key _ _ _ (rg_truth _) fun _ => key _ _ _ (rg_truth _) fun _ => key _ _ _ (rg_truth _) fun _ => key _ _ _ (rg_truth _) fun _ => key _ _ _ ?_ fun _ => key _ _ _ rg0 fun hb0 =>
    key _ _ _ ?_ fun _ => key _ _ _ ?_ fun _ => key _ _ _ ?_ fun _ => rg_wr _
  · unfold shifted
    exact key _ _ _ rg0 fun _ => key _ _ _ (rg_shl _ _ ha) fun _ => rg_shr _ _ _ ha
  · unfold rg at ha hb
    exact ⟨Int.ediv_nonneg ha.1 hb.1, Int.lt_of_le_of_lt (Int.ediv_le_self _ ha.1) ha.2⟩
  · unfold rg at ha hb
    exact ⟨Int.emod_nonneg _ hb0, Int.lt_trans (Int.emod_lt_of_pos _ (by omega)) hb.2⟩
  · unfold quoI
    split <;> exact rg_wr _
def nums (l : List Tk) : Prop := ∀ t ∈ l, rg (vT t)
theorem rg_val {n : Int} {l : List Tk} {t : Tr} (h : W n l t) : nums l → rg (val t).V := by
  induction h with
  | num n v u h => exact fun hl => hl (.num v u) (by simp)
  | par h he ih => exact fun hl => ih (fun t ht => hl t (by simp [ht]))
  | @pre n s l e h hs he ih =>
    intro hl
    have hv := ih (fun t ht => hl t (by simp [ht]))
    simp only [val, preW]
    split; · exact hv
    split; · exact rg_wr _
    split; · unfold rg at hv ⊢; simp only; omega
    split; · exact rg_truth _
    exact hv
  | @bin n s l r a b h hs ha hb i1 i2 =>
    intro hl
    have h1 := i1 (fun t ht => hl t (by simp [ht]))
    have h2 := i2 (fun t ht => hl t (by simp [ht]))
    simp only [val, twoW]
    split; · exact rg0
    split; · exact rg_truth _
    split; · exact rg0
    split; · exact rg_truth _
    exact rg_reckon h1 h2
  | @cho n l m r c a b h hc ha hb i1 i2 i3 =>
    intro hl
    have h2 := i2 (fun t ht => hl t (by simp [ht]))
    have h3 := i3 (fun t ht => hl t (by simp [ht]))
    simp only [val, choW]
    split; · exact rg0
    split
    · exact h2
    · exact h3
theorem flip_eq {a : Int} (h : rg a) : flipI a = s64 a + 9223372036854775808 := by
  unfold rg at h
  have key : ∀ n : Nat, n < 2 ^ 63 → 2 ^ 63 ^^^ n = 2 ^ 63 + n := fun n hn => by
    have h0 := Nat.two_pow_add_eq_or_of_lt hn 1
    rw [Nat.mul_one] at h0
    rw [h0]
    apply Nat.eq_of_testBit_eq
    intro i
    rw [Nat.testBit_xor, Nat.testBit_or]
    cases h1 : (2 ^ 63).testBit i with
    | false => simp
    | true =>
      have hi : i = 63 := by
        have := Nat.testBit_two_pow (n := 63) (m := i)
        rw [this] at h1
        have := of_decide_eq_true h1
        omega
      subst hi
      rw [Nat.testBit_lt_two_pow hn]
      rfl
  unfold flipI xorI s64
  have e : (9223372036854775808 : Int).toNat = 2 ^ 63 := by decide
  rw [e]
  split
  · rw [Nat.xor_comm, key _ (by omega)]
    omega
  · have e2 : a.toNat = 2 ^ 63 ^^^ (a.toNat - 2 ^ 63) := by rw [key _ (by omega)]; omega
    rw [e2, Nat.xor_comm, ← Nat.xor_assoc, Nat.xor_self, Nat.zero_xor]
    omega
theorem cmp_eq {op : ByteArray} {a b : Int} {u : Bool} (ha : rg a) (hb : rg b) :
    cmpP op a b u = (if op = ⟨#[61, 61]⟩ then decide (a = b) else if op = ⟨#[33, 61]⟩ then decide (a ≠ b) else if op = ⟨#[60]⟩ then lessI u a b
      else if op = ⟨#[62]⟩ then !lessI u a b && decide (a ≠ b) else if op = ⟨#[60, 61]⟩ then lessI u a b || decide (a = b) else !lessI u a b) := by
  have hsa := s64_rg ha
  have hsb := s64_rg hb
  have inj : s64 a = s64 b ↔ a = b := ⟨fun h => by rw [← hsa.2.2, ← hsb.2.2, h], fun h => by rw [h]⟩
  unfold cmpP lessI
  cases u with
  | true =>
    simp only [if_true, Bool.true_and, Bool.not_true, Bool.false_and, Bool.or_false]
    split; · rfl
    split; · rfl
    split; · rfl
    split
    · rw [Bool.eq_iff_iff]
      simp only [decide_eq_true_eq, Bool.and_eq_true, Bool.not_eq_true', decide_eq_false_iff_not]
      omega
    split
    · rw [Bool.eq_iff_iff]
      simp only [decide_eq_true_eq, Bool.or_eq_true]
      omega
    · rw [Bool.eq_iff_iff]
      simp only [decide_eq_true_eq, Bool.not_eq_true', decide_eq_false_iff_not]
      omega
  | false =>
    simp only [Bool.false_eq_true, if_false, Bool.false_and, Bool.not_false, Bool.true_and, Bool.false_or, flip_eq ha, flip_eq hb]
    split
    · rw [Bool.eq_iff_iff]
      simp only [decide_eq_true_eq, ← inj]
      omega
    split
    · rw [Bool.eq_iff_iff]
      simp only [decide_eq_true_eq, ne_eq, ← inj]
      omega
    split
    · rw [Bool.eq_iff_iff]
      simp only [decide_eq_true_eq]
      omega
    split
    · rw [Bool.eq_iff_iff]
      simp only [decide_eq_true_eq, Bool.and_eq_true, Bool.not_eq_true', decide_eq_false_iff_not, ne_eq, ← inj]
      omega
    split
    · rw [Bool.eq_iff_iff]
      simp only [decide_eq_true_eq, Bool.or_eq_true, ← inj]
      omega
    · rw [Bool.eq_iff_iff]
      simp only [decide_eq_true_eq, Bool.not_eq_true', decide_eq_false_iff_not]
      omega
theorem shl_eq : ∀ n v, rg v → shlF n v = wr (v * 2 ^ n)
  | 0, v, h => by rw [shlF, Int.pow_zero, Int.mul_one, wr_rg h]
  | n + 1, v, h => by
    rw [shlF, shl_eq n _ (rg_wr _)]
    unfold wr
    rw [Int.mul_emod, Int.emod_emod_of_dvd _ (Int.dvd_refl _), ← Int.mul_emod]
    congr 1
    rw [Int.pow_succ, ← Int.mul_assoc, Int.mul_right_comm]
    congr 1
    omega
theorem shr_eq_u : ∀ n v, rg v → shrF true n v = v / 2 ^ n
  | 0, v, h => by rw [shrF, Int.pow_zero, Int.ediv_one]
  | n + 1, v, h => by
    rw [shrF]
    simp only [Bool.not_true, Bool.and_false, Bool.false_eq_true, if_false]
    rw [shr_eq_u n _ (by unfold rg at h ⊢; omega), Int.ediv_ediv_of_nonneg (by decide)]
    congr 1
    rw [Int.pow_succ, Int.mul_comm]
theorem shr_eq_s : ∀ n v, rg v → shrF false n v = wr (s64 v / 2 ^ n)
  | 0, v, h => by rw [shrF, Int.pow_zero, Int.ediv_one]; exact (s64_rg h).2.2.symm
  | n + 1, v, h => by
    have key : rg (if (decide (9223372036854775808 ≤ v) && !false) = true then v / 2 + 9223372036854775808 else v / 2) ∧
        s64 (if (decide (9223372036854775808 ≤ v) && !false) = true then v / 2 + 9223372036854775808 else v / 2) = s64 v / 2 := by
      unfold rg at h ⊢
      unfold s64
      simp only [Bool.not_false, Bool.and_true, decide_eq_true_eq]
      split <;> split <;> split <;> omega
    rw [shrF, shr_eq_s n _ key.1, key.2, Int.ediv_ediv_of_nonneg (by decide)]
    congr 2
    rw [Int.pow_succ, Int.mul_comm]
end Go.Cd
namespace Go.Cd
def rel (x : Nm) (w : Wo) : Prop := x.u = w.U ∧ (w.E = 0 → x.b = w.V)
theorem fail_idle {live : Bool} {e fl : Int} (h : ¬ (live = true ∧ fl = 0)) : failP live e fl = fl := if_neg h
theorem fail_zero (live : Bool) (fl : Int) : failP live 0 fl = fl := by
  unfold failP; split
  · rename_i h; exact h.2.symm
  · rfl
theorem fail_fail {live : Bool} {e e' fl : Int} (h : e ≠ 0) : failP live e' (failP live e fl) = failP live e fl := by
  unfold failP
  by_cases hc : live = true ∧ fl = 0
  · rw [if_pos hc, if_neg (fun hh => h hh.2)]
  · rw [if_neg hc, if_neg hc]
theorem lev_facts {op : ByteArray} (h : 0 < lev op) :
    op = ⟨#[124, 124]⟩ ∨ op = ⟨#[38, 38]⟩ ∨ op = ⟨#[124]⟩ ∨ op = ⟨#[94]⟩ ∨ op = ⟨#[38]⟩ ∨ op = ⟨#[61, 61]⟩ ∨ op = ⟨#[33, 61]⟩ ∨ op = ⟨#[60]⟩ ∨ op = ⟨#[62]⟩ ∨ op = ⟨#[60, 61]⟩ ∨
    op = ⟨#[62, 61]⟩ ∨ op = ⟨#[60, 60]⟩ ∨ op = ⟨#[62, 62]⟩ ∨ op = ⟨#[43]⟩ ∨ op = ⟨#[45]⟩ ∨ op = ⟨#[42]⟩ ∨ op = ⟨#[47]⟩ ∨ op = ⟨#[37]⟩ := by
  refine Decidable.byContradiction fun hn => ?_
  simp only [not_or] at hn
  obtain ⟨h1, h2, h3, h4, h5, h6, h7, h8, h9, h10, h11, h12, h13, h14, h15, h16, h17, h18⟩ := hn
  unfold lev at h
  rw [if_neg h1, if_neg h2, if_neg h3, if_neg h4, if_neg h5, if_neg h6, if_neg h7, if_neg h8, if_neg h9, if_neg h10, if_neg h11, if_neg h12, if_neg h13, if_neg h14, if_neg h15, if_neg h16, if_neg h17, if_neg h18] at h
  omega
theorem div_law {op : ByteArray} {a b : Int} {au bu : Bool} (ho : op = ⟨#[47]⟩ ∨ op = ⟨#[37]⟩) (ha : rg a) (hb : rg b) (live : Bool) (fl : Int) :
    (divP op a b (au || bu) live fl).1.u = (au || bu) ∧ ((reckon op a au b bu).2 = 0 → (divP op a b (au || bu) live fl).1.b = (reckon op a au b bu).1) ∧
    (divP op a b (au || bu) live fl).2 = failP live (reckon op a au b bu).2 fl := by
  have hsa := s64_rg ha
  have hsb := s64_rg hb
  have hr : reckon op a au b bu = if b = 0 then (0, 71) else if ((au || bu) && decide (op = ⟨#[47]⟩)) = true then (a / b, 0) else if (au || bu) = true then (a % b, 0)
      else if op = ⟨#[47]⟩ then (quoI a b, 0) else (wr (a - wr (quoI a b * b)), 0) := by
    rcases ho with rfl | rfl <;> rfl
  rw [hr]
  unfold divP quoI
  by_cases h0 : b = 0
  · rw [if_pos h0, if_pos h0]
    exact ⟨rfl, fun h => absurd h (by decide), rfl⟩
  rw [if_neg h0, if_neg h0]
  by_cases h1 : ((au || bu) && decide (op = ⟨#[47]⟩)) = true
  · rw [if_pos h1, if_pos h1]
    rw [Bool.and_eq_true] at h1
    exact ⟨h1.1.symm, fun _ => rfl, (fail_zero _ _).symm⟩
  rw [if_neg h1, if_neg h1]
  by_cases h2 : (au || bu) = true
  · rw [if_pos h2, if_pos h2]
    exact ⟨h2.symm, fun _ => rfl, (fail_zero _ _).symm⟩
  rw [if_neg h2, if_neg h2]
  have h2' : (au || bu) = false := by simpa using h2
  rw [h2']
  have hfz := fail_zero live fl
  have hb0 : s64 b ≠ 0 := by
    unfold s64; unfold rg at hb
    split <;> omega
  rcases ho with rfl | rfl
  · simp only [and_true, if_true, show ¬ (⟨#[47]⟩ : ByteArray) = ⟨#[37]⟩ by decide, and_false, if_false]
    by_cases h3 : s64 a = -9223372036854775808 ∧ s64 b = -1
    · rw [if_pos h3, if_pos h3.2]
      refine ⟨rfl, fun _ => ?_, hfz.symm⟩
      have h4 := h3.1
      unfold rg at ha
      simp only
      unfold s64 at h4
      unfold wr
      split at h4 <;> omega
    · rw [if_neg h3]
      refine ⟨rfl, fun _ => ?_, hfz.symm⟩
      simp only
      split
      · rename_i h5
        rw [h5, Int.tdiv_neg, Int.tdiv_one]
        have := hsa.2.2
        unfold wr at this ⊢
        omega
      · rfl
  · simp only [show ¬ (⟨#[37]⟩ : ByteArray) = ⟨#[47]⟩ by decide, and_false, if_false, and_true]
    by_cases h5 : s64 b = -1
    · rw [if_pos h5, if_pos h5]
      refine ⟨rfl, fun _ => ?_, hfz.symm⟩
      simp only
      have e1 : b = 18446744073709551615 := by
        unfold rg at hb
        unfold s64 at h5
        split at h5 <;> omega
      rw [e1]
      unfold wr
      unfold rg at ha
      have e2 : (-a % 18446744073709551616 * 18446744073709551615) % 18446744073709551616 = a := by omega
      rw [e2]
      omega
    · rw [if_neg h5, if_neg h5]
      refine ⟨rfl, fun _ => ?_, hfz.symm⟩
      simp only
      have e1 := Int.mul_tdiv_add_tmod (s64 a) (s64 b)
      have e2 := hsa.2.2
      have e3 := hsb.2.2
      unfold wr at e2 e3 ⊢
      have ha' : a % 18446744073709551616 = s64 a % 18446744073709551616 := by omega
      have hb' : b % 18446744073709551616 = s64 b % 18446744073709551616 := by omega
      generalize (s64 a).tdiv (s64 b) = q at e1 ⊢
      rw [Int.sub_emod a, Int.emod_emod_of_dvd _ (Int.dvd_refl _), Int.mul_emod (q % 18446744073709551616) b, Int.emod_emod_of_dvd _ (Int.dvd_refl 18446744073709551616), ha', hb', ← Int.mul_emod, ← Int.sub_emod]
      congr 1
      rw [Int.mul_comm (s64 b)] at e1
      omega
theorem shi_law {op : ByteArray} {a b : Int} {au bu : Bool} (ho : op = ⟨#[60, 60]⟩ ∨ op = ⟨#[62, 62]⟩) (ha : rg a) (hb : rg b) (live : Bool) (fl : Int) :
    (shiP op ⟨a, au⟩ ⟨b, bu⟩ live fl).1.u = au ∧ ((reckon op a au b bu).2 = 0 → (shiP op ⟨a, au⟩ ⟨b, bu⟩ live fl).1.b = (reckon op a au b bu).1) ∧
    (shiP op ⟨a, au⟩ ⟨b, bu⟩ live fl).2 = failP live (reckon op a au b bu).2 fl := by
  have hr : reckon op a au b bu = shifted op a au b := by rcases ho with rfl | rfl <;> rfl
  rw [hr]
  unfold shifted shiP
  simp only
  by_cases h0 : 63 < b
  · rw [if_pos h0, if_pos h0]
    exact ⟨rfl, fun h => absurd h (by decide), rfl⟩
  rw [if_neg h0, if_neg h0]
  have hfz := fail_zero live fl
  rcases ho with rfl | rfl
  · rw [if_pos rfl, if_pos rfl]
    exact ⟨rfl, fun _ => (shl_eq _ _ ha).symm, hfz.symm⟩
  · simp only [show ¬ (⟨#[62, 62]⟩ : ByteArray) = ⟨#[60, 60]⟩ by decide, if_false]
    cases au with
    | true => exact ⟨rfl, fun _ => (shr_eq_u _ _ ha).symm, hfz.symm⟩
    | false => exact ⟨rfl, fun _ => (shr_eq_s _ _ ha).symm, hfz.symm⟩
theorem apply_law {op : ByteArray} (h3 : 3 ≤ lev op) {a b : Int} {au bu : Bool} (ha : rg a) (hb : rg b) (live : Bool) (fl : Int) :
    ((applyP op ⟨a, au⟩ ⟨b, bu⟩ live fl).1.u = twoU op au bu) ∧ ((reckon op a au b bu).2 = 0 → (applyP op ⟨a, au⟩ ⟨b, bu⟩ live fl).1.b = (reckon op a au b bu).1) ∧
    (applyP op ⟨a, au⟩ ⟨b, bu⟩ live fl).2 = failP live (reckon op a au b bu).2 fl := by
  have hfz := fail_zero live fl
  have tu : ∀ {n : Int}, n ≠ 6 → n ≠ 7 → 2 < n → n ≠ 8 → (decide (n ≠ 6) && decide (n ≠ 7) && decide (2 < n) && (au || bu && decide (n ≠ 8))) = (au || bu) := by
    intro n h6 h7 h2 h8
    rw [decide_eq_true h6, decide_eq_true h7, decide_eq_true h2, decide_eq_true h8]
    simp
  rcases lev_facts (by omega : 0 < lev op) with rfl | rfl | rfl | rfl | rfl | rfl | rfl | rfl | rfl | rfl | rfl | rfl | rfl | rfl | rfl | rfl | rfl | rfl
  · exact absurd h3 (by decide)
  · exact absurd h3 (by decide)
  · exact ⟨(tu (n := 3) (by decide) (by decide) (by decide) (by decide)).symm, fun _ => rfl, hfz.symm⟩
  · exact ⟨(tu (n := 4) (by decide) (by decide) (by decide) (by decide)).symm, fun _ => rfl, hfz.symm⟩
  · exact ⟨(tu (n := 5) (by decide) (by decide) (by decide) (by decide)).symm, fun _ => rfl, hfz.symm⟩
  · exact ⟨rfl, fun _ => by show truth (cmpP _ _ _ _) = truth _; rw [cmp_eq ha hb]; rfl, hfz.symm⟩
  · exact ⟨rfl, fun _ => by show truth (cmpP _ _ _ _) = truth _; rw [cmp_eq ha hb]; rfl, hfz.symm⟩
  · exact ⟨rfl, fun _ => by show truth (cmpP _ _ _ _) = truth _; rw [cmp_eq ha hb]; rfl, hfz.symm⟩
  · exact ⟨rfl, fun _ => by show truth (cmpP _ _ _ _) = truth _; rw [cmp_eq ha hb]; rfl, hfz.symm⟩
  · exact ⟨rfl, fun _ => by show truth (cmpP _ _ _ _) = truth _; rw [cmp_eq ha hb]; rfl, hfz.symm⟩
  · exact ⟨rfl, fun _ => by show truth (cmpP _ _ _ _) = truth _; rw [cmp_eq ha hb]; rfl, hfz.symm⟩
  · have := @shi_law _ a b au bu (.inl rfl) ha hb live fl
    refine ⟨this.1.trans ?_, this.2⟩
    unfold twoU
    rw [show lev ⟨#[60, 60]⟩ = 8 by decide]
    simp
  · have := @shi_law _ a b au bu (.inr rfl) ha hb live fl
    refine ⟨this.1.trans ?_, this.2⟩
    unfold twoU
    rw [show lev ⟨#[62, 62]⟩ = 8 by decide]
    simp
  · exact ⟨(tu (n := 9) (by decide) (by decide) (by decide) (by decide)).symm, fun _ => rfl, hfz.symm⟩
  · exact ⟨(tu (n := 9) (by decide) (by decide) (by decide) (by decide)).symm, fun _ => rfl, hfz.symm⟩
  · exact ⟨(tu (n := 10) (by decide) (by decide) (by decide) (by decide)).symm, fun _ => rfl, hfz.symm⟩
  · have := @div_law _ a b au bu (.inl rfl) ha hb live fl
    exact ⟨this.1.trans (tu (n := 10) (by decide) (by decide) (by decide) (by decide)).symm, this.2⟩
  · have := @div_law _ a b au bu (.inr rfl) ha hb live fl
    exact ⟨this.1.trans (tu (n := 10) (by decide) (by decide) (by decide) (by decide)).symm, this.2⟩
theorem apply_idle {op : ByteArray} (h3 : 3 ≤ lev op) (a b : Nm) (live : Bool) (fl : Int) :
    (applyP op a b live fl).1.u = twoU op a.u b.u ∧ (¬ (live = true ∧ fl = 0) → (applyP op a b live fl).2 = fl) := by
  have tu : ∀ {n : Int} {au bu : Bool}, n ≠ 6 → n ≠ 7 → 2 < n → n ≠ 8 → (decide (n ≠ 6) && decide (n ≠ 7) && decide (2 < n) && (au || bu && decide (n ≠ 8))) = (au || bu) := by
    intro n au bu h6 h7 h2 h8
    rw [decide_eq_true h6, decide_eq_true h7, decide_eq_true h2, decide_eq_true h8]
    simp
  have hdiv : ∀ {op : ByteArray} {x y : Int} {u : Bool}, (divP op x y u live fl).1.u = u ∧ (¬ (live = true ∧ fl = 0) → (divP op x y u live fl).2 = fl) := by
    intro op x y u
    unfold divP
    split; · exact ⟨rfl, fun h => fail_idle h⟩
    split; · rename_i h; rw [Bool.and_eq_true] at h; exact ⟨h.1.symm, fun _ => rfl⟩
    split; · rename_i h; exact ⟨h.symm, fun _ => rfl⟩
    rename_i h
    have h' : u = false := by simpa using h
    subst h'
    split; · exact ⟨rfl, fun _ => rfl⟩
    split; · exact ⟨rfl, fun _ => rfl⟩
    split <;> exact ⟨rfl, fun _ => rfl⟩
  have hshi : ∀ {op : ByteArray}, (shiP op a b live fl).1.u = a.u ∧ (¬ (live = true ∧ fl = 0) → (shiP op a b live fl).2 = fl) := by
    intro op
    unfold shiP
    split; · exact ⟨rfl, fun h => fail_idle h⟩
    split; · exact ⟨rfl, fun _ => rfl⟩
    split
    · rename_i h; exact ⟨h.symm, fun _ => rfl⟩
    · rename_i h
      have h' : a.u = false := by simpa using h
      exact ⟨h'.symm, fun _ => rfl⟩
  rcases lev_facts (by omega : 0 < lev op) with rfl | rfl | rfl | rfl | rfl | rfl | rfl | rfl | rfl | rfl | rfl | rfl | rfl | rfl | rfl | rfl | rfl | rfl
  · exact absurd h3 (by decide)
  · exact absurd h3 (by decide)
  · exact ⟨(tu (n := 3) (by decide) (by decide) (by decide) (by decide)).symm, fun _ => rfl⟩
  · exact ⟨(tu (n := 4) (by decide) (by decide) (by decide) (by decide)).symm, fun _ => rfl⟩
  · exact ⟨(tu (n := 5) (by decide) (by decide) (by decide) (by decide)).symm, fun _ => rfl⟩
  · exact ⟨rfl, fun _ => rfl⟩
  · exact ⟨rfl, fun _ => rfl⟩
  · exact ⟨rfl, fun _ => rfl⟩
  · exact ⟨rfl, fun _ => rfl⟩
  · exact ⟨rfl, fun _ => rfl⟩
  · exact ⟨rfl, fun _ => rfl⟩
  · refine ⟨hshi.1.trans ?_, hshi.2⟩
    unfold twoU
    rw [show lev ⟨#[60, 60]⟩ = 8 by decide]
    simp
  · refine ⟨hshi.1.trans ?_, hshi.2⟩
    unfold twoU
    rw [show lev ⟨#[62, 62]⟩ = 8 by decide]
    simp
  · exact ⟨(tu (n := 9) (by decide) (by decide) (by decide) (by decide)).symm, fun _ => rfl⟩
  · exact ⟨(tu (n := 9) (by decide) (by decide) (by decide) (by decide)).symm, fun _ => rfl⟩
  · exact ⟨(tu (n := 10) (by decide) (by decide) (by decide) (by decide)).symm, fun _ => rfl⟩
  · exact ⟨hdiv.1.trans (tu (n := 10) (by decide) (by decide) (by decide) (by decide)).symm, hdiv.2⟩
  · exact ⟨hdiv.1.trans (tu (n := 10) (by decide) (by decide) (by decide) (by decide)).symm, hdiv.2⟩
def Ev {α : Type} (F : Nat → Option α) (o : α) : Prop := ∃ N, ∀ f, N ≤ f → F f = some o
theorem Ev.succ {α : Type} {F : Nat → Option α} {o : α} (h : Ev (fun f => F (f + 1)) o) : Ev F o := by
  obtain ⟨N, h⟩ := h
  refine ⟨N + 1, fun f hf => ?_⟩
  obtain ⟨g, rfl⟩ : ∃ g, f = g + 1 := ⟨f - 1, by omega⟩
  exact h g (by omega)
def ReadB (l : List Tk) (w : Wo) (m : Int) : Prop := ∀ r live fl, lev (opHd r) ≤ m → ∃ x, rel x w ∧
  ∀ out, Ev (fun f => lopR f m x r live (failP live w.E fl)) out → Ev (fun f => binR f m (l ++ r) live fl) out
def ReadC (l : List Tk) (w : Wo) : Prop := ∀ r live fl, lev (opHd r) = 0 → opHd r ≠ qm → ∃ x, rel x w ∧ Ev (fun f => choR f (l ++ r) live fl) (x, r, failP live w.E fl)
def ReadP (l : List Tk) (w : Wo) : Prop := ∀ r live fl, ∃ x, rel x w ∧ Ev (fun f => preR f (l ++ r) live fl) (x, r, failP live w.E fl)
theorem lop_stop {m : Int} {x : Nm} {r : List Tk} {live : Bool} {fl : Int} (h : lev (opHd r) ≠ m) : Ev (fun f => lopR f m x r live fl) (x, r, fl) :=
  Ev.succ ⟨0, fun f _ => by simp only [lopR, if_pos h]⟩
theorem ReadB.down {l : List Tk} {w : Wo} {m : Int} (h : ReadB l w (m + 1)) (hm : m ≠ 11) : ReadB l w m := by
  intro r live fl hr
  obtain ⟨x, h1, h2⟩ := h r live fl (by omega)
  refine ⟨x, h1, fun out ho => Ev.succ ?_⟩
  obtain ⟨N1, e1⟩ := h2 _ (lop_stop (by omega))
  obtain ⟨N2, e2⟩ := ho
  refine ⟨max N1 N2, fun f hf => ?_⟩
  simp only [binR, if_neg hm]
  have := e1 f (by omega)
  simp only at this
  rw [this]
  exact e2 f (by omega)
theorem ReadB.downs {l : List Tk} {w : Wo} : ∀ (k : Nat) {m : Int}, ReadB l w (m + k) → m + k ≤ 11 → ReadB l w m
  | 0, m, h, _ => by simpa using h
  | k + 1, m, h, hk => by
    refine ReadB.down (ReadB.downs k (m := m + 1) ?_ (by omega)) (by omega)
    rw [show m + 1 + (k : Int) = m + ((k + 1 : Nat) : Int) by omega]
    exact h
theorem ReadP.bin {l : List Tk} {w : Wo} (h : ReadP l w) {m : Int} (hm : m ≤ 11) : ReadB l w m := by
  have h11 : ReadB l w 11 := by
    intro r live fl hr
    obtain ⟨x, h1, N1, h2⟩ := h r live fl
    refine ⟨x, h1, fun out ho => Ev.succ ?_⟩
    obtain ⟨N2, e2⟩ := ho
    obtain ⟨N3, e3⟩ := lop_stop (m := 11) (x := x) (r := r) (live := live) (fl := failP live w.E fl) (by have := lev_range (opHd r); omega)
    have h5 : some out = some (x, r, failP live w.E fl) := by rw [← e2 (max N2 N3) (by omega), ← e3 (max N2 N3) (by omega)]
    rw [Option.some.inj h5]
    refine ⟨N1, fun f hf => ?_⟩
    simp only [binR, if_true]
    exact h2 f hf
  exact ReadB.downs (11 - m).toNat (by rw [show m + ((11 - m).toNat : Int) = 11 by omega]; exact h11) (by omega)
theorem ReadB.cho {l : List Tk} {w : Wo} (h : ReadB l w 1) : ReadC l w := by
  intro r live fl h0 hq
  obtain ⟨x, h1, h2⟩ := h r live fl (by omega)
  refine ⟨x, h1, Ev.succ ?_⟩
  obtain ⟨N, e⟩ := h2 _ (lop_stop (by omega))
  refine ⟨N, fun f hf => ?_⟩
  have := e f hf
  simp only at this
  simp only [choR, this, if_neg hq]
theorem pre_rel {s : ByteArray} (hs : isPre s = true) {v : Nm} {w : Wo} (hb : w.bad = false) (h : rel v w) : rel (preP s v) (preW s w) := by
  obtain ⟨h1, h2⟩ := h
  by_cases hE : w.E = 0
  · have hc : (w.bad || decide (w.E ≠ 0)) = false := by simp [hb, hE]
    have h3 := h2 hE
    unfold preW preP
    rw [hc]
    simp only [Bool.false_eq_true, if_false]
    rcases isPre_cases hs with rfl | rfl | rfl | rfl
    · simp only [show ¬ plB = miB by decide, show ¬ plB = tiB by decide, show ¬ plB = noB by decide, if_false]
      exact ⟨h1, fun _ => h3⟩
    · simp only [if_true]
      exact ⟨h1, fun _ => by simp only [h3]⟩
    · simp only [show ¬ noB = miB by decide, show ¬ noB = tiB by decide, if_true, if_false]
      exact ⟨rfl, fun _ => by simp only [h3]⟩
    · simp only [show ¬ tiB = miB by decide, if_true, if_false]
      exact ⟨h1, fun _ => by simp only [h3]⟩
  · have hc : (w.bad || decide (w.E ≠ 0)) = true := by simp [hE]
    unfold preW preP
    rw [hc]
    simp only [if_true]
    refine ⟨?_, fun hh => absurd hh hE⟩
    rcases isPre_cases hs with rfl | rfl | rfl | rfl
    · exact h1
    · exact h1
    · rfl
    · exact h1
theorem preW_E (s : ByteArray) (w : Wo) : (preW s w).E = w.E := by
  unfold preW
  repeat (split; · rfl)
  rfl
theorem twoW_U (s : ByteArray) (a b : Wo) : (twoW s a b).U = twoU s a.U b.U := by
  unfold twoW
  simp only
  repeat (split; · rfl)
  rfl
theorem two_fail {s : ByteArray} {a b : Wo} (h : a.E ≠ 0) : (twoW s a b).E = a.E := by
  unfold twoW
  simp only
  rw [if_pos h]
theorem two_lazy {s : ByteArray} (hop : s = ⟨#[38, 38]⟩ ∨ s = ⟨#[124, 124]⟩) (a b : Wo) (x : Nm) (hx : x.b = a.V) (hae : a.E = 0) :
    (twoW s a b).E = (if lazyU s x = true then b.E else 0) ∧
    (b.E = 0 ∨ lazyU s x = false → (twoW s a b).V = if lazyU s x = true then truth (decide (b.V ≠ 0)) else truth (decide (s = ⟨#[124, 124]⟩))) := by
  have l1 : lev ⟨#[38, 38]⟩ = 2 := by decide
  have l2 : lev ⟨#[124, 124]⟩ = 1 := by decide
  have l3 : ¬ (⟨#[38, 38]⟩ : ByteArray) = ⟨#[124, 124]⟩ := by decide
  have l4 : ¬ (⟨#[124, 124]⟩ : ByteArray) = ⟨#[38, 38]⟩ := by decide
  unfold twoW lazyU
  rw [hx]
  rcases hop with rfl | rfl
  · by_cases hv : a.V = 0 <;> by_cases hb : b.E = 0 <;> simp [hae, hv, hb, l1, l3]
  · by_cases hv : a.V = 0 <;> by_cases hb : b.E = 0 <;> simp [hae, hv, hb, l2, l4]
theorem cho_0 {c a b : Wo} (h : c.E = 0) (hv : c.V = 0) : (choW c a b).E = b.E ∧ (choW c a b).V = b.V := by
  unfold choW
  simp [h, hv]
theorem cho_1 {c a b : Wo} (h : c.E = 0) (hv : c.V ≠ 0) : (choW c a b).E = a.E ∧ (choW c a b).V = a.V := by
  unfold choW
  simp [h, hv]
theorem cho_fail {c a b : Wo} (h : c.E ≠ 0) : (choW c a b).E = c.E := by
  unfold choW
  simp [h]
theorem read_tree {n : Int} {l : List Tk} {t : Tr} (h : W n l t) : nums l →
    (t.isCho = false → t.isBin = false → ReadP l (val t)) ∧ (t.isCho = false → ∀ m, 1 ≤ m → m ≤ n → m ≤ 11 → ReadB l (val t) m) ∧ ReadC l (val t) := by
  have upP : ∀ {n : Int} {l : List Tk} {w : Wo}, ReadP l w → (∀ m, 1 ≤ m → m ≤ n → m ≤ 11 → ReadB l w m) ∧ ReadC l w := fun {n l w} h =>
    ⟨fun m _ _ h11 => h.bin h11, (h.bin (by omega)).cho⟩
  induction h with
  | num n v u h =>
    intro _
    have a1 : ReadP [Tk.num v u] (val (.num v u)) := fun r live fl =>
      ⟨⟨v, u⟩, ⟨rfl, fun _ => rfl⟩, Ev.succ ⟨0, fun f _ => by simp only [preR, List.cons_append, List.nil_append, isNum, if_true, vT, uT]; rw [show (val (.num v u)).E = 0 from rfl, fail_zero]⟩⟩
    exact ⟨fun _ _ => a1, fun _ => (upP a1).1, (upP (n := n) a1).2⟩
  | @par n l e h he ih =>
    intro hl
    obtain ⟨_, _, i3⟩ := ih (fun t ht => hl t (by simp [ht]))
    have a1 : ReadP (Tk.op lp :: (l ++ [Tk.op rp])) (val (.par e)) := fun r live fl => by
      obtain ⟨x, h1, N, h2⟩ := i3 (.op rp :: r) live fl lev_rp (by show ¬ rp = qm; decide)
      refine ⟨x, h1, Ev.succ ⟨N, fun f hf => ?_⟩⟩
      have := h2 f hf
      simp only at this
      simp only [preR, List.cons_append, List.append_assoc, List.nil_append, isNum, opT, Bool.false_eq_true, if_false, if_true, this, opHd, List.drop_succ_cons, List.drop_zero]
      rfl
    exact ⟨fun _ _ => a1, fun _ => (upP a1).1, (upP (n := n) a1).2⟩
  | @pre n s l e h hs he ih =>
    intro hl
    obtain ⟨i1, _, _⟩ := ih (fun t ht => hl t (by simp [ht]))
    have a1 : ReadP (Tk.op s :: l) (val (.pre s e)) := fun r live fl => by
      obtain ⟨x, h1, N, h2⟩ := i1 (he.noCho (by omega)) (he.noBin (by omega)) r live fl
      refine ⟨preP s x, pre_rel hs (val_bad e) h1, Ev.succ ⟨N, fun f hf => ?_⟩⟩
      have := h2 f hf
      simp only at this
      simp only [preR, List.cons_append, isNum, opT, Bool.false_eq_true, if_false, if_neg (pre_ne hs pre_lp), this, val, preW_E]
    exact ⟨fun _ _ => a1, fun _ => (upP a1).1, (upP (n := n) a1).2⟩
  | @bin n s l r a b h hs ha hb i1 i2 =>
    intro hl
    have hr := lev_range s
    have hln : nums l := fun t ht => hl t (by simp [ht])
    have hrn : nums r := fun t ht => hl t (by simp [ht])
    have va := rg_val ha hln
    have vb := rg_val hb hrn
    have a2 : ReadB (l ++ Tk.op s :: r) (val (.bin s a b)) (lev s) := by
      intro q live fl hq
      obtain ⟨xa, ra, ka⟩ := (i1 hln).2.1 (ha.noCho (by omega)) (lev s) (by omega) (by omega) (by omega) (.op s :: (r ++ q)) live fl (Int.le_refl _)
      have hbB := (i2 hrn).2.1 (hb.noCho (by omega)) (lev s + 1) (by omega) (by omega) (by omega)
      rw [List.append_assoc, List.cons_append]
      by_cases hlz : lev s ≤ 2
      · -- the lazy ones
        have hop : s = ⟨#[38, 38]⟩ ∨ s = ⟨#[124, 124]⟩ := by
          rcases lev_facts hs with rfl | rfl | rfl | rfl | rfl | rfl | rfl | rfl | rfl | rfl | rfl | rfl | rfl | rfl | rfl | rfl | rfl | rfl
          · exact .inr rfl
          · exact .inl rfl
          all_goals exact absurd hlz (by decide)
        obtain ⟨xb, rb, kb⟩ := hbB q (live && lazyU s xa) (failP live (val a).E fl) (by omega)
        obtain ⟨N1, e1⟩ := kb _ (lop_stop (show lev (opHd q) ≠ lev s + 1 by omega))
        have hU : twoU s (val a).U (val b).U = false := by
          rcases hop with rfl | rfl <;> rfl
        refine ⟨⟨if lazyU s xa = true then truth (decide (xb.b ≠ 0)) else truth (decide (s = ⟨#[124, 124]⟩)), false⟩, ?_, fun out ho => ka out (Ev.succ ?_)⟩
        · refine ⟨?_, ?_⟩
          · show false = (twoW s (val a) (val b)).U
            rw [twoW_U, hU]
          · intro hE
            show _ = (twoW s (val a) (val b)).V
            replace hE : (twoW s (val a) (val b)).E = 0 := hE
            by_cases hae : (val a).E = 0
            · obtain ⟨z1, z2⟩ := two_lazy hop (val a) (val b) xa (ra.2 hae) hae
              rw [z1] at hE
              cases hlu : lazyU s xa with
              | true =>
                rw [hlu, if_pos rfl] at hE
                rw [z2 (.inl hE), hlu]
                simp only [if_true, rb.2 hE]
              | false =>
                rw [z2 (.inr hlu), hlu]
                simp only [Bool.false_eq_true, if_false]
            · rw [two_fail hae] at hE
              exact absurd hE hae
        · obtain ⟨N2, e2⟩ := ho
          refine ⟨max N1 N2, fun f hf => ?_⟩
          have h5 := e1 f (by omega)
          simp only at h5
          simp only [lopR, opHd, opT, List.drop_succ_cons, List.drop_zero, ne_eq, not_true, if_false, if_pos hop, h5]
          rw [← e2 f (by omega)]
          congr 1
          show _ = failP live (twoW s (val a) (val b)).E fl
          by_cases hae : (val a).E = 0
          · obtain ⟨z1, z2⟩ := two_lazy hop (val a) (val b) xa (ra.2 hae) hae
            rw [z1, hae, fail_zero]
            cases hlu : lazyU s xa with
            | true => simp only [Bool.and_true, if_true]
            | false => rw [Bool.and_false, fail_idle (live := false) (by simp)]; simp only [Bool.false_eq_true, if_false, fail_zero]
          · rw [two_fail hae]
            unfold failP
            by_cases hc : live = true ∧ fl = 0
            · rw [if_pos hc, if_neg (fun hh => hae hh.2)]
            · rw [if_neg hc]
              by_cases hl0 : live = true
              · rw [if_neg (fun hh => hc ⟨hl0, hh.2⟩)]
              · rw [if_neg (fun hh => hl0 (by rw [Bool.and_eq_true] at hh; exact hh.1.1))]
      · -- those that need both sides
        have h3 : 3 ≤ lev s := by omega
        have hop : ¬ (s = ⟨#[38, 38]⟩ ∨ s = ⟨#[124, 124]⟩) := by
          rintro (rfl | rfl)
          · exact hlz (by decide)
          · exact hlz (by decide)
        obtain ⟨xb, rb, kb⟩ := hbB q live (failP live (val a).E fl) (by omega)
        obtain ⟨N1, e1⟩ := kb _ (lop_stop (show lev (opHd q) ≠ lev s + 1 by omega))
        obtain ⟨g1, g2⟩ := apply_idle h3 xa xb live (failP live (val b).E (failP live (val a).E fl))
        have hw : val (.bin s a b) = if (val a).E ≠ 0 then ⟨0, twoU s (val a).U (val b).U, max (val a).D (val b).D, (val a).E, (val a).bad || (val b).bad⟩
            else if (val b).E ≠ 0 then ⟨0, twoU s (val a).U (val b).U, max (val a).D (val b).D, (val b).E, (val a).bad || (val b).bad⟩
            else ⟨(reckon s (val a).V (val a).U (val b).V (val b).U).1, twoU s (val a).U (val b).U, max (val a).D (val b).D, (reckon s (val a).V (val a).U (val b).V (val b).U).2, (val a).bad || (val b).bad⟩ := by
          show twoW s (val a) (val b) = _
          unfold twoW
          simp only
          rw [if_neg (show ¬ (lev s = 1 ∧ (val a).V ≠ 0 ∨ lev s = 2 ∧ (val a).V = 0) by omega), if_neg (show ¬ lev s < 3 by omega)]
        have both : rel (applyP s xa xb live (failP live (val b).E (failP live (val a).E fl))).1 (val (.bin s a b)) ∧
            (applyP s xa xb live (failP live (val b).E (failP live (val a).E fl))).2 = failP live (val (.bin s a b)).E fl := by
          rw [hw]
          by_cases hae : (val a).E = 0
          · rw [if_neg (by omega)]
            by_cases hbe : (val b).E = 0
            · rw [if_neg (by omega), hae, hbe, fail_zero, fail_zero]
              obtain ⟨xab, xau⟩ := xa
              obtain ⟨xbb, xbu⟩ := xb
              obtain ⟨q1, q2⟩ := ra
              obtain ⟨q3, q4⟩ := rb
              have q5 : xab = (val a).V := q2 hae
              have q6 : xbb = (val b).V := q4 hbe
              simp only at q1 q3
              rw [q5, q6, q1, q3]
              obtain ⟨p1, p2, p3⟩ := @apply_law s h3 (val a).V (val b).V (val a).U (val b).U va vb live fl
              exact ⟨⟨p1, p2⟩, p3⟩
            · rw [if_pos hbe]
              refine ⟨⟨by rw [g1, ra.1, rb.1], fun hh => absurd hh hbe⟩, ?_⟩
              rw [hae, fail_zero] at g2 ⊢
              simp only
              by_cases hc : live = true ∧ fl = 0
              · refine g2 (fun hh => ?_)
                unfold failP at hh
                rw [if_pos hc] at hh
                exact hbe hh.2
              · refine g2 (fun hh => hc ⟨hh.1, ?_⟩)
                have := hh.2
                rw [fail_idle hc] at this
                exact this
          · rw [if_pos hae]
            refine ⟨⟨by rw [g1, ra.1, rb.1], fun hh => absurd hh hae⟩, ?_⟩
            rw [fail_fail hae] at g2 ⊢
            simp only
            refine g2 (fun hh => ?_)
            by_cases hc : live = true ∧ fl = 0
            · have := hh.2
              unfold failP at this
              rw [if_pos hc] at this
              exact hae this
            · have := hh.2
              rw [fail_idle hc] at this
              exact hc ⟨hh.1, this⟩
        refine ⟨_, both.1, fun out ho => ka out (Ev.succ ?_)⟩
        obtain ⟨N2, e2⟩ := ho
        refine ⟨max N1 N2, fun f hf => ?_⟩
        have h5 := e1 f (by omega)
        simp only at h5
        simp only [lopR, opHd, opT, List.drop_succ_cons, List.drop_zero, ne_eq, not_true, if_false, if_neg hop, h5]
        rw [both.2]
        exact e2 f (by omega)
    have a3 : ∀ m, 1 ≤ m → m ≤ lev s → ReadB (l ++ Tk.op s :: r) (val (.bin s a b)) m := fun m hm1 hm2 =>
      ReadB.downs (lev s - m).toNat (by rw [show m + ((lev s - m).toNat : Int) = lev s by omega]; exact a2) (by omega)
    exact ⟨fun _ hh => (Bool.noConfusion hh), fun _ m h1 h2 h3 => a3 m h1 (by omega), (a3 1 (by omega) (by omega)).cho⟩
  | @cho n l m r c a b h hc ha hb i1 i2 i3 =>
    intro hl
    have hln : nums l := fun t ht => hl t (by simp [ht])
    have hmn : nums m := fun t ht => hl t (by simp [ht])
    have hrn : nums r := fun t ht => hl t (by simp [ht])
    refine ⟨fun hh => (Bool.noConfusion hh), fun hh => (Bool.noConfusion hh), ?_⟩
    intro q live fl h0 hq
    obtain ⟨xc, rc, kc⟩ := (i1 hln).2.1 (hc.noCho (by omega)) 1 (by omega) (by omega) (by omega) (.op qm :: (m ++ .op cl :: (r ++ q))) live fl (by show lev qm ≤ 1; decide)
    obtain ⟨N1, e1⟩ := kc _ (lop_stop (by show ¬ lev qm = 1; decide))
    obtain ⟨xa, ra, N2, e2⟩ := (i2 hmn).2.2 (.op cl :: (r ++ q)) (live && decide (xc.b ≠ 0)) (failP live (val c).E fl) lev_cl (by show ¬ cl = qm; decide)
    obtain ⟨xb, rb, N3, e3⟩ := (i3 hrn).2.2 q (live && decide (xc.b = 0)) (failP (live && decide (xc.b ≠ 0)) (val a).E (failP live (val c).E fl)) h0 hq
    refine ⟨⟨if xc.b ≠ 0 then xa.b else xb.b, xa.u || xb.u⟩, ?_, Ev.succ ⟨max N1 (max N2 N3), fun f hf => ?_⟩⟩
    · refine ⟨?_, fun hE => ?_⟩
      · show (xa.u || xb.u) = ((val a).U || (val b).U)
        rw [ra.1, rb.1]
      · replace hE : (choW (val c) (val a) (val b)).E = 0 := hE
        show _ = (choW (val c) (val a) (val b)).V
        by_cases hce : (val c).E = 0
        · rw [rc.2 hce]
          by_cases hv : (val c).V = 0
          · rw [(cho_0 hce hv).2]
            rw [(cho_0 hce hv).1] at hE
            rw [if_neg (fun hh => hh hv)]
            exact rb.2 hE
          · rw [(cho_1 hce hv).2]
            rw [(cho_1 hce hv).1] at hE
            rw [if_pos hv]
            exact ra.2 hE
        · rw [cho_fail hce] at hE
          exact absurd hE hce
    · have h1 := e1 f (by omega)
      have h2 := e2 f (by omega)
      have h3 := e3 f (by omega)
      simp only at h1 h2 h3
      have e7 : (l ++ Tk.op qm :: (m ++ Tk.op cl :: r)) ++ q = l ++ Tk.op qm :: (m ++ Tk.op cl :: (r ++ q)) := by simp
      rw [e7]
      simp only [choR, h1, opHd, opT, if_true, List.drop_succ_cons, List.drop_zero, h2, h3]
      congr 3
      show _ = failP live (choW (val c) (val a) (val b)).E fl
      by_cases hce : (val c).E = 0
      · rw [hce, fail_zero, rc.2 hce]
        by_cases hv : (val c).V = 0
        · rw [(cho_0 hce hv).1, hv]
          rw [show (live && decide ((0 : Int) ≠ 0)) = false by simp, show (live && decide ((0 : Int) = 0)) = live by simp, fail_idle (live := false) (by simp)]
        · rw [(cho_1 hce hv).1, decide_eq_true hv, decide_eq_false hv, Bool.and_true, Bool.and_false, fail_idle (live := false) (by simp)]
      · rw [cho_fail hce]
        by_cases hc0 : live = true ∧ fl = 0
        · have h8 : failP live (val c).E fl = (val c).E := if_pos hc0
          rw [h8, fail_idle (fun hh => hce hh.2), fail_idle (fun hh => hce hh.2)]
        · rw [fail_idle hc0]
          by_cases hl0 : live = true
          · have hf0 : fl ≠ 0 := fun hh => hc0 ⟨hl0, hh⟩
            rw [fail_idle (fun hh => hf0 hh.2), fail_idle (fun hh => hf0 hh.2)]
          · have hl1 : live = false := by simpa using hl0
            rw [hl1]
            simp [failP]
theorem cond_law {l : List Tk} (hc : clean l) (hn : nums l) {f : Nat} (hf : 3 * l.length + 3 ≤ f) :
    (measure l = none → (ofF f l).bad = true) ∧
    (∀ d, measure l = some d → (ofF f l).bad = false ∧ (ofF f l).D = d ∧ ∃ x fu, rel x (ofF f l) ∧ ∀ g, fu ≤ g → choR g l true 0 = some (x, [], (ofF f l).E)) := by
  refine ⟨fun hm => ?_, fun d hm => ?_⟩
  · cases hb : (ofF f l).bad with
    | true => rfl
    | false =>
      obtain ⟨t, ht⟩ := (not_bad f l hc).1 hb
      rw [measure_tree ht] at hm
      cases hm
  · obtain ⟨t, ht, hd⟩ := measure_some hm
    have e := (doc_tree ht).2.2 f hf
    rw [e]
    refine ⟨val_bad t, by rw [val_D, hd], ?_⟩
    obtain ⟨x, h1, N, h2⟩ := (read_tree ht hn).2.2 [] true 0 lev_empty (by show ¬ (⟨#[]⟩ : ByteArray) = qm; decide)
    refine ⟨x, N, h1, fun g hg => ?_⟩
    have h3 := h2 g hg
    simp only [List.append_nil] at h3
    rw [h3]
    rfl
end Go.Cd
