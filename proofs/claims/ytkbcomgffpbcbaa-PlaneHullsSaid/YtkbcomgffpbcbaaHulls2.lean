/- A part of the proof of Hulls: walks of functions, and plain lemmas. No conditions. -/
namespace Go.Proofs.Ytkbcomgffpbcbaa.Geo
def crs (a b c : Int × Int) : Int := (b.1 - a.1) * (c.2 - a.2) - (b.2 - a.2) * (c.1 - a.1)
def pos (x y : Int) : Prop := 0 < x ∨ (x = 0 ∧ 0 < y)
def lex (a b : Int × Int) : Prop := a.1 < b.1 ∨ (a.1 = b.1 ∧ a.2 < b.2)
theorem tr_ge (ux uy vx vy wx wy : Int) (hu : pos ux uy) (hv : pos vx vy) (hw : pos wx wy)
    (h1 : 0 ≤ ux * vy - uy * vx) (h2 : 0 ≤ vx * wy - vy * wx) : 0 ≤ ux * wy - uy * wx := by
  rcases hv with hv | ⟨hv, hv2⟩
  · have e : (ux * wy - uy * wx) * vx = (ux * vy - uy * vx) * wx + (vx * wy - vy * wx) * ux := by grind
    have hw0 : 0 ≤ wx := by rcases hw with h | h <;> omega
    have hu0 : 0 ≤ ux := by rcases hu with h | h <;> omega
    have := Int.mul_nonneg h1 hw0
    have := Int.mul_nonneg h2 hu0
    refine Int.not_lt.1 fun hc => ?_
    have := Int.mul_neg_of_neg_of_pos hc hv
    omega
  · subst hv
    have hw0 : wx = 0 := by
      rcases hw with h | h
      · have := Int.mul_pos hv2 h
        omega
      · exact h.1
    subst hw0
    have hw1 : 0 < wy := by rcases hw with h | h <;> omega
    have hu0 : 0 ≤ ux := by rcases hu with h | h <;> omega
    have := Int.mul_nonneg hu0 (Int.le_of_lt hw1)
    omega
theorem tr_gt1 (ux uy vx vy wx wy : Int) (hu : pos ux uy) (hv : pos vx vy) (hw : pos wx wy)
    (h1 : 0 < ux * vy - uy * vx) (h2 : 0 ≤ vx * wy - vy * wx) : 0 < ux * wy - uy * wx := by
  have h0 := tr_ge ux uy vx vy wx wy hu hv hw (by omega) h2
  refine Int.lt_iff_le_and_ne.2 ⟨h0, fun hc => ?_⟩
  have e : (ux * wy - uy * wx) * vx = (ux * vy - uy * vx) * wx + (vx * wy - vy * wx) * ux := by grind
  have e2 : (ux * wy - uy * wx) * vy = (ux * vy - uy * vx) * wy + (vx * wy - vy * wx) * uy := by grind
  rw [← hc] at e e2
  have hu0 : 0 ≤ ux := by rcases hu with h | h <;> omega
  have := Int.mul_nonneg h2 hu0
  rcases hw with h | ⟨h, h'⟩
  · have := Int.mul_pos h1 h
    omega
  · subst h
    have hux : 0 < ux := by
      rcases hu with hu | ⟨hu, hu'⟩
      · exact hu
      · subst hu
        have hv0 : 0 ≤ vx := by rcases hv with h | h <;> omega
        have := Int.mul_nonneg (Int.le_of_lt hu') hv0
        omega
    have := Int.mul_pos hux h'
    omega
theorem lex_pos {a b : Int × Int} (h : lex a b) : pos (b.1 - a.1) (b.2 - a.2) := by
  rcases h with h | ⟨h, h'⟩
  · exact .inl (by omega)
  · exact .inr ⟨by omega, by omega⟩
theorem lex_trans {a b c : Int × Int} (h : lex a b) (h' : lex b c) : lex a c := by
  unfold lex at *; omega
theorem lex_irrefl (a : Int × Int) : ¬ lex a a := by
  unfold lex; omega
theorem lex_tri (a b : Int × Int) : lex a b ∨ a = b ∨ lex b a := by
  obtain ⟨a1, a2⟩ := a
  obtain ⟨b1, b2⟩ := b
  unfold lex
  simp only [Prod.mk.injEq]
  omega
theorem lex_ne {a b : Int × Int} (h : lex a b) : a ≠ b := fun e => lex_irrefl b (e ▸ h)
theorem crs_rot (a b c : Int × Int) : crs a b c = crs b c a := by unfold crs; grind
theorem crs_swap (a b c : Int × Int) : crs a b c = - crs b a c := by unfold crs; grind
theorem crs_self1 (a b : Int × Int) : crs a a b = 0 := by unfold crs; grind
theorem crs_self2 (a b : Int × Int) : crs a b b = 0 := by unfold crs; grind
theorem crs_self3 (a b : Int × Int) : crs a b a = 0 := by unfold crs; grind
theorem turn_far {a b c d : Int × Int} (h1 : lex a b) (h2 : lex b c) (h3 : lex c d) (t1 : 0 < crs a b c) (t2 : 0 < crs b c d) : 0 < crs a b d := by
  have e1 : crs a b c = (b.1 - a.1) * (c.2 - b.2) - (b.2 - a.2) * (c.1 - b.1) := by unfold crs; grind
  have e2 : crs b c d = (c.1 - b.1) * (d.2 - c.2) - (c.2 - b.2) * (d.1 - c.1) := by unfold crs; grind
  have e3 : crs a b d = crs a b c + ((b.1 - a.1) * (d.2 - c.2) - (b.2 - a.2) * (d.1 - c.1)) := by unfold crs; grind
  have := tr_gt1 _ _ _ _ _ _ (lex_pos h1) (lex_pos h2) (lex_pos h3) (by rw [← e1]; exact t1) (by rw [← e2]; omega)
  omega
theorem drop_left {a b x p : Int × Int} (hab : lex a b) (hax : lex a x) (hap : lex a p) (h1 : 0 ≤ crs a b p) (h2 : crs a b x ≤ 0) : 0 ≤ crs a x p := by
  have e1 : crs a b p = (b.1 - a.1) * (p.2 - a.2) - (b.2 - a.2) * (p.1 - a.1) := rfl
  have e2 : crs a b x = - ((x.1 - a.1) * (b.2 - a.2) - (x.2 - a.2) * (b.1 - a.1)) := by unfold crs; grind
  have e3 : crs a x p = (x.1 - a.1) * (p.2 - a.2) - (x.2 - a.2) * (p.1 - a.1) := rfl
  have := tr_ge _ _ _ _ _ _ (lex_pos hax) (lex_pos hab) (lex_pos hap) (by omega) (by rw [← e1]; exact h1)
  omega
theorem keep_left {a b x p : Int × Int} (hab : lex a b) (hbx : lex b x) (hpb : lex p b) (h1 : 0 ≤ crs a b p) (h2 : 0 < crs a b x) : 0 ≤ crs b x p := by
  have e1 : crs a b p = (b.1 - p.1) * (b.2 - a.2) - (b.2 - p.2) * (b.1 - a.1) := by unfold crs; grind
  have e2 : crs a b x = (b.1 - a.1) * (x.2 - b.2) - (b.2 - a.2) * (x.1 - b.1) := by unfold crs; grind
  have e3 : crs b x p = (b.1 - p.1) * (x.2 - b.2) - (b.2 - p.2) * (x.1 - b.1) := by unfold crs; grind
  have := tr_ge _ _ _ _ _ _ (lex_pos hpb) (lex_pos hab) (lex_pos hbx) (by rw [← e1]; exact h1) (by omega)
  omega
def Adj (R : Int × Int → Int × Int → Prop) : List (Int × Int) → Prop
  | a :: b :: r => R a b ∧ Adj R (b :: r)
  | _ => True
theorem Adj.imp {R S : Int × Int → Int × Int → Prop} (h : ∀ a b, R a b → S a b) : ∀ {l}, Adj R l → Adj S l
  | [], _ => trivial
  | [_], _ => trivial
  | _ :: b :: r, ⟨h1, h2⟩ => ⟨h _ _ h1, Adj.imp h (l := b :: r) h2⟩
theorem Adj.tail {R : Int × Int → Int × Int → Prop} {a : Int × Int} : ∀ {l}, Adj R (a :: l) → Adj R l
  | [], _ => trivial
  | _ :: _, h => h.2
theorem adj_append {R : Int × Int → Int × Int → Prop} (x : Int × Int) (l2 : List (Int × Int)) : ∀ l1 : List (Int × Int), Adj R (l1 ++ x :: l2) ↔ Adj R (l1 ++ [x]) ∧ Adj R (x :: l2)
  | [] => by simp [Adj]
  | [a] => by cases l2 <;> simp [Adj]
  | a :: b :: r => by
    have := adj_append (R := R) x l2 (b :: r)
    simp only [List.cons_append] at this ⊢
    simp only [Adj]
    rw [this]
    exact and_assoc.symm
theorem adj_reverse {R : Int × Int → Int × Int → Prop} : ∀ l : List (Int × Int), Adj R l.reverse ↔ Adj (fun a b => R b a) l
  | [] => by simp [Adj]
  | [a] => by simp [Adj]
  | a :: b :: r => by
    have h := adj_reverse (R := R) (b :: r)
    rw [List.reverse_cons] at h
    rw [List.reverse_cons, List.reverse_cons, List.append_assoc, List.singleton_append, adj_append, h]
    simp [Adj, and_comm]
theorem adj_iff {R : Int × Int → Int × Int → Prop} : ∀ l : List (Int × Int), Adj R l ↔ ∀ i (h : i + 1 < l.length), R l[i] l[i + 1]
  | [] => by simp [Adj]
  | [a] => by simp [Adj]
  | a :: b :: r => by
    have h := adj_iff (R := R) (b :: r)
    simp only [Adj]
    rw [h]
    constructor
    · rintro ⟨h1, h2⟩ i hi
      cases i with
      | zero => exact h1
      | succ i => exact h2 i (by simpa using hi)
    · intro h1
      exact ⟨h1 0 (by simp), fun i hi => h1 (i + 1) (by simpa using hi)⟩
def popW : List (Int × Int) → Int × Int → List (Int × Int)
  | b :: a :: r, x => if crs a b x ≤ 0 then popW (a :: r) x else b :: a :: r
  | st, _ => st
def push (st : List (Int × Int)) (x : Int × Int) : List (Int × Int) := x :: popW st x
def Turns : List (Int × Int) → Prop
  | c :: b :: a :: r => 0 < crs a b c ∧ Turns (b :: a :: r)
  | _ => True
theorem Turns.tail {a : Int × Int} : ∀ {l}, Turns (a :: l) → Turns l
  | [], _ => trivial
  | [_], _ => trivial
  | _ :: _ :: _, h => h.2
structure Inv (st : List (Int × Int)) (D : Int × Int → Prop) : Prop where
  mem : ∀ a ∈ st, D a
  sorted : Adj (fun b a => lex a b) st
  edges : Adj (fun b a => ∀ p, D p → 0 ≤ crs a b p) st
  turns : Turns st
  first : ∀ a, st.getLast? = some a → ∀ p, D p → a = p ∨ lex a p
theorem Inv.tail {a : Int × Int} {st : List (Int × Int)} {D : Int × Int → Prop} (h : Inv (a :: st) D) (hne : st ≠ []) : Inv st D :=
  ⟨fun b hb => h.mem b (List.mem_cons_of_mem _ hb), h.sorted.tail, h.edges.tail, h.turns.tail, fun b hb => h.first b (by
    rw [List.getLast?_cons_of_ne_nil hne]; exact hb)⟩
theorem edges_new {x : Int × Int} : ∀ (r : List (Int × Int)) (b a : Int × Int), Adj (fun b a => lex a b) (b :: a :: r) → Turns (b :: a :: r) → lex b x → 0 < crs a b x → Adj (fun b a => 0 < crs a b x) (b :: a :: r)
  | [], _, _, _, _, _, h => ⟨h, trivial⟩
  | z :: r, _, a, hs, ht, hx, h => ⟨h, edges_new r a z hs.2 ht.2 (lex_trans hs.1 hx) (turn_far hs.2.1 hs.1 hx ht.1 h)⟩
theorem popW_spec {x : Int × Int} {D : Int × Int → Prop} (hx : ∀ p, D p → lex p x) : ∀ (r : List (Int × Int)) (t : Int × Int), Inv (t :: r) D → (∀ p, D p → lex t p → 0 ≤ crs t x p) →
    ∃ t' r', popW (t :: r) x = t' :: r' ∧ Inv (t' :: r') D ∧ (∀ p, D p → lex t' p → 0 ≤ crs t' x p) ∧ (∀ a r'', r' = a :: r'' → 0 < crs a t' x) ∧ (t' :: r').getLast? = (t :: r).getLast?
  | [], t, hI, hQ => ⟨t, [], rfl, hI, hQ, (by simp), rfl⟩
  | a :: r, b, hI, hQ => by
    by_cases hc : crs a b x ≤ 0
    · have hI' := hI.tail (by simp)
      have hab : lex a b := hI.sorted.1
      have hax := hx a (hI.mem a (by simp))
      obtain ⟨t', r', e, h1, h2, h3, h4⟩ := popW_spec hx r a hI' (fun p hp hap => drop_left hab hax hap (hI.edges.1 p hp) hc)
      refine ⟨t', r', by simp only [popW]; rw [if_pos hc]; exact e, h1, h2, h3, by rw [h4]; simp⟩
    · refine ⟨b, a :: r, by simp only [popW]; rw [if_neg hc], hI, hQ, ?_, rfl⟩
      rintro a' r'' h
      injection h with h1 h2
      subst h1
      omega
theorem push_inv {x : Int × Int} {D : Int × Int → Prop} {t : Int × Int} {r : List (Int × Int)} (hI : Inv (t :: r) D) (hx : ∀ p, D p → lex p x) (hlast : ∀ p, D p → p = t ∨ lex p t) :
    Inv (push (t :: r) x) (fun p => D p ∨ p = x) ∧ (push (t :: r) x).getLast? = (t :: r).getLast? := by
  have hQ : ∀ p, D p → lex t p → 0 ≤ crs t x p := fun p hp htp => by
    rcases hlast p hp with h | h
    · exact absurd htp (h ▸ lex_irrefl _)
    · exact absurd (lex_trans htp h) (lex_irrefl _)
  obtain ⟨t', r', e, h1, h2, h3, h4⟩ := popW_spec hx r t hI hQ
  unfold push
  rw [e]
  have htx := hx t' (h1.mem t' (by simp))
  constructor
  · refine ⟨?_, ⟨htx, h1.sorted⟩, ⟨?_, ?_⟩, ?_, ?_⟩
    · intro a ha
      rcases List.mem_cons.1 ha with rfl | ha
      · exact .inr rfl
      · exact .inl (h1.mem a ha)
    · rintro p (hp | rfl)
      · rcases lex_tri t' p with h | h | h
        · exact h2 p hp h
        · subst h
          rw [crs_self3]; omega
        · cases r' with
          | nil =>
            rcases h1.first t' rfl p hp with h' | h'
            · exact absurd h (h' ▸ lex_irrefl _)
            · exact absurd (lex_trans h h') (lex_irrefl _)
          | cons a r' => exact keep_left h1.sorted.1 htx h (h1.edges.1 p hp) (h3 a r' rfl)
      · rw [crs_self2]; omega
    · cases r' with
      | nil => trivial
      | cons a r' =>
        have hn := edges_new r' t' a h1.sorted h1.turns htx (h3 a r' rfl)
        have he := h1.edges
        rw [adj_iff] at hn he ⊢
        rintro i hi p (hp | rfl)
        · exact he i hi p hp
        · have := hn i hi
          omega
    · cases r' with
      | nil => trivial
      | cons a r' => exact ⟨h3 a r' rfl, h1.turns⟩
    · intro a ha
      rw [List.getLast?_cons_of_ne_nil (by simp)] at ha
      rintro p (hp | rfl)
      · exact h1.first a ha p hp
      · exact .inr (hx a (h1.mem a (List.mem_of_getLast? ha)))
  · rw [List.getLast?_cons_of_ne_nil (by simp), h4]
def chainR (l : List (Int × Int)) : List (Int × Int) := l.foldl push []
theorem adj_lex_all {a : Int × Int} : ∀ {l : List (Int × Int)}, Adj lex (a :: l) → ∀ b ∈ l, lex a b
  | [], _, _, h => absurd h (by simp)
  | c :: l, ⟨h1, h2⟩, b, hb => by
    rcases List.mem_cons.1 hb with rfl | hb
    · exact h1
    · exact lex_trans h1 (adj_lex_all h2 b hb)
theorem chain_inv : ∀ (l : List (Int × Int)) (t : Int × Int) (r : List (Int × Int)) (D : Int × Int → Prop), Inv (t :: r) D → (∀ p, D p → p = t ∨ lex p t) → Adj lex (t :: l) →
    ∃ t' r', l.foldl push (t :: r) = t' :: r' ∧ Inv (t' :: r') (fun p => D p ∨ p ∈ l) ∧ (t' :: r').getLast? = (t :: r).getLast? ∧ (t :: l).getLast? = some t'
  | [], t, r, D, hI, _, _ => ⟨t, r, rfl, by simpa using hI, rfl, rfl⟩
  | x :: l, t, r, D, hI, hlast, hs => by
    have hx : ∀ p, D p → lex p x := fun p hp => by
      rcases hlast p hp with rfl | h
      · exact hs.1
      · exact lex_trans h hs.1
    obtain ⟨hI', hl'⟩ := push_inv hI hx hlast
    obtain ⟨t', r', e, h1, h2, h3⟩ := chain_inv l x (popW (t :: r) x) (fun p => D p ∨ p = x) hI' (by
      rintro p (hp | rfl)
      · exact .inr (hx p hp)
      · exact .inl rfl) hs.2
    refine ⟨t', r', e, ?_, by rw [h2]; exact hl', by rw [List.getLast?_cons_of_ne_nil (by simp)]; exact h3⟩
    have e2 : (fun p => (D p ∨ p = x) ∨ p ∈ l) = (fun p => D p ∨ p ∈ x :: l) := by
      funext p
      simp [or_assoc]
    rw [← e2]
    exact h1
theorem chainR_spec {m : Int × Int} {l : List (Int × Int)} (hs : Adj lex (m :: l)) :
    ∃ t r, chainR (m :: l) = t :: r ∧ Inv (t :: r) (fun p => p ∈ m :: l) ∧ (t :: r).getLast? = some m ∧ (m :: l).getLast? = some t := by
  obtain ⟨t, r, e, h1, h2, h3⟩ := chain_inv l m [] (fun p => p = m) ⟨by simp, trivial, trivial, trivial, by simp⟩ (fun p hp => .inl hp) hs
  refine ⟨t, r, e, ?_, h2, h3⟩
  have e2 : (fun p => p = m ∨ p ∈ l) = (fun p => p ∈ m :: l) := by
    funext p
    simp
  rw [← e2]
  exact h1
def TurnsF : List (Int × Int) → Prop
  | a :: b :: c :: r => 0 < crs a b c ∧ TurnsF (b :: c :: r)
  | _ => True
theorem turns_iff : ∀ l : List (Int × Int), Turns l ↔ ∀ i (h : i + 2 < l.length), 0 < crs l[i + 2] l[i + 1] l[i]
  | [] => by simp [Turns]
  | [a] => by simp [Turns]
  | [a, b] => by simp [Turns]; intro i hi; omega
  | a :: b :: c :: r => by
    have h := turns_iff (b :: c :: r)
    simp only [Turns]
    rw [h]
    constructor
    · rintro ⟨h1, h2⟩ i hi
      cases i with
      | zero => exact h1
      | succ i => exact h2 i (by simpa using hi)
    · intro h1
      exact ⟨h1 0 (by simp), fun i hi => h1 (i + 1) (by simpa using hi)⟩
theorem turnsF_iff : ∀ l : List (Int × Int), TurnsF l ↔ ∀ i (h : i + 2 < l.length), 0 < crs l[i] l[i + 1] l[i + 2]
  | [] => by simp [TurnsF]
  | [a] => by simp [TurnsF]
  | [a, b] => by simp [TurnsF]; intro i hi; omega
  | a :: b :: c :: r => by
    have h := turnsF_iff (b :: c :: r)
    simp only [TurnsF]
    rw [h]
    constructor
    · rintro ⟨h1, h2⟩ i hi
      cases i with
      | zero => exact h1
      | succ i => exact h2 i (by simpa using hi)
    · intro h1
      exact ⟨h1 0 (by simp), fun i hi => h1 (i + 1) (by simpa using hi)⟩
theorem turnsF_reverse {l : List (Int × Int)} (h : Turns l) : TurnsF l.reverse := by
  rw [turns_iff] at h
  rw [turnsF_iff]
  intro i hi
  simp only [List.length_reverse] at hi
  simp only [List.getElem_reverse]
  have := h (l.length - 1 - (i + 2)) (by omega)
  have e1 : l.length - 1 - (i + 2) + 2 = l.length - 1 - i := by omega
  have e2 : l.length - 1 - (i + 2) + 1 = l.length - 1 - (i + 1) := by omega
  simp only [e1, e2] at this
  exact this
structure Low (c s : List (Int × Int)) (m M : Int × Int) : Prop where
  head : c.head? = some m
  last : c.getLast? = some M
  sorted : Adj lex c
  turns : TurnsF c
  edges : Adj (fun a b => ∀ p ∈ s, 0 ≤ crs a b p) c
  mem : ∀ a ∈ c, a ∈ s
  lo : ∀ p ∈ s, m = p ∨ lex m p
  hi : ∀ p ∈ s, p = M ∨ lex p M
theorem chain_low {m M : Int × Int} {s : List (Int × Int)} (hs : Adj lex s) (hm : s.head? = some m) (hM : s.getLast? = some M) : Low (chainR s).reverse s m M := by
  cases s with
  | nil => simp at hm
  | cons a l =>
    simp only [List.head?_cons, Option.some.injEq] at hm
    subst hm
    obtain ⟨t, r, e, h1, h2, h3⟩ := chainR_spec hs
    rw [e]
    have ht : t = M := by
      rw [h3] at hM
      exact Option.some.inj hM
    subst ht
    refine ⟨by rw [List.head?_reverse]; exact h2, by rw [List.getLast?_reverse]; rfl, ?_, turnsF_reverse h1.turns, ?_, fun b hb => h1.mem b (List.mem_reverse.1 hb), fun p hp => h1.first a h2 p hp, ?_⟩
    · rw [adj_reverse]; exact h1.sorted
    · rw [adj_reverse]; exact h1.edges
    · intro p hp
      clear h1 h2 e
      -- the last one is the greatest
      have : ∀ (l : List (Int × Int)) (a t p : Int × Int), Adj lex (a :: l) → (a :: l).getLast? = some t → p ∈ a :: l → p = t ∨ lex p t := by
        intro l
        induction l with
        | nil =>
          intro a t p _ h hp
          simp at h hp
          exact .inl (hp.trans h)
        | cons b l ih =>
          intro a t p hs h hp
          rw [List.getLast?_cons_of_ne_nil (by simp)] at h
          rcases List.mem_cons.1 hp with rfl | hp
          · have hb := ih b t b hs.2 h (by simp)
            rcases hb with rfl | hb
            · exact .inr hs.1
            · exact .inr (lex_trans hs.1 hb)
          · exact ih b t p hs.2 h hp
      exact this l a t p hs h3 hp
theorem uniq_aux {m a b c : Int × Int} (h1 : lex m a) (h2 : lex a b) (h3 : lex a c) (e : crs m a b = 0) (t : 0 < crs m a c) (l : 0 ≤ crs a c b) : False := by
  have e1 : crs m a c = (a.1 - m.1) * (c.2 - a.2) - (a.2 - m.2) * (c.1 - a.1) := by unfold crs; grind
  have e2 : crs a c b = (c.1 - a.1) * (b.2 - a.2) - (c.2 - a.2) * (b.1 - a.1) := rfl
  have e3 : crs m a b = (a.1 - m.1) * (b.2 - a.2) - (a.2 - m.2) * (b.1 - a.1) := by unfold crs; grind
  have := tr_gt1 _ _ _ _ _ _ (lex_pos h1) (lex_pos h3) (lex_pos h2) (by rw [← e1]; exact t) (by rw [← e2]; exact l)
  omega
theorem uniq : ∀ (A B : List (Int × Int)) (m : Int × Int), Adj lex (m :: A) → Adj lex (m :: B) → TurnsF (m :: A) → TurnsF (m :: B) → (m :: A).getLast? = (m :: B).getLast? →
    Adj (fun a b => ∀ p ∈ m :: B, 0 ≤ crs a b p) (m :: A) → Adj (fun a b => ∀ p ∈ m :: A, 0 ≤ crs a b p) (m :: B) → A = B
  | [], [], _, _, _, _, _, _, _, _ => rfl
  | [], b :: B, m, _, hB, _, _, hl, _, _ => by
    rw [List.getLast?_cons_of_ne_nil (xs := b :: B) (by simp)] at hl
    exact absurd (adj_lex_all hB m (List.mem_of_getLast? hl.symm)) (lex_irrefl _)
  | a :: A, [], m, hA, _, _, _, hl, _, _ => by
    rw [List.getLast?_cons_of_ne_nil (xs := a :: A) (by simp)] at hl
    exact absurd (adj_lex_all hA m (List.mem_of_getLast? hl)) (lex_irrefl _)
  | a :: A, b :: B, m, hA, hB, tA, tB, hl, eA, eB => by
    have e1 := eA.1 b (by simp)
    have e2 := eB.1 a (by simp)
    have e3 : crs m b a = - crs m a b := by unfold crs; grind
    have e0 : crs m a b = 0 := by omega
    rw [List.getLast?_cons_of_ne_nil (xs := a :: A) (by simp), List.getLast?_cons_of_ne_nil (xs := b :: B) (by simp)] at hl
    rcases lex_tri a b with h | h | h
    · exfalso
      cases A with
      | nil =>
        have hm : a ∈ b :: B := List.mem_of_getLast? hl.symm
        rcases List.mem_cons.1 hm with rfl | hm
        · exact lex_irrefl _ h
        · exact lex_irrefl _ (lex_trans h (adj_lex_all hB.2 a hm))
      | cons c A => exact uniq_aux hA.1 h hA.2.1 e0 tA.1 (eA.2.1 b (by simp))
    · subst h
      rw [uniq A B a hA.2 hB.2 (by cases A <;> first | trivial | exact tA.2) (by cases B <;> first | trivial | exact tB.2) hl
        (eA.2.imp fun _ _ h p hp => h p (List.mem_cons_of_mem _ hp)) (eB.2.imp fun _ _ h p hp => h p (List.mem_cons_of_mem _ hp))]
    · exfalso
      cases B with
      | nil =>
        have hm : b ∈ a :: A := List.mem_of_getLast? hl
        rcases List.mem_cons.1 hm with rfl | hm
        · exact lex_irrefl _ h
        · exact lex_irrefl _ (lex_trans h (adj_lex_all hA.2 b hm))
      | cons c B => exact uniq_aux hB.1 h hB.2.1 (by omega) tB.1 (eB.2.1 a (by simp))
theorem Low.uniq {c c' s s' : List (Int × Int)} {m M : Int × Int} (h : Low c s m M) (h' : Low c' s' m M) (h1 : ∀ a ∈ c', a ∈ s) (h2 : ∀ a ∈ c, a ∈ s') : c = c' := by
  have ha := h.head
  have hb := h'.head
  cases c with
  | nil => simp at ha
  | cons a A =>
    cases c' with
    | nil => simp at hb
    | cons b B =>
      simp only [List.head?_cons, Option.some.injEq] at ha hb
      subst ha
      subst hb
      rw [Geo.uniq A B _ h.sorted h'.sorted h.turns h'.turns (h.last.trans h'.last.symm) (h.edges.imp fun _ _ h p hp => h p (h1 p hp)) (h'.edges.imp fun _ _ h p hp => h p (h2 p hp))]
def ng (p : Int × Int) : Int × Int := (-p.1, -p.2)
theorem ng_ng (p : Int × Int) : ng (ng p) = p := by simp [ng]
theorem crs_ng (a b c : Int × Int) : crs (ng a) (ng b) (ng c) = crs a b c := by unfold crs ng; grind
theorem lex_ng {a b : Int × Int} : lex (ng a) (ng b) ↔ lex b a := by unfold lex ng; simp only; omega
theorem ng_inj {a b : Int × Int} (h : ng a = ng b) : a = b := by rw [← ng_ng a, h, ng_ng]
theorem popW_ng (x : Int × Int) : ∀ st : List (Int × Int), popW (st.map ng) (ng x) = (popW st x).map ng
  | [] => rfl
  | [_] => rfl
  | b :: a :: r => by
    have ih := popW_ng x (a :: r)
    simp only [List.map_cons] at ih
    simp only [List.map_cons, popW, crs_ng]
    by_cases h : crs a b x ≤ 0
    · rw [if_pos h, if_pos h]; exact ih
    · rw [if_neg h, if_neg h]; rfl
theorem foldl_ng : ∀ (l st : List (Int × Int)), (l.map ng).foldl push (st.map ng) = (l.foldl push st).map ng
  | [], _ => rfl
  | x :: l, st => by
    have e : push (st.map ng) (ng x) = (push st x).map ng := by unfold push; rw [popW_ng]; rfl
    simp only [List.map_cons, List.foldl_cons]
    rw [e]
    exact foldl_ng l (push st x)
theorem chainR_ng (l : List (Int × Int)) : chainR (l.map ng) = (chainR l).map ng := foldl_ng l []
theorem adj_map {R : Int × Int → Int × Int → Prop} (f : Int × Int → Int × Int) : ∀ l : List (Int × Int), Adj R (l.map f) ↔ Adj (fun a b => R (f a) (f b)) l
  | [] => by simp [Adj]
  | [a] => by simp [Adj]
  | a :: b :: r => by
    have h := adj_map (R := R) f (b :: r)
    simp only [List.map_cons] at h
    simp only [List.map_cons, Adj]
    rw [h]
theorem Low.congr {c s s' : List (Int × Int)} {m M : Int × Int} (h : Low c s m M) (e : ∀ p, p ∈ s' ↔ p ∈ s) : Low c s' m M :=
  ⟨h.head, h.last, h.sorted, h.turns, h.edges.imp fun _ _ h p hp => h p ((e p).1 hp), fun a ha => (e a).2 (h.mem a ha), fun p hp => h.lo p ((e p).1 hp), fun p hp => h.hi p ((e p).1 hp)⟩
def low (s : List (Int × Int)) : List (Int × Int) := (chainR s).reverse
def high (s : List (Int × Int)) : List (Int × Int) := (chainR s.reverse).reverse
def hullS (s : List (Int × Int)) : List (Int × Int) := if s.length < 2 then s else (low s).dropLast ++ (high s).dropLast
theorem low_low {m M : Int × Int} {s : List (Int × Int)} (hs : Adj lex s) (hm : s.head? = some m) (hM : s.getLast? = some M) : Low (low s) s m M := chain_low hs hm hM
theorem high_low {m M : Int × Int} {s : List (Int × Int)} (hs : Adj lex s) (hm : s.head? = some m) (hM : s.getLast? = some M) : Low ((high s).map ng) (s.map ng) (ng M) (ng m) := by
  have h1 : Adj lex (s.reverse.map ng) := by
    rw [adj_map, adj_reverse]
    exact hs.imp fun _ _ h => lex_ng.2 h
  have h := chain_low (m := ng M) (M := ng m) h1 (by rw [List.head?_map, List.head?_reverse, hM]; rfl) (by rw [List.getLast?_map, List.getLast?_reverse, hm]; rfl)
  rw [chainR_ng] at h
  unfold high
  rw [List.map_reverse]
  exact h.congr fun p => by simp
theorem triples_aux : ∀ (r : List (Int × Int)) (a : Int × Int), Adj lex (a :: r) → TurnsF (a :: r) →
    (∀ j k (hk : k < r.length) (_ : j < k), 0 < crs a (r[j]'(by omega)) r[k]) ∧ ∀ i j k (hk : k < r.length) (_ : i < j) (_ : j < k), 0 < crs (r[i]'(by omega)) (r[j]'(by omega)) r[k]
  | [], _, _, _ => ⟨fun _ _ hk _ => absurd hk (by simp), fun _ _ _ hk _ _ => absurd hk (by simp)⟩
  | b :: r, a, hs, ht => by
    obtain ⟨h1, h2⟩ := triples_aux r b hs.2 (by cases r <;> first | trivial | exact ht.2)
    have hab := hs.1
    have hb : ∀ k (hk : k < r.length), lex b r[k] := fun k hk => adj_lex_all hs.2 _ (List.getElem_mem hk)
    have h0 : ∀ k (hk : k < r.length), 0 < crs a b r[k] := fun k hk => by
      cases r with
      | nil => simp at hk
      | cons c r =>
        cases k with
        | zero => exact ht.1
        | succ k =>
          have := h1 0 (k + 1) hk (by omega)
          exact turn_far hab hs.2.1 (adj_lex_all hs.2.2 _ (List.getElem_mem _)) ht.1 this
    have hlt : ∀ j k (hk : k < r.length) (_ : j < k), lex (r[j]'(by omega)) r[k] := by
      have : ∀ (l : List (Int × Int)), Adj lex l → ∀ j k (hk : k < l.length) (_ : j < k), lex (l[j]'(by omega)) l[k] := by
        intro l
        induction l with
        | nil => intro _ j k hk; simp at hk
        | cons x l ih =>
          intro hl j k hk hjk
          cases k with
          | zero => omega
          | succ k =>
            cases j with
            | zero => exact adj_lex_all hl _ (by simp)
            | succ j => exact ih hl.tail j k (by simpa using hk) (by omega)
      exact this r hs.2.tail
    have h3 : ∀ j k (hk : k < (b :: r).length) (_ : j < k), 0 < crs a ((b :: r)[j]'(by omega)) (b :: r)[k] := by
      intro j k hk hjk
      cases k with
      | zero => omega
      | succ k =>
        have hk' : k < r.length := by simpa using hk
        cases j with
        | zero => exact h0 k hk'
        | succ j =>
          have hj' : j < r.length := by omega
          simp only [List.getElem_cons_succ]
          have q1 := h0 j hj'
          have q2 := h1 j k hk' (by omega)
          have l1 := hb j hj'
          have l2 := hlt j k hk' (by omega)
          generalize r[j] = y at *
          generalize r[k] = z at *
          have e1 : crs a b y = (b.1 - a.1) * (y.2 - b.2) - (b.2 - a.2) * (y.1 - b.1) := by unfold crs; grind
          have e2 : crs b y z = (y.1 - b.1) * (z.2 - y.2) - (y.2 - b.2) * (z.1 - y.1) := by unfold crs; grind
          have e3 : crs a y z = crs b y z + ((b.1 - a.1) * (z.2 - y.2) - (b.2 - a.2) * (z.1 - y.1)) := by unfold crs; grind
          have := tr_gt1 _ _ _ _ _ _ (lex_pos hab) (lex_pos l1) (lex_pos l2) (by rw [← e1]; exact q1) (by rw [← e2]; omega)
          omega
    refine ⟨h3, ?_⟩
    intro i j k hk hij hjk
    cases k with
    | zero => omega
    | succ k =>
      cases j with
      | zero => omega
      | succ j =>
        cases i with
        | zero => exact h1 j k (by simpa using hk) (by omega)
        | succ i => exact h2 i j k (by simpa using hk) (by omega) (by omega)
theorem triples {l : List (Int × Int)} (hs : Adj lex l) (ht : TurnsF l) {i j k : Nat} (hk : k < l.length) (hij : i < j) (hjk : j < k) : 0 < crs (l[i]'(by omega)) (l[j]'(by omega)) l[k] := by
  cases l with
  | nil => simp at hk
  | cons a r =>
    obtain ⟨h1, h2⟩ := triples_aux r a hs ht
    cases k with
    | zero => omega
    | succ k =>
      cases j with
      | zero => omega
      | succ j =>
        cases i with
        | zero => exact h1 j k (by simpa using hk) (by omega)
        | succ i => exact h2 i j k (by simpa using hk) (by omega) (by omega)
theorem Low.inner {c s : List (Int × Int)} {m M v : Int × Int} (h : Low c s m M) (hv : v ∈ c) (h1 : v ≠ m) (h2 : v ≠ M) : 0 < crs m v M ∧ lex m v ∧ lex v M := by
  obtain ⟨j, hj, rfl⟩ := List.getElem_of_mem hv
  have e0 := h.head
  have e1 := h.last
  rw [List.head?_eq_getElem?, List.getElem?_eq_some_iff] at e0
  rw [List.getLast?_eq_getElem?, List.getElem?_eq_some_iff] at e1
  obtain ⟨g0, e0⟩ := e0
  obtain ⟨g1, e1⟩ := e1
  have j0 : j ≠ 0 := by rintro rfl; exact h1 e0
  have j1 : j ≠ c.length - 1 := by rintro rfl; exact h2 e1
  have := triples h.sorted h.turns (i := 0) (j := j) (k := c.length - 1) g1 (by omega) (by omega)
  rw [e0, e1] at this
  refine ⟨this, ?_, ?_⟩
  · rcases h.lo _ (h.mem _ hv) with h | h
    · exact absurd h.symm h1
    · exact h
  · rcases h.hi _ (h.mem _ hv) with h | h
    · exact absurd h h2
    · exact h
theorem Low.line {c s : List (Int × Int)} {m M : Int × Int} (h : Low c s m M) :
    Adj (fun a b => ∀ v, (v ∈ c ∨ (lex m v ∧ lex v M ∧ 0 < crs m M v)) → crs a b v = 0 → v = a ∨ v = b) c := by
  have he := h.edges
  have hso := h.sorted
  rw [adj_iff] at he hso ⊢
  intro i hi v hv h0
  have hm : m ∈ s := h.mem m (List.mem_of_mem_head? (by rw [h.head]; rfl))
  have hM : M ∈ s := h.mem M (List.mem_of_getLast? h.last)
  rcases hv with hv | ⟨hmv, hvM, hab⟩
  · obtain ⟨j, hj, rfl⟩ := List.getElem_of_mem hv
    by_cases e1 : j = i
    · subst e1; exact .inl rfl
    · by_cases e2 : j = i + 1
      · subst e2; exact .inr rfl
      · exfalso
        by_cases e3 : j < i
        · have := triples h.sorted h.turns (i := j) (j := i) (k := i + 1) hi e3 (by omega)
          rw [crs_rot] at this
          omega
        · have := triples h.sorted h.turns (i := i) (j := i + 1) (k := j) hj (by omega) (by omega)
          omega
  · exfalso
    have q1 := he i hi m hm
    have q2 := he i hi M hM
    have q3 := hso i hi
    generalize c[i] = a at *
    generalize c[i + 1] = b at *
    have e1 : crs a b m = ((v.1 - m.1) * (b.2 - a.2) - (v.2 - m.2) * (b.1 - a.1)) + crs a b v := by unfold crs; grind
    have e2 : crs a b M = ((b.1 - a.1) * (M.2 - v.2) - (b.2 - a.2) * (M.1 - v.1)) + crs a b v := by unfold crs; grind
    have e3 : crs m M v = -((v.1 - m.1) * (M.2 - v.2) - (v.2 - m.2) * (M.1 - v.1)) := by unfold crs; grind
    have := tr_ge _ _ _ _ _ _ (lex_pos hmv) (lex_pos q3) (lex_pos hvM) (by omega) (by omega)
    omega
theorem dropLast_cons_last {l : List (Int × Int)} {M : Int × Int} (h : l.getLast? = some M) : l = l.dropLast ++ [M] := by
  obtain ⟨ys, rfl⟩ := List.getLast?_eq_some_iff.1 h
  rw [List.dropLast_concat]
theorem head_cons {l : List (Int × Int)} {m : Int × Int} (h : l.head? = some m) : l = m :: l.tail := by
  cases l with
  | nil => simp at h
  | cons a r => simp at h; subst h; rfl
def cy (h : List (Int × Int)) (i : Nat) : Int × Int := h.getD (i % h.length) (0, 0)
theorem cy_mem {h : List (Int × Int)} (hne : h ≠ []) (i : Nat) : cy h i ∈ h := by
  have h0 : 0 < h.length := List.length_pos_iff.2 hne
  have := Nat.mod_lt i h0
  unfold cy
  rw [List.getD_eq_getElem?_getD, List.getElem?_eq_getElem this]
  exact List.getElem_mem _
theorem cy_lt {h : List (Int × Int)} {i : Nat} (hi : i < h.length) : cy h i = h[i] := by
  unfold cy
  rw [Nat.mod_eq_of_lt hi, List.getD_eq_getElem?_getD, List.getElem?_eq_getElem hi]
  rfl
theorem cy_add {h : List (Int × Int)} (i : Nat) : cy h (i + h.length) = cy h i := by
  unfold cy
  rw [Nat.add_mod_right]
theorem cy_of_mem {h : List (Int × Int)} {v : Int × Int} (hv : v ∈ h) : ∃ i, i < h.length ∧ cy h i = v := by
  obtain ⟨i, hi, rfl⟩ := List.getElem_of_mem hv
  exact ⟨i, hi, cy_lt hi⟩
theorem cyc_of_path {R : Int × Int → Int × Int → Prop} {h : List (Int × Int)} {m : Int × Int} (h0 : h.head? = some m) (hp : Adj R (h ++ [m])) : ∀ i, R (cy h i) (cy h (i + 1)) := by
  intro i
  have hl : 0 < h.length := by cases h with
    | nil => simp at h0
    | cons => simp
  rw [adj_iff] at hp
  have hi := Nat.mod_lt i hl
  have := hp (i % h.length) (by simp; omega)
  have e1 : cy h i = (h ++ [m])[i % h.length]'(by simp; omega) := by
    rw [List.getElem_append_left hi]
    unfold cy
    rw [List.getD_eq_getElem?_getD, List.getElem?_eq_getElem hi]
    rfl
  have e2 : cy h (i + 1) = (h ++ [m])[i % h.length + 1]'(by simp; omega) := by
    by_cases e : i % h.length + 1 = h.length
    · have e3 : (i + 1) % h.length = 0 := by
        rw [Nat.add_mod, ← Nat.add_mod_mod]
        simp only [Nat.mod_mod, Nat.mod_add_mod, Nat.add_mod_mod]
        have := Nat.div_add_mod i h.length
        have e4 : i + 1 = h.length * (i / h.length + 1) := by rw [Nat.mul_add]; omega
        rw [e4]
        exact Nat.mul_mod_right _ _
      rw [List.getElem_append_right (by omega)]
      simp only [List.getElem_singleton]
      unfold cy
      rw [e3, List.getD_eq_getElem?_getD]
      rw [List.head?_eq_getElem?] at h0
      rw [h0]
      rfl
    · have e3 : (i + 1) % h.length = i % h.length + 1 := by
        have := Nat.div_add_mod i h.length
        have e4 : i + 1 = (i % h.length + 1) + h.length * (i / h.length) := by omega
        rw [e4, Nat.add_mul_mod_self_left]
        rw [Nat.mod_eq_of_lt (by omega)]
      rw [List.getElem_append_left (by omega)]
      unfold cy
      rw [e3, List.getD_eq_getElem?_getD, List.getElem?_eq_getElem (by omega)]
      rfl
  rw [e1, e2]
  exact this
theorem ends_ne {s : List (Int × Int)} (hs : Adj lex s) (h2 : 2 ≤ s.length) : ∃ m M, s.head? = some m ∧ s.getLast? = some M ∧ lex m M := by
  match s, h2 with
  | a :: b :: r, _ =>
    have hne : (b :: r) ≠ [] := by simp
    refine ⟨a, (b :: r).getLast hne, rfl, ?_, ?_⟩
    · rw [List.getLast?_cons_of_ne_nil hne, List.getLast?_eq_some_getLast hne]
    · exact adj_lex_all hs _ (List.getLast_mem hne)
structure Two (s : List (Int × Int)) (m M : Int × Int) : Prop where
  sorted : Adj lex s
  hm : s.head? = some m
  hM : s.getLast? = some M
  lt : lex m M
  L : Low (low s) s m M
  H : Low ((high s).map ng) (s.map ng) (ng M) (ng m)
theorem two_of {s : List (Int × Int)} (hs : Adj lex s) (h2 : 2 ≤ s.length) : ∃ m M, Two s m M := by
  obtain ⟨m, M, h1, h3, h4⟩ := ends_ne hs h2
  exact ⟨m, M, hs, h1, h3, h4, low_low hs h1 h3, high_low hs h1 h3⟩
namespace Two
variable {s : List (Int × Int)} {m M : Int × Int}
theorem len (T : Two s m M) : 2 ≤ s.length := by
  have h1 := T.hm
  have h2 := T.hM
  match s, h1, h2 with
  | [a], h1, h2 =>
    simp at h1 h2
    subst h1
    subst h2
    exact absurd T.lt (lex_irrefl _)
  | a :: b :: r, _, _ => simp
theorem highHead (T : Two s m M) : (high s).head? = some M := by
  have := T.H.head
  rw [List.head?_map] at this
  cases h : (high s).head? with
  | none => rw [h] at this; simp at this
  | some x => rw [h] at this; simp at this; rw [ng_inj this]
theorem highLast (T : Two s m M) : (high s).getLast? = some m := by
  have := T.H.last
  rw [List.getLast?_map] at this
  cases h : (high s).getLast? with
  | none => rw [h] at this; simp at this
  | some x => rw [h] at this; simp at this; rw [ng_inj this]
theorem low_eq (T : Two s m M) : low s = (low s).dropLast ++ [M] := dropLast_cons_last T.L.last
theorem high_eq (T : Two s m M) : high s = (high s).dropLast ++ [m] := dropLast_cons_last T.highLast
theorem hull_eq (T : Two s m M) : hullS s = (low s).dropLast ++ (high s).dropLast := by
  unfold hullS
  rw [if_neg (by have := T.len; omega)]
theorem path (T : Two s m M) : hullS s ++ [m] = (low s).dropLast ++ M :: (high s).tail := by
  rw [T.hull_eq, List.append_assoc, ← T.high_eq, ← head_cons T.highHead]
theorem mem_low (T : Two s m M) {v : Int × Int} (hv : v ∈ low s) : v ∈ s := T.L.mem v hv
theorem mem_high (T : Two s m M) {v : Int × Int} (hv : v ∈ high s) : v ∈ s := by
  have := T.H.mem (ng v) (List.mem_map_of_mem hv)
  obtain ⟨u, hu, e⟩ := List.mem_map.1 this
  rw [← ng_inj e]; exact hu
theorem m_low (T : Two s m M) : m ∈ low s := List.mem_of_mem_head? (by rw [T.L.head]; rfl)
theorem M_high (T : Two s m M) : M ∈ high s := List.mem_of_mem_head? (by rw [T.highHead]; rfl)
theorem M_low (T : Two s m M) : M ∈ low s := List.mem_of_getLast? T.L.last
theorem m_high (T : Two s m M) : m ∈ high s := List.mem_of_getLast? T.highLast
theorem mem_iff (T : Two s m M) {v : Int × Int} : v ∈ hullS s ↔ v ∈ low s ∨ v ∈ high s := by
  rw [T.hull_eq, List.mem_append]
  constructor
  · rintro (h | h)
    · exact .inl ((List.dropLast_sublist _).subset h)
    · exact .inr ((List.dropLast_sublist _).subset h)
  · have hM : M ∈ (high s).dropLast := by
      have h1 := T.M_high
      rw [T.high_eq, List.mem_append] at h1
      rcases h1 with h1 | h1
      · exact h1
      · simp at h1; subst h1; exact absurd T.lt (lex_irrefl _)
    have hm : m ∈ (low s).dropLast := by
      have h1 := T.m_low
      rw [T.low_eq, List.mem_append] at h1
      rcases h1 with h1 | h1
      · exact h1
      · simp at h1; subst h1; exact absurd T.lt (lex_irrefl _)
    rintro (h | h)
    · rw [T.low_eq, List.mem_append] at h
      rcases h with h | h
      · exact .inl h
      · simp at h; subst h; exact .inr hM
    · rw [T.high_eq, List.mem_append] at h
      rcases h with h | h
      · exact .inr h
      · simp at h; subst h; exact .inl hm
theorem mem_s (T : Two s m M) {v : Int × Int} (hv : v ∈ hullS s) : v ∈ s := by
  rcases T.mem_iff.1 hv with h | h
  · exact T.mem_low h
  · exact T.mem_high h
theorem m_hull (T : Two s m M) : m ∈ hullS s := T.mem_iff.2 (.inl T.m_low)
theorem M_hull (T : Two s m M) : M ∈ hullS s := T.mem_iff.2 (.inl T.M_low)
theorem head (T : Two s m M) : (hullS s).head? = some m := by
  have h1 := T.L.head
  rw [T.low_eq] at h1
  rw [T.hull_eq]
  cases h : (low s).dropLast with
  | nil =>
    rw [h] at h1
    simp at h1
    exact absurd T.lt (h1 ▸ lex_irrefl _)
  | cons a r => rw [h] at h1; simpa using h1
theorem innerLow (T : Two s m M) {v : Int × Int} (hv : v ∈ low s) (h1 : v ≠ m) (h2 : v ≠ M) : 0 < crs m v M ∧ lex m v ∧ lex v M := T.L.inner hv h1 h2
theorem innerHigh (T : Two s m M) {v : Int × Int} (hv : v ∈ high s) (h1 : v ≠ m) (h2 : v ≠ M) : 0 < crs m M v ∧ lex m v ∧ lex v M := by
  obtain ⟨a, b, c⟩ := T.H.inner (List.mem_map_of_mem hv) (fun e => h2 (ng_inj e)) (fun e => h1 (ng_inj e))
  refine ⟨?_, lex_ng.1 c, lex_ng.1 b⟩
  rw [crs_ng] at a
  rw [crs_rot]
  exact a
def Edge (s : List (Int × Int)) (a b : Int × Int) : Prop := (∀ p ∈ s, 0 ≤ crs a b p) ∧ (∀ v ∈ hullS s, crs a b v = 0 → v = a ∨ v = b) ∧ a ≠ b
theorem adj_and {P Q : Int × Int → Int × Int → Prop} : ∀ {l : List (Int × Int)}, Adj P l → Adj Q l → Adj (fun a b => P a b ∧ Q a b) l
  | [], _, _ => trivial
  | [_], _, _ => trivial
  | _ :: b :: r, ⟨h1, h2⟩, ⟨h3, h4⟩ => ⟨⟨h1, h3⟩, adj_and (l := b :: r) h2 h4⟩
theorem edgesLow (T : Two s m M) : Adj (Edge s) (low s) := by
  refine (adj_and T.L.edges (adj_and T.L.line T.L.sorted)).imp ?_
  rintro a b ⟨h1, h2, h3⟩
  refine ⟨h1, fun v hv h0 => h2 v ?_ h0, lex_ne h3⟩
  rcases T.mem_iff.1 hv with h | h
  · exact .inl h
  · by_cases e1 : v = m
    · subst e1; exact .inl T.m_low
    · by_cases e2 : v = M
      · subst e2; exact .inl T.M_low
      · obtain ⟨a, b, c⟩ := T.innerHigh h e1 e2
        exact .inr ⟨b, c, a⟩
theorem edgesHigh (T : Two s m M) : Adj (Edge s) (high s) := by
  have := adj_and T.H.edges (adj_and T.H.line T.H.sorted)
  rw [adj_map] at this
  refine this.imp ?_
  rintro a b ⟨h1, h2, h3⟩
  refine ⟨fun p hp => ?_, fun v hv h0 => ?_, fun e => lex_irrefl (ng b) (e ▸ h3)⟩
  · have := h1 (ng p) (List.mem_map_of_mem hp)
    rw [crs_ng] at this
    exact this
  · have h4 := h2 (ng v) ?_ (by rw [crs_ng]; exact h0)
    · rcases h4 with h | h
      · exact .inl (ng_inj h)
      · exact .inr (ng_inj h)
    · rcases T.mem_iff.1 hv with h | h
      · by_cases e1 : v = m
        · subst e1; exact .inl (List.mem_map_of_mem T.m_high)
        · by_cases e2 : v = M
          · subst e2; exact .inl (List.mem_map_of_mem T.M_high)
          · obtain ⟨a, b, c⟩ := T.innerLow h e1 e2
            refine .inr ⟨lex_ng.2 c, lex_ng.2 b, ?_⟩
            rw [crs_ng]
            have : crs M m v = crs m v M := by rw [crs_rot]
            omega
      · exact .inl (List.mem_map_of_mem h)
theorem cyc (T : Two s m M) (i : Nat) : Edge s (cy (hullS s) i) (cy (hullS s) (i + 1)) := by
  refine cyc_of_path T.head ?_ i
  rw [T.path, adj_append]
  refine ⟨?_, ?_⟩
  · rw [← T.low_eq]; exact T.edgesLow
  · rw [← head_cons T.highHead]; exact T.edgesHigh
theorem sorted_nodup : ∀ {l : List (Int × Int)}, Adj lex l → l.Nodup
  | [], _ => List.nodup_nil
  | a :: _, h => List.nodup_cons.2 ⟨fun ha => lex_irrefl a (adj_lex_all h a ha), sorted_nodup h.tail⟩
theorem nodup (T : Two s m M) : (hullS s).Nodup := by
  rw [T.hull_eq]
  have h1 : (low s).Nodup := sorted_nodup T.L.sorted
  have h2 : (high s).Nodup := by
    have := T.H.sorted
    rw [adj_map] at this
    have h3 : Adj lex (high s).reverse := by
      rw [adj_reverse]
      exact this.imp fun _ _ h => lex_ng.1 h
    have h4 := sorted_nodup h3
    rw [List.Nodup, List.pairwise_reverse] at h4
    exact h4.imp fun h => Ne.symm h
  have e1 := T.low_eq
  have e2 := T.high_eq
  rw [e1] at h1
  rw [e2] at h2
  rw [List.nodup_append] at h1 h2 ⊢
  refine ⟨h1.1, h2.1, ?_⟩
  rintro a ha b hb rfl
  have n1 : a ≠ M := h1.2.2 a ha M (by simp)
  have n2 : a ≠ m := h2.2.2 a hb m (by simp)
  have q1 := (T.innerLow ((List.dropLast_sublist _).subset ha) n2 n1).1
  have q2 := (T.innerHigh ((List.dropLast_sublist _).subset hb) n2 n1).1
  have : crs m M a = - crs m a M := by unfold crs; grind
  omega
theorem hlen (T : Two s m M) : 2 ≤ (hullS s).length := by
  have h1 := T.m_hull
  have h2 := T.M_hull
  match hh : hullS s, h1, h2 with
  | [a], h1, h2 =>
    simp at h1 h2
    subst h1
    subst h2
    exact absurd T.lt (lex_irrefl _)
  | a :: b :: r, _, _ => simp
end Two
theorem cy_inj {h : List (Int × Int)} (hn : h.Nodup) {i j : Nat} (hi : i < h.length) (hj : j < h.length) (e : cy h i = cy h j) : i = j := by
  rw [cy_lt hi, cy_lt hj] at e
  exact (List.getElem_inj hn).1 e
theorem Two.turn {s : List (Int × Int)} {m M : Int × Int} (T : Two s m M) (h3 : 3 ≤ (hullS s).length) (i : Nat) : 0 < crs (cy (hullS s) i) (cy (hullS s) (i + 1)) (cy (hullS s) (i + 2)) := by
  obtain ⟨h1, h2, _⟩ := T.cyc i
  have hne : hullS s ≠ [] := by intro e; rw [e] at h3; simp at h3
  have hm := cy_mem hne (i + 2)
  refine Int.lt_iff_le_and_ne.2 ⟨h1 _ (T.mem_s hm), fun h0 => ?_⟩
  have hp : 0 < (hullS s).length := by omega
  have q : ∀ k, cy (hullS s) k = cy (hullS s) (k % (hullS s).length) := fun k => by unfold cy; rw [Nat.mod_mod]
  rcases h2 _ hm h0.symm with e | e
  · rw [q (i + 2), q i] at e
    have := cy_inj T.nodup (Nat.mod_lt _ hp) (Nat.mod_lt _ hp) e
    generalize (hullS s).length = n at *
    have a1 := Nat.div_add_mod i n
    have a2 := Nat.div_add_mod (i + 2) n
    rw [this] at a2
    have : n * ((i + 2) / n) = n * (i / n) + 2 := by omega
    have h5 : n ∣ 2 := by
      have d1 : n ∣ n * ((i + 2) / n) := Nat.dvd_mul_right _ _
      rw [this] at d1
      exact (Nat.dvd_add_right (Nat.dvd_mul_right _ _)).1 d1
    have := Nat.le_of_dvd (by omega) h5
    omega
  · obtain ⟨_, _, h4⟩ := T.cyc (i + 1)
    exact h4 e.symm
instance (a b : Int × Int) : Decidable (lex a b) := by unfold lex; infer_instance
def insC (x : Int × Int) : List (Int × Int) → List (Int × Int)
  | [] => [x]
  | a :: r => if lex a x then a :: insC x r else if a = x then a :: r else x :: a :: r
def canon (l : List (Int × Int)) : List (Int × Int) := l.foldl (fun acc x => insC x acc) []
theorem mem_insC {x p : Int × Int} : ∀ {l : List (Int × Int)}, p ∈ insC x l ↔ p = x ∨ p ∈ l
  | [] => by simp [insC]
  | a :: r => by
    have ih := mem_insC (x := x) (p := p) (l := r)
    unfold insC
    by_cases h1 : lex a x
    · rw [if_pos h1, List.mem_cons, ih, List.mem_cons]
      constructor
      · rintro (h | h | h) <;> simp [h]
      · rintro (h | h | h) <;> simp [h]
    · rw [if_neg h1]
      by_cases h2 : a = x
      · rw [if_pos h2]
        subst h2
        simp
      · rw [if_neg h2, List.mem_cons]
theorem insC_sorted {x : Int × Int} : ∀ {l : List (Int × Int)}, Adj lex l → Adj lex (insC x l)
  | [], _ => trivial
  | [a], _ => by
    simp only [insC]
    by_cases h1 : lex a x
    · rw [if_pos h1]; exact ⟨h1, trivial⟩
    · rw [if_neg h1]
      by_cases h2 : a = x
      · rw [if_pos h2]; trivial
      · rw [if_neg h2]
        rcases lex_tri a x with h | h | h
        · exact absurd h h1
        · exact absurd h h2
        · exact ⟨h, trivial⟩
  | a :: b :: r, ⟨hab, h⟩ => by
    have ih := insC_sorted (x := x) h
    rw [insC]
    by_cases h1 : lex a x
    · rw [if_pos h1]
      rw [insC] at ih ⊢
      by_cases h3 : lex b x
      · rw [if_pos h3] at ih ⊢; exact ⟨hab, ih⟩
      · rw [if_neg h3] at ih ⊢
        by_cases h4 : b = x
        · rw [if_pos h4] at ih ⊢; exact ⟨hab, ih⟩
        · rw [if_neg h4] at ih ⊢; exact ⟨h1, ih⟩
    · rw [if_neg h1]
      by_cases h2 : a = x
      · rw [if_pos h2]; exact ⟨hab, h⟩
      · rw [if_neg h2]
        rcases lex_tri a x with h' | h' | h'
        · exact absurd h' h1
        · exact absurd h' h2
        · exact ⟨h', hab, h⟩
theorem canon_aux : ∀ (l acc : List (Int × Int)), Adj lex acc → Adj lex (l.foldl (fun acc x => insC x acc) acc) ∧ ∀ p, p ∈ l.foldl (fun acc x => insC x acc) acc ↔ p ∈ acc ∨ p ∈ l
  | [], acc, h => ⟨h, fun p => by simp⟩
  | x :: l, acc, h => by
    obtain ⟨h1, h2⟩ := canon_aux l (insC x acc) (insC_sorted h)
    refine ⟨h1, fun p => ?_⟩
    rw [List.foldl_cons, h2 p, mem_insC, List.mem_cons]
    constructor
    · rintro ((h | h) | h) <;> simp [h]
    · rintro (h | h | h) <;> simp [h]
theorem canon_sorted (l : List (Int × Int)) : Adj lex (canon l) := (canon_aux l [] trivial).1
theorem mem_canon {l : List (Int × Int)} {p : Int × Int} : p ∈ canon l ↔ p ∈ l := by
  have : p ∈ canon l ↔ p ∈ [] ∨ p ∈ l := (canon_aux l [] trivial).2 p
  simpa using this
theorem sorted_ext : ∀ {l l' : List (Int × Int)}, Adj lex l → Adj lex l' → (∀ p, p ∈ l ↔ p ∈ l') → l = l'
  | [], [], _, _, _ => rfl
  | [], b :: _, _, _, h => absurd ((h b).2 (by simp)) (by simp)
  | a :: _, [], _, _, h => absurd ((h a).1 (by simp)) (by simp)
  | a :: l, b :: l', hl, hl', h => by
    have e : a = b := by
      have h1 := (h a).1 (by simp)
      have h2 := (h b).2 (by simp)
      rcases List.mem_cons.1 h1 with h1 | h1
      · exact h1
      · rcases List.mem_cons.1 h2 with h2 | h2
        · exact h2.symm
        · exact absurd (lex_trans (adj_lex_all hl b h2) (adj_lex_all hl' a h1)) (lex_irrefl _)
    subst e
    rw [sorted_ext hl.tail hl'.tail fun p => ?_]
    constructor
    · intro hp
      rcases List.mem_cons.1 ((h p).1 (List.mem_cons_of_mem _ hp)) with h1 | h1
      · subst h1; exact absurd (adj_lex_all hl p hp) (lex_irrefl _)
      · exact h1
    · intro hp
      rcases List.mem_cons.1 ((h p).2 (List.mem_cons_of_mem _ hp)) with h1 | h1
      · subst h1; exact absurd (adj_lex_all hl' p hp) (lex_irrefl _)
      · exact h1
def hull (l : List (Int × Int)) : List (Int × Int) := hullS (canon l)
theorem hull_congr {l l' : List (Int × Int)} (h : ∀ p, p ∈ l ↔ p ∈ l') : hull l = hull l' := by
  unfold hull
  rw [sorted_ext (canon_sorted l) (canon_sorted l') fun p => by rw [mem_canon, mem_canon]; exact h p]
theorem map_ng_inj {l l' : List (Int × Int)} (h : l.map ng = l'.map ng) : l = l' := by
  have : (l.map ng).map ng = (l'.map ng).map ng := by rw [h]
  simpa [List.map_map, Function.comp_def, ng_ng] using this
theorem ends_of {s : List (Int × Int)} (hs : Adj lex s) {m M : Int × Int} (hm : m ∈ s) (hM : M ∈ s) (lo : ∀ p ∈ s, m = p ∨ lex m p) (hi : ∀ p ∈ s, p = M ∨ lex p M) : s.head? = some m ∧ s.getLast? = some M := by
  cases s with
  | nil => simp at hm
  | cons a r =>
    constructor
    · rcases lo a (by simp) with h | h
      · rw [h]; rfl
      · rcases List.mem_cons.1 hm with h' | h'
        · rw [h']; rfl
        · exact absurd (lex_trans h (adj_lex_all hs m h')) (lex_irrefl _)
    · have hne : a :: r ≠ [] := by simp
      rw [List.getLast?_eq_some_getLast hne]
      rcases hi _ (List.getLast_mem hne) with h | h
      · rw [h]
      · exfalso
        have hr : Adj (fun x y => lex y x) (a :: r).reverse := by rw [adj_reverse]; exact hs
        have e : (a :: r).reverse = (a :: r).getLast hne :: ((a :: r).reverse).tail := by
          have : (a :: r).reverse.head? = some ((a :: r).getLast hne) := by rw [List.head?_reverse, List.getLast?_eq_some_getLast hne]
          exact head_cons this
        have hM' : M ∈ (a :: r).reverse := List.mem_reverse.2 hM
        rw [e] at hM' hr
        rcases List.mem_cons.1 hM' with h' | h'
        · exact lex_irrefl _ (h' ▸ h)
        · have h2 : Adj lex ((((a :: r).getLast hne) :: ((a :: r).reverse).tail).map ng) := by
            rw [adj_map]; exact hr.imp fun _ _ h => lex_ng.2 h
          rw [List.map_cons] at h2
          have := adj_lex_all h2 (ng M) (List.mem_map_of_mem h')
          exact lex_irrefl _ (lex_trans h (lex_ng.1 this))
theorem hull_ext {s s' : List (Int × Int)} {m M : Int × Int} (T : Two s' m M) (hs : Adj lex s) (hsub : ∀ p ∈ s', p ∈ s) (hl : ∀ i, ∀ p ∈ s, 0 ≤ crs (cy (hullS s') i) (cy (hullS s') (i + 1)) p)
    (lo : ∀ p ∈ s, m = p ∨ lex m p) (hi : ∀ p ∈ s, p = M ∨ lex p M) : hullS s = hullS s' := by
  have hm' : m ∈ s' := T.mem_s T.m_hull
  have hM' : M ∈ s' := T.mem_s T.M_hull
  obtain ⟨e1, e2⟩ := ends_of hs (hsub _ hm') (hsub _ hM') lo hi
  have T2 : Two s m M := ⟨hs, e1, e2, T.lt, low_low hs e1 e2, high_low hs e1 e2⟩
  -- the lesser one's chains see all points
  have hpath : Adj (fun a b => ∀ p ∈ s, 0 ≤ crs a b p) (hullS s' ++ [m]) := by
    rw [adj_iff]
    intro i hi
    have hi' : i < (hullS s').length := by simp at hi; omega
    have q := hl i
    have c1 : cy (hullS s') i = (hullS s' ++ [m])[i] := by rw [cy_lt hi', List.getElem_append_left hi']
    have c2 : cy (hullS s') (i + 1) = (hullS s' ++ [m])[i + 1] := by
      by_cases e : i + 1 < (hullS s').length
      · rw [cy_lt e, List.getElem_append_left e]
      · have e0 : i + 1 = (hullS s').length := by omega
        rw [List.getElem_append_right (by omega)]
        simp only [List.getElem_singleton]
        have : cy (hullS s') (0 + (hullS s').length) = cy (hullS s') 0 := cy_add 0
        rw [e0]
        rw [Nat.zero_add] at this
        rw [this, cy_lt (by omega)]
        have hd := T.head
        rw [List.head?_eq_getElem?, List.getElem?_eq_some_iff] at hd
        exact hd.2
    rw [c1, c2] at q
    exact q
  rw [T.path, adj_append, ← T.low_eq, ← head_cons T.highHead] at hpath
  have L1 : Low (low s') s m M := ⟨T.L.head, T.L.last, T.L.sorted, T.L.turns, hpath.1, fun a ha => hsub _ (T.mem_low ha), lo, hi⟩
  have H1 : Low ((high s').map ng) (s.map ng) (ng M) (ng m) := by
    refine ⟨T.H.head, T.H.last, T.H.sorted, T.H.turns, ?_, ?_, T2.H.lo, T2.H.hi⟩
    · rw [adj_map]
      refine hpath.2.imp fun a b h p hp => ?_
      obtain ⟨q, hq, rfl⟩ := List.mem_map.1 hp
      rw [crs_ng]
      exact h q hq
    · intro a ha
      obtain ⟨q, hq, rfl⟩ := List.mem_map.1 ha
      exact List.mem_map_of_mem (hsub _ (T.mem_high hq))
  have E1 := L1.uniq T2.L (fun a ha => T2.mem_low ha) (fun a ha => hsub _ (T.mem_low ha))
  have E2 := map_ng_inj (H1.uniq T2.H (fun a ha => T2.H.mem a ha) (fun a ha => H1.mem a ha))
  rw [T2.hull_eq, T.hull_eq, E1, E2]
theorem hull_sub {l : List (Int × Int)} {v : Int × Int} (hv : v ∈ hull l) : v ∈ l := by
  unfold hull at hv
  by_cases h2 : 2 ≤ (canon l).length
  · obtain ⟨m, M, T⟩ := two_of (canon_sorted l) h2
    exact mem_canon.1 (T.mem_s hv)
  · unfold hullS at hv
    rw [if_pos (by omega)] at hv
    exact mem_canon.1 hv
def dot (d p : Int × Int) : Int := d.1 * p.1 + d.2 * p.2
def Sep (A B : List (Int × Int)) : Prop := ∃ d, ∀ a ∈ A, ∀ b ∈ B, dot d a < dot d b
theorem exists_max (f : Int × Int → Int) : ∀ {l : List (Int × Int)}, l ≠ [] → ∃ v ∈ l, ∀ u ∈ l, f u ≤ f v
  | [], h => absurd rfl h
  | [a], _ => ⟨a, by simp, by simp⟩
  | a :: b :: r, _ => by
    obtain ⟨v, hv, h⟩ := exists_max f (l := b :: r) (by simp)
    by_cases e : f a ≤ f v
    · refine ⟨v, List.mem_cons_of_mem _ hv, fun u hu => ?_⟩
      rcases List.mem_cons.1 hu with rfl | hu
      · exact e
      · exact h u hu
    · refine ⟨a, by simp, fun u hu => ?_⟩
      rcases List.mem_cons.1 hu with rfl | hu
      · omega
      · have := h u hu
        omega
theorem support_aux {d u v w p : Int × Int} (t : 0 < crs u v w) (h1 : 0 ≤ crs u v p) (h2 : 0 ≤ crs v w p) (d1 : dot d u ≤ dot d v) (d2 : dot d w ≤ dot d v) : dot d p ≤ dot d v := by
  have e : crs u v w * (dot d p - dot d v) = crs u v p * (dot d w - dot d v) + crs v w p * (dot d u - dot d v) := by unfold crs dot; grind
  have q1 : crs u v p * (dot d w - dot d v) ≤ 0 := Int.mul_nonpos_of_nonneg_of_nonpos h1 (by omega)
  have q2 : crs v w p * (dot d u - dot d v) ≤ 0 := Int.mul_nonpos_of_nonneg_of_nonpos h2 (by omega)
  refine Int.not_lt.1 fun hc => ?_
  have := Int.mul_pos t (b := dot d p - dot d v) (by omega)
  omega
theorem par_neg {ux uy wx wy d1 d2 : Int} (hu : pos ux uy) (hw : pos wx wy) (h0 : ux * wy - uy * wx = 0) (hd : d1 * wx + d2 * wy < 0) : d1 * ux + d2 * uy < 0 := by
  rcases hw with hw | ⟨hw, hw'⟩
  · have hux : 0 < ux := by
      rcases hu with h | ⟨h, h'⟩
      · exact h
      · subst h
        have := Int.mul_pos h' hw
        omega
    have e : (d1 * ux + d2 * uy) * wx = (d1 * wx + d2 * wy) * ux - d2 * (ux * wy - uy * wx) := by grind
    rw [h0] at e
    have := Int.mul_neg_of_neg_of_pos hd hux
    refine Int.not_le.1 fun hc => ?_
    have := Int.mul_nonneg hc (Int.le_of_lt hw)
    omega
  · subst hw
    have hux : ux = 0 := by
      rcases hu with h | ⟨h, _⟩
      · have := Int.mul_pos h hw'
        omega
      · exact h
    subst hux
    have huy : 0 < uy := by rcases hu with h | h <;> omega
    have hd2 : d2 < 0 := by
      refine Int.not_le.1 fun hc => ?_
      have := Int.mul_nonneg hc (Int.le_of_lt hw')
      omega
    have := Int.mul_neg_of_neg_of_pos hd2 huy
    omega
theorem prev_of {h : List (Int × Int)} (hl : 0 < h.length) {v : Int × Int} (hv : v ∈ h) : ∃ j, cy h (j + 1) = v := by
  obtain ⟨i, hi, e⟩ := cy_of_mem hv
  refine ⟨i + (h.length - 1), ?_⟩
  have : i + (h.length - 1) + 1 = i + h.length := by omega
  rw [this, cy_add]
  exact e
theorem Two.support {s : List (Int × Int)} {m M : Int × Int} (T : Two s m M) {p : Int × Int} (hl : ∀ i, 0 ≤ crs (cy (hullS s) i) (cy (hullS s) (i + 1)) p)
    (lo : m = p ∨ lex m p) (hi : p = M ∨ lex p M) (d : Int × Int) : ∃ v ∈ hullS s, dot d p ≤ dot d v := by
  by_cases h3 : 3 ≤ (hullS s).length
  · have hne : hullS s ≠ [] := by intro e; rw [e] at h3; simp at h3
    obtain ⟨v, hv, hmax⟩ := exists_max (dot d) hne
    obtain ⟨j, e⟩ := prev_of (by omega) hv
    refine ⟨v, hv, ?_⟩
    have t := T.turn h3 j
    have h1 := hl j
    have h2 := hl (j + 1)
    rw [e] at t h1 h2
    exact support_aux t h1 h2 (hmax _ (cy_mem hne _)) (hmax _ (cy_mem hne _))
  · rcases lo with rfl | lo
    · exact ⟨_, T.m_hull, Int.le_refl _⟩
    · rcases hi with rfl | hi
      · exact ⟨_, T.M_hull, Int.le_refl _⟩
      · have h2 : (hullS s).length = 2 := by have := T.hlen; omega
        have e0 : cy (hullS s) 0 = m := by
          have hd := T.head
          rw [List.head?_eq_getElem?, List.getElem?_eq_some_iff] at hd
          obtain ⟨g, e⟩ := hd
          rw [cy_lt g, e]
        have e1 : cy (hullS s) 1 = M := by
          obtain ⟨i, hi, e⟩ := cy_of_mem T.M_hull
          have : i ≠ 0 := by
            rintro rfl
            rw [e0] at e
            exact absurd T.lt (e ▸ lex_irrefl _)
          have : i = 1 := by omega
          rw [← this]; exact e
        have e2 : cy (hullS s) 2 = m := by
          have := cy_add (h := hullS s) 0
          rw [h2, Nat.zero_add] at this
          rw [this, e0]
        have q1 := hl 0
        have q2 := hl 1
        simp only [Nat.zero_add, Nat.reduceAdd] at q1 q2
        rw [e0, e1] at q1
        rw [e1, e2] at q2
        have q3 : crs M m p = - crs m M p := by rw [crs_swap]
        have q4 : crs m M p = 0 := by omega
        by_cases hd : dot d p ≤ dot d M
        · exact ⟨M, T.M_hull, hd⟩
        · refine ⟨m, T.m_hull, ?_⟩
          have := par_neg (d1 := d.1) (d2 := d.2) (lex_pos lo) (lex_pos hi) (by
            have : crs m M p = -((p.1 - m.1) * (M.2 - p.2) - (p.2 - m.2) * (M.1 - p.1)) := by unfold crs; grind
            omega) (by
            have : d.1 * (M.1 - p.1) + d.2 * (M.2 - p.2) = dot d M - dot d p := by unfold dot; grind
            omega)
          have : d.1 * (p.1 - m.1) + d.2 * (p.2 - m.2) = dot d p - dot d m := by unfold dot; grind
          omega
theorem Two.range {s : List (Int × Int)} {m M : Int × Int} (T : Two s m M) (h3 : 3 ≤ (hullS s).length) {p : Int × Int} (hl : ∀ i, 0 ≤ crs (cy (hullS s) i) (cy (hullS s) (i + 1)) p) :
    (m = p ∨ lex m p) ∧ (p = M ∨ lex p M) := by
  have hne : hullS s ≠ [] := by intro e; rw [e] at h3; simp at h3
  constructor
  · rcases lex_tri m p with h | h | h
    · exact .inr h
    · exact .inl h
    · exfalso
      obtain ⟨j, e⟩ := prev_of (by omega) T.m_hull
      have t := T.turn h3 j
      have h1 := hl j
      have h2 := hl (j + 1)
      have hc := T.mem_s (cy_mem hne j)
      have hb := T.mem_s (cy_mem hne (j + 1 + 1))
      have n1 := (T.cyc j).2.2
      have n2 := (T.cyc (j + 1)).2.2
      rw [e] at t h1 h2 n1 n2
      generalize cy (hullS s) j = c at *
      have e3 : j + 1 + 1 = j + 2 := by omega
      rw [e3] at *
      generalize cy (hullS s) (j + 2) = b at *
      have lc : lex m c := by
        rcases T.L.lo c hc with h' | h'
        · exact absurd h'.symm n1
        · exact h'
      have lb : lex m b := by
        rcases T.L.lo b hb with h' | h'
        · exact absurd h' n2
        · exact h'
      have q1 : crs c m p = (c.1 - m.1) * (m.2 - p.2) - (c.2 - m.2) * (m.1 - p.1) := by unfold crs; grind
      have q2 : crs m b p = (m.1 - p.1) * (b.2 - m.2) - (m.2 - p.2) * (b.1 - m.1) := by unfold crs; grind
      have q3 : crs c m b = -((c.1 - m.1) * (b.2 - m.2) - (c.2 - m.2) * (b.1 - m.1)) := by unfold crs; grind
      have := tr_ge _ _ _ _ _ _ (lex_pos lc) (lex_pos h) (lex_pos lb) (by rw [← q1]; exact h1) (by rw [← q2]; exact h2)
      omega
  · rcases lex_tri p M with h | h | h
    · exact .inr h
    · exact .inl h
    · exfalso
      obtain ⟨j, e⟩ := prev_of (by omega) T.M_hull
      have t := T.turn h3 j
      have h1 := hl j
      have h2 := hl (j + 1)
      have hc := T.mem_s (cy_mem hne j)
      have hb := T.mem_s (cy_mem hne (j + 1 + 1))
      have n1 := (T.cyc j).2.2
      have n2 := (T.cyc (j + 1)).2.2
      rw [e] at t h1 h2 n1 n2
      generalize cy (hullS s) j = c at *
      have e3 : j + 1 + 1 = j + 2 := by omega
      rw [e3] at *
      generalize cy (hullS s) (j + 2) = b at *
      have lc : lex c M := by
        rcases T.L.hi c hc with h' | h'
        · exact absurd h' n1
        · exact h'
      have lb : lex b M := by
        rcases T.L.hi b hb with h' | h'
        · exact absurd h'.symm n2
        · exact h'
      have q1 : crs c M p = (M.1 - c.1) * (p.2 - M.2) - (M.2 - c.2) * (p.1 - M.1) := by unfold crs; grind
      have q2 : crs M b p = (p.1 - M.1) * (M.2 - b.2) - (p.2 - M.2) * (M.1 - b.1) := by unfold crs; grind
      have q3 : crs c M b = -((M.1 - c.1) * (M.2 - b.2) - (M.2 - c.2) * (M.1 - b.1)) := by unfold crs; grind
      have := tr_ge _ _ _ _ _ _ (lex_pos lc) (lex_pos h) (lex_pos lb) (by rw [← q1]; exact h1) (by rw [← q2]; exact h2)
      omega
theorem hull_support {l : List (Int × Int)} {p : Int × Int} (hp : p ∈ l) (d : Int × Int) : ∃ v ∈ hull l, dot d p ≤ dot d v := by
  have hc := mem_canon.2 hp
  unfold hull
  by_cases h : 2 ≤ (canon l).length
  · obtain ⟨m, M, T⟩ := two_of (canon_sorted l) h
    exact T.support (fun i => (T.cyc i).1 p hc) (T.L.lo p hc) (T.L.hi p hc) d
  · refine ⟨p, ?_, Int.le_refl _⟩
    unfold hullS
    rw [if_pos (by omega)]
    exact hc
theorem hull_two {h : List (Int × Int)} (e : hull h = h) (h2 : 2 ≤ h.length) : ∃ m M, Two (canon h) m M ∧ hullS (canon h) = h := by
  have : 2 ≤ (canon h).length := by
    refine Nat.not_lt.1 fun hc => ?_
    unfold hull hullS at e
    rw [if_pos hc] at e
    rw [e] at hc
    omega
  obtain ⟨m, M, T⟩ := two_of (canon_sorted h) this
  exact ⟨m, M, T, e⟩
theorem hull_one {h : List (Int × Int)} (e : hull h = h) (hne : h ≠ []) (h2 : h.length < 2) : ∃ a, h = [a] := by
  match h, hne, h2 with
  | [a], _, _ => exact ⟨a, rfl⟩
theorem not_sep {A B : List (Int × Int)} : ¬ Sep A B ↔ ∀ d, ∃ a ∈ A, ∃ b ∈ B, dot d b ≤ dot d a := by
  unfold Sep
  constructor
  · intro h d
    refine Classical.byContradiction fun hc => h ⟨d, fun a ha b hb => Int.not_le.1 fun hle => hc ⟨a, ha, b, hb, hle⟩⟩
  · rintro h ⟨d, hd⟩
    obtain ⟨a, ha, b, hb, hle⟩ := h d
    have := hd a ha b hb
    omega
theorem not_sep_of_has {h : List (Int × Int)} {p : Int × Int} (e : hull (h ++ [p]) = h) : ¬ Sep h [p] := by
  rintro ⟨d, hd⟩
  obtain ⟨v, hv, hle⟩ := hull_support (l := h ++ [p]) (p := p) (by simp) d
  rw [e] at hv
  have := hd v hv p (by simp)
  omega
theorem has_of_not_sep {h : List (Int × Int)} {p : Int × Int} (e : hull h = h) (hne : h ≠ []) (hs : ¬ Sep h [p]) : hull (h ++ [p]) = h := by
  rw [not_sep] at hs
  have hs' : ∀ d, ∃ v ∈ h, dot d p ≤ dot d v := fun d => by
    obtain ⟨a, ha, b, hb, hle⟩ := hs d
    rw [List.mem_singleton.1 hb] at hle
    exact ⟨a, ha, hle⟩
  by_cases h2 : 2 ≤ h.length
  · obtain ⟨m, M, T, e2⟩ := hull_two e h2
    have hl : ∀ i, 0 ≤ crs (cy (hullS (canon h)) i) (cy (hullS (canon h)) (i + 1)) p := fun i => by
      obtain ⟨q, _, _⟩ := T.cyc i
      generalize cy (hullS (canon h)) i = a at *
      generalize cy (hullS (canon h)) (i + 1) = b at *
      obtain ⟨v, hv, hle⟩ := hs' (b.2 - a.2, -(b.1 - a.1))
      have := q v (mem_canon.2 hv)
      have e3 : dot (b.2 - a.2, -(b.1 - a.1)) p - dot (b.2 - a.2, -(b.1 - a.1)) v = crs a b v - crs a b p := by unfold dot crs; grind
      omega
    have hr : (m = p ∨ lex m p) ∧ (p = M ∨ lex p M) := by
      by_cases h3 : 3 ≤ (hullS (canon h)).length
      · exact T.range h3 hl
      · have h4 : (hullS (canon h)).length = 2 := by have := T.hlen; omega
        have hall : ∀ v ∈ h, v = m ∨ v = M := by
          intro v hv
          rw [← e2] at hv
          obtain ⟨i, hi, rfl⟩ := cy_of_mem hv
          obtain ⟨j, hj, ej⟩ := cy_of_mem T.m_hull
          obtain ⟨k, hk, ek⟩ := cy_of_mem T.M_hull
          have hjk : j ≠ k := by
            rintro rfl
            rw [ej] at ek
            exact absurd T.lt (ek ▸ lex_irrefl _)
          by_cases hij : i = j
          · subst hij; exact .inl ej
          · have : i = k := by omega
            subst this; exact .inr ek
        -- p lies on the line, and between
        have q : crs m M p = 0 := by
          obtain ⟨j, hj, ej⟩ := cy_of_mem T.m_hull
          have ne := (T.cyc j).2.2
          have l1 := hl j
          have l2 := hl (j + 1)
          have ht := cy_mem (h := hullS (canon h)) (by intro e0; rw [e0] at h4; simp at h4) (j + 1)
          have hmem : ∀ v, v ∈ hullS (canon h) → v ∈ h := fun v hv => by rw [e2] at hv; exact hv
          rcases hall _ (hmem _ ht) with e5 | e5
          · rw [ej, e5] at ne; exact absurd rfl ne
          · rw [ej, e5] at l1
            have e6 : cy (hullS (canon h)) (j + 1 + 1) = m := by
              have := cy_add (h := hullS (canon h)) j
              rw [h4] at this
              have e7 : j + 1 + 1 = j + 2 := by omega
              rw [e7, this, ej]
            rw [e5, e6] at l2
            have : crs M m p = - crs m M p := by rw [crs_swap]
            omega
        have d1 : 0 ≤ (M.1 - m.1) * (p.1 - m.1) + (M.2 - m.2) * (p.2 - m.2) := by
          obtain ⟨v, hv, hle⟩ := hs' (-(M.1 - m.1), -(M.2 - m.2))
          have e3 : dot (-(M.1 - m.1), -(M.2 - m.2)) p = -((M.1 - m.1) * (p.1 - m.1) + (M.2 - m.2) * (p.2 - m.2)) + dot (-(M.1 - m.1), -(M.2 - m.2)) m := by unfold dot; grind
          rcases hall v hv with rfl | rfl
          · omega
          · have e4 : dot (-(v.1 - m.1), -(v.2 - m.2)) v = -((v.1 - m.1) * (v.1 - m.1) + (v.2 - m.2) * (v.2 - m.2)) + dot (-(v.1 - m.1), -(v.2 - m.2)) m := by unfold dot; grind
            have s1 : 0 ≤ (v.1 - m.1) * (v.1 - m.1) := by rcases Int.le_total 0 (v.1 - m.1) with h | h; exact Int.mul_nonneg h h; exact Int.mul_nonneg_of_nonpos_of_nonpos h h
            have s2 : 0 ≤ (v.2 - m.2) * (v.2 - m.2) := by rcases Int.le_total 0 (v.2 - m.2) with h | h; exact Int.mul_nonneg h h; exact Int.mul_nonneg_of_nonpos_of_nonpos h h
            omega
        have d2 : 0 ≤ (M.1 - m.1) * (M.1 - p.1) + (M.2 - m.2) * (M.2 - p.2) := by
          obtain ⟨v, hv, hle⟩ := hs' (M.1 - m.1, M.2 - m.2)
          have e3 : dot (M.1 - m.1, M.2 - m.2) p = -((M.1 - m.1) * (M.1 - p.1) + (M.2 - m.2) * (M.2 - p.2)) + dot (M.1 - m.1, M.2 - m.2) M := by unfold dot; grind
          rcases hall v hv with rfl | rfl
          · have e4 : dot (M.1 - v.1, M.2 - v.2) v = -((M.1 - v.1) * (M.1 - v.1) + (M.2 - v.2) * (M.2 - v.2)) + dot (M.1 - v.1, M.2 - v.2) M := by unfold dot; grind
            have s1 : 0 ≤ (M.1 - v.1) * (M.1 - v.1) := by rcases Int.le_total 0 (M.1 - v.1) with h | h; exact Int.mul_nonneg h h; exact Int.mul_nonneg_of_nonpos_of_nonpos h h
            have s2 : 0 ≤ (M.2 - v.2) * (M.2 - v.2) := by rcases Int.le_total 0 (M.2 - v.2) with h | h; exact Int.mul_nonneg h h; exact Int.mul_nonneg_of_nonpos_of_nonpos h h
            omega
          · omega
        have hlt := lex_pos T.lt
        have q' : (M.1 - m.1) * (p.2 - m.2) - (M.2 - m.2) * (p.1 - m.1) = 0 := q
        constructor
        · rcases lex_tri m p with h | h | h
          · exact .inr h
          · exact .inl h
          · exfalso
            have := par_neg (d1 := -(M.1 - m.1)) (d2 := -(M.2 - m.2)) (lex_pos h) hlt (by grind) (by
              have s : 0 < (M.1 - m.1) * (M.1 - m.1) + (M.2 - m.2) * (M.2 - m.2) := by
                rcases hlt with h | ⟨h, h'⟩
                · have := Int.mul_pos h h
                  have s2 : 0 ≤ (M.2 - m.2) * (M.2 - m.2) := by rcases Int.le_total 0 (M.2 - m.2) with h | h; exact Int.mul_nonneg h h; exact Int.mul_nonneg_of_nonpos_of_nonpos h h
                  omega
                · have := Int.mul_pos h' h'
                  rw [h]
                  omega
              have e8 : -(M.1 - m.1) * (M.1 - m.1) + -(M.2 - m.2) * (M.2 - m.2) = -((M.1 - m.1) * (M.1 - m.1) + (M.2 - m.2) * (M.2 - m.2)) := by grind
              omega)
            have e9 : -(M.1 - m.1) * (m.1 - p.1) + -(M.2 - m.2) * (m.2 - p.2) = (M.1 - m.1) * (p.1 - m.1) + (M.2 - m.2) * (p.2 - m.2) := by grind
            omega
        · rcases lex_tri p M with h | h | h
          · exact .inr h
          · exact .inl h
          · exfalso
            have := par_neg (d1 := -(M.1 - m.1)) (d2 := -(M.2 - m.2)) (lex_pos h) hlt (by grind) (by
              have s : 0 < (M.1 - m.1) * (M.1 - m.1) + (M.2 - m.2) * (M.2 - m.2) := by
                rcases hlt with h | ⟨h, h'⟩
                · have := Int.mul_pos h h
                  have s2 : 0 ≤ (M.2 - m.2) * (M.2 - m.2) := by rcases Int.le_total 0 (M.2 - m.2) with h | h; exact Int.mul_nonneg h h; exact Int.mul_nonneg_of_nonpos_of_nonpos h h
                  omega
                · have := Int.mul_pos h' h'
                  rw [h]
                  omega
              have e8 : -(M.1 - m.1) * (M.1 - m.1) + -(M.2 - m.2) * (M.2 - m.2) = -((M.1 - m.1) * (M.1 - m.1) + (M.2 - m.2) * (M.2 - m.2)) := by grind
              omega)
            have e9 : -(M.1 - m.1) * (p.1 - M.1) + -(M.2 - m.2) * (p.2 - M.2) = (M.1 - m.1) * (M.1 - p.1) + (M.2 - m.2) * (M.2 - p.2) := by grind
            omega
    have hx := hull_ext T (canon_sorted (h ++ [p])) (fun q hq => mem_canon.2 (List.mem_append_left _ (mem_canon.1 hq))) (fun i q hq => by
        rcases List.mem_append.1 (mem_canon.1 hq) with hq | hq
        · exact (T.cyc i).1 q (mem_canon.2 hq)
        · rw [List.mem_singleton.1 hq]; exact hl i)
      (fun q hq => by
        rcases List.mem_append.1 (mem_canon.1 hq) with hq | hq
        · exact T.L.lo q (mem_canon.2 hq)
        · rw [List.mem_singleton.1 hq]; exact hr.1)
      (fun q hq => by
        rcases List.mem_append.1 (mem_canon.1 hq) with hq | hq
        · exact T.L.hi q (mem_canon.2 hq)
        · rw [List.mem_singleton.1 hq]; exact hr.2)
    unfold hull
    rw [hx, e2]
  · obtain ⟨a, rfl⟩ := hull_one e hne (by omega)
    obtain ⟨v, hv, hle⟩ := hs' (p.1 - a.1, p.2 - a.2)
    rw [List.mem_singleton.1 hv] at hle
    have e3 : dot (p.1 - a.1, p.2 - a.2) p - dot (p.1 - a.1, p.2 - a.2) a = (p.1 - a.1) * (p.1 - a.1) + (p.2 - a.2) * (p.2 - a.2) := by unfold dot; grind
    have s1 : 0 ≤ (p.1 - a.1) * (p.1 - a.1) := by rcases Int.le_total 0 (p.1 - a.1) with h | h; exact Int.mul_nonneg h h; exact Int.mul_nonneg_of_nonpos_of_nonpos h h
    have s2 : 0 ≤ (p.2 - a.2) * (p.2 - a.2) := by rcases Int.le_total 0 (p.2 - a.2) with h | h; exact Int.mul_nonneg h h; exact Int.mul_nonneg_of_nonpos_of_nonpos h h
    have t1 : p.1 - a.1 = 0 := by
      have : (p.1 - a.1) * (p.1 - a.1) = 0 := by omega
      rcases Int.mul_eq_zero.1 this with h | h <;> exact h
    have t2 : p.2 - a.2 = 0 := by
      have : (p.2 - a.2) * (p.2 - a.2) = 0 := by omega
      rcases Int.mul_eq_zero.1 this with h | h <;> exact h
    have : p = a := by
      obtain ⟨p1, p2⟩ := p
      obtain ⟨a1, a2⟩ := a
      simp only at t1 t2
      simp only [Prod.mk.injEq]
      omega
    subst this
    rw [hull_congr (l' := [p]) (by simp)]
    exact e
def dir1 (h : List (Int × Int)) (i : Nat) (d : Int × Int) : Prop :=
  let x := (cy h (i + 1)).1 - (cy h i).1
  let y := (cy h (i + 1)).2 - (cy h i).2
  d = (y, -x) ∨ d = (-y, x) ∨ d = (x, y) ∨ d = (-x, -y)
def cr (u v : Int × Int) : Int := u.1 * v.2 - u.2 * v.1
def sub (b a : Int × Int) : Int × Int := (b.1 - a.1, b.2 - a.2)
theorem sq_nonneg (x : Int) : 0 ≤ x * x := by
  rcases Int.le_total 0 x with h | h
  · exact Int.mul_nonneg h h
  · exact Int.mul_nonneg_of_nonpos_of_nonpos h h
theorem sq_pos {x y : Int} (h : ¬ (x = 0 ∧ y = 0)) : 0 < x * x + y * y := by
  have s1 := sq_nonneg x
  have s2 := sq_nonneg y
  refine Int.lt_iff_le_and_ne.2 ⟨by omega, fun h0 => h ?_⟩
  have t1 : x * x = 0 := by omega
  have t2 : y * y = 0 := by omega
  exact ⟨by rcases Int.mul_eq_zero.1 t1 with h | h <;> exact h, by rcases Int.mul_eq_zero.1 t2 with h | h <;> exact h⟩
theorem par_cr {e f x : Int × Int} (h : cr e f = 0) : cr f x * (e.1 * e.1 + e.2 * e.2) = dot e f * cr e x := by
  unfold cr dot at *
  grind
theorem edge_par {A : List (Int × Int)} (eA : hull A = A) {a1 a2 e : Int × Int} (h1 : a1 ∈ A) (h2 : a2 ∈ A) (hne : a1 ≠ a2) (he : ¬ (e.1 = 0 ∧ e.2 = 0)) (hmax : ∀ a ∈ A, cr e (sub a a1) ≤ 0) (h0 : cr e (sub a2 a1) = 0) :
    ∃ i, cr e (sub (cy A (i + 1)) (cy A i)) = 0 := by
  have hlen : 2 ≤ A.length := by
    match A, h1, h2 with
    | [a], h1, h2 =>
      simp at h1 h2
      exact absurd (h1.trans h2.symm) hne
    | a :: b :: r, _, _ => simp
  obtain ⟨m, M, T, eq⟩ := hull_two eA hlen
  have hE := T.cyc
  rw [eq] at hE
  have hEe := sq_pos he
  have hneA : A ≠ [] := by intro h; rw [h] at h1; simp at h1
  have hdot : dot e (sub a2 a1) ≠ 0 := by
    intro hd
    have e1 : (dot e (sub a2 a1)) * (dot e (sub a2 a1)) + (cr e (sub a2 a1)) * (cr e (sub a2 a1)) = (e.1 * e.1 + e.2 * e.2) * ((sub a2 a1).1 * (sub a2 a1).1 + (sub a2 a1).2 * (sub a2 a1).2) := by unfold dot cr; grind
    rw [hd, h0] at e1
    have e2 : (e.1 * e.1 + e.2 * e.2) * ((sub a2 a1).1 * (sub a2 a1).1 + (sub a2 a1).2 * (sub a2 a1).2) = 0 := by rw [← e1]; rfl
    rcases Int.mul_eq_zero.1 e2 with h | h
    · omega
    · refine hne ?_
      have := sq_pos (x := (sub a2 a1).1) (y := (sub a2 a1).2)
      by_cases hz : (sub a2 a1).1 = 0 ∧ (sub a2 a1).2 = 0
      · unfold sub at hz
        obtain ⟨x1, x2⟩ := a1
        obtain ⟨y1, y2⟩ := a2
        simp only at hz
        simp only [Prod.mk.injEq]
        omega
      · have := this hz
        omega
  rcases Int.lt_or_gt_of_ne hdot with hd | hd
  · -- the points lie on the left of the way from a1 to a2: the edge at a1
    obtain ⟨i, _, ei⟩ := cy_of_mem h1
    obtain ⟨q, _, _⟩ := hE i
    rw [ei] at q
    have hb := cy_mem hneA (i + 1)
    refine ⟨i, ?_⟩
    rw [ei]
    generalize cy A (i + 1) = b at *
    have q1 := q a2 (mem_canon.2 h2)
    have q2 := hmax b hb
    have e1 : crs a1 b a2 = - cr (sub a2 a1) (sub b a1) := by unfold crs cr sub; grind
    have e2 := par_cr (x := sub b a1) h0
    have q3 : cr (sub a2 a1) (sub b a1) ≤ 0 := by omega
    have q4 : 0 ≤ dot e (sub a2 a1) * cr e (sub b a1) := Int.mul_nonneg_of_nonpos_of_nonpos (by omega) q2
    have q5 : cr (sub a2 a1) (sub b a1) * (e.1 * e.1 + e.2 * e.2) ≤ 0 := Int.mul_nonpos_of_nonpos_of_nonneg q3 (by omega)
    have q6 : dot e (sub a2 a1) * cr e (sub b a1) = 0 := by omega
    rcases Int.mul_eq_zero.1 q6 with h | h
    · omega
    · exact h
  · obtain ⟨i, _, ei⟩ := cy_of_mem h2
    obtain ⟨q, _, _⟩ := hE i
    rw [ei] at q
    have hb := cy_mem hneA (i + 1)
    refine ⟨i, ?_⟩
    rw [ei]
    generalize cy A (i + 1) = b at *
    have q1 := q a1 (mem_canon.2 h1)
    have q2 := hmax b hb
    have e0 : cr e (sub b a1) = cr e (sub b a2) + cr e (sub a2 a1) := by unfold cr sub; grind
    have e1 : crs a2 b a1 = cr (sub a2 a1) (sub b a2) := by unfold crs cr sub; grind
    have e2 := par_cr (x := sub b a2) h0
    have q3 : 0 ≤ cr (sub a2 a1) (sub b a2) := by omega
    have q4 : dot e (sub a2 a1) * cr e (sub b a2) ≤ 0 := Int.mul_nonpos_of_nonneg_of_nonpos (by omega) (by omega)
    have q5 : 0 ≤ cr (sub a2 a1) (sub b a2) * (e.1 * e.1 + e.2 * e.2) := Int.mul_nonneg q3 (by omega)
    have q6 : dot e (sub a2 a1) * cr e (sub b a2) = 0 := by omega
    rcases Int.mul_eq_zero.1 q6 with h | h
    · omega
    · exact h
theorem par_dot {g n x : Int × Int} (h : cr n g = 0) (hg : 0 < dot g n) (hx : 0 < dot n x) : 0 < dot g x := by
  have e : dot g x * (n.1 * n.1 + n.2 * n.2) = dot g n * dot n x + cr n g * cr n x := by unfold dot cr; grind
  rw [h, Int.zero_mul, Int.add_zero] at e
  have hp := Int.mul_pos hg hx
  refine Int.not_le.1 fun hc => ?_
  have := Int.mul_nonpos_of_nonpos_of_nonneg hc (b := n.1 * n.1 + n.2 * n.2) (by have := sq_nonneg n.1; have := sq_nonneg n.2; omega)
  omega
theorem dot_sub (d a b : Int × Int) : dot d (sub b a) = dot d b - dot d a := by unfold dot sub; grind
theorem norm_parts {A B h : List (Int × Int)} (hh : hull h = h) (h2 : 2 ≤ h.length) {i : Nat} {e : Int × Int} (hpar : cr e (sub (cy h (i + 1)) (cy h i)) = 0) (hs : ∀ a ∈ A, ∀ b ∈ B, 0 < dot (-e.2, e.1) (sub b a)) :
    ∃ d, (∃ j, j < h.length ∧ dir1 h j d) ∧ ∀ a ∈ A, ∀ b ∈ B, dot d a < dot d b := by
  have hl : 0 < h.length := by omega
  obtain ⟨m, M, T, eq⟩ := hull_two hh h2
  have hne := (T.cyc i).2.2
  rw [eq] at hne
  have q : ∀ k, cy h k = cy h (k % h.length) := fun k => by unfold cy; rw [Nat.mod_mod]
  have q2 : cy h (i + 1) = cy h (i % h.length + 1) := by rw [q (i + 1), q (i % h.length + 1), Nat.mod_add_mod]
  rw [q i] at hpar hne
  rw [q2] at hpar hne
  have hj := Nat.mod_lt i hl
  generalize i % h.length = j at *
  -- the edge's step
  have hg0 : ¬ ((sub (cy h (j + 1)) (cy h j)).1 = 0 ∧ (sub (cy h (j + 1)) (cy h j)).2 = 0) := by
    rintro ⟨h3, h4⟩
    unfold sub at h3 h4
    refine hne ?_
    generalize cy h j = a at *
    generalize cy h (j + 1) = b at *
    obtain ⟨a1, a2⟩ := a
    obtain ⟨b1, b2⟩ := b
    simp only at h3 h4
    simp only [Prod.mk.injEq]
    omega
  have parts : ∀ d, cr (-e.2, e.1) d = 0 → 0 < dot d (-e.2, e.1) → ∀ a ∈ A, ∀ b ∈ B, dot d a < dot d b := fun d h3 h4 a ha b hb => by
    have := par_dot h3 h4 (hs a ha b hb)
    rw [dot_sub] at this
    omega
  by_cases hA : ∃ a, a ∈ A
  · by_cases hB : ∃ b, b ∈ B
    · obtain ⟨a, ha⟩ := hA
      obtain ⟨b, hb⟩ := hB
      have he : ¬ (e.1 = 0 ∧ e.2 = 0) := by
        rintro ⟨h3, h4⟩
        have := hs a ha b hb
        unfold dot at this
        rw [h3, h4] at this
        simp at this
      unfold dir1
      generalize hgx : sub (cy h (j + 1)) (cy h j) = g at *
      have ex : (cy h (j + 1)).1 - (cy h j).1 = g.1 := by rw [← hgx]; rfl
      have ey : (cy h (j + 1)).2 - (cy h j).2 = g.2 := by rw [← hgx]; rfl
      have hd : dot e g ≠ 0 := by
        intro hd
        have e1 : (dot e g) * (dot e g) + (cr e g) * (cr e g) = (e.1 * e.1 + e.2 * e.2) * (g.1 * g.1 + g.2 * g.2) := by unfold dot cr; grind
        rw [hd, hpar] at e1
        have := Int.mul_pos (sq_pos he) (sq_pos hg0)
        omega
      rcases Int.lt_or_gt_of_ne hd with hd | hd
      · refine ⟨(g.2, -g.1), ⟨j, hj, ?_⟩, parts _ ?_ ?_⟩
        · left; rw [ex, ey]
        · unfold cr at *; simp only; grind
        · unfold dot at *; simp only; grind
      · refine ⟨(-g.2, g.1), ⟨j, hj, ?_⟩, parts _ ?_ ?_⟩
        · right; left; rw [ex, ey]
        · unfold cr at *; simp only; grind
        · unfold dot at *; simp only; grind
    · exact ⟨_, ⟨j, hj, .inl rfl⟩, fun a _ b hb => absurd ⟨b, hb⟩ hB⟩
  · exact ⟨_, ⟨j, hj, .inl rfl⟩, fun a ha => absurd ⟨a, ha⟩ hA⟩
def diffs (A B : List (Int × Int)) : List (Int × Int) := A.flatMap fun a => B.map fun b => sub b a
theorem mem_diffs {A B : List (Int × Int)} {x : Int × Int} : x ∈ diffs A B ↔ ∃ a ∈ A, ∃ b ∈ B, sub b a = x := by
  unfold diffs
  simp
theorem two_len {h : List (Int × Int)} {x y : Int × Int} (hx : x ∈ h) (hy : y ∈ h) (hne : x ≠ y) : 2 ≤ h.length := by
  match h, hx, hy with
  | [a], hx, hy =>
    simp at hx hy
    exact absurd (hx.trans hy.symm) hne
  | a :: b :: r, _, _ => simp
theorem sep_tried {A B : List (Int × Int)} (eA : hull A = A) (eB : hull B = B) (nA : A ≠ []) (nB : B ≠ []) (hs : Sep A B) :
    ∃ d, (d = sub (cy B 0) (cy A 0) ∨ (∃ j, j < A.length ∧ dir1 A j d) ∨ (∃ j, j < B.length ∧ dir1 B j d)) ∧ ∀ a ∈ A, ∀ b ∈ B, dot d a < dot d b := by
  obtain ⟨d, hd⟩ := hs
  have hD : ∀ x ∈ diffs A B, 0 < dot d x := fun x hx => by
    obtain ⟨a, ha, b, hb, rfl⟩ := mem_diffs.1 hx
    rw [dot_sub]
    have := hd a ha b hb
    omega
  have hA0 := cy_mem nA 0
  have hB0 := cy_mem nB 0
  have h0 : sub (cy B 0) (cy A 0) ∈ diffs A B := mem_diffs.2 ⟨_, hA0, _, hB0, rfl⟩
  -- a direction that parts all differences
  have use : ∀ n : Int × Int, (∀ x ∈ diffs A B, 0 < dot n x) → ∀ a ∈ A, ∀ b ∈ B, dot n a < dot n b := fun n hn a ha b hb => by
    have := hn _ (mem_diffs.2 ⟨a, ha, b, hb, rfl⟩)
    rw [dot_sub] at this
    omega
  -- all on one ray
  have ray : (∀ x ∈ diffs A B, cr (sub (cy B 0) (cy A 0)) x = 0 ∧ 0 < dot (sub (cy B 0) (cy A 0)) x) → ∃ d, (d = sub (cy B 0) (cy A 0) ∨ (∃ j, j < A.length ∧ dir1 A j d) ∨ (∃ j, j < B.length ∧ dir1 B j d)) ∧ ∀ a ∈ A, ∀ b ∈ B, dot d a < dot d b :=
    fun h => ⟨_, .inl rfl, use _ fun x hx => (h x hx).2⟩
  by_cases h2 : 2 ≤ (canon (diffs A B)).length
  · obtain ⟨m, M, T⟩ := two_of (canon_sorted (diffs A B)) h2
    -- an edge that has 0 on its right
    by_cases hedge : ∃ i, crs (cy (hullS (canon (diffs A B))) i) (cy (hullS (canon (diffs A B))) (i + 1)) (0, 0) < 0
    · obtain ⟨i, hi⟩ := hedge
      obtain ⟨q1, _, q3⟩ := T.cyc i
      have hneH : hullS (canon (diffs A B)) ≠ [] := by intro e; have := T.hlen; rw [e] at this; simp at this
      have hu := mem_canon.1 (T.mem_s (cy_mem hneH i))
      have hv := mem_canon.1 (T.mem_s (cy_mem hneH (i + 1)))
      generalize cy (hullS (canon (diffs A B))) i = u at *
      generalize cy (hullS (canon (diffs A B))) (i + 1) = v at *
      have hq : ∀ x ∈ diffs A B, 0 ≤ crs u v x := fun x hx => q1 x (mem_canon.2 hx)
      generalize hew : sub v u = e at *
      have ee1 : v.1 - u.1 = e.1 := by rw [← hew]; rfl
      have ee2 : v.2 - u.2 = e.2 := by rw [← hew]; rfl
      have hcrs : ∀ x, crs u v x = cr e (sub x u) := fun x => by unfold crs cr sub; simp only; rw [ee1, ee2]
      have hdn : ∀ x, dot (-e.2, e.1) x = crs u v x - crs u v (0, 0) := fun x => by rw [hcrs, hcrs]; unfold dot cr sub; simp only; grind
      have hn : ∀ x ∈ diffs A B, 0 < dot (-e.2, e.1) x := fun x hx => by
        rw [hdn]
        have := hq x hx
        omega
      have he : ¬ (e.1 = 0 ∧ e.2 = 0) := by
        rintro ⟨z1, z2⟩
        have := hn u hu
        unfold dot at this
        rw [z1, z2] at this
        simp at this
      obtain ⟨a1, ha1, b1, hb1, hu1⟩ := mem_diffs.1 hu
      obtain ⟨a2, ha2, b2, hb2, hv2⟩ := mem_diffs.1 hv
      have hcv : crs u v v = 0 := crs_self2 u v
      have hcu : crs u v u = 0 := crs_self3 u v
      -- what the two ends are for A and for B
      have kk : ∀ a ∈ A, ∀ b ∈ B, 0 ≤ cr e (sub (sub b a) u) := fun a ha b hb => by
        rw [← hcrs]
        exact hq _ (mem_diffs.2 ⟨a, ha, b, hb, rfl⟩)
      have kv : cr e (sub v u) = 0 := by rw [← hcrs]; exact hcv
      have id1 : ∀ a, cr e (sub (sub b1 a) u) = - cr e (sub a a1) := fun a => by rw [← hu1]; unfold cr sub; simp only; grind
      have id2 : ∀ b, cr e (sub (sub b a1) u) = cr e (sub b b1) := fun b => by rw [← hu1]; unfold cr sub; simp only; grind
      have kA : ∀ a ∈ A, cr e (sub a a1) ≤ 0 := fun a ha => by
        have := kk a ha b1 hb1
        rw [id1] at this
        omega
      have kB : ∀ b ∈ B, 0 ≤ cr e (sub b b1) := fun b hb => by
        have := kk a1 ha1 b hb
        rw [id2] at this
        exact this
      have id3 : cr e (sub v u) = cr e (sub b2 b1) - cr e (sub a2 a1) := by rw [← hu1, ← hv2]; unfold cr sub; simp only; grind
      have z1 := kA a2 ha2
      have z2 := kB b2 hb2
      have zA : cr e (sub a2 a1) = 0 := by omega
      have zB : cr e (sub b2 b1) = 0 := by omega
      by_cases hne : a1 = a2
      · have hneb : b1 ≠ b2 := by
          rintro rfl
          exact q3 (by rw [← hu1, ← hv2, hne])
        have hneg : ∀ x, cr (-e.1, -e.2) x = - cr e x := fun x => by unfold cr; simp only; grind
        obtain ⟨i, hi⟩ := edge_par eB (e := (-e.1, -e.2)) hb1 hb2 hneb (by simp only; omega) (fun b hb => by rw [hneg]; have := kB b hb; omega) (by rw [hneg]; omega)
        rw [hneg] at hi
        obtain ⟨d', hd', hp⟩ := norm_parts (A := A) (B := B) eB (two_len hb1 hb2 hneb) (i := i) (e := e) (by omega) (fun a ha b hb => hn _ (mem_diffs.2 ⟨a, ha, b, hb, rfl⟩))
        exact ⟨d', .inr (.inr hd'), hp⟩
      · obtain ⟨i, hi⟩ := edge_par eA ha1 ha2 hne he kA zA
        obtain ⟨d', hd', hp⟩ := norm_parts (A := A) (B := B) eA (two_len ha1 ha2 hne) hi (fun a ha b hb => hn _ (mem_diffs.2 ⟨a, ha, b, hb, rfl⟩))
        exact ⟨d', .inr (.inl hd'), hp⟩
    · -- no edge has 0 on its right
      have hl : ∀ i, 0 ≤ crs (cy (hullS (canon (diffs A B))) i) (cy (hullS (canon (diffs A B))) (i + 1)) (0, 0) := fun i => Int.not_lt.1 fun hc => hedge ⟨i, hc⟩
      by_cases hr : (m = (0, 0) ∨ lex m (0, 0)) ∧ ((0, 0) = M ∨ lex (0, 0) M)
      · exfalso
        obtain ⟨v, hv, hle⟩ := T.support hl hr.1 hr.2 (-d.1, -d.2)
        have := hD v (mem_canon.1 (T.mem_s hv))
        have e1 : dot (-d.1, -d.2) v = - dot d v := by unfold dot; simp only; grind
        have e2 : dot (-d.1, -d.2) (0, 0) = 0 := by unfold dot; simp
        omega
      · have h3 : ¬ 3 ≤ (hullS (canon (diffs A B))).length := fun h3 => hr (T.range h3 hl)
        have h4 : (hullS (canon (diffs A B))).length = 2 := by have := T.hlen; omega
        have hneH : hullS (canon (diffs A B)) ≠ [] := by intro e; rw [e] at h4; simp at h4
        -- all differences lie on a line through 0, on one side of it
        obtain ⟨j, hj, ej⟩ := cy_of_mem T.m_hull
        obtain ⟨k, hk, ek⟩ := cy_of_mem T.M_hull
        have hjk : j ≠ k := by
          rintro rfl
          rw [ej] at ek
          exact absurd T.lt (ek ▸ lex_irrefl _)
        have e5 : cy (hullS (canon (diffs A B))) (j + 1) = M := by
          have hmem := cy_mem hneH (j + 1)
          obtain ⟨i, hi, ei⟩ := cy_of_mem hmem
          have ne := (T.cyc j).2.2
          by_cases hij : i = j
          · subst hij
            exact absurd (ei.symm.trans rfl).symm (by rw [ej] at ne ⊢; exact fun h => ne (by rw [← ei, ej]))
          · have : i = k := by omega
            subst this
            rw [← ei]; exact ek
        have e6 : cy (hullS (canon (diffs A B))) (j + 1 + 1) = m := by
          have := cy_add (h := hullS (canon (diffs A B))) j
          rw [h4] at this
          have e7 : j + 1 + 1 = j + 2 := by omega
          rw [e7, this, ej]
        have line : ∀ p, 0 ≤ crs m M p → 0 ≤ crs M m p → crs m M p = 0 := fun p h1 h2 => by
          have : crs M m p = - crs m M p := by rw [crs_swap]
          omega
        have l0 : crs m M (0, 0) = 0 := by
          have l1 := hl j
          have l2 := hl (j + 1)
          rw [ej, e5] at l1
          rw [e5, e6] at l2
          exact line _ l1 l2
        have lx : ∀ x ∈ diffs A B, crs m M x = 0 := fun x hx => by
          have l1 := (T.cyc j).1 x (mem_canon.2 hx)
          have l2 := (T.cyc (j + 1)).1 x (mem_canon.2 hx)
          rw [ej, e5] at l1
          rw [e5, e6] at l2
          exact line _ l1 l2
        have lcr : ∀ x ∈ diffs A B, cr (sub M m) x = 0 := fun x hx => by
          have := lx x hx
          have e8 : crs m M x = cr (sub M m) x + crs m M (0, 0) := by unfold crs cr sub; simp only; grind
          omega
        have hMm : ¬ ((sub M m).1 = 0 ∧ (sub M m).2 = 0) := by
          have := lex_pos T.lt
          unfold sub
          rcases this with h | ⟨h, h'⟩ <;> omega
        have two : ∀ x y, x ∈ diffs A B → y ∈ diffs A B → cr x y = 0 := fun x y hx hy => by
          have h1 := lcr x hx
          have h2 := lcr y hy
          have e9 : cr x y * ((sub M m).1 * (sub M m).1 + (sub M m).2 * (sub M m).2) = dot (sub M m) x * cr (sub M m) y - dot (sub M m) y * cr (sub M m) x := by unfold cr dot; grind
          rw [h1, h2] at e9
          have e10 : cr x y * ((sub M m).1 * (sub M m).1 + (sub M m).2 * (sub M m).2) = 0 := by omega
          have := sq_pos hMm
          rcases Int.mul_eq_zero.1 e10 with h | h
          · exact h
          · omega
        refine ray fun x hx => ⟨two _ _ h0 hx, ?_⟩
        -- both are seen by d on one side, and on one line: so on one ray
        have q1 := hD _ h0
        have q2 := hD x hx
        have q3 := two _ _ h0 hx
        generalize sub (cy B 0) (cy A 0) = y at *
        have id : dot y x * (d.1 * d.1 + d.2 * d.2) = dot d y * dot d x + cr d y * cr d x := by unfold dot cr; grind
        have id2 : cr d y * dot d x = cr d x * dot d y - cr y x * (d.1 * d.1 + d.2 * d.2) * (-1) * (-1) := by unfold dot cr; grind
        rw [q3] at id2
        have id3 : cr d y * dot d x = cr d x * dot d y := by omega
        have id4 : (cr d y * cr d x) * dot d x = (cr d x * cr d x) * dot d y := by
          have : (cr d y * cr d x) * dot d x = cr d x * (cr d y * dot d x) := by grind
          rw [this, id3]; grind
        have s1 := Int.mul_nonneg (sq_nonneg (cr d x)) (Int.le_of_lt q1)
        have s2 : 0 ≤ cr d y * cr d x := by
          refine Int.not_lt.1 fun hc => ?_
          have := Int.mul_neg_of_neg_of_pos hc q2
          omega
        have s3 := Int.mul_pos q1 q2
        refine Int.not_le.1 fun hc => ?_
        have := Int.mul_nonpos_of_nonpos_of_nonneg hc (b := d.1 * d.1 + d.2 * d.2) (by have := sq_nonneg d.1; have := sq_nonneg d.2; omega)
        omega
  · -- one difference alone
    refine ray fun x hx => ?_
    have e : x = sub (cy B 0) (cy A 0) := by
      refine Classical.byContradiction fun hne => h2 ?_
      exact two_len (mem_canon.2 hx) (mem_canon.2 h0) hne
    subst e
    refine ⟨by unfold cr; grind, ?_⟩
    have q := hD _ h0
    have := sq_pos (x := (sub (cy B 0) (cy A 0)).1) (y := (sub (cy B 0) (cy A 0)).2) (by
      rintro ⟨z1, z2⟩
      unfold dot at q
      rw [z1, z2] at q
      simp at q)
    exact this
end Go.Proofs.Ytkbcomgffpbcbaa.Geo
namespace Go.Proofs.Ytkbcomgffpbcbaa.Geo
def grow (A : List (Int × Int)) (t : Int) : List (Int × Int) := A.flatMap fun p => [(p.1 - t, p.2 - t), (p.1 - t, p.2 + t), (p.1 + t, p.2 - t), (p.1 + t, p.2 + t)]
theorem mem_grow {A : List (Int × Int)} {t : Int} {q : Int × Int} : q ∈ grow A t ↔ ∃ p ∈ A, q = (p.1 - t, p.2 - t) ∨ q = (p.1 - t, p.2 + t) ∨ q = (p.1 + t, p.2 - t) ∨ q = (p.1 + t, p.2 + t) := by
  unfold grow
  simp
theorem hull_nodup (l : List (Int × Int)) : (hull l).Nodup := by
  unfold hull
  by_cases h : 2 ≤ (canon l).length
  · obtain ⟨m, M, T⟩ := two_of (canon_sorted l) h
    exact T.nodup
  · have e : hullS (canon l) = canon l := by unfold hullS; rw [if_pos (by omega)]
    rw [e]
    exact Two.sorted_nodup (canon_sorted l)
end Go.Proofs.Ytkbcomgffpbcbaa.Geo
namespace Go.Proofs.Ytkbcomgffpbcbaa.Geo
def Inn (A B : List (Int × Int)) : Prop := ∀ d : Int × Int, ∀ p ∈ A, ∃ q ∈ B, dot d p ≤ dot d q
theorem Inn.refl (A : List (Int × Int)) : Inn A A := fun _ p hp => ⟨p, hp, Int.le_refl _⟩
theorem Inn.trans {A B C : List (Int × Int)} (h : Inn A B) (k : Inn B C) : Inn A C := fun d p hp => by
  obtain ⟨q, hq, h1⟩ := h d p hp
  obtain ⟨r, hr, h2⟩ := k d q hq
  exact ⟨r, hr, Int.le_trans h1 h2⟩
def far (a b : Int × Int) : Int := (a.1 - b.1) * (a.1 - b.1) + (a.2 - b.2) * (a.2 - b.2)
structure Best (l : List (Int × Int)) (a b : Int × Int) : Prop where
  left : ∀ p ∈ l, 0 ≤ crs a b p
  near : ∀ p ∈ l, crs a b p = 0 → p ≠ b → far a p < far a b
  ne : a ≠ b
end Go.Proofs.Ytkbcomgffpbcbaa.Geo
