/- Plain laws of runs: tiles as bytes, canvases as bytes, and what is read. -/
import Derived.Test.YthihffglkheleaaBa
set_option linter.unusedVariables false
set_option linter.unusedSimpArgs false
namespace Go.Proofs.Ythihffglkheleaa
open Go.RowKit

/-- A colour: four bytes. -/
abbrev Col := U8 × U8 × U8 × U8
def n8 (n : Nat) : U8 := ⟨(n : Int) % 256, by omega⟩
theorem n8_val (n : Nat) (h : n ≤ 255) : (n8 n).1 = (n : Int) := by simp [n8]; omega
theorem n8_of (m : U8) : n8 m.1.toNat = m := by
  apply Subtype.ext
  have := m.2
  simp [n8]
  omega
def runB (n : Nat) (c : Col) : List U8 := [n8 n, c.1, c.2.1, c.2.2.1, c.2.2.2]
/-- The bytes of n pixels of colour c, and the pixels l behind them. -/
def rleK : Nat → Col → List Col → List U8
  | n, c, [] => runB n c
  | n, c, d :: l => if d = c then rleK (n + 1) c l else runB n c ++ rleK 1 d l
def tileB : List Col → List U8
  | [] => []
  | c :: l => rleK 1 c l
/-- How often the colour changes. -/
def chgs : Col → List Col → Nat
  | _, [] => 0
  | c, d :: l => (if d = c then 0 else 1) + chgs d l
theorem rleK_length (l : List Col) : ∀ (n : Nat) (c : Col), (rleK n c l).length = 5 * (1 + chgs c l) := by
  induction l with
  | nil => intro n c; simp [rleK, runB, chgs]
  | cons d l ih =>
    intro n c
    simp only [rleK, chgs]
    split
    · next h => subst h; rw [ih]; omega
    · rw [List.length_append, ih]; simp [runB]; omega
theorem rleK_replicate (c : Col) (l : List Col) (hl : l.head? ≠ some c) (i : Nat) : ∀ n, rleK n c (List.replicate i c ++ l) = runB (n + i) c ++ tileB l := by
  induction i with
  | zero =>
    intro n
    cases l with
    | nil => simp [rleK, tileB]
    | cons d l =>
      have hd : ¬ d = c := fun h => hl (by rw [h]; rfl)
      simp [rleK, tileB, hd]
  | succ i ih =>
    intro n
    rw [List.replicate_succ, List.cons_append, rleK, if_pos rfl, ih]
    congr 2
    omega
theorem tileB_replicate (c : Col) (l : List Col) (hl : l.head? ≠ some c) (m : Nat) (hm : 0 < m) : tileB (List.replicate m c ++ l) = runB m c ++ tileB l := by
  obtain ⟨i, rfl⟩ : ∃ i, m = i + 1 := ⟨m - 1, by omega⟩
  rw [List.replicate_succ, List.cons_append, tileB, rleK_replicate c l hl]
  congr 2
  omega
theorem rleK_head (l : List Col) : ∀ (n : Nat) (c : Col), 0 < n → n + l.length ≤ 255 → ∃ m r, rleK n c l = m :: r ∧ 0 < m.1 := by
  induction l with
  | nil => intro n c hn h; exact ⟨n8 n, _, rfl, by rw [n8_val n (by simpa using h)]; omega⟩
  | cons d l ih =>
    intro n c hn h
    simp only [List.length_cons] at h
    simp only [rleK]
    split
    · exact ih (n + 1) c (by omega) (by omega)
    · exact ⟨n8 n, _, rfl, by rw [n8_val n (by omega)]; omega⟩

/-- The k pixels that bytes begin with (ahead of them colour p), and the bytes behind. -/
def rdI (b : List U8) (k : Nat) (p : Option Col) : Option (List Col × List U8) :=
  if k = 0 then some ([], b) else
    match b with
    | m :: r :: g :: u :: a :: rest =>
      if 0 < m.1 ∧ m.1.toNat ≤ k ∧ p ≠ some (r, g, u, a) then (rdI rest (k - m.1.toNat) (some (r, g, u, a))).map fun q => (List.replicate m.1.toNat (r, g, u, a) ++ q.1, q.2)
      else none
    | _ => none
termination_by b.length
decreasing_by simp; omega
theorem rdI_zero (b : List U8) (p : Option Col) : rdI b 0 p = some ([], b) := by rw [rdI.eq_def]; simp
theorem rdI_run (n : Nat) (c : Col) (rest : List U8) (k : Nat) (p : Option Col) (h0 : 0 < n) (h1 : n ≤ k) (h2 : n ≤ 255) (hp : p ≠ some c) :
    rdI (runB n c ++ rest) k p = (rdI rest (k - n) (some c)).map fun q => (List.replicate n c ++ q.1, q.2) := by
  rw [rdI.eq_def, if_neg (by omega)]
  simp only [runB, List.cons_append, List.nil_append]
  have e : (n8 n).1 = (n : Int) := n8_val n h2
  rw [e, if_pos ⟨by omega, by simpa using h1, by simpa using hp⟩]
  simp
theorem rdI_rleK (more : List U8) (l : List Col) : ∀ (n : Nat) (c : Col) (p : Option Col), p ≠ some c → 0 < n → n + l.length ≤ 255 → rdI (rleK n c l ++ more) (n + l.length) p = some (List.replicate n c ++ l, more) := by
  induction l with
  | nil =>
    intro n c p hp hn h
    simp only [rleK, List.length_nil, Nat.add_zero] at h ⊢
    rw [rdI_run n c more n p hn (Nat.le_refl _) h hp, Nat.sub_self, rdI_zero]
    simp
  | cons d l ih =>
    intro n c p hp hn h
    simp only [List.length_cons] at h ⊢
    simp only [rleK]
    split
    · next hd =>
      subst hd
      rw [show n + (l.length + 1) = (n + 1) + l.length by omega, ih (n + 1) d p hp (by omega) (by omega), List.replicate_succ', List.append_assoc]
      rfl
    · next hd =>
      rw [List.append_assoc, rdI_run n c _ _ p hn (by omega) (by omega) hp, show n + (l.length + 1) - n = 1 + l.length by omega, ih 1 d (some c) (by simpa using fun e => hd e.symm) (by omega) (by omega)]
      simp
theorem rdI_tileB (t : List Col) (more : List U8) (ht : t.length = 64) : rdI (tileB t ++ more) 64 none = some (t, more) := by
  cases t with
  | nil => simp at ht
  | cons c l =>
    simp only [List.length_cons] at ht
    have := rdI_rleK more l 1 c none (by simp) (by omega) (by omega)
    rw [show 1 + l.length = 64 by omega] at this
    simpa [tileB] using this
theorem rdI_some (N : Nat) : ∀ (b : List U8) (k : Nat) (p : Option Col) (l : List Col) (rest : List U8), b.length ≤ N → k ≤ 255 → rdI b k p = some (l, rest) → l.length = k ∧ b = tileB l ++ rest ∧ (l ≠ [] → l.head? ≠ p) := by
  induction N with
  | zero =>
    intro b k p l rest hb hk h
    have : b = [] := List.eq_nil_of_length_eq_zero (by omega)
    subst this
    rw [rdI.eq_def] at h
    split at h
    · next h0 => simp at h; obtain ⟨rfl, rfl⟩ := h; simp [h0, tileB]
    · simp at h
  | succ N ih =>
    intro b k p l rest hb hk h
    rw [rdI.eq_def] at h
    split at h
    · next h0 => simp at h; obtain ⟨rfl, rfl⟩ := h; simp [h0, tileB]
    · next h0 =>
      split at h
      · next m r g u a rest0 =>
        split at h
        · next hc =>
          obtain ⟨c1, c2, c3⟩ := hc
          obtain ⟨q, hq, he⟩ := Option.map_eq_some_iff.1 h
          obtain ⟨ql, qr⟩ := q
          simp at he
          obtain ⟨rfl, rfl⟩ := he
          simp only [List.length_cons] at hb
          obtain ⟨i1, i2, i3⟩ := ih rest0 _ _ ql qr (by omega) (by omega) hq
          have hm : 0 < m.1.toNat := by omega
          have hh : ql.head? ≠ some (r, g, u, a) := by
            cases ql with
            | nil => simp
            | cons x y => exact i3 (by simp)
          refine ⟨by rw [List.length_append, List.length_replicate, i1]; omega, ?_, fun _ => ?_⟩
          · rw [tileB_replicate _ _ hh _ hm, i2]
            simp [runB, n8_of]
          · obtain ⟨i, hi⟩ : ∃ i, m.1.toNat = i + 1 := ⟨m.1.toNat - 1, by omega⟩
            rw [hi, List.replicate_succ, List.cons_append, List.head?_cons]
            exact fun e => c3 e.symm
        · cases h
      · cases h
theorem rdI_back {b : List U8} {l : List Col} {rest : List U8} (h : rdI b 64 none = some (l, rest)) : l.length = 64 ∧ b = tileB l ++ rest := by
  obtain ⟨h1, h2, _⟩ := rdI_some b.length b 64 none l rest (Nat.le_refl _) (by omega) h
  exact ⟨h1, h2⟩

/-- The same without a look at the colour ahead. -/
def rdR (b : List U8) (k : Nat) : Option (List Col × List U8) :=
  if k = 0 then some ([], b) else
    match b with
    | m :: r :: g :: u :: a :: rest =>
      if 0 < m.1 ∧ m.1.toNat ≤ k then (rdR rest (k - m.1.toNat)).map fun q => (List.replicate m.1.toNat (r, g, u, a) ++ q.1, q.2)
      else none
    | _ => none
termination_by b.length
decreasing_by simp; omega
theorem rdR_of_rdI (N : Nat) : ∀ (b : List U8) (k : Nat) (p : Option Col) (x : List Col × List U8), b.length ≤ N → rdI b k p = some x → rdR b k = some x := by
  induction N with
  | zero =>
    intro b k p x hb h
    have : b = [] := List.eq_nil_of_length_eq_zero (by omega)
    subst this
    rw [rdI.eq_def] at h
    rw [rdR.eq_def]
    split at h
    · next h0 => simpa [h0] using h
    · simp at h
  | succ N ih =>
    intro b k p x hb h
    rw [rdI.eq_def] at h
    rw [rdR.eq_def]
    split at h
    · next h0 => rw [if_pos h0]; exact h
    · next h0 =>
      rw [if_neg h0]
      split at h
      · next m r g u a rest0 =>
        split at h
        · next hc =>
          obtain ⟨q, hq, he⟩ := Option.map_eq_some_iff.1 h
          simp only [List.length_cons] at hb
          rw [if_pos ⟨hc.1, hc.2.1⟩, ih rest0 _ _ q (by omega) hq]
          simpa using he
        · cases h
      · cases h
theorem rdR_length (N : Nat) : ∀ (b : List U8) (k : Nat) (l : List Col) (rest : List U8), b.length ≤ N → rdR b k = some (l, rest) → l.length = k ∧ ∃ j, j ≤ b.length ∧ rest = b.drop j := by
  induction N with
  | zero =>
    intro b k l rest hb h
    have : b = [] := List.eq_nil_of_length_eq_zero (by omega)
    subst this
    rw [rdR.eq_def] at h
    split at h
    · next h0 => simp at h; obtain ⟨rfl, rfl⟩ := h; exact ⟨by simp [h0], 0, by simp, by simp⟩
    · simp at h
  | succ N ih =>
    intro b k l rest hb h
    rw [rdR.eq_def] at h
    split at h
    · next h0 => simp at h; obtain ⟨rfl, rfl⟩ := h; exact ⟨by simp [h0], 0, by simp, by simp⟩
    · next h0 =>
      split at h
      · next m r g u a rest0 =>
        split at h
        · next hc =>
          obtain ⟨q, hq, he⟩ := Option.map_eq_some_iff.1 h
          obtain ⟨ql, qr⟩ := q
          simp at he
          obtain ⟨rfl, rfl⟩ := he
          simp only [List.length_cons] at hb
          obtain ⟨i1, j, hj, i2⟩ := ih rest0 _ ql qr (by omega) hq
          exact ⟨by rw [List.length_append, List.length_replicate, i1]; omega, j + 5, by simp; omega, by rw [i2]; simp⟩
        · cases h
      · cases h
/-- The reference's answer: what is read without the look, if it has these bytes. -/
theorem rdR_rdI (b : List U8) (l : List Col) (rest : List U8) (h : rdR b 64 = some (l, rest)) (hb : b = tileB l ++ rest) : rdI b 64 none = some (l, rest) := by
  obtain ⟨hl, _⟩ := rdR_length _ b 64 l rest (Nat.le_refl _) h
  rw [hb]
  exact rdI_tileB l rest hl

/-- The tile with whose bytes others begin, and how many these are. -/
def readT (b : List U8) : Option (List Col × Nat) := (rdI b 64 none).map fun q => (q.1, b.length - q.2.length)
theorem readT_tileB (t : List Col) (more : List U8) (ht : t.length = 64) : readT (tileB t ++ more) = some (t, (tileB t).length) := by
  rw [readT, rdI_tileB t more ht]
  simp
theorem readT_some {b : List U8} {t : List Col} {n : Nat} (h : readT b = some (t, n)) : t.length = 64 ∧ n = (tileB t).length ∧ n ≤ b.length ∧ b.take n = tileB t ∧ rdI b 64 none = some (t, b.drop n) := by
  obtain ⟨q, hq, he⟩ := Option.map_eq_some_iff.1 h
  obtain ⟨ql, qr⟩ := q
  simp at he
  obtain ⟨rfl, rfl⟩ := he
  obtain ⟨h1, h2⟩ := rdI_back hq
  have h3 : b.length = (tileB ql).length + qr.length := by rw [h2]; simp
  have h4 : b.length - qr.length = (tileB ql).length := by omega
  refine ⟨h1, h4, by omega, ?_, ?_⟩
  · rw [h4]; conv => lhs; rw [h2]
    simp
  · rw [hq, h4]
    congr 2
    conv => rhs; rw [h2]
    simp
theorem tileB_length_pos (t : List Col) (ht : t.length = 64) : 0 < (tileB t).length := by
  cases t with
  | nil => simp at ht
  | cons c l => rw [tileB, rleK_length]; omega
theorem tileB_head (t : List Col) (ht : t.length = 64) : ∃ m r, tileB t = m :: r ∧ 0 < m.1 := by
  cases t with
  | nil => simp at ht
  | cons c l =>
    simp only [List.length_cons] at ht
    exact rleK_head l 1 c (by omega) (by omega)
/-- Less than a tile's bytes are none's. -/
theorem readT_short (t : List Col) (ht : t.length = 64) (n : Nat) (hn : n < (tileB t).length) : readT ((tileB t).take n) = none := by
  cases h : readT ((tileB t).take n) with
  | none => rfl
  | some x =>
    obtain ⟨u, k⟩ := x
    obtain ⟨h1, h2, h3, h4, _⟩ := readT_some h
    rw [List.length_take] at h3
    have h5 : tileB t = tileB u ++ (tileB t).drop k := by rw [← h4, List.take_take, Nat.min_eq_left (by omega), List.take_append_drop]
    have h6 := readT_tileB u ((tileB t).drop k) h1
    rw [← h5] at h6
    have h7 := readT_tileB t [] ht
    rw [List.append_nil] at h7
    rw [h6] at h7
    simp at h7
    omega

/-- The bytes of tiles; those that are as Z tells (of the tiles ahead) are the byte 0. -/
def bytesC (Z : List (List Col) → List Col) : List (List Col) → List (List Col) → List U8
  | _, [] => []
  | done, t :: l => (if t = Z done then [n8 0] else tileB t) ++ bytesC Z (done ++ [t]) l
/-- k tiles that are read behind others. -/
def rdC (Z : List (List Col) → List Col) : Nat → List (List Col) → List U8 → Option (List (List Col) × List U8)
  | 0, done, b => some (done, b)
  | k + 1, done, b =>
    match b with
    | [] => none
    | x :: rest => if x.1 = 0 then rdC Z k (done ++ [Z done]) rest else
      match rdI b 64 none with
      | none => none
      | some (t, rest') => if t = Z done then none else rdC Z k (done ++ [t]) rest'
theorem rdC_bytesC (Z : List (List Col) → List Col) (more : List U8) (l : List (List Col)) : ∀ done, (∀ t ∈ l, t.length = 64) → rdC Z l.length done (bytesC Z done l ++ more) = some (done ++ l, more) := by
  induction l with
  | nil => intro done _; simp [rdC, bytesC]
  | cons t l ih =>
    intro done h
    have ht := h t (by simp)
    simp only [List.length_cons, bytesC]
    by_cases hz : t = Z done
    · rw [if_pos hz]
      simp only [List.cons_append, List.nil_append, rdC]
      rw [if_pos (by simp [n8]), ← hz, ih _ (fun x hx => h x (by simp [hx]))]
      simp
    · rw [if_neg hz, List.append_assoc]
      obtain ⟨m, r, he, hm⟩ := tileB_head t ht
      have hr := rdI_tileB t (bytesC Z (done ++ [t]) l ++ more) ht
      rw [he] at hr ⊢
      simp only [List.cons_append, rdC] at hr ⊢
      rw [if_neg (by omega), hr]
      simp only
      rw [if_neg hz, ih _ (fun x hx => h x (by simp [hx]))]
      simp
theorem rdC_some (Z : List (List Col) → List Col) (hZ : ∀ d, (∀ t ∈ d, t.length = 64) → (Z d).length = 64) (k : Nat) : ∀ (done : List (List Col)) (b : List U8) (l : List (List Col)) (rest : List U8), (∀ t ∈ done, t.length = 64) → rdC Z k done b = some (l, rest) →
    ∃ l', l = done ++ l' ∧ l'.length = k ∧ b = bytesC Z done l' ++ rest ∧ ∀ t ∈ l', t.length = 64 := by
  induction k with
  | zero =>
    intro done b l rest _ h
    simp only [rdC, Option.some.injEq, Prod.mk.injEq] at h
    obtain ⟨rfl, rfl⟩ := h
    exact ⟨[], by simp, rfl, by simp [bytesC], by simp⟩
  | succ k ih =>
    intro done b l rest hd h
    cases b with
    | nil => simp [rdC] at h
    | cons x r =>
      simp only [rdC] at h
      split at h
      · next hx =>
        have hz := hZ done hd
        obtain ⟨l', e1, e2, e3, e4⟩ := ih (done ++ [Z done]) r l rest (by intro t ht; simp at ht; rcases ht with ht | rfl; exact hd t ht; exact hz) h
        refine ⟨Z done :: l', by rw [e1]; simp, by simp [e2], ?_, ?_⟩
        · have : x = n8 0 := Subtype.ext (by rw [hx]; rfl)
          rw [bytesC, if_pos rfl, e3, this]
          simp
        · intro t ht
          simp at ht
          rcases ht with rfl | ht
          · exact hz
          · exact e4 t ht
      · next hx =>
        split at h
        · cases h
        · next t rest' hr =>
          obtain ⟨ht, hb⟩ := rdI_back hr
          split at h
          · cases h
          · next hz =>
            obtain ⟨l', e1, e2, e3, e4⟩ := ih (done ++ [t]) rest' l rest (by intro u hu; simp at hu; rcases hu with hu | rfl; exact hd u hu; exact ht) h
            refine ⟨t :: l', by rw [e1]; simp, by simp [e2], ?_, ?_⟩
            · rw [bytesC, if_neg hz, List.append_assoc, ← e3]
              exact hb
            · intro u hu
              simp at hu
              rcases hu with rfl | hu
              · exact ht
              · exact e4 u hu
end Go.Proofs.Ythihffglkheleaa
