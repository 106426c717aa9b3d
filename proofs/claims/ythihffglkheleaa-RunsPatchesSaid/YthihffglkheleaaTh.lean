/- Contracts of runs: the step of bytes. -/
import Derived.Test.YthihffglkheleaaTg
import Derived.Deep.MidRow
import Derived.Deep.RegionHeld3
set_option linter.unusedVariables false
set_option linter.unusedSimpArgs false
namespace Go.Proofs.Ythihffglkheleaa
open Go.RowKit

set_option maxRecDepth 100000 in
set_option maxHeartbeats 4000000 in
theorem rn_Patch1 (lo hi : Nat) (wd hg : Int) (A : Option Addr) (c : Nat) (ts : List (List Col)) (p k : Nat) (w : World) (hv : RdT lo hi w (.slice A ts.length c) ts) (hp : BoxA w p 43 #[.int .i64 wd, .int .i64 hg, .slice A ts.length c]) (hk : k < ts.length) :
    Calls Try.prog 50 #[.int .i64 k, .pointer (some ⟨p, 0, none⟩)] w fun e w' => e = .returned (.agg (tcA (zP ts k))) ∧ New w w' := by
  obtain ⟨b, off, e, _, _, hc, ht⟩ := hv.at_ k hk
  have hcl : ts.length ≤ c ∧ c ≤ 9223372036854775807 := by
    obtain ⟨A', c', e', h1, h2⟩ := hv.form
    injection e' with _ _ e3
    subst e3
    exact ⟨h1, h2⟩
  obtain ⟨h1, h2⟩ := hcl
  subst e
  have cp := (hp.later (new_alloc w (.cells (tcA blankT) 29))).cell 2
  simp only [List.getElem?_toArray, List.getElem?_cons_zero, List.getElem?_cons_succ] at cp
  have hz : zP ts k = ts[k] := by rw [zP]; simp [List.getD, hk]
  rw [hz]
  have hc2 : ∀ i, i < 256 → (w.alloc (.cells (tcA blankT) 29)).cell? ⟨b, off + k * 256 + i, none⟩ = (tcl ts[k])[i]? := fun i hi => by
    have h := ((hv.new (new_alloc w (.cells (tcA blankT) 29))).at_ k hk)
    obtain ⟨b', off', e', _, _, hc', _⟩ := h
    injection e' with e'
    injection e' with e1 e2
    subst e1 e2
    exact hc' i hi
  have HB := Lib.hid (fun t : List Col => (BoxA.new w 29 (tcA blankT)).setRow (tcA t))
  have HC := Lib.hid hc2
  have HT := Lib.hid ht
  have hst := Lib.hid (size_tc ht)
  clear hc hc2 ht hz hv hp
  generalize ts[k] = t at *
  go_enter Try.func50, Try.ntmps50
  go_wp2_with (first
    | (refine wpl_alloc_tile rfl rfl ?_)
    | (refine wpl_load_tile rfl (.tmp 7) rfl _ _ rfl t HT.out HC.out ?_)
    | (refine wpl_store_tile rfl (.tmp 3) (.tmp 8) rfl _ rfl t HT.out rfl (BoxA.new _ _ _) (by simp [tcA_size, blankT_length]) ?_))
  refine bodyPost_ret (v := .agg (tcA t)) (results_cell_row rfl _ _ _ _ _ _ _ rfl (HB.out t) Try.underlying29 rfl hst.out) rfl ⟨rfl, ?_⟩
  exact (new_refl w).trans' ((Chg.refl (fun k => k = w.heap.size) w).alloc _ |>.trans (chg_setRow _ _ _ _ rfl)) (fun k hk => by omega)
set_option maxRecDepth 100000 in
set_option maxHeartbeats 4000000 in
theorem rn_Apply11 (lo hi : Nat) (wd hg : Int) (A : Option Addr) (c : Nat) (ts : List (List Col)) (p k : Nat) (w : World) (hv : RdT lo hi w (.slice A ts.length c) ts) (hp : BoxA w p 43 #[.int .i64 wd, .int .i64 hg, .slice A ts.length c]) (hk : k < ts.length) :
    Calls Try.prog 54 #[.int .i64 k, .pointer (some ⟨p, 0, none⟩)] w fun e w' => e = .returned (.agg (tcA (zP ts k))) ∧ New w w' := by
  obtain ⟨b, off, e, _, _, hc, ht⟩ := hv.at_ k hk
  have hcl : ts.length ≤ c ∧ c ≤ 9223372036854775807 := by
    obtain ⟨A', c', e', h1, h2⟩ := hv.form
    injection e' with _ _ e3
    subst e3
    exact ⟨h1, h2⟩
  obtain ⟨h1, h2⟩ := hcl
  subst e
  have cp := (hp.later (new_alloc w (.cells (tcA blankT) 29))).cell 2
  simp only [List.getElem?_toArray, List.getElem?_cons_zero, List.getElem?_cons_succ] at cp
  have hz : zP ts k = ts[k] := by rw [zP]; simp [List.getD, hk]
  rw [hz]
  have hc2 : ∀ i, i < 256 → (w.alloc (.cells (tcA blankT) 29)).cell? ⟨b, off + k * 256 + i, none⟩ = (tcl ts[k])[i]? := fun i hi => by
    have h := ((hv.new (new_alloc w (.cells (tcA blankT) 29))).at_ k hk)
    obtain ⟨b', off', e', _, _, hc', _⟩ := h
    injection e' with e'
    injection e' with e1 e2
    subst e1 e2
    exact hc' i hi
  have HB := Lib.hid (fun t : List Col => (BoxA.new w 29 (tcA blankT)).setRow (tcA t))
  have HC := Lib.hid hc2
  have HT := Lib.hid ht
  have hst := Lib.hid (size_tc ht)
  clear hc hc2 ht hz hv hp
  generalize ts[k] = t at *
  go_enter Try.func54, Try.ntmps54
  go_wp2_with (first
    | (refine wpl_alloc_tile rfl rfl ?_)
    | (refine wpl_load_tile rfl (.tmp 7) rfl _ _ rfl t HT.out HC.out ?_)
    | (refine wpl_store_tile rfl (.tmp 3) (.tmp 8) rfl _ rfl t HT.out rfl (BoxA.new _ _ _) (by simp [tcA_size, blankT_length]) ?_))
  refine bodyPost_ret (v := .agg (tcA t)) (results_cell_row rfl _ _ _ _ _ _ _ rfl (HB.out t) Try.underlying29 rfl hst.out) rfl ⟨rfl, ?_⟩
  exact (new_refl w).trans' ((Chg.refl (fun k => k = w.heap.size) w).alloc _ |>.trans (chg_setRow _ _ _ _ rfl)) (fun k hk => by omega)

/-- what a step of bytes lays behind others -/
def stepB (t z : List Col) : List U8 := if t = z then [n8 0] else tileB t
def OutB (lo : Nat) (bs : List U8) (w : World) (e : Ending) (w' : World) : Prop := ∃ A c, e = .returned (.slice A bs.length c) ∧ Chg (fun k => lo ≤ k) w w' ∧ Own e8 5 lo w' (.slice A bs.length c) bs
theorem rd_new1 (w : World) (a : U8) (t : TypeId) : Rd e8 0 (w.heap.size + 1) (w.alloc (.cells #[e8 a] t)) (.slice (some ⟨w.heap.size, 0, none⟩) 1 1) [a] := by
  refine ⟨_, _, rfl, by simp, by simp, .inr ⟨w.heap.size, 0, rfl, by omega, by omega, by simp, fun i hi => ?_⟩⟩
  have := heap_alloc_new w (.cells #[e8 a] t)
  simp only [World.cell?, this]
  simp only [List.length_cons, List.length_nil] at hi
  match i, hi with
  | 0, _ => simp
theorem BoxA.range {w : World} {b : Nat} {ty : TypeId} {l : List Value} (h : BoxA w b ty l.toArray) : w.rangeAt b 0 l := fun j v hv => by rw [Nat.zero_add, h.cell]; simpa using hv

set_option maxRecDepth 100000 in
set_option maxHeartbeats 4000000 in
theorem rn_bytes1P (lo : Nat) (A : Option Addr) (c : Nat) (bs : List U8) (k : Nat) (t z : List Col) (q p : Nat) (w : World) (hb : Own e8 5 lo w (.slice A bs.length c) bs) (ht : t.length = 64) (hz : z.length = 64)
    (hq : Box w q 78 (.func (.func 50) #[] #[.pointer (some ⟨p, 0, none⟩)])) (hl : bs.length ≤ 1099511627776) (hlo : lo ≤ w.heap.size)
    (hZ : ∀ W, New w W → Calls Try.prog 50 #[.int .i64 k, .pointer (some ⟨p, 0, none⟩)] W fun e w' => e = .returned (.agg (tcA z)) ∧ New W w') :
    Calls Try.prog 59 #[.slice A bs.length c, .int .i64 k, .agg (tcA t), .pointer (some ⟨q, 0, none⟩)] w (OutB lo (bs ++ stepB t z) w) := by
  have hn := new_alloc w (.cells (tcA t) 29)
  have hbt := BoxA.new w 29 (tcA t)
  have heq := run_eqT t z ht hz
  have htl := tileB_le t
  have hT := fun W => rn_Tile t W ht
  have hu := Try.underlying29
  have hsz : (Try.prog.info? 29).map (·.size) = some (tcl t).length := by rw [tcl_length, ht]; exact size_tile
  have hsz2 := size_tc ht
  have htz : t = z ↔ t = z := Iff.rfl
  rw [ht] at htl
  simp only [tcA] at hn hbt heq hT hZ hsz2 ⊢
  have hr0 := hbt.range
  have cq := (hq.later hn).cell
  have HQ := Lib.hid (hq.later hn)
  have HBT := Lib.hid hbt
  have HO := Lib.hid (hb.new hn)
  have HT := Lib.hid hT
  have HZ := Lib.hid hZ
  have HS := Lib.hid hsz2
  have HTL := Lib.hid htl
  have HNW := Lib.hid hn
  clear hT hZ hb hq hbt hn hsz2 htl ht hz htz
  obtain ⟨st, hst⟩ : ∃ st, st = stepB t z := ⟨_, rfl⟩
  rw [← hst]
  by_cases htz : t = z
  · rw [decide_eq_true htz] at heq
    have hst2 : st = [n8 0] := by rw [hst, stepB, if_pos htz]
    subst hst2
    clear htz hst HT
    have hdr : New (w.alloc (.cells (tcl t).toArray 29)) (w.alloc (.cells (tcl t).toArray 29)).drew := Below.drew (new_refl _)
    have HBD := Lib.hid (HBT.out.later hdr)
    have HQD := Lib.hid (HQ.out.later hdr)
    have hr1 := HBD.out.range
    have cq1 := HQD.out.cell
    have HND := Lib.hid (HNW.out.trans hdr)
    clear hdr HBT HQ hr0
    generalize tcl t = tl at *
    generalize tcl z = zl at *
    go_enter Try.func59, Try.ntmps59
    go_wp2_with fail
    go_region_held3 (fun w' => w'.rangeAt w.heap.size 0 tl ∧ w'.cell? ⟨q, 0, none⟩ = some (.func (.func 50) #[] #[.pointer (some ⟨p, 0, none⟩)]) ∧ New w w')
      (first | exact ⟨hr1, cq1, HND.out⟩ | exact ⟨hr2, cq2, HNZ.out⟩ | assumption | go_keep)
      ((go_at_call 50; (with_reducible refine (HZ.out _ HND.out).mono ?_); rintro e wz ⟨rfl, hN⟩; have HNZ := Lib.hid (HND.out.trans hN); have hr2 := (HBD.out.later hN).range; have cq2 := (HQD.out.later hN).cell; have HCZ : Hid (Chg (fun k => lo ≤ k) w wz) := Lib.hid (HNZ.out.chg _); have HO1 := Lib.hid (HO.out.new (New.trans (Below.drew (new_refl _)) hN)); have HB1 := Lib.hid (HBD.out.later hN); clear hN))
    go_wp2_with (at_builtin; refine wpl_append (enc := e8) (ys := [n8 0]) rfl (.tmp 13) (.tmp 14) rfl Try.underlying23 info_u8 rfl (fun _ => rfl) rfl rfl (HO1.out.new (new_alloc _ _)) (rd_new1 _ _ _) (by simp; omega) (by simp; omega) (by have := HNZ.out.size; simp; omega) ?_)
    rw [show bs.length + 1 = (bs ++ [n8 0]).length by simp]
    intro A' c' w2 ho2 hg _
    have HO2 := Lib.hid ho2
    have hc := (HCZ.out.alloc (.cells #[.int .u8 0] 5)).grown hg (fun k hk => .inl (HO1.out.lt k hk).1)
    have HC2 := Lib.hid hc
    clear hc ho2 hg
    generalize (bs ++ [n8 0]) = bs2 at *
    go_wp2
    go_ret
    exact ⟨A', c', rfl, HC2.out, HO2.out⟩
  · rw [decide_eq_false htz] at heq
    have hst2 : st = tileB t := by rw [hst, stepB, if_neg htz]
    rw [← hst2] at HTL HT
    clear htz hst hst2
    have hdr : New (w.alloc (.cells (tcl t).toArray 29)) (w.alloc (.cells (tcl t).toArray 29)).drew := Below.drew (new_refl _)
    have HBD := Lib.hid (HBT.out.later hdr)
    have HQD := Lib.hid (HQ.out.later hdr)
    have hr1 := HBD.out.range
    have cq1 := HQD.out.cell
    have HND := Lib.hid (HNW.out.trans hdr)
    clear hdr HBT HQ hr0
    generalize tcl t = tl at *
    generalize tcl z = zl at *
    go_enter Try.func59, Try.ntmps59
    go_wp2_with fail
    go_region_held3 (fun w' => w'.rangeAt w.heap.size 0 tl ∧ w'.cell? ⟨q, 0, none⟩ = some (.func (.func 50) #[] #[.pointer (some ⟨p, 0, none⟩)]) ∧ New w w')
      (first | exact ⟨hr1, cq1, HND.out⟩ | exact ⟨hr2, cq2, HNZ.out⟩ | assumption | go_keep)
      ((go_at_call 50; (with_reducible refine (HZ.out _ HND.out).mono ?_); rintro e wz ⟨rfl, hN⟩; have HNZ := Lib.hid (HND.out.trans hN); have hr2 := (HBD.out.later hN).range; have cq2 := (HQD.out.later hN).cell; have HCZ : Hid (Chg (fun k => lo ≤ k) w wz) := Lib.hid (HNZ.out.chg _); have HO1 := Lib.hid (HO.out.new (New.trans (Below.drew (new_refl _)) hN)); have HB1 := Lib.hid (HBD.out.later hN); clear hN))
    go_wp2_with (first
      | (refine wpList_load_row rfl 29 (.tmp 6) rfl _ rfl _ tl.toArray (0, 0) _ HB1.out Try.underlying29 rfl HS.out ?_)
      | (go_at_call 10; ((with_reducible refine (HT.out _).mono ?_); rintro e w3 ⟨A3, c3, rfl, hN3, hO3⟩; have HN3 := Lib.hid hN3; have HR3 := Lib.hid (hO3.rd (Nat.le_refl _)); clear hN3 hO3))
      | (at_builtin; refine wpl_append (enc := e8) (ys := st) rfl (.tmp 16) (.tmp 18) rfl Try.underlying23 info_u8 rfl (fun _ => rfl) rfl rfl (HO1.out.new HN3.out) HR3.out (by have := HTL.out; omega) (by have := HTL.out; omega) (by have := HNZ.out.size; have := HN3.out.size; omega) ?_))
    rw [show bs.length + st.length = (bs ++ st).length by simp]
    intro A' c' w2 ho2 hg _
    have HO2 := Lib.hid ho2
    have hc := (HCZ.out.new HN3.out).grown hg (fun k hk => .inl (HO1.out.lt k hk).1)
    have HC2 := Lib.hid hc
    clear hc ho2 hg
    generalize (bs ++ st) = bs2 at *
    go_wp2
    go_ret
    exact ⟨A', c', rfl, HC2.out, HO2.out⟩
set_option maxRecDepth 100000 in
set_option maxHeartbeats 4000000 in
theorem rn_bytes1A (lo : Nat) (A : Option Addr) (c : Nat) (bs : List U8) (k : Nat) (t z : List Col) (q p : Nat) (w : World) (hb : Own e8 5 lo w (.slice A bs.length c) bs) (ht : t.length = 64) (hz : z.length = 64)
    (hq : Box w q 78 (.func (.func 60) #[] #[.pointer (some ⟨p, 0, none⟩)])) (hl : bs.length ≤ 1099511627776) (hlo : lo ≤ w.heap.size)
    (hZ : ∀ W, New w W → Calls Try.prog 60 #[.int .i64 k, .pointer (some ⟨p, 0, none⟩)] W fun e w' => e = .returned (.agg (tcA z)) ∧ New W w') :
    Calls Try.prog 59 #[.slice A bs.length c, .int .i64 k, .agg (tcA t), .pointer (some ⟨q, 0, none⟩)] w (OutB lo (bs ++ stepB t z) w) := by
  have hn := new_alloc w (.cells (tcA t) 29)
  have hbt := BoxA.new w 29 (tcA t)
  have heq := run_eqT t z ht hz
  have htl := tileB_le t
  have hT := fun W => rn_Tile t W ht
  have hu := Try.underlying29
  have hsz : (Try.prog.info? 29).map (·.size) = some (tcl t).length := by rw [tcl_length, ht]; exact size_tile
  have hsz2 := size_tc ht
  have htz : t = z ↔ t = z := Iff.rfl
  rw [ht] at htl
  simp only [tcA] at hn hbt heq hT hZ hsz2 ⊢
  have hr0 := hbt.range
  have cq := (hq.later hn).cell
  have HQ := Lib.hid (hq.later hn)
  have HBT := Lib.hid hbt
  have HO := Lib.hid (hb.new hn)
  have HT := Lib.hid hT
  have HZ := Lib.hid hZ
  have HS := Lib.hid hsz2
  have HTL := Lib.hid htl
  have HNW := Lib.hid hn
  clear hT hZ hb hq hbt hn hsz2 htl ht hz htz
  obtain ⟨st, hst⟩ : ∃ st, st = stepB t z := ⟨_, rfl⟩
  rw [← hst]
  by_cases htz : t = z
  · rw [decide_eq_true htz] at heq
    have hst2 : st = [n8 0] := by rw [hst, stepB, if_pos htz]
    subst hst2
    clear htz hst HT
    have hdr : New (w.alloc (.cells (tcl t).toArray 29)) (w.alloc (.cells (tcl t).toArray 29)).drew := Below.drew (new_refl _)
    have HBD := Lib.hid (HBT.out.later hdr)
    have HQD := Lib.hid (HQ.out.later hdr)
    have hr1 := HBD.out.range
    have cq1 := HQD.out.cell
    have HND := Lib.hid (HNW.out.trans hdr)
    clear hdr HBT HQ hr0
    generalize tcl t = tl at *
    generalize tcl z = zl at *
    go_enter Try.func59, Try.ntmps59
    go_wp2_with fail
    go_region_held3 (fun w' => w'.rangeAt w.heap.size 0 tl ∧ w'.cell? ⟨q, 0, none⟩ = some (.func (.func 60) #[] #[.pointer (some ⟨p, 0, none⟩)]) ∧ New w w')
      (first | exact ⟨hr1, cq1, HND.out⟩ | exact ⟨hr2, cq2, HNZ.out⟩ | assumption | go_keep)
      ((go_at_call 60; (with_reducible refine (HZ.out _ HND.out).mono ?_); rintro e wz ⟨rfl, hN⟩; have HNZ := Lib.hid (HND.out.trans hN); have hr2 := (HBD.out.later hN).range; have cq2 := (HQD.out.later hN).cell; have HCZ : Hid (Chg (fun k => lo ≤ k) w wz) := Lib.hid (HNZ.out.chg _); have HO1 := Lib.hid (HO.out.new (New.trans (Below.drew (new_refl _)) hN)); have HB1 := Lib.hid (HBD.out.later hN); clear hN))
    go_wp2_with (at_builtin; refine wpl_append (enc := e8) (ys := [n8 0]) rfl (.tmp 13) (.tmp 14) rfl Try.underlying23 info_u8 rfl (fun _ => rfl) rfl rfl (HO1.out.new (new_alloc _ _)) (rd_new1 _ _ _) (by simp; omega) (by simp; omega) (by have := HNZ.out.size; simp; omega) ?_)
    rw [show bs.length + 1 = (bs ++ [n8 0]).length by simp]
    intro A' c' w2 ho2 hg _
    have HO2 := Lib.hid ho2
    have hc := (HCZ.out.alloc (.cells #[.int .u8 0] 5)).grown hg (fun k hk => .inl (HO1.out.lt k hk).1)
    have HC2 := Lib.hid hc
    clear hc ho2 hg
    generalize (bs ++ [n8 0]) = bs2 at *
    go_wp2
    go_ret
    exact ⟨A', c', rfl, HC2.out, HO2.out⟩
  · rw [decide_eq_false htz] at heq
    have hst2 : st = tileB t := by rw [hst, stepB, if_neg htz]
    rw [← hst2] at HTL HT
    clear htz hst hst2
    have hdr : New (w.alloc (.cells (tcl t).toArray 29)) (w.alloc (.cells (tcl t).toArray 29)).drew := Below.drew (new_refl _)
    have HBD := Lib.hid (HBT.out.later hdr)
    have HQD := Lib.hid (HQ.out.later hdr)
    have hr1 := HBD.out.range
    have cq1 := HQD.out.cell
    have HND := Lib.hid (HNW.out.trans hdr)
    clear hdr HBT HQ hr0
    generalize tcl t = tl at *
    generalize tcl z = zl at *
    go_enter Try.func59, Try.ntmps59
    go_wp2_with fail
    go_region_held3 (fun w' => w'.rangeAt w.heap.size 0 tl ∧ w'.cell? ⟨q, 0, none⟩ = some (.func (.func 60) #[] #[.pointer (some ⟨p, 0, none⟩)]) ∧ New w w')
      (first | exact ⟨hr1, cq1, HND.out⟩ | exact ⟨hr2, cq2, HNZ.out⟩ | assumption | go_keep)
      ((go_at_call 60; (with_reducible refine (HZ.out _ HND.out).mono ?_); rintro e wz ⟨rfl, hN⟩; have HNZ := Lib.hid (HND.out.trans hN); have hr2 := (HBD.out.later hN).range; have cq2 := (HQD.out.later hN).cell; have HCZ : Hid (Chg (fun k => lo ≤ k) w wz) := Lib.hid (HNZ.out.chg _); have HO1 := Lib.hid (HO.out.new (New.trans (Below.drew (new_refl _)) hN)); have HB1 := Lib.hid (HBD.out.later hN); clear hN))
    go_wp2_with (first
      | (refine wpList_load_row rfl 29 (.tmp 6) rfl _ rfl _ tl.toArray (0, 0) _ HB1.out Try.underlying29 rfl HS.out ?_)
      | (go_at_call 10; ((with_reducible refine (HT.out _).mono ?_); rintro e w3 ⟨A3, c3, rfl, hN3, hO3⟩; have HN3 := Lib.hid hN3; have HR3 := Lib.hid (hO3.rd (Nat.le_refl _)); clear hN3 hO3))
      | (at_builtin; refine wpl_append (enc := e8) (ys := st) rfl (.tmp 16) (.tmp 18) rfl Try.underlying23 info_u8 rfl (fun _ => rfl) rfl rfl (HO1.out.new HN3.out) HR3.out (by have := HTL.out; omega) (by have := HTL.out; omega) (by have := HNZ.out.size; have := HN3.out.size; omega) ?_))
    rw [show bs.length + st.length = (bs ++ st).length by simp]
    intro A' c' w2 ho2 hg _
    have HO2 := Lib.hid ho2
    have hc := (HCZ.out.new HN3.out).grown hg (fun k hk => .inl (HO1.out.lt k hk).1)
    have HC2 := Lib.hid hc
    clear hc ho2 hg
    generalize (bs ++ st) = bs2 at *
    go_wp2
    go_ret
    exact ⟨A', c', rfl, HC2.out, HO2.out⟩
end Go.Proofs.Ythihffglkheleaa
