/- Contracts of runs: canvases as bytes. -/
import Derived.Test.YthihffglkheleaaTh
set_option linter.unusedVariables false
set_option linter.unusedSimpArgs false
namespace Go.Proofs.Ythihffglkheleaa
open Go.RowKit

theorem take_snoc {α : Type} (xs : List α) (k : Nat) (hk : k < xs.length) : xs.take (k + 1) = xs.take k ++ [xs[k]] := by
  rw [List.take_add_one, List.getElem?_eq_getElem hk]
  rfl
def ZA (done : List (List Col)) : List Col := done.getLastD blankT
def ZP (old done : List (List Col)) : List Col := old.getD done.length blankT
theorem ZA_take (ts : List (List Col)) (k : Nat) (hk : k ≤ ts.length) : ZA (ts.take k) = zA ts k := by
  unfold ZA zA
  by_cases h : k = 0
  · subst h; simp
  · obtain ⟨j, rfl⟩ : ∃ j, k = j + 1 := ⟨k - 1, by omega⟩
    have hj : j < ts.length := by omega
    rw [if_neg h, take_snoc ts j hj, List.getLastD_concat]
    simp [List.getD, hj]
theorem ZP_take (old ts : List (List Col)) (k : Nat) (hk : k ≤ ts.length) : ZP old (ts.take k) = zP old k := by
  unfold ZP zP
  rw [List.length_take, Nat.min_eq_left hk]
theorem ZA_length {d : List (List Col)} (h : ∀ t ∈ d, t.length = 64) : (ZA d).length = 64 := by
  rw [← List.take_length (l := d), ZA_take d d.length (Nat.le_refl _)]
  exact zA_length h _
theorem ZP_length {old : List (List Col)} (h : ∀ t ∈ old, t.length = 64) (d : List (List Col)) : (ZP old d).length = 64 := zP_length h _
theorem stepB_le (t z : List Col) (ht : t.length = 64) : (stepB t z).length ≤ 320 := by
  unfold stepB
  split
  · simp
  · have := tileB_le t; omega

set_option maxRecDepth 100000 in
set_option maxHeartbeats 4000000 in
theorem rn_toldA (lo lo' hi' : Nat) (A : Option Addr) (c : Nat) (ts : List (List Col)) (B : Option Addr) (d : Nat) (hd : List U8) (q p : Nat) (Z : List (List Col) → List Col) (w : World) (hv : RdT lo' hi' w (.slice A ts.length c) ts) (hh : hi' ≤ lo)
    (hb : Own e8 5 lo w (.slice B hd.length d) hd) (hlo : lo ≤ w.heap.size) (hq : Box w q 78 (.func (.func 60) #[] #[.pointer (some ⟨p, 0, none⟩)])) (hql : q < lo)
    (hZ : ∀ W k, k < ts.length → Chg (fun k => lo ≤ k) w W → Calls Try.prog 60 #[.int .i64 k, .pointer (some ⟨p, 0, none⟩)] W fun e w' => e = .returned (.agg (tcA (Z (ts.take k)))) ∧ New W w')
    (hZl : ∀ k, (Z (ts.take k)).length = 64) (hl : ts.length ≤ 1000) (hdl : hd.length ≤ 1000) :
    Calls Try.prog 58 #[.slice B hd.length d, .slice A ts.length c, .func (.func 59) #[] #[.pointer (some ⟨q, 0, none⟩)]] w (OutB lo (hd ++ bytesC Z [] ts) w) := by
  have hcl : ts.length ≤ c ∧ c ≤ 9223372036854775807 := by
    obtain ⟨A', c', e', h1, h2⟩ := hv.form
    injection e' with _ _ e3
    subst e3
    exact ⟨h1, h2⟩
  obtain ⟨h1, h2⟩ := hcl
  have HV := Lib.hid hv
  have HB := Lib.hid hb
  have HQ := Lib.hid hq
  have HZ := Lib.hid hZ
  have HZL := Lib.hid hZl
  have HDL := Lib.hid hdl
  obtain ⟨tot, htot⟩ : ∃ tot, tot = hd ++ bytesC Z [] ts := ⟨_, rfl⟩
  rw [← htot]
  have HTOT := Lib.hid htot
  have HLO := Lib.hid hlo
  have HH := Lib.hid hh
  have HQL := Lib.hid hql
  clear hv hb hq hZ hZl hdl htot hlo hh hql
  go_enter Try.func58, Try.ntmps58
  go_wp2_with fail
  go_loopw [0, 11] (fun a i wr => ∃ (k : Nat) (bs : List U8) (A1 : Option Addr) (c1 : Nat), k ≤ ts.length ∧ a = .slice A1 bs.length c1 ∧ i = .int .i64 k ∧ Hid (Own e8 5 lo wr (.slice A1 bs.length c1) bs) ∧ Hid (Chg (fun k => lo ≤ k) w wr) ∧ Hid (bs ++ bytesC Z (ts.take k) (ts.drop k) = tot) ∧ Hid (bs.length ≤ 1000 + 320 * k)) (fun _ i _ => ts.length - (intOf i).toNat)
  case atStart => exact ⟨0, hd, B, d, by omega, rfl, rfl, HB, Lib.hid (Chg.refl _ _), Lib.hid (by rw [HTOT.out]; simp), Lib.hid (by have := HDL.out; omega)⟩
  case round =>
    obtain ⟨k, bs, A1, c1, hk, rfl, rfl, HO, HC, HS, HL⟩ := hrel
    by_cases hlt : k < ts.length
    · obtain ⟨b, off, e, _, _, hc, ht⟩ := (HV.out.chg HC.out (fun k _ hk => by have := HH.out; omega)).at_ k hlt
      subst e
      have hs := HS.out
      rw [List.drop_eq_getElem_cons hlt, bytesC, ← take_snoc ts k hlt, ← List.append_assoc] at hs
      have hstl := stepB_le ts[k] (Z (ts.take k)) ht
      have hb3 := BoxA.new wr 29 (tcA ts[k])
      have hsz2 := Lib.hid (size_tc ht)
      have HCC := Lib.hid hc
      have HTT := Lib.hid ht
      have hnA := new_alloc wr (.cells (tcA ts[k]) 29)
      have hs1 := Lib.hid (rn_bytes1A lo A1 c1 bs k ts[k] (Z (ts.take k)) q p _ (HO.out.new hnA) ht (HZL.out k) ((HQ.out.chg HC.out (by have := HQL.out; omega)).later hnA) (by have := HL.out; omega) (by have := HLO.out; have := HC.out.size; have := hnA.size; omega) (fun W hW => HZ.out W k hlt (HC.out.trans ((hnA.chg _).trans (hW.chg _)))))
      have HS2 : Hid ((bs ++ stepB ts[k] (Z (ts.take k))) ++ bytesC Z (ts.take (k + 1)) (ts.drop (k + 1)) = tot) := Lib.hid hs
      have HL2 : Hid ((bs ++ stepB ts[k] (Z (ts.take k))).length ≤ 1000 + 320 * (k + 1)) := Lib.hid (by have := HL.out; rw [List.length_append]; omega)
      have HNA := Lib.hid hnA
      clear hs hc ht hnA hstl
      generalize bs ++ stepB ts[k] (Z (ts.take k)) = bs2 at *
      generalize ts[k] = t at *
      go_wp2_with (first
        | (refine wpl_load_tile rfl (.tmp 14) rfl _ _ rfl t HTT.out HCC.out ?_)
        | (refine wpl_alloc_tile rfl rfl ?_)
        | (refine wpl_store_tile rfl (.tmp 8) (.tmp 15) rfl _ rfl t HTT.out rfl (BoxA.new _ _ _) (by simp [tcA_size, blankT_length]) ?_; rw [World.setRow_alloc_new])
        | (refine wpList_load_row rfl 29 (.tmp 8) rfl _ rfl _ (tcA t) (0, 0) _ hb3 Try.underlying29 rfl hsz2.out ?_)
        | (go_at_call 59; ((with_reducible refine hs1.out.mono ?_); rintro e w1 ⟨A2, c2, rfl, hC1, hO1⟩; have HC1 := Lib.hid ((HC.out.new HNA.out).trans hC1); have HO1 := Lib.hid hO1; clear hC1 hO1)))
      go_roundw
      case rel => exact ⟨k + 1, bs2, A2, c2, by omega, rfl, by go_num, HO1, HC1, HS2, HL2⟩
      case measure => simp [intOf]; omega
    · have hs := HS.out
      have hke : k = ts.length := by omega
      rw [hke, List.drop_length, bytesC, List.append_nil] at hs
      subst hs
      clear hke
      go_wp2
      go_ret
      exact ⟨A1, c1, rfl, HC.out, HO.out⟩
set_option maxRecDepth 100000 in
set_option maxHeartbeats 4000000 in
theorem rn_toldP (lo lo' hi' : Nat) (A : Option Addr) (c : Nat) (ts : List (List Col)) (B : Option Addr) (d : Nat) (hd : List U8) (q p : Nat) (Z : List (List Col) → List Col) (w : World) (hv : RdT lo' hi' w (.slice A ts.length c) ts) (hh : hi' ≤ lo)
    (hb : Own e8 5 lo w (.slice B hd.length d) hd) (hlo : lo ≤ w.heap.size) (hq : Box w q 78 (.func (.func 50) #[] #[.pointer (some ⟨p, 0, none⟩)])) (hql : q < lo)
    (hZ : ∀ W k, k < ts.length → Chg (fun k => lo ≤ k) w W → Calls Try.prog 50 #[.int .i64 k, .pointer (some ⟨p, 0, none⟩)] W fun e w' => e = .returned (.agg (tcA (Z (ts.take k)))) ∧ New W w')
    (hZl : ∀ k, (Z (ts.take k)).length = 64) (hl : ts.length ≤ 1000) (hdl : hd.length ≤ 1000) :
    Calls Try.prog 58 #[.slice B hd.length d, .slice A ts.length c, .func (.func 59) #[] #[.pointer (some ⟨q, 0, none⟩)]] w (OutB lo (hd ++ bytesC Z [] ts) w) := by
  have hcl : ts.length ≤ c ∧ c ≤ 9223372036854775807 := by
    obtain ⟨A', c', e', h1, h2⟩ := hv.form
    injection e' with _ _ e3
    subst e3
    exact ⟨h1, h2⟩
  obtain ⟨h1, h2⟩ := hcl
  have HV := Lib.hid hv
  have HB := Lib.hid hb
  have HQ := Lib.hid hq
  have HZ := Lib.hid hZ
  have HZL := Lib.hid hZl
  have HDL := Lib.hid hdl
  obtain ⟨tot, htot⟩ : ∃ tot, tot = hd ++ bytesC Z [] ts := ⟨_, rfl⟩
  rw [← htot]
  have HTOT := Lib.hid htot
  have HLO := Lib.hid hlo
  have HH := Lib.hid hh
  have HQL := Lib.hid hql
  clear hv hb hq hZ hZl hdl htot hlo hh hql
  go_enter Try.func58, Try.ntmps58
  go_wp2_with fail
  go_loopw [0, 11] (fun a i wr => ∃ (k : Nat) (bs : List U8) (A1 : Option Addr) (c1 : Nat), k ≤ ts.length ∧ a = .slice A1 bs.length c1 ∧ i = .int .i64 k ∧ Hid (Own e8 5 lo wr (.slice A1 bs.length c1) bs) ∧ Hid (Chg (fun k => lo ≤ k) w wr) ∧ Hid (bs ++ bytesC Z (ts.take k) (ts.drop k) = tot) ∧ Hid (bs.length ≤ 1000 + 320 * k)) (fun _ i _ => ts.length - (intOf i).toNat)
  case atStart => exact ⟨0, hd, B, d, by omega, rfl, rfl, HB, Lib.hid (Chg.refl _ _), Lib.hid (by rw [HTOT.out]; simp), Lib.hid (by have := HDL.out; omega)⟩
  case round =>
    obtain ⟨k, bs, A1, c1, hk, rfl, rfl, HO, HC, HS, HL⟩ := hrel
    by_cases hlt : k < ts.length
    · obtain ⟨b, off, e, _, _, hc, ht⟩ := (HV.out.chg HC.out (fun k _ hk => by have := HH.out; omega)).at_ k hlt
      subst e
      have hs := HS.out
      rw [List.drop_eq_getElem_cons hlt, bytesC, ← take_snoc ts k hlt, ← List.append_assoc] at hs
      have hstl := stepB_le ts[k] (Z (ts.take k)) ht
      have hb3 := BoxA.new wr 29 (tcA ts[k])
      have hsz2 := Lib.hid (size_tc ht)
      have HCC := Lib.hid hc
      have HTT := Lib.hid ht
      have hnA := new_alloc wr (.cells (tcA ts[k]) 29)
      have hs1 := Lib.hid (rn_bytes1P lo A1 c1 bs k ts[k] (Z (ts.take k)) q p _ (HO.out.new hnA) ht (HZL.out k) ((HQ.out.chg HC.out (by have := HQL.out; omega)).later hnA) (by have := HL.out; omega) (by have := HLO.out; have := HC.out.size; have := hnA.size; omega) (fun W hW => HZ.out W k hlt (HC.out.trans ((hnA.chg _).trans (hW.chg _)))))
      have HS2 : Hid ((bs ++ stepB ts[k] (Z (ts.take k))) ++ bytesC Z (ts.take (k + 1)) (ts.drop (k + 1)) = tot) := Lib.hid hs
      have HL2 : Hid ((bs ++ stepB ts[k] (Z (ts.take k))).length ≤ 1000 + 320 * (k + 1)) := Lib.hid (by have := HL.out; rw [List.length_append]; omega)
      have HNA := Lib.hid hnA
      clear hs hc ht hnA hstl
      generalize bs ++ stepB ts[k] (Z (ts.take k)) = bs2 at *
      generalize ts[k] = t at *
      go_wp2_with (first
        | (refine wpl_load_tile rfl (.tmp 14) rfl _ _ rfl t HTT.out HCC.out ?_)
        | (refine wpl_alloc_tile rfl rfl ?_)
        | (refine wpl_store_tile rfl (.tmp 8) (.tmp 15) rfl _ rfl t HTT.out rfl (BoxA.new _ _ _) (by simp [tcA_size, blankT_length]) ?_; rw [World.setRow_alloc_new])
        | (refine wpList_load_row rfl 29 (.tmp 8) rfl _ rfl _ (tcA t) (0, 0) _ hb3 Try.underlying29 rfl hsz2.out ?_)
        | (go_at_call 59; ((with_reducible refine hs1.out.mono ?_); rintro e w1 ⟨A2, c2, rfl, hC1, hO1⟩; have HC1 := Lib.hid ((HC.out.new HNA.out).trans hC1); have HO1 := Lib.hid hO1; clear hC1 hO1)))
      go_roundw
      case rel => exact ⟨k + 1, bs2, A2, c2, by omega, rfl, by go_num, HO1, HC1, HS2, HL2⟩
      case measure => simp [intOf]; omega
    · have hs := HS.out
      have hke : k = ts.length := by omega
      rw [hke, List.drop_length, bytesC, List.append_nil] at hs
      subst hs
      clear hke
      go_wp2
      go_ret
      exact ⟨A1, c1, rfl, HC.out, HO.out⟩

theorem Own.new2 (lo : Nat) (w : World) (a b : U8) (hlo : lo ≤ w.heap.size) : Own e8 5 lo (w.alloc (.cells #[e8 a, e8 b] 5)) (.slice (some ⟨w.heap.size, 0, none⟩) 2 2) [a, b] :=
  ⟨rfl, .inr ⟨w.heap.size, 2, #[e8 a, e8 b], rfl, hlo, heap_alloc_new w _, by simp, by simp [maxLen], by simp, by simp⟩⟩
def u8 (n : Int) : U8 := ⟨n % 256, by omega⟩
/-- the bytes of a canvas -/
def canvB (wd hg : Int) (Z : List (List Col) → List Col) (ts : List (List Col)) : List U8 := [u8 wd, u8 hg] ++ bytesC Z [] ts

set_option maxRecDepth 100000 in
set_option maxHeartbeats 4000000 in
theorem rn_bytesA (lo' hi' : Nat) (wd hg : Int) (A : Option Addr) (c : Nat) (ts : List (List Col)) (p : Nat) (Z : List (List Col) → List Col) (w : World) (hv : RdT lo' hi' w (.slice A ts.length c) ts) (hh : hi' ≤ w.heap.size)
    (hZ : ∀ W k, k < ts.length → New w W → Calls Try.prog 60 #[.int .i64 k, .pointer (some ⟨p, 0, none⟩)] W fun e w' => e = .returned (.agg (tcA (Z (ts.take k)))) ∧ New W w')
    (hZl : ∀ k, (Z (ts.take k)).length = 64) (hl : ts.length ≤ 1000) :
    Calls Try.prog 41 #[.agg #[.int .i64 wd, .int .i64 hg, .slice A ts.length c], .func (.func 60) #[] #[.pointer (some ⟨p, 0, none⟩)]] w (OutS (canvB wd hg Z ts) w) := by
  obtain ⟨w2, hw2⟩ : ∃ w2, w2 = (w.alloc (.cells #[.int .i64 wd, .int .i64 hg, .slice A ts.length c] 43)).alloc (.cells #[.func (.func 60) #[] #[.pointer (some ⟨p, 0, none⟩)]] 78) := ⟨_, rfl⟩
  have hn2 : New w w2 := by rw [hw2]; exact (new_alloc w _).alloc _
  have hs2 : w2.heap.size = w.heap.size + 2 := by rw [hw2]; simp
  have hc : BoxA w2 w.heap.size 43 #[.int .i64 wd, .int .i64 hg, .slice A ts.length c] := by rw [hw2]; exact (BoxA.new w _ _).later (new_alloc _ _)
  have hq : Box w2 (w.heap.size + 1) 78 (.func (.func 60) #[] #[.pointer (some ⟨p, 0, none⟩)]) := by
    have := Box.new (w.alloc (.cells #[.int .i64 wd, .int .i64 hg, .slice A ts.length c] 43)) 78 (.func (.func 60) #[] #[.pointer (some ⟨p, 0, none⟩)])
    rw [World.size_alloc] at this
    rw [hw2]; exact this
  have hn3 := new_alloc w2 (.cells #[e8 (u8 wd), e8 (u8 hg)] 5)
  have hto := rn_toldA w2.heap.size lo' hi' A c ts _ 2 [u8 wd, u8 hg] (w.heap.size + 1) p Z _ ((hv.new hn2).new hn3) (by omega) (Own.new2 w2.heap.size w2 (u8 wd) (u8 hg) (Nat.le_refl _)) hn3.size (hq.later hn3) (by omega)
    (fun W k hk hW => hZ W k hk ((hn2.trans hn3).trans' hW (fun k hk => by omega))) hZl hl (by simp)
  have k0 := hc.cell 0
  have k1 := hc.cell 1
  have k2 := (hc.later hn3).cell 2
  simp only [List.getElem?_toArray, List.getElem?_cons_zero, List.getElem?_cons_succ] at k0 k1 k2
  have HN := Lib.hid (hn2.trans hn3)
  have HS := Lib.hid hs2
  have HN2 := Lib.hid hn2
  have hmf := hmf
  rw [show canvB wd hg Z ts = [u8 wd, u8 hg] ++ bytesC Z [] ts from rfl]
  generalize [u8 wd, u8 hg] ++ bytesC Z [] ts = tot at *
  have hx : wd % 256 = (u8 wd).1 := rfl
  have hy : hg % 256 = (u8 hg).1 := rfl
  generalize u8 wd = x at *
  generalize u8 hg = y at *
  simp only [List.length_cons, List.length_nil, Nat.zero_add, Nat.reduceAdd] at hto
  have hs3 : w2.heap.size = w.heap.size + 1 + 1 := by omega
  rw [hs3] at hto
  have HTO := Lib.hid hto
  clear hto hc hq hn3 hn2 hZ hZl hv hh
  go_enter Try.func41, Try.ntmps41
  go_wp2_with fail
  rw [← hw2]
  clear hw2 hs3
  refine HTO.out.mono ?_
  rintro e w4 ⟨A4, c4, rfl, hC, hO⟩
  have HC := Lib.hid hC
  have HO := Lib.hid hO
  clear hC hO HTO hs2 hx hy
  go_wp2
  go_ret
  refine ⟨A4, c4, rfl, HN.out.trans' HC.out (fun k hk => by have := HS.out; omega), HO.out.mono (by have := HS.out; omega)⟩
set_option maxRecDepth 100000 in
set_option maxHeartbeats 4000000 in
theorem rn_bytesP (lo' hi' : Nat) (wd hg : Int) (A : Option Addr) (c : Nat) (ts : List (List Col)) (p : Nat) (Z : List (List Col) → List Col) (w : World) (hv : RdT lo' hi' w (.slice A ts.length c) ts) (hh : hi' ≤ w.heap.size)
    (hZ : ∀ W k, k < ts.length → New w W → Calls Try.prog 50 #[.int .i64 k, .pointer (some ⟨p, 0, none⟩)] W fun e w' => e = .returned (.agg (tcA (Z (ts.take k)))) ∧ New W w')
    (hZl : ∀ k, (Z (ts.take k)).length = 64) (hl : ts.length ≤ 1000) :
    Calls Try.prog 41 #[.agg #[.int .i64 wd, .int .i64 hg, .slice A ts.length c], .func (.func 50) #[] #[.pointer (some ⟨p, 0, none⟩)]] w (OutS (canvB wd hg Z ts) w) := by
  obtain ⟨w2, hw2⟩ : ∃ w2, w2 = (w.alloc (.cells #[.int .i64 wd, .int .i64 hg, .slice A ts.length c] 43)).alloc (.cells #[.func (.func 50) #[] #[.pointer (some ⟨p, 0, none⟩)]] 78) := ⟨_, rfl⟩
  have hn2 : New w w2 := by rw [hw2]; exact (new_alloc w _).alloc _
  have hs2 : w2.heap.size = w.heap.size + 2 := by rw [hw2]; simp
  have hc : BoxA w2 w.heap.size 43 #[.int .i64 wd, .int .i64 hg, .slice A ts.length c] := by rw [hw2]; exact (BoxA.new w _ _).later (new_alloc _ _)
  have hq : Box w2 (w.heap.size + 1) 78 (.func (.func 50) #[] #[.pointer (some ⟨p, 0, none⟩)]) := by
    have := Box.new (w.alloc (.cells #[.int .i64 wd, .int .i64 hg, .slice A ts.length c] 43)) 78 (.func (.func 50) #[] #[.pointer (some ⟨p, 0, none⟩)])
    rw [World.size_alloc] at this
    rw [hw2]; exact this
  have hn3 := new_alloc w2 (.cells #[e8 (u8 wd), e8 (u8 hg)] 5)
  have hto := rn_toldP w2.heap.size lo' hi' A c ts _ 2 [u8 wd, u8 hg] (w.heap.size + 1) p Z _ ((hv.new hn2).new hn3) (by omega) (Own.new2 w2.heap.size w2 (u8 wd) (u8 hg) (Nat.le_refl _)) hn3.size (hq.later hn3) (by omega)
    (fun W k hk hW => hZ W k hk ((hn2.trans hn3).trans' hW (fun k hk => by omega))) hZl hl (by simp)
  have k0 := hc.cell 0
  have k1 := hc.cell 1
  have k2 := (hc.later hn3).cell 2
  simp only [List.getElem?_toArray, List.getElem?_cons_zero, List.getElem?_cons_succ] at k0 k1 k2
  have HN := Lib.hid (hn2.trans hn3)
  have HS := Lib.hid hs2
  have HN2 := Lib.hid hn2
  have hmf := hmf
  rw [show canvB wd hg Z ts = [u8 wd, u8 hg] ++ bytesC Z [] ts from rfl]
  generalize [u8 wd, u8 hg] ++ bytesC Z [] ts = tot at *
  have hx : wd % 256 = (u8 wd).1 := rfl
  have hy : hg % 256 = (u8 hg).1 := rfl
  generalize u8 wd = x at *
  generalize u8 hg = y at *
  simp only [List.length_cons, List.length_nil, Nat.zero_add, Nat.reduceAdd] at hto
  have hs3 : w2.heap.size = w.heap.size + 1 + 1 := by omega
  rw [hs3] at hto
  have HTO := Lib.hid hto
  clear hto hc hq hn3 hn2 hZ hZl hv hh
  go_enter Try.func41, Try.ntmps41
  go_wp2_with fail
  rw [← hw2]
  clear hw2 hs3
  refine HTO.out.mono ?_
  rintro e w4 ⟨A4, c4, rfl, hC, hO⟩
  have HC := Lib.hid hC
  have HO := Lib.hid hO
  clear hC hO HTO hs2 hx hy
  go_wp2
  go_ret
  refine ⟨A4, c4, rfl, HN.out.trans' HC.out (fun k hk => by have := HS.out; omega), HO.out.mono (by have := HS.out; omega)⟩
end Go.Proofs.Ythihffglkheleaa
