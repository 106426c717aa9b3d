/- Contract of wakes of the statements on runs. -/
import Derived.Test.YthihffglkheleaaTv
import Derived.Test.YthihffglkheleaaSe
set_option linter.unusedVariables false
set_option linter.unusedSimpArgs false
namespace Go.Proofs.Ythihffglkheleaa
open Go.RowKit

theorem New.drewN {w w' : World} (h : New w w') (n : Nat) : New w (w'.drewN n) := ⟨h.os, h.tape, h.output, h.size, h.block⟩
def b8 (l : List Nat) : List U8 := l.map fun (n : Nat) => ⟨(n : Int) % 256, by omega⟩
theorem rd_build8 (w : World) (xs : List U8) (hl : xs.length ≤ 9223372036854775807) : Rd e8 w.heap.size (w.heap.size + 1) (w.alloc (.cells (xs.map e8).toArray 5)) (.slice (some ⟨w.heap.size, 0, none⟩) xs.length xs.length) xs := by
  refine ⟨_, _, rfl, Nat.le_refl _, hl, .inr ⟨w.heap.size, 0, rfl, Nat.le_refl _, by omega, by simp, fun i hi => ?_⟩⟩
  have := heap_alloc_new w (.cells (xs.map e8).toArray 5)
  simp only [World.cell?, this]
  simp [hi]
theorem rd_build8At (w : World) (b : Nat) (hb : w.heap.size = b) (xs : List U8) (hl : xs.length ≤ 9223372036854775807) : Rd e8 b (b + 1) (w.alloc (.cells (xs.map e8).toArray 5)) (.slice (some ⟨b, 0, none⟩) xs.length xs.length) xs := by
  subst hb; exact rd_build8 w xs hl
def spotC : Col := (⟨255, by omega⟩, ⟨0, by omega⟩, ⟨0, by omega⟩, ⟨255, by omega⟩)
def spotT : List Col := blankT.set 0 spotC
theorem spotT_length : spotT.length = 64 := by simp [spotT, blankT_length]
theorem wk_canv1 : canvI 2 1 [blankT, blankT] = (b8 [2, 1, 0, 0], 0) := by kernel_rfl
theorem wk_canv2 : canvI 1 1 [spotT] = (b8 [1, 1, 1, 255, 0, 0, 255, 63, 0, 0, 0, 0], 0) := by kernel_rfl
theorem wk_patch : patchI 2 1 [blankT, blankT] 2 1 [blankT, blankT] = (b8 [2, 1, 0, 0], 0) := by kernel_rfl
theorem wk_tile : tileB blankT = b8 [64, 0, 0, 0, 0] := by kernel_rfl
theorem wk_size : sizeT [blankT, spotT] = 15 := by kernel_rfl
theorem wk_readT : readT (b8 [32, 0, 0, 0, 0, 32, 0, 0, 0, 0]) = none := by
  rw [readT, show b8 [32, 0, 0, 0, 0, 32, 0, 0, 0, 0] = n8 32 :: n8 0 :: n8 0 :: n8 0 :: n8 0 :: n8 32 :: n8 0 :: n8 0 :: n8 0 :: n8 0 :: [] from rfl, rdI_cons _ _ _ _ _ _ _ _ (by omega), if_pos (by decide), rdI_cons _ _ _ _ _ _ _ _ (by decide), if_neg (by decide)]
  rfl
theorem wk_readC : readCv (b8 [1, 1, 0, 9]) = some (1, 1, [blankT], 3) := by kernel_rfl
theorem wk_readN : readCv (b8 [1, 1, 64, 0, 0, 0, 0]) = none := by
  have h : rdI (n8 64 :: n8 0 :: n8 0 :: n8 0 :: n8 0 :: []) 64 none = some (blankT, []) := by
    rw [rdI_cons _ _ _ _ _ _ _ _ (by omega), if_pos (by decide), show 64 - (n8 64).1.toNat = 0 by decide, rdI_zero]
    rfl
  have h2 : rdC ZA 1 [] (n8 64 :: n8 0 :: n8 0 :: n8 0 :: n8 0 :: []) = none := by
    rw [rdC_tile ZA 0 [] _ _ (by decide) _ _ h, if_pos (show blankT = ZA [] from rfl)]
  have : readCv (b8 [1, 1, 64, 0, 0, 0, 0]) = (rdC ZA 1 [] (n8 64 :: n8 0 :: n8 0 :: n8 0 :: n8 0 :: [])).map fun q => ((1 : Int), (1 : Int), q.1, 7 - q.2.length) := rfl
  rw [this, h2]
  rfl

section
variable {ops : Array Oper} {rest : List Oper} {o : Oper} {a : Act} {Q : Exit → Act → World → Prop} {w : World}
theorem wpl_store_tileG (hgd : o.guard = none) (x y : Operand) (ho : o.op = .store 29 x y) (b : Nat) (hx : a.eval x = .pointer (some ⟨b, 0, none⟩)) (t : List Col) (ht : t.length = 64) (hy : a.eval y = .agg (tcA t)) {u : List Col} (hu : u.length = 64) (hb : BoxA w b 29 (tcA u))
    (h : ∀ w', BoxA w' b 29 (tcA t) → Chg (fun k => k = b) w w' → wpList Try.prog ops Q rest (a.put o.dst undef) w') : wpList Try.prog ops Q (o :: rest) a w :=
  wpl_store_tile hgd x y ho b hx t ht hy hb (by rw [tcA_size, hu]) (h _ (hb.setRow _) (chg_setRow _ _ _ _ rfl))
theorem wpl_store_col (hgd : o.guard = none) (x y : Operand) (ho : o.op = .store 27 x y) (b i : Nat) (hx : a.eval x = .pointer (some ⟨b, i * 4, none⟩)) (c : Col) (hy : a.eval y = vC c) {t : List Col} (hi : i < t.length) (hb : BoxA w b 29 (tcA t))
    (h : ∀ w', BoxA w' b 29 (tcA (t.set i c)) → Chg (fun k => k = b) w w' → wpList Try.prog ops Q rest (a.put o.dst undef) w') : wpList Try.prog ops Q (o :: rest) a w := by
  have hth : w.there b (i * 4) 4 := fun j hj => by
    obtain ⟨c0, c1, c2, c3⟩ := hb.col i hi
    refine ⟨?_, hb.free _⟩
    match j, hj with
    | 0, _ => rw [Nat.add_zero, c0]; rfl
    | 1, _ => rw [c1]; rfl
    | 2, _ => rw [c2]; rfl
    | 3, _ => rw [c3]; rfl
  refine wpList_store_mid hgd 27 x y ho b (i * 4) #[e8 c.1, e8 c.2.1, e8 c.2.2.1, e8 c.2.2.2] hx hy hth (by kernel_rfl) (by simp [Value.oneCell']) (h _ (hb.setCol i hi c) (chg_set4 _ _ _ _ _ _ _ _ (.inl rfl)))
end
theorem bs_tiles (t u : List Col) (ht : t.length = 64) (hu : u.length = 64) : ∀ W, (Instr.buildSlice 22 2 #[(0, .agg (tcl t).toArray), (1, .agg (tcl u).toArray)]).run Try.prog W = .ok (.slice (some ⟨W.heap.size, 0, none⟩) 2 2) (W.alloc (.cells (tcl t ++ tcl u).toArray 29)) :=
  buildSlice2_run (K := 256) Try.underlying22 zero_tile (by omega) (by omega) (tcl t) (tcl u) (by rw [tcl_length, ht]) (by rw [tcl_length, hu]) _ _ rfl rfl
theorem rdT_cells {w : World} {b : Nat} (ts : List (List Col)) (h : BoxA w b 29 (ts.flatMap tcl).toArray) (ht : ∀ t ∈ ts, t.length = 64) (hl : ts.length ≤ 1000) : RdT b (b + 1) w (.slice (some ⟨b, 0, none⟩) ts.length ts.length) ts := by
  have hc : ∀ t ∈ ts, (tcl t).length = 256 := fun t h => by rw [tcl_length, ht t h]
  have hn : (ts.flatMap tcl).length = ts.length * 256 := by
    clear h ht hl
    induction ts with
    | nil => rfl
    | cons t ts ih =>
      rw [List.flatMap_cons, List.length_append, ih (fun u hu => hc u (by simp [hu])), hc t (by simp), List.length_cons]
      omega
  refine ⟨⟨_, _, rfl, Nat.le_refl _, by omega, .inr ⟨b, 0, rfl, Nat.le_refl _, by omega, h.lt, fun i hi j hj => ?_⟩⟩, ht⟩
  rw [h.cell, Nat.zero_add]
  have := flatMap_get 256 tcl ts hc i hi j hj
  simpa using this

set_option maxRecDepth 100000 in
set_option maxHeartbeats 4000000 in
theorem law_wakes (w : World) : Calls Try.prog 8 #[] w fun e w' => e = .returned (.bool true) ∧ New w w' := by
  have HSZ : Hid ((Try.prog.info? 29).map (·.size) = some (tcl blankT).length) := Lib.hid (by rw [tcl_length, blankT_length]; exact size_tile)
  have HSZ1 : Hid ((Try.prog.info? 29).map (·.size) = some (tcl spotT).length) := Lib.hid (by rw [tcl_length, spotT_length]; exact size_tile)
  obtain ⟨b0, hb0⟩ : ∃ b0, w.heap.size = b0 := ⟨_, rfl⟩
  have HW0 := Lib.hid hb0
  clear hb0
  go_enter Try.func8, Try.ntmps8
  go_wp2_with (first
    | (refine wpl_store_tileG rfl (.tmp 1) (.tmp 19) rfl _ rfl blankT blankT_length rfl blankT_length (BoxA.new _ _ _) ?_; rintro W1 hb hc; rw [HW0.out] at hb hc ⊢; have HB0 := Lib.hid hb; have HN := Lib.hid ((new_alloc w _).trans' hc (fun k hk => by have := HW0.out; omega)); have HSW := Lib.hid hb.lt; clear hb hc)
    | (refine wpl_store_tileG rfl (.tmp 2) (.tmp 20) rfl _ rfl blankT blankT_length rfl blankT_length (BoxA.new _ _ _) ?_; rintro W2 hb hc; have HB0 := Lib.hid ((HB0.out.later (new_alloc _ _)).chg hc (by have := HSW.out; omega)); have HN := Lib.hid ((HN.out.alloc _).trans' hc (fun k hk => by have := HN.out.size; omega)); obtain ⟨b1, hb1⟩ : ∃ b1, W1.heap.size = b1 := ⟨_, rfl⟩; rw [hb1] at hb ⊢; have HSW2 := Lib.hid (show b0 < b1 by rw [← hb1]; exact HSW.out); have HWB := Lib.hid (show w.heap.size ≤ b1 by have := HW0.out; have := HSW.out; omega); have HB1 := Lib.hid hb; clear hb hc hb1)
    | (refine wpl_store_col rfl (.tmp 22) (.tmp 21) rfl _ 0 rfl spotC rfl (by simp [blankT_length]) HB1.out ?_; rintro W3 hb hc; have HB0 := Lib.hid (HB0.out.chg hc (by have := HSW2.out; omega)); have HB1 := Lib.hid (show BoxA W3 b1 29 (tcA spotT) from hb); have HN := Lib.hid (HN.out.trans' hc (fun k hk => by have := HWB.out; omega)); clear hb hc)
    | (refine wplG_buildSlice [(0, .tmp 23), (1, .tmp 24)] [(0, .agg (tcl blankT).toArray), (1, .agg (tcl blankT).toArray)] rfl rfl rfl (bs_tiles blankT blankT blankT_length blankT_length _) ?_)
    | (refine wpl_build_tile rfl rfl ?_)
    | (refine wpl_alloc_tile rfl rfl ?_)
    | (refine wplG_load (by rfl) (.tmp 1) rfl _ _ rfl (tcl blankT) _ HB0.out.range Try.underlying29 rfl HSZ.out ?_)
    | (refine wplG_load (by rfl) (.tmp 2) rfl _ _ rfl (tcl spotT) _ HB1.out.range Try.underlying29 rfl HSZ1.out ?_)
    )
  -- the first canvas
  obtain ⟨bt, hbt⟩ : ∃ bt, W3.heap.size = bt := ⟨_, rfl⟩
  have hE1 : RdT bt (bt + 1) (W3.alloc (.cells (tcl blankT ++ tcl blankT).toArray 29)) (.slice (some ⟨bt, 0, none⟩) 2 2) [blankT, blankT] := by
    have hb := BoxA.new W3 29 (tcl blankT ++ tcl blankT).toArray
    rw [hbt] at hb
    exact rdT_cells [blankT, blankT] (by rw [show [blankT, blankT].flatMap tcl = tcl blankT ++ tcl blankT by simp [List.flatMap_cons]]; exact hb) (by simp [blankT_length]) (by simp)
  have hE2 : BoxA ((W3.alloc (.cells (tcl blankT ++ tcl blankT).toArray 29)).alloc (.cells #[.int .i64 2, .int .i64 1, .slice (some ⟨bt, 0, none⟩) 2 2] 43)) (bt + 1) 43 #[.int .i64 2, .int .i64 1, .slice (some ⟨bt, 0, none⟩) 2 2] := by
    have hb := BoxA.new (W3.alloc (.cells (tcl blankT ++ tcl blankT).toArray 29)) 43 #[.int .i64 2, .int .i64 1, .slice (some ⟨bt, 0, none⟩) 2 2]
    rw [World.size_alloc, hbt] at hb
    exact hb
  have hnE : New W3 ((W3.alloc (.cells (tcl blankT ++ tcl blankT).toArray 29)).alloc (.cells #[.int .i64 2, .int .i64 1, .slice (some ⟨bt, 0, none⟩) 2 2] 43)) := (new_alloc _ _).alloc _
  replace hE1 := hE1.new (new_alloc _ (.cells #[.int .i64 2, .int .i64 1, .slice (some ⟨bt, 0, none⟩) 2 2] 43))
  rw [hbt]
  generalize (W3.alloc (.cells (tcl blankT ++ tcl blankT).toArray 29)).alloc (.cells #[.int .i64 2, .int .i64 1, .slice (some ⟨bt, 0, none⟩) 2 2] 43) = W4 at *
  have HC := Lib.hid hE1
  have HT3 := Lib.hid hE2
  have HBT := Lib.hid (show bt + 1 ≤ W4.heap.size from Nat.le_of_lt hE2.lt)
  have HB0 := Lib.hid (HB0.out.later hnE)
  have HB1 := Lib.hid (HB1.out.later hnE)
  have HN := Lib.hid (HN.out.trans hnE)
  clear hE1 hE2 hnE hbt
  obtain ⟨bs1, hbs1⟩ : ∃ bs, bs = b8 [2, 1, 0, 0] := ⟨_, rfl⟩
  have hcv := rn_Canvas bt (bt + 1) 2 1 (some ⟨bt, 0, none⟩) 2 [blankT, blankT] W4 HC.out HBT.out
  rw [wk_canv1, ← hbs1] at hcv
  have HBS1 := Lib.hid hbs1
  clear hbs1
  refine hcv.mono ?_
  clear hcv
  rintro e w5 ⟨A5, c5, rfl, hN, hO⟩
  dsimp only at hO ⊢
  have HR1 := Lib.hid (hO.rd (Nat.le_refl _))
  have HC := Lib.hid (HC.out.new hN)
  have HT3 := Lib.hid (HT3.out.later hN)
  have HB0 := Lib.hid (HB0.out.later hN)
  have HB1 := Lib.hid (HB1.out.later hN)
  have HN := Lib.hid (HN.out.trans hN)
  clear hN hO HBT HWB HSW HSW2
  -- the second canvas
  go_wp2_with (first
    | (refine wplG_buildSlice [(0, .tmp 33)] [(0, .agg (tcl spotT).toArray)] rfl rfl rfl (build_tile1 spotT spotT_length _) ?_)
    | (refine wpl_build_tile rfl rfl ?_)
    | (refine wpl_alloc_tile rfl rfl ?_)
    | (refine wplG_load (by rfl) (.tmp 1) rfl _ _ rfl (tcl blankT) _ HB0.out.range Try.underlying29 rfl HSZ.out ?_)
    | (refine wplG_load (by rfl) (.tmp 2) rfl _ _ rfl (tcl spotT) _ HB1.out.range Try.underlying29 rfl HSZ1.out ?_)
    )
  have hrd : RdT w5.heap.size (w5.heap.size + 1) (w5.alloc (.cells (tcl spotT).toArray 29)) (.slice (some ⟨w5.heap.size, 0, none⟩) 1 1) [spotT] :=
    rdT_cells [spotT] (by rw [show [spotT].flatMap tcl = tcl spotT by simp [List.flatMap_cons]]; exact BoxA.new w5 29 (tcl spotT).toArray) (by simp [spotT_length]) (by simp)
  obtain ⟨bs2, hbs2⟩ : ∃ bs, bs = b8 [1, 1, 1, 255, 0, 0, 255, 63, 0, 0, 0, 0] := ⟨_, rfl⟩
  have hcv := rn_Canvas w5.heap.size (w5.heap.size + 1) 1 1 (some ⟨w5.heap.size, 0, none⟩) 1 [spotT] _ hrd (by simp)
  rw [wk_canv2, ← hbs2] at hcv
  have HBS2 := Lib.hid hbs2
  refine hcv.mono ?_
  clear hcv hrd hbs2
  rintro e w6 ⟨A6, c6, rfl, hN0, hO⟩
  dsimp only at hO ⊢
  have hN := (new_alloc w5 (.cells (tcl spotT).toArray 29)).trans hN0
  have HR2 := Lib.hid (hO.rd (Nat.le_refl _))
  have HR1 := Lib.hid (HR1.out.new hN)
  have HC := Lib.hid (HC.out.new hN)
  have HT3 := Lib.hid (HT3.out.later hN)
  have HB0 := Lib.hid (HB0.out.later hN)
  have HB1 := Lib.hid (HB1.out.later hN)
  have HN := Lib.hid (HN.out.trans hN)
  clear hN hN0 hO
  -- bytes that are no tile's
  go_wp2_with fail
  refine (rn_ReadTile _ _ _ _ (b8 [32, 0, 0, 0, 0, 32, 0, 0, 0, 0]) _ (rd_build8 w6 _ (by decide)) (by simp) (by decide)).mono ?_
  rw [wk_readT]
  rintro e w7 ⟨hN0, rfl⟩
  have hN := (new_alloc w6 _).trans hN0
  have HR1 := Lib.hid (HR1.out.new hN)
  have HR2 := Lib.hid (HR2.out.new hN)
  have HC := Lib.hid (HC.out.new hN)
  have HT3 := Lib.hid (HT3.out.later hN)
  have HB0 := Lib.hid (HB0.out.later hN)
  have HB1 := Lib.hid (HB1.out.later hN)
  have HN := Lib.hid (HN.out.trans hN)
  clear hN hN0
  dsimp only
  go_wp2_with (first
    | (refine wpl_store_tileG rfl (.tmp 8) (.tmp 42) rfl _ rfl blankT blankT_length rfl blankT_length (BoxA.new _ _ _) ?_; rintro w8 hb hc; have hN := (new_refl w7).trans' ((new_alloc w7 _).chg _ |>.trans hc) (fun k hk => by omega); have HR1 := Lib.hid (HR1.out.new hN); have HR2 := Lib.hid (HR2.out.new hN); have HC := Lib.hid (HC.out.new hN); have HT3 := Lib.hid (HT3.out.later hN); have HB0 := Lib.hid (HB0.out.later hN); have HB1 := Lib.hid (HB1.out.later hN); have HN := Lib.hid (HN.out.trans hN); clear hN hb hc; obtain ⟨q8, hq8⟩ : ∃ q, w7.heap.size = q := ⟨_, rfl⟩; rw [hq8]; clear hq8)
    | (refine wpl_build_tile rfl rfl ?_)
    | (refine wpl_alloc_tile rfl rfl ?_)
    | (refine wplG_load (by rfl) (.tmp 1) rfl _ _ rfl (tcl blankT) _ HB0.out.range Try.underlying29 rfl HSZ.out ?_)
    | (refine wplG_load (by rfl) (.tmp 2) rfl _ _ rfl (tcl spotT) _ HB1.out.range Try.underlying29 rfl HSZ1.out ?_)
    )
  -- the bytes of a canvas, and of none
  refine (rn_ReadCanvas _ _ _ _ (b8 [1, 1, 0, 9]) _ (rd_build8 w8 _ (by decide)) (by simp) (by decide)).mono ?_
  rw [wk_readC]
  rintro e w9 ⟨hN0, ⟨wd, hg, l, n, A, c, h1, rfl, hO⟩ | ⟨h1, _⟩⟩
  rotate_left
  · cases h1
  injection h1 with h1
  injection h1 with e1 h1
  injection h1 with e2 h1
  injection h1 with e3 e4
  subst e1 e2 e3 e4
  have hN := (new_alloc w8 _).trans hN0
  have HR1 := Lib.hid (HR1.out.new hN)
  have HR2 := Lib.hid (HR2.out.new hN)
  have HC := Lib.hid (HC.out.new hN)
  have HT3 := Lib.hid (HT3.out.later hN)
  have HB0 := Lib.hid (HB0.out.later hN)
  have HB1 := Lib.hid (HB1.out.later hN)
  have HN := Lib.hid (HN.out.trans hN)
  clear hN hN0 hO
  go_wp2_with fail
  have hN := new_alloc w9 (.cells #[.int .i64 1, .int .i64 1, .slice A 1 c] 43)
  have HR1 := Lib.hid (HR1.out.new hN)
  have HR2 := Lib.hid (HR2.out.new hN)
  have HC := Lib.hid (HC.out.new hN)
  have HT3 := Lib.hid (HT3.out.later hN)
  have HB0 := Lib.hid (HB0.out.later hN)
  have HB1 := Lib.hid (HB1.out.later hN)
  have HN := Lib.hid (HN.out.trans hN)
  clear hN
  refine (rn_ReadCanvas _ _ _ _ (b8 [1, 1, 64, 0, 0, 0, 0]) _ (rd_build8At _ (w9.heap.size + 1) (World.size_alloc _ _) _ (by decide)) (by simp) (by decide)).mono ?_
  rw [wk_readN]
  rintro e w10 ⟨hN0, ⟨wd, hg, l, n, A', c', h1, _⟩ | ⟨_, rfl⟩⟩
  · cases h1
  have hN := (new_alloc (w9.alloc (.cells #[.int .i64 1, .int .i64 1, .slice A 1 c] 43)) _).trans hN0
  have HR1 := Lib.hid (HR1.out.new hN)
  have HR2 := Lib.hid (HR2.out.new hN)
  have HC := Lib.hid (HC.out.new hN)
  have HT3 := Lib.hid (HT3.out.later hN)
  have HB0 := Lib.hid (HB0.out.later hN)
  have HB1 := Lib.hid (HB1.out.later hN)
  have HN := Lib.hid (HN.out.trans hN)
  clear hN hN0
  have hN := new_alloc w10 (.cells #[.int .i64 0, .int .i64 0, .slice none 0 0] 43)
  have HR1 := Lib.hid (HR1.out.new hN)
  have HR2 := Lib.hid (HR2.out.new hN)
  have HC := Lib.hid (HC.out.new hN)
  have HT3 := Lib.hid (HT3.out.later hN)
  have HB0 := Lib.hid (HB0.out.later hN)
  have HB1 := Lib.hid (HB1.out.later hN)
  have HN := Lib.hid (HN.out.trans hN)
  clear hN
  obtain ⟨k0, k1, k2, -⟩ := HT3.out.of3
  go_wp2_with fail
  -- a patch
  obtain ⟨bs3, hbs3⟩ : ∃ bs, bs = b8 [2, 1, 0, 0] := ⟨_, rfl⟩
  have hcv := rn_Patch bt (bt + 1) bt (bt + 1) 2 1 (some ⟨bt, 0, none⟩) 2 [blankT, blankT] 2 1 (some ⟨bt, 0, none⟩) 2 [blankT, blankT] _ HC.out HC.out (by have := HT3.out.lt; omega)
  rw [wk_patch, ← hbs3] at hcv
  have HBS3 := Lib.hid hbs3
  refine hcv.mono ?_
  clear hcv hbs3 k0 k1 k2
  rintro e w11 ⟨A11, c11, rfl, hN, hO⟩
  dsimp only at hO ⊢
  have HR3 := Lib.hid (hO.rd (Nat.le_refl _))
  have HR1 := Lib.hid (HR1.out.new hN)
  have HR2 := Lib.hid (HR2.out.new hN)
  have HB0 := Lib.hid (HB0.out.later hN)
  have HB1 := Lib.hid (HB1.out.later hN)
  have HN := Lib.hid (HN.out.trans hN)
  clear hN hO HC HT3
  -- the last line
  go_wp2_with (first
    | (refine wpl_build_tile rfl rfl ?_)
    | (refine wpl_alloc_tile rfl rfl ?_)
    | (refine wplG_load (by rfl) (.tmp 1) rfl _ _ rfl (tcl blankT) _ HB0.out.range Try.underlying29 rfl HSZ.out ?_)
    | (refine wplG_load (by rfl) (.tmp 2) rfl _ _ rfl (tcl spotT) _ HB1.out.range Try.underlying29 rfl HSZ1.out ?_)
    )
  refine (rn_Tile blankT _ blankT_length).mono ?_
  obtain ⟨bs4, hbs4⟩ : ∃ bs, bs = b8 [64, 0, 0, 0, 0] := ⟨_, rfl⟩
  rw [wk_tile, ← hbs4]
  have HBS4 := Lib.hid hbs4
  clear hbs4
  rintro e w12 ⟨A12, c12, rfl, hN, hO⟩
  have HR4 := Lib.hid (hO.rd (Nat.le_refl _))
  have HR1 := Lib.hid (HR1.out.new hN)
  have HR2 := Lib.hid (HR2.out.new hN)
  have HR3 := Lib.hid (HR3.out.new hN)
  have HB0 := Lib.hid (HB0.out.later hN)
  have HB1 := Lib.hid (HB1.out.later hN)
  have HN := Lib.hid (HN.out.trans hN)
  clear hN hO
  go_wp2_with fail
  have hN := new_alloc w12 (.cells ((b8 [64, 0, 0, 0, 0]).map e8).toArray 5)
  refine (oc_eq8 _ _ _ _ _ _ bs4 (b8 [64, 0, 0, 0, 0]) _ (HR4.out.new hN) (rd_build8 w12 _ (by decide))).mono ?_
  rw [decide_eq_true HBS4.out]
  rintro e w13 ⟨rfl, nd, hd⟩
  have hN : New w12 w13 := by rw [hd]; exact New.drewN hN _
  have HR1 := Lib.hid (HR1.out.new hN)
  have HR2 := Lib.hid (HR2.out.new hN)
  have HR3 := Lib.hid (HR3.out.new hN)
  have HB0 := Lib.hid (HB0.out.later hN)
  have HB1 := Lib.hid (HB1.out.later hN)
  have HN := Lib.hid (HN.out.trans hN)
  clear hN hd HR4 HBS4
  go_wp2_with fail
  have hN := new_alloc w13 (.cells ((b8 [2, 1, 0, 0]).map e8).toArray 5)
  refine (oc_eq8 _ _ _ _ _ _ bs1 (b8 [2, 1, 0, 0]) _ (HR1.out.new hN) (rd_build8 w13 _ (by decide))).mono ?_
  rw [decide_eq_true HBS1.out]
  rintro e w14 ⟨rfl, nd, hd⟩
  have hN : New w13 w14 := by rw [hd]; exact New.drewN hN _
  have HR2 := Lib.hid (HR2.out.new hN)
  have HR3 := Lib.hid (HR3.out.new hN)
  have HB0 := Lib.hid (HB0.out.later hN)
  have HB1 := Lib.hid (HB1.out.later hN)
  have HN := Lib.hid (HN.out.trans hN)
  clear hN hd HR1 HBS1
  go_wp2_with fail
  have hN := new_alloc w14 (.cells ((b8 [1, 1, 1, 255, 0, 0, 255, 63, 0, 0, 0, 0]).map e8).toArray 5)
  refine (oc_eq8 _ _ _ _ _ _ bs2 (b8 [1, 1, 1, 255, 0, 0, 255, 63, 0, 0, 0, 0]) _ (HR2.out.new hN) (rd_build8 w14 _ (by decide))).mono ?_
  rw [decide_eq_true HBS2.out]
  rintro e w15 ⟨rfl, nd, hd⟩
  have hN : New w14 w15 := by rw [hd]; exact New.drewN hN _
  have HR3 := Lib.hid (HR3.out.new hN)
  have HB0 := Lib.hid (HB0.out.later hN)
  have HB1 := Lib.hid (HB1.out.later hN)
  have HN := Lib.hid (HN.out.trans hN)
  clear hN hd HR2 HBS2
  go_wp2_with fail
  have hN := new_alloc w15 (.cells ((b8 [2, 1, 0, 0]).map e8).toArray 5)
  refine (oc_eq8 _ _ _ _ _ _ bs3 (b8 [2, 1, 0, 0]) _ (HR3.out.new hN) (rd_build8 w15 _ (by decide))).mono ?_
  rw [decide_eq_true HBS3.out]
  rintro e w16 ⟨rfl, nd, hd⟩
  have hN : New w15 w16 := by rw [hd]; exact New.drewN hN _
  have HB0 := Lib.hid (HB0.out.later hN)
  have HB1 := Lib.hid (HB1.out.later hN)
  have HN := Lib.hid (HN.out.trans hN)
  clear hN hd HR3 HBS3
  go_wp2_with (first
    | (refine wplG_buildSlice [(0, .tmp 111), (1, .tmp 112)] [(0, .agg (tcl blankT).toArray), (1, .agg (tcl spotT).toArray)] rfl rfl rfl (bs_tiles blankT spotT blankT_length spotT_length _) ?_)
    | (refine wpl_build_tile rfl rfl ?_)
    | (refine wpl_alloc_tile rfl rfl ?_)
    | (refine wplG_load (by rfl) (.tmp 1) rfl _ _ rfl (tcl blankT) _ HB0.out.range Try.underlying29 rfl HSZ.out ?_)
    | (refine wplG_load (by rfl) (.tmp 2) rfl _ _ rfl (tcl spotT) _ HB1.out.range Try.underlying29 rfl HSZ1.out ?_)
    )
  have hrd : RdT w16.heap.size (w16.heap.size + 1) (w16.alloc (.cells (tcl blankT ++ tcl spotT).toArray 29)) (.slice (some ⟨w16.heap.size, 0, none⟩) 2 2) [blankT, spotT] :=
    rdT_cells [blankT, spotT] (by rw [show [blankT, spotT].flatMap tcl = tcl blankT ++ tcl spotT by simp [List.flatMap_cons]]; exact BoxA.new w16 29 (tcl blankT ++ tcl spotT).toArray) (by simp [blankT_length, spotT_length]) (by simp)
  refine (rn_Size _ _ _ _ _ hrd (by simp)).mono ?_
  rw [wk_size]
  rintro e w17 ⟨rfl, hN⟩
  have HN := Lib.hid (HN.out.trans ((new_alloc w16 _).trans hN))
  clear hN hrd
  go_wp2
  go_ret
  exact ⟨rfl, HN.out⟩
end Go.Proofs.Ythihffglkheleaa
