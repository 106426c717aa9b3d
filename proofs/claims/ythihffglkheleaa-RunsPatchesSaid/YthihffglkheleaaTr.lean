/- Contract of the reader of runs: tiles. -/
import Derived.Test.YthihffglkheleaaTq
import Derived.Test.YthihffglkheleaaBh
set_option linter.unusedVariables false
set_option linter.unusedSimpArgs false
namespace Go.Proofs.Ythihffglkheleaa
open Go.RowKit

/-- What 'tiles' comes to. -/
def TilesR (Z : Nat × Nat) (g : Nat) (wd hg : Int) (bs : List U8) (p n : Nat) (Zf : List (List Col) → List Col) (w : World) (e : Ending) (w' : World) : Prop :=
  Chg (fun k => k = g) w w' ∧ ((∃ (p2 c : Nat) (A : Option Addr) (l : List (List Col)), rdC Zf n [] (bs.drop p) = some (l, bs.drop p2) ∧ l.length = n ∧ IsRd Z w' g wd hg (.slice A l.length c) bs p2 ∧ OwnT w.heap.size w' (.slice A l.length c) l ∧ e = .returned (.tuple #[])) ∨
    (rdC Zf n [] (bs.drop p) = none ∧ e = boomW))
theorem rdC_end (Zf : List (List Col) → List Col) (k : Nat) (done : List (List Col)) : rdC Zf (k + 1) done [] = none := rfl
theorem rdC_zero (Zf : List (List Col) → List Col) (k : Nat) (done : List (List Col)) (x : U8) (rest : List U8) (hx : x.1 = 0) : rdC Zf (k + 1) done (x :: rest) = rdC Zf k (done ++ [Zf done]) rest := by
  simp only [rdC]; rw [if_pos hx]
theorem rdC_none (Zf : List (List Col) → List Col) (k : Nat) (done : List (List Col)) (x : U8) (rest : List U8) (hx : ¬ x.1 = 0) (h : rdI (x :: rest) 64 none = none) : rdC Zf (k + 1) done (x :: rest) = none := by
  simp only [rdC]; rw [if_neg hx, h]
theorem rdC_tile (Zf : List (List Col) → List Col) (k : Nat) (done : List (List Col)) (x : U8) (rest : List U8) (hx : ¬ x.1 = 0) (t : List Col) (r : List U8) (h : rdI (x :: rest) 64 none = some (t, r)) : rdC Zf (k + 1) done (x :: rest) = if t = Zf done then none else rdC Zf k (done ++ [t]) r := by
  simp only [rdC]; rw [if_neg hx, h]
theorem own_apart {lo g : Nat} {w : World} {A : Option Addr} {n c : Nat} {ts : List (List Col)} (h : OwnT lo w (.slice A n c) ts) (hg : g < lo) : ∀ k, (Value.slice A n c).ownBlock = some k → k ≠ g := fun k hk => by
  have := (h.lt k hk).1; omega



set_option maxRecDepth 100000 in
set_option maxHeartbeats 4000000 in
theorem rn_tilesA (Z : Nat × Nat) (g q : Nat) (wd hg : Int) (bs : List U8) (p n : Nat) (Zf : List (List Col) → List Col) (w : World) (hr : IsRd Z w g wd hg (.slice none 0 0) bs p) (hl : bs.length ≤ 1099511627776) (hn : wd * hg = n) (hn16 : n ≤ 16)
    (hZ : ∀ (W : World) (done : List (List Col)) (A : Option Addr) (c p' : Nat), Chg (fun k => k = g) w W → IsRd Z W g wd hg (.slice A done.length c) bs p' → OwnT w.heap.size W (.slice A done.length c) done → done.length < n →
      Calls Try.prog 47 #[.int .i64 done.length, .pointer (some ⟨q, 0, none⟩)] W fun e w' => e = .returned (.agg (tcA (Zf done))) ∧ New W w')
    (hZl : ∀ done : List (List Col), (∀ t ∈ done, t.length = 64) → (Zf done).length = 64) :
    Calls Try.prog 46 #[.pointer (some ⟨g, 0, none⟩), .func (.func 47) #[] #[.pointer (some ⟨q, 0, none⟩)]] w (TilesR Z g wd hg bs p n Zf w) := by
  have hdr0 : New w w.drew := Below.drew (new_refl _)
  obtain ⟨d0, d1, _⟩ := (hr.new hdr0).cells
  have hwr : IntKind.i64.wrap (wd * hg) = (n : Int) := by rw [hn, IntKind.wrap_i64]; omega
  have HR0 := Lib.hid hr
  have HG := Lib.hid hr.lt
  have HZG := Lib.hid hr.1
  have HL := Lib.hid hl
  have HN := Lib.hid hn
  have HZ := Lib.hid hZ
  have HZL := Lib.hid hZl
  clear hr hl hn hZ hZl hdr0
  go_enter Try.func46, Try.ntmps46
  go_wp2_with fail
  go_region_held3 (fun w' => w'.cell? ⟨g, 0, none⟩ = some (.int .i64 wd) ∧ w'.cell? ⟨g, 1, none⟩ = some (.int .i64 hg))
    (first | exact ⟨d0, d1⟩ | assumption | go_keep)
    (fail)
  clear d0 d1
  go_wp2_with fail
  go_loopw [17] (fun i wr => ∃ (k p' c : Nat) (A : Option Addr) (done : List (List Col)), k ≤ n ∧ i = .int .i64 k ∧ Hid (done.length = k) ∧ Hid (rdC Zf n [] (bs.drop p) = rdC Zf (n - k) done (bs.drop p')) ∧ Hid (Chg (fun k => k = g) w wr) ∧ Hid (IsRd Z wr g wd hg (.slice A done.length c) bs p') ∧ Hid (OwnT w.heap.size wr (.slice A done.length c) done)) (fun i _ => n - (intOf i).toNat)
  case atStart => exact ⟨0, p, 0, none, [], by omega, rfl, rfl, Lib.hid rfl, Lib.hid ((new_refl w).drew.chg _), Lib.hid (HR0.out.new (new_refl w).drew), Lib.hid (OwnC.nil _ _ _ _ _)⟩
  case round =>
    obtain ⟨k, p', c, A, done, hk, rfl, HDL, HR, HC, HI, HO⟩ := hrel
    by_cases hlt : k < n
    · have HNX := Lib.hid (rn_next Z g wd hg (.slice A done.length c) bs p' 1 wr HI.out HL.out (by omega))
      by_cases hp : p' < bs.length
      · obtain ⟨x, hx⟩ : ∃ x, x = bs[p'] := ⟨_, rfl⟩
        have HD : Hid (bs.drop p' = x :: bs.drop (p' + 1)) := Lib.hid (by rw [hx]; exact List.drop_eq_getElem_cons hp)
        have HP := Lib.hid hp
        clear hp hx
        go_wp2_with fail
        refine HNX.out.mono ?_
        rintro e w1 ⟨hC1, ⟨_, ⟨A1, rfl, hR1⟩, hI1⟩ | ⟨hbad, _⟩⟩
        rotate_left
        · exact absurd HP.out (by omega)
        rw [HD.out, show (x :: bs.drop (p' + 1)).take 1 = [x] from rfl] at hR1
        obtain ⟨b, off, c1, e1, _, _, _, _, _, hcell⟩ := hR1.at_ 0 (by simp)
        injection e1 with e1 e2 e3
        subst e1 e3
        replace hcell := hcell 0 (by simp)
        rw [List.getElem_cons_zero, Nat.add_zero] at hcell
        have HC1 := Lib.hid (HC.out.trans hC1)
        have HI1 := Lib.hid hI1
        have HO1 := Lib.hid (HO.out.chg hC1 (fun k hk => own_apart HO.out HG.out k hk))
        clear HNX hC1 hI1 hR1 e2
        by_cases hx0 : x.1 = 0
        · have hxe : (x.1 == 0) = true := by simp [hx0]
          -- the byte 0
          have hz1 := fun W (hn : New w1 W) => HZ.out W done A c (p' + 1) (HC1.out.trans (hn.chg _)) (HI1.out.new hn) (HO1.out.new hn) (by have := HDL.out; omega)
          rw [HDL.out] at hz1
          have HZ1 := Lib.hid hz1
          have HZ64 := Lib.hid (HZL.out done (OwnT.len HO1.out))
          have hdr : New w1 w1.drew := Below.drew (new_refl _)
          obtain ⟨-, -, c2, -, f2⟩ := (HI1.out.new hdr).cells
          replace f2 := f2 2
          have hbs := build_tile1 (Zf done) HZ64.out
          have HR2 : Hid (rdC Zf n [] (bs.drop p) = rdC Zf (n - (k + 1)) (done ++ [Zf done]) (bs.drop (p' + 1))) := Lib.hid (by rw [HR.out, HD.out, show n - k = (n - (k + 1)) + 1 by omega, rdC_zero _ _ _ _ _ hx0])
          have HLO := Lib.hid (HC1.out.size)
          clear hz1 hx0
          have htc : tcA (Zf done) = (tcl (Zf done)).toArray := rfl
          rw [htc] at HZ1
          clear htc
          generalize hzz : Zf done = z at *
          have HZZ := Lib.hid hzz
          clear hzz
          go_wp2_with fail
          refine wp_region_L (fun w' => w'.cell? ⟨g, 2, none⟩ = some (.slice A done.length c) ∧ w'.frozen? ⟨g, 2, none⟩ = false) [10] (by kernel_rfl) ?_
          have HS2 := And.intro c2 f2
          refine wpAnyL_move (i := 0) (v := ?_) rfl rfl (by kernel_rfl) (fun _ _ _ h => h) (by rfl) (fun W => ?_) (by assumption) ?_
          rotate_left
          · go_simp
            (try with_reducible rfl)
          rotate_right
          simp only [Act.put, List.setIfInBounds_toArray, List.set_cons_zero, List.set_cons_succ]
          refine wpAnyL_move (i := 1) (v := ?_) rfl rfl (by kernel_rfl) (fun _ _ _ h => h) (by rfl) (fun W => ?_) (by assumption) ?_
          rotate_left
          · go_simp
            (try with_reducible rfl)
          rotate_right
          simp only [Act.put, List.setIfInBounds_toArray, List.set_cons_zero, List.set_cons_succ]
          refine wpAnyL_move (i := 2) (v := ?_) rfl rfl (by kernel_rfl) (fun _ _ _ h => h) (by rfl) (fun W => ?_) (by assumption) ?_
          rotate_left
          · go_simp
            (try with_reducible rfl)
          rotate_right
          simp only [Act.put, List.setIfInBounds_toArray, List.set_cons_zero, List.set_cons_succ]
          refine wpAnyL_move (i := 3) (v := ?_) rfl rfl (by kernel_rfl) (fun _ _ _ h => h) (by rfl) (fun W => ?_) (by assumption) ?_
          rotate_left
          · go_simp
            (try with_reducible rfl)
          rotate_right
          simp only [Act.put, List.setIfInBounds_toArray, List.set_cons_zero, List.set_cons_succ]
          refine wpAnyL_move (i := 4) (v := ?_) rfl rfl (by kernel_rfl) (fun _ _ _ h => h) (by rfl) (fun W => ?_) (by assumption) ?_
          rotate_left
          · go_simp
            (try with_reducible rfl)
          rotate_right
          simp only [Act.put, List.setIfInBounds_toArray, List.set_cons_zero, List.set_cons_succ]
          refine wpAnyL_take (i := 5) (v := ?_) rfl rfl (by kernel_rfl) (fun _ _ _ h => h) (by rfl) (fun W hW => ?_) (by assumption) ?_
          rotate_left
          · (try dsimp only at hW)
            go_simp
            (try with_reducible rfl)
          rotate_right
          simp only [Act.put, List.setIfInBounds_toArray, List.set_cons_zero, List.set_cons_succ]
          refine wpAnyL_move (i := 6) (v := ?_) rfl rfl (by kernel_rfl) (fun _ _ _ h => h) (by rfl) (fun W => ?_) (by assumption) ?_
          rotate_left
          · go_simp
            (try with_reducible rfl)
          rotate_right
          simp only [Act.put, List.setIfInBounds_toArray, List.set_cons_zero, List.set_cons_succ]
          refine wpAnyL_move (i := 7) (v := ?_) rfl rfl (by kernel_rfl) (fun _ _ _ h => h) (by rfl) (fun W => ?_) (by assumption) ?_
          rotate_left
          · go_simp
            (try with_reducible rfl)
          rotate_right
          simp only [Act.put, List.setIfInBounds_toArray, List.set_cons_zero, List.set_cons_succ]
          refine wpAnyL_one (i := 8) rfl rfl (by kernel_rfl) (by rfl) (fun K hK => ?_)
          go_simp
          (with_reducible refine (HZ1.out _ (Below.drew (new_refl _))).mono ?_)
          rintro e wz ⟨rfl, hN⟩
          have HNZ := Lib.hid ((Below.drew (new_refl w1) : New w1 w1.drew).trans hN)
          obtain ⟨-, -, c3, -, f3⟩ := (HI1.out.new HNZ.out).cells
          have HNB := Lib.hid (New.alloc HNZ.out (.cells (tcl z).toArray 29))
          obtain ⟨-, -, c4, -, f4⟩ := (HI1.out.new HNB.out).cells
          have HO2 := Lib.hid (HO1.out.new HNZ.out)
          clear hN
          refine hK.out _ _ ⟨c3, f3 2⟩ ?_
          clear hK K
          (try simp only [Act.put, List.setIfInBounds_toArray, List.set_cons_zero, List.set_cons_succ])
          refine wpAnyL_one (i := 9) rfl rfl (by kernel_rfl) (by rfl) (fun K hK => ?_)
          refine wp_buildSlice1 (.tmp 33) rfl rfl (hbs _) ?_
          refine hK.out _ _ ⟨c4, f4 2⟩ ?_
          clear hK K c2 f2 c3 f3 c4 f4 HS2 hdr
          refine wpAnyL_tail 10 rfl rfl (by decide) (by kernel_rfl) ?_
          simp only [Act.put, List.setIfInBounds_toArray, List.set_cons_zero, List.set_cons_succ]
          refine wpl_appendC1 (enc := tcl) rfl (.tmp 30) (.tmp 34) rfl Try.underlying22 info_tile rfl (by omega) rfl rfl HO2.out z (by rw [tcl_length, HZ64.out]) (tcl_one z) (by have := HDL.out; omega) (by have := HDL.out; omega) (by have := HLO.out; have := HNZ.out.size; omega) ?_
          rintro A' c' w2 hO3 hg -
          have HC2 := Lib.hid ((HC1.out.new HNZ.out).grown hg (fun k hk => .inr ((HO2.out.lt k hk).1)))
          have HO3 := Lib.hid hO3
          have HI2 := Lib.hid ((HI1.out.new HNZ.out).chg (M := fun k => (Value.slice A done.length c).ownBlock = some k) ((Chg.refl _ _).grown hg (fun k hk => .inl hk)) (fun k hk h => by have := (HO2.out.lt k h).1; have := HG.out; have := HZG.out; omega))
          obtain ⟨-, -, c5, -, f5⟩ := HI2.out.cells
          have f6 := f5 2
          clear hO3 hg f5
          go_wp2_with fail
          all_goals
            have HI3 : Hid (IsRd Z (w2.setCell ⟨g, 2, none⟩ (.slice A' (done.length + 1) c')) g wd hg (.slice A' (done ++ [z]).length c') bs (p' + 1)) := Lib.hid (by rw [List.length_append]; exact HI2.out.setT _)
            have HC3 := Lib.hid (HC2.out.setCell (p := ⟨g, 2, none⟩) (.inl rfl) (.slice A' (done.length + 1) c'))
            have HO4 : Hid (OwnT w.heap.size (w2.setCell ⟨g, 2, none⟩ (.slice A' (done.length + 1) c')) (.slice A' (done ++ [z]).length c') (done ++ [z])) := Lib.hid (by rw [List.length_append]; exact HO3.out.chg ((Chg.refl (fun k => k = g) w2).setCell (p := ⟨g, 2, none⟩) (.inl rfl) _) (fun k hk => own_apart HO3.out HG.out k hk))
            go_wp2
            go_roundw
            case rel => exact ⟨k + 1, p' + 1, c', A', done ++ [z], by omega, by go_num, Lib.hid (by rw [List.length_append, HDL.out]; rfl), HR2, HC3, HI3, HO4⟩
            case measure => simp [intOf]; omega
        · have hxe : (x.1 == 0) = false := by simp [hx0]
          -- a tile
          have hI2 := HI1.out.setP p' (by have := HP.out; omega)
          have hc12 : Chg (fun k => k = g) w1 (w1.setCell ⟨g, 4, none⟩ (.int .i64 p')) := (Chg.refl (fun k => k = g) w1).setCell (p := ⟨g, 4, none⟩) (.inl rfl) _
          obtain ⟨-, -, -, c4, f4⟩ := HI1.out.cells
          replace f4 := f4 4
          have hwp : IntKind.i64.wrap (p' : Int) = (p' : Int) := by rw [IntKind.wrap_i64]; have := HP.out; have := HL.out; omega
          have HT := Lib.hid (rn_tile Z g wd hg (.slice A done.length c) bs p' _ hI2 HL.out)
          have HC2 := Lib.hid (HC1.out.trans hc12)
          have HO2 := Lib.hid (HO1.out.chg hc12 (fun k hk => own_apart HO1.out HG.out k hk))
          have HX0 := Lib.hid hx0
          clear hI2 hc12 hx0
          go_wp2_with fail
          refine HT.out.mono ?_
          rintro e w3 ⟨hC3, p2, hI3, ⟨t, h1, h2, h3, rfl⟩ | ⟨h1, rfl⟩⟩
          rotate_left
          · have hrn : rdC Zf n [] (bs.drop p) = none := by rw [HR.out, show n - k = (n - (k + 1)) + 1 by omega, HD.out]; exact rdC_none _ _ _ _ _ HX0.out (by rw [← HD.out]; exact h1)
            exact ⟨rfl, HC2.out.trans hC3, .inr ⟨hrn, rfl⟩⟩
          have hna := new_alloc w3 (.cells (tcA t) 29)
          have HC4 := Lib.hid ((HC2.out.trans hC3).new hna)
          have HI4 := Lib.hid (hI3.new hna)
          have HO4 := Lib.hid ((HO2.out.chg hC3 (fun k hk => own_apart HO2.out HG.out k hk)).new hna)
          have HB4 := Lib.hid (BoxA.new w3 29 (tcA t))
          have HLO := Lib.hid HC4.out.size
          have H3 := Lib.hid h3
          have hrs : rdC Zf n [] (bs.drop p) = if t = Zf done then none else rdC Zf (n - (k + 1)) (done ++ [t]) (bs.drop p2) := by
            rw [HR.out, show n - k = (n - (k + 1)) + 1 by omega, HD.out]
            exact rdC_tile _ _ _ _ _ HX0.out t _ (by rw [← HD.out]; exact h1)
          have HRS := Lib.hid hrs
          clear hC3 hI3 h1 h2 h3 hna hrs HT c4 f4 hwp
          go_wp2_with (first
            | (refine wpl_alloc_tile rfl rfl ?_)
            | (refine wpl_store_tile rfl (.tmp 5) (.tmp 47) rfl _ rfl t H3.out rfl (BoxA.new _ _ _) (by simp [tcA_size, blankT_length]) ?_; rw [World.setRow_alloc_new]))
          obtain ⟨w4, hw4⟩ : ∃ w4, w3.alloc (.cells (tcA t) 29) = w4 := ⟨_, rfl⟩
          rw [hw4] at HC4 HI4 HO4 HB4 HLO ⊢
          obtain ⟨b5, hb5⟩ : ∃ b5, w3.heap.size = b5 := ⟨_, rfl⟩
          rw [hb5] at HB4 ⊢
          clear hw4 hb5
          have hz1 := fun W (hn : New w4 W) => HZ.out W done A c p2 (HC4.out.trans (hn.chg _)) (HI4.out.new hn) (HO4.out.new hn) (by have := HDL.out; omega)
          rw [HDL.out] at hz1
          have HZ1 := Lib.hid hz1
          have HZ64 := Lib.hid (HZL.out done (OwnT.len HO4.out))
          have hdr : New w4 w4.drew := Below.drew (new_refl _)
          have hr0 : w4.drew.rangeAt b5 0 (tcl t) := (HB4.out.later hdr).range
          have hsz : (Try.prog.info? 29).map (·.size) = some (tcl t).length := by rw [tcl_length, H3.out]; exact size_tile
          have hne := run_neT t (Zf done) H3.out HZ64.out
          have htc : tcA (Zf done) = (tcl (Zf done)).toArray := rfl
          rw [htc] at HZ1 hne
          have htc : tcA t = (tcl t).toArray := rfl
          rw [htc] at hne HB4
          clear htc hz1
          obtain ⟨z, hzz⟩ : ∃ z, Zf done = z := ⟨_, rfl⟩
          rw [hzz] at HZ1 HZ64 hne HRS
          clear hzz
          refine wp_region_L (fun w' => w'.rangeAt b5 0 (tcl t)) [4] (by kernel_rfl) ?_
          refine wpAnyL_move (i := 1) (v := ?_) rfl rfl (by kernel_rfl) (fun _ _ _ h => h) (by rfl) (fun W => ?_) (by assumption) ?_
          rotate_left
          · go_simp
            (try with_reducible rfl)
          rotate_right
          simp only [Act.put, List.setIfInBounds_toArray, List.set_cons_zero, List.set_cons_succ]
          refine wpAnyL_move (i := 2) (v := ?_) rfl rfl (by kernel_rfl) (fun _ _ _ h => h) (by rfl) (fun W => ?_) (by assumption) ?_
          rotate_left
          · go_simp
            (try with_reducible rfl)
          rotate_right
          simp only [Act.put, List.setIfInBounds_toArray, List.set_cons_zero, List.set_cons_succ]
          refine wpAnyL_take (i := 0) rfl rfl (by kernel_rfl) (fun _ _ _ h => h) (by rfl) (fun W hW => exec_load_mid (.tmp 5) rfl _ _ rfl (tcl t) _ hW Try.underlying29 rfl hsz) (by assumption) ?_
          simp only [Act.put, List.setIfInBounds_toArray, List.set_cons_zero, List.set_cons_succ]
          refine wpAnyL_one (i := 3) rfl rfl (by kernel_rfl) (by rfl) (fun K hK => ?_)
          go_simp
          (with_reducible refine (HZ1.out _ hdr).mono ?_)
          rintro e w5 ⟨rfl, hN⟩
          have HNZ := Lib.hid (hdr.trans hN)
          refine hK.out _ _ ((HB4.out.later HNZ.out).range) ?_
          clear hK K hN hr0 hdr
          refine wpAnyL_tail 4 rfl rfl (by decide) (by kernel_rfl) ?_
          have HC5 := Lib.hid (HC4.out.new HNZ.out)
          have HI5 := Lib.hid (HI4.out.new HNZ.out)
          have HO5 := Lib.hid (HO4.out.new HNZ.out)
          have HB5 := Lib.hid (HB4.out.later HNZ.out)
          have HLO5 := Lib.hid (show w.heap.size ≤ w5.heap.size by have := HLO.out; have := HNZ.out.size; omega)
          by_cases htz : t = z
          · rw [show decide (t ≠ z) = false by simp [htz]] at hne
            have hrn : rdC Zf n [] (bs.drop p) = none := by rw [HRS.out, if_pos htz]
            have HRN := Lib.hid hrn
            clear htz hrn
            go_wp2_with (go_at_call 45; (with_reducible refine (rn_need_no _).mono ?_); rintro e w6 ⟨rfl, rfl⟩)
            exact ⟨rfl, HC5.out, .inr ⟨HRN.out, rfl⟩⟩
          rw [show decide (t ≠ z) = true by simp [htz]] at hne
          have HR2 : Hid (rdC Zf n [] (bs.drop p) = rdC Zf (n - (k + 1)) (done ++ [t]) (bs.drop p2)) := Lib.hid (by rw [HRS.out, if_neg htz])
          clear htz
          go_wp2_with (go_at_call 45; (with_reducible refine (rn_need_yes _).mono ?_); rintro e w6 ⟨rfl, rfl⟩)
          clear hne
          have hdr : New w5 w5.drew := Below.drew (new_refl _)
          obtain ⟨-, -, c2, -, f2⟩ := (HI5.out.new hdr).cells
          have hr0 : w5.drew.rangeAt b5 0 (tcl t) := (HB5.out.later hdr).range
          have HNB := Lib.hid (New.alloc hdr (.cells (tcl t).toArray 29))
          obtain ⟨-, -, c4, -, -⟩ := (HI5.out.new HNB.out).cells
          have HO6 := Lib.hid (HO5.out.new hdr)
          refine wp_region_L (fun w' => w'.cell? ⟨g, 2, none⟩ = some (.slice A done.length c)) [8] (by kernel_rfl) ?_
          refine wpAnyL_move (i := 0) (v := ?_) rfl rfl (by kernel_rfl) (fun _ _ _ h => h) (by rfl) (fun W => ?_) (by assumption) ?_
          rotate_left
          · go_simp
            (try with_reducible rfl)
          rotate_right
          simp only [Act.put, List.setIfInBounds_toArray, List.set_cons_zero, List.set_cons_succ]
          refine wpAnyL_move (i := 1) (v := ?_) rfl rfl (by kernel_rfl) (fun _ _ _ h => h) (by rfl) (fun W => ?_) (by assumption) ?_
          rotate_left
          · go_simp
            (try with_reducible rfl)
          rotate_right
          simp only [Act.put, List.setIfInBounds_toArray, List.set_cons_zero, List.set_cons_succ]
          refine wpAnyL_move (i := 2) (v := ?_) rfl rfl (by kernel_rfl) (fun _ _ _ h => h) (by rfl) (fun W => ?_) (by assumption) ?_
          rotate_left
          · go_simp
            (try with_reducible rfl)
          rotate_right
          simp only [Act.put, List.setIfInBounds_toArray, List.set_cons_zero, List.set_cons_succ]
          refine wpAnyL_move (i := 3) (v := ?_) rfl rfl (by kernel_rfl) (fun _ _ _ h => h) (by rfl) (fun W => ?_) (by assumption) ?_
          rotate_left
          · go_simp
            (try with_reducible rfl)
          rotate_right
          simp only [Act.put, List.setIfInBounds_toArray, List.set_cons_zero, List.set_cons_succ]
          refine wpAnyL_move (i := 4) (v := ?_) rfl rfl (by kernel_rfl) (fun _ _ _ h => h) (by rfl) (fun W => ?_) (by assumption) ?_
          rotate_left
          · go_simp
            (try with_reducible rfl)
          rotate_right
          simp only [Act.put, List.setIfInBounds_toArray, List.set_cons_zero, List.set_cons_succ]
          refine wpAnyL_take (i := 5) (v := ?_) rfl rfl (by kernel_rfl) (fun _ _ _ h => h) (by rfl) (fun W hW => ?_) (by assumption) ?_
          rotate_left
          · (try dsimp only at hW)
            go_simp
            (try with_reducible rfl)
          rotate_right
          simp only [Act.put, List.setIfInBounds_toArray, List.set_cons_zero, List.set_cons_succ]
          refine wpAnyL_one (i := 6) rfl rfl (by kernel_rfl) (by rfl) (fun K hK => ?_)
          refine wp_load_mid 29 (.tmp 5) rfl b5 0 rfl (tcl t) _ hr0 Try.underlying29 rfl hsz ?_
          refine hK.out _ _ c2 ?_
          clear hK K
          (try simp only [Act.put, List.setIfInBounds_toArray, List.set_cons_zero, List.set_cons_succ])
          refine wpAnyL_one (i := 7) rfl rfl (by kernel_rfl) (by rfl) (fun K hK => ?_)
          refine wp_buildSlice1 (.tmp 60) rfl rfl (build_tile1 t H3.out _) ?_
          refine hK.out _ _ c4 ?_
          clear hK K c2 f2 c4 hr0
          refine wpAnyL_tail 8 rfl rfl (by decide) (by kernel_rfl) ?_
          simp only [Act.put, List.setIfInBounds_toArray, List.set_cons_zero, List.set_cons_succ]
          refine wpl_appendC1 (enc := tcl) rfl (.tmp 59) (.tmp 61) rfl Try.underlying22 info_tile rfl (by omega) rfl rfl HO6.out t (by rw [tcl_length, H3.out]) (tcl_one t) (by have := HDL.out; omega) (by have := HDL.out; omega) (by have := HLO5.out; have := hdr.size; omega) ?_
          rintro A' c' w7 hO7 hg -
          have HC7 := Lib.hid ((HC5.out.new hdr).grown hg (fun k hk => .inr ((HO6.out.lt k hk).1)))
          have HO7 := Lib.hid hO7
          have HI7 := Lib.hid ((HI5.out.new hdr).chg (M := fun k => (Value.slice A done.length c).ownBlock = some k) ((Chg.refl _ _).grown hg (fun k hk => .inl hk)) (fun k hk h => by have := (HO6.out.lt k h).1; have := HG.out; have := HZG.out; omega))
          obtain ⟨-, -, c5, -, f5⟩ := HI7.out.cells
          have f6 := f5 2
          clear hO7 hg f5 hdr
          go_wp2_with fail
          have HI8 : Hid (IsRd Z (w7.setCell ⟨g, 2, none⟩ (.slice A' (done.length + 1) c')) g wd hg (.slice A' (done ++ [t]).length c') bs p2) := Lib.hid (by rw [List.length_append]; exact HI7.out.setT _)
          have HC8 := Lib.hid (HC7.out.setCell (p := ⟨g, 2, none⟩) (.inl rfl) (.slice A' (done.length + 1) c'))
          have HO8 : Hid (OwnT w.heap.size (w7.setCell ⟨g, 2, none⟩ (.slice A' (done.length + 1) c')) (.slice A' (done ++ [t]).length c') (done ++ [t])) := Lib.hid (by rw [List.length_append]; exact HO7.out.chg ((Chg.refl (fun k => k = g) w7).setCell (p := ⟨g, 2, none⟩) (.inl rfl) _) (fun k hk => own_apart HO7.out HG.out k hk))
          go_wp2
          go_roundw
          case rel => exact ⟨k + 1, p2, c', A', done ++ [t], by omega, by go_num, Lib.hid (by rw [List.length_append, HDL.out]; rfl), HR2, HC8, HI8, HO8⟩
          case measure => simp [intOf]; omega
      · have HRN : Hid (rdC Zf n [] (bs.drop p) = none) := Lib.hid (by rw [HR.out, List.drop_eq_nil_of_le (by omega), show n - k = (n - (k + 1)) + 1 by omega, rdC_end])
        have HP := Lib.hid hp
        clear hp
        go_wp2_with fail
        refine HNX.out.mono ?_
        rintro e w1 ⟨hC1, ⟨hbad, _⟩ | ⟨_, rfl, _⟩⟩
        · exact absurd hbad HP.out
        exact ⟨rfl, HC.out.trans hC1, .inr ⟨HRN.out, rfl⟩⟩
    · have hke : k = n := by omega
      subst hke
      go_wp2
      go_end0
      refine ⟨HC.out, .inl ⟨p', c, A, done, ?_, HDL.out, HI.out, HO.out, rfl⟩⟩
      rw [HR.out, Nat.sub_self]
      rfl
set_option maxRecDepth 100000 in
set_option maxHeartbeats 4000000 in
theorem rn_tilesP (Z : Nat × Nat) (g q : Nat) (wd hg : Int) (bs : List U8) (p n : Nat) (Zf : List (List Col) → List Col) (w : World) (hr : IsRd Z w g wd hg (.slice none 0 0) bs p) (hl : bs.length ≤ 1099511627776) (hn : wd * hg = n) (hn16 : n ≤ 16)
    (hZ : ∀ (W : World) (done : List (List Col)) (A : Option Addr) (c p' : Nat), Chg (fun k => k = g) w W → IsRd Z W g wd hg (.slice A done.length c) bs p' → OwnT w.heap.size W (.slice A done.length c) done → done.length < n →
      Calls Try.prog 54 #[.int .i64 done.length, .pointer (some ⟨q, 0, none⟩)] W fun e w' => e = .returned (.agg (tcA (Zf done))) ∧ New W w')
    (hZl : ∀ done : List (List Col), (∀ t ∈ done, t.length = 64) → (Zf done).length = 64) :
    Calls Try.prog 46 #[.pointer (some ⟨g, 0, none⟩), .func (.func 54) #[] #[.pointer (some ⟨q, 0, none⟩)]] w (TilesR Z g wd hg bs p n Zf w) := by
  have hdr0 : New w w.drew := Below.drew (new_refl _)
  obtain ⟨d0, d1, _⟩ := (hr.new hdr0).cells
  have hwr : IntKind.i64.wrap (wd * hg) = (n : Int) := by rw [hn, IntKind.wrap_i64]; omega
  have HR0 := Lib.hid hr
  have HG := Lib.hid hr.lt
  have HZG := Lib.hid hr.1
  have HL := Lib.hid hl
  have HN := Lib.hid hn
  have HZ := Lib.hid hZ
  have HZL := Lib.hid hZl
  clear hr hl hn hZ hZl hdr0
  go_enter Try.func46, Try.ntmps46
  go_wp2_with fail
  go_region_held3 (fun w' => w'.cell? ⟨g, 0, none⟩ = some (.int .i64 wd) ∧ w'.cell? ⟨g, 1, none⟩ = some (.int .i64 hg))
    (first | exact ⟨d0, d1⟩ | assumption | go_keep)
    (fail)
  clear d0 d1
  go_wp2_with fail
  go_loopw [17] (fun i wr => ∃ (k p' c : Nat) (A : Option Addr) (done : List (List Col)), k ≤ n ∧ i = .int .i64 k ∧ Hid (done.length = k) ∧ Hid (rdC Zf n [] (bs.drop p) = rdC Zf (n - k) done (bs.drop p')) ∧ Hid (Chg (fun k => k = g) w wr) ∧ Hid (IsRd Z wr g wd hg (.slice A done.length c) bs p') ∧ Hid (OwnT w.heap.size wr (.slice A done.length c) done)) (fun i _ => n - (intOf i).toNat)
  case atStart => exact ⟨0, p, 0, none, [], by omega, rfl, rfl, Lib.hid rfl, Lib.hid ((new_refl w).drew.chg _), Lib.hid (HR0.out.new (new_refl w).drew), Lib.hid (OwnC.nil _ _ _ _ _)⟩
  case round =>
    obtain ⟨k, p', c, A, done, hk, rfl, HDL, HR, HC, HI, HO⟩ := hrel
    by_cases hlt : k < n
    · have HNX := Lib.hid (rn_next Z g wd hg (.slice A done.length c) bs p' 1 wr HI.out HL.out (by omega))
      by_cases hp : p' < bs.length
      · obtain ⟨x, hx⟩ : ∃ x, x = bs[p'] := ⟨_, rfl⟩
        have HD : Hid (bs.drop p' = x :: bs.drop (p' + 1)) := Lib.hid (by rw [hx]; exact List.drop_eq_getElem_cons hp)
        have HP := Lib.hid hp
        clear hp hx
        go_wp2_with fail
        refine HNX.out.mono ?_
        rintro e w1 ⟨hC1, ⟨_, ⟨A1, rfl, hR1⟩, hI1⟩ | ⟨hbad, _⟩⟩
        rotate_left
        · exact absurd HP.out (by omega)
        rw [HD.out, show (x :: bs.drop (p' + 1)).take 1 = [x] from rfl] at hR1
        obtain ⟨b, off, c1, e1, _, _, _, _, _, hcell⟩ := hR1.at_ 0 (by simp)
        injection e1 with e1 e2 e3
        subst e1 e3
        replace hcell := hcell 0 (by simp)
        rw [List.getElem_cons_zero, Nat.add_zero] at hcell
        have HC1 := Lib.hid (HC.out.trans hC1)
        have HI1 := Lib.hid hI1
        have HO1 := Lib.hid (HO.out.chg hC1 (fun k hk => own_apart HO.out HG.out k hk))
        clear HNX hC1 hI1 hR1 e2
        by_cases hx0 : x.1 = 0
        · have hxe : (x.1 == 0) = true := by simp [hx0]
          -- the byte 0
          have hz1 := fun W (hn : New w1 W) => HZ.out W done A c (p' + 1) (HC1.out.trans (hn.chg _)) (HI1.out.new hn) (HO1.out.new hn) (by have := HDL.out; omega)
          rw [HDL.out] at hz1
          have HZ1 := Lib.hid hz1
          have HZ64 := Lib.hid (HZL.out done (OwnT.len HO1.out))
          have hdr : New w1 w1.drew := Below.drew (new_refl _)
          obtain ⟨-, -, c2, -, f2⟩ := (HI1.out.new hdr).cells
          replace f2 := f2 2
          have hbs := build_tile1 (Zf done) HZ64.out
          have HR2 : Hid (rdC Zf n [] (bs.drop p) = rdC Zf (n - (k + 1)) (done ++ [Zf done]) (bs.drop (p' + 1))) := Lib.hid (by rw [HR.out, HD.out, show n - k = (n - (k + 1)) + 1 by omega, rdC_zero _ _ _ _ _ hx0])
          have HLO := Lib.hid (HC1.out.size)
          clear hz1 hx0
          have htc : tcA (Zf done) = (tcl (Zf done)).toArray := rfl
          rw [htc] at HZ1
          clear htc
          generalize hzz : Zf done = z at *
          have HZZ := Lib.hid hzz
          clear hzz
          go_wp2_with fail
          refine wp_region_L (fun w' => w'.cell? ⟨g, 2, none⟩ = some (.slice A done.length c) ∧ w'.frozen? ⟨g, 2, none⟩ = false) [10] (by kernel_rfl) ?_
          have HS2 := And.intro c2 f2
          refine wpAnyL_move (i := 0) (v := ?_) rfl rfl (by kernel_rfl) (fun _ _ _ h => h) (by rfl) (fun W => ?_) (by assumption) ?_
          rotate_left
          · go_simp
            (try with_reducible rfl)
          rotate_right
          simp only [Act.put, List.setIfInBounds_toArray, List.set_cons_zero, List.set_cons_succ]
          refine wpAnyL_move (i := 1) (v := ?_) rfl rfl (by kernel_rfl) (fun _ _ _ h => h) (by rfl) (fun W => ?_) (by assumption) ?_
          rotate_left
          · go_simp
            (try with_reducible rfl)
          rotate_right
          simp only [Act.put, List.setIfInBounds_toArray, List.set_cons_zero, List.set_cons_succ]
          refine wpAnyL_move (i := 2) (v := ?_) rfl rfl (by kernel_rfl) (fun _ _ _ h => h) (by rfl) (fun W => ?_) (by assumption) ?_
          rotate_left
          · go_simp
            (try with_reducible rfl)
          rotate_right
          simp only [Act.put, List.setIfInBounds_toArray, List.set_cons_zero, List.set_cons_succ]
          refine wpAnyL_move (i := 3) (v := ?_) rfl rfl (by kernel_rfl) (fun _ _ _ h => h) (by rfl) (fun W => ?_) (by assumption) ?_
          rotate_left
          · go_simp
            (try with_reducible rfl)
          rotate_right
          simp only [Act.put, List.setIfInBounds_toArray, List.set_cons_zero, List.set_cons_succ]
          refine wpAnyL_move (i := 4) (v := ?_) rfl rfl (by kernel_rfl) (fun _ _ _ h => h) (by rfl) (fun W => ?_) (by assumption) ?_
          rotate_left
          · go_simp
            (try with_reducible rfl)
          rotate_right
          simp only [Act.put, List.setIfInBounds_toArray, List.set_cons_zero, List.set_cons_succ]
          refine wpAnyL_take (i := 5) (v := ?_) rfl rfl (by kernel_rfl) (fun _ _ _ h => h) (by rfl) (fun W hW => ?_) (by assumption) ?_
          rotate_left
          · (try dsimp only at hW)
            go_simp
            (try with_reducible rfl)
          rotate_right
          simp only [Act.put, List.setIfInBounds_toArray, List.set_cons_zero, List.set_cons_succ]
          refine wpAnyL_move (i := 6) (v := ?_) rfl rfl (by kernel_rfl) (fun _ _ _ h => h) (by rfl) (fun W => ?_) (by assumption) ?_
          rotate_left
          · go_simp
            (try with_reducible rfl)
          rotate_right
          simp only [Act.put, List.setIfInBounds_toArray, List.set_cons_zero, List.set_cons_succ]
          refine wpAnyL_move (i := 7) (v := ?_) rfl rfl (by kernel_rfl) (fun _ _ _ h => h) (by rfl) (fun W => ?_) (by assumption) ?_
          rotate_left
          · go_simp
            (try with_reducible rfl)
          rotate_right
          simp only [Act.put, List.setIfInBounds_toArray, List.set_cons_zero, List.set_cons_succ]
          refine wpAnyL_one (i := 8) rfl rfl (by kernel_rfl) (by rfl) (fun K hK => ?_)
          go_simp
          (with_reducible refine (HZ1.out _ (Below.drew (new_refl _))).mono ?_)
          rintro e wz ⟨rfl, hN⟩
          have HNZ := Lib.hid ((Below.drew (new_refl w1) : New w1 w1.drew).trans hN)
          obtain ⟨-, -, c3, -, f3⟩ := (HI1.out.new HNZ.out).cells
          have HNB := Lib.hid (New.alloc HNZ.out (.cells (tcl z).toArray 29))
          obtain ⟨-, -, c4, -, f4⟩ := (HI1.out.new HNB.out).cells
          have HO2 := Lib.hid (HO1.out.new HNZ.out)
          clear hN
          refine hK.out _ _ ⟨c3, f3 2⟩ ?_
          clear hK K
          (try simp only [Act.put, List.setIfInBounds_toArray, List.set_cons_zero, List.set_cons_succ])
          refine wpAnyL_one (i := 9) rfl rfl (by kernel_rfl) (by rfl) (fun K hK => ?_)
          refine wp_buildSlice1 (.tmp 33) rfl rfl (hbs _) ?_
          refine hK.out _ _ ⟨c4, f4 2⟩ ?_
          clear hK K c2 f2 c3 f3 c4 f4 HS2 hdr
          refine wpAnyL_tail 10 rfl rfl (by decide) (by kernel_rfl) ?_
          simp only [Act.put, List.setIfInBounds_toArray, List.set_cons_zero, List.set_cons_succ]
          refine wpl_appendC1 (enc := tcl) rfl (.tmp 30) (.tmp 34) rfl Try.underlying22 info_tile rfl (by omega) rfl rfl HO2.out z (by rw [tcl_length, HZ64.out]) (tcl_one z) (by have := HDL.out; omega) (by have := HDL.out; omega) (by have := HLO.out; have := HNZ.out.size; omega) ?_
          rintro A' c' w2 hO3 hg -
          have HC2 := Lib.hid ((HC1.out.new HNZ.out).grown hg (fun k hk => .inr ((HO2.out.lt k hk).1)))
          have HO3 := Lib.hid hO3
          have HI2 := Lib.hid ((HI1.out.new HNZ.out).chg (M := fun k => (Value.slice A done.length c).ownBlock = some k) ((Chg.refl _ _).grown hg (fun k hk => .inl hk)) (fun k hk h => by have := (HO2.out.lt k h).1; have := HG.out; have := HZG.out; omega))
          obtain ⟨-, -, c5, -, f5⟩ := HI2.out.cells
          have f6 := f5 2
          clear hO3 hg f5
          go_wp2_with fail
          all_goals
            have HI3 : Hid (IsRd Z (w2.setCell ⟨g, 2, none⟩ (.slice A' (done.length + 1) c')) g wd hg (.slice A' (done ++ [z]).length c') bs (p' + 1)) := Lib.hid (by rw [List.length_append]; exact HI2.out.setT _)
            have HC3 := Lib.hid (HC2.out.setCell (p := ⟨g, 2, none⟩) (.inl rfl) (.slice A' (done.length + 1) c'))
            have HO4 : Hid (OwnT w.heap.size (w2.setCell ⟨g, 2, none⟩ (.slice A' (done.length + 1) c')) (.slice A' (done ++ [z]).length c') (done ++ [z])) := Lib.hid (by rw [List.length_append]; exact HO3.out.chg ((Chg.refl (fun k => k = g) w2).setCell (p := ⟨g, 2, none⟩) (.inl rfl) _) (fun k hk => own_apart HO3.out HG.out k hk))
            go_wp2
            go_roundw
            case rel => exact ⟨k + 1, p' + 1, c', A', done ++ [z], by omega, by go_num, Lib.hid (by rw [List.length_append, HDL.out]; rfl), HR2, HC3, HI3, HO4⟩
            case measure => simp [intOf]; omega
        · have hxe : (x.1 == 0) = false := by simp [hx0]
          -- a tile
          have hI2 := HI1.out.setP p' (by have := HP.out; omega)
          have hc12 : Chg (fun k => k = g) w1 (w1.setCell ⟨g, 4, none⟩ (.int .i64 p')) := (Chg.refl (fun k => k = g) w1).setCell (p := ⟨g, 4, none⟩) (.inl rfl) _
          obtain ⟨-, -, -, c4, f4⟩ := HI1.out.cells
          replace f4 := f4 4
          have hwp : IntKind.i64.wrap (p' : Int) = (p' : Int) := by rw [IntKind.wrap_i64]; have := HP.out; have := HL.out; omega
          have HT := Lib.hid (rn_tile Z g wd hg (.slice A done.length c) bs p' _ hI2 HL.out)
          have HC2 := Lib.hid (HC1.out.trans hc12)
          have HO2 := Lib.hid (HO1.out.chg hc12 (fun k hk => own_apart HO1.out HG.out k hk))
          have HX0 := Lib.hid hx0
          clear hI2 hc12 hx0
          go_wp2_with fail
          refine HT.out.mono ?_
          rintro e w3 ⟨hC3, p2, hI3, ⟨t, h1, h2, h3, rfl⟩ | ⟨h1, rfl⟩⟩
          rotate_left
          · have hrn : rdC Zf n [] (bs.drop p) = none := by rw [HR.out, show n - k = (n - (k + 1)) + 1 by omega, HD.out]; exact rdC_none _ _ _ _ _ HX0.out (by rw [← HD.out]; exact h1)
            exact ⟨rfl, HC2.out.trans hC3, .inr ⟨hrn, rfl⟩⟩
          have hna := new_alloc w3 (.cells (tcA t) 29)
          have HC4 := Lib.hid ((HC2.out.trans hC3).new hna)
          have HI4 := Lib.hid (hI3.new hna)
          have HO4 := Lib.hid ((HO2.out.chg hC3 (fun k hk => own_apart HO2.out HG.out k hk)).new hna)
          have HB4 := Lib.hid (BoxA.new w3 29 (tcA t))
          have HLO := Lib.hid HC4.out.size
          have H3 := Lib.hid h3
          have hrs : rdC Zf n [] (bs.drop p) = if t = Zf done then none else rdC Zf (n - (k + 1)) (done ++ [t]) (bs.drop p2) := by
            rw [HR.out, show n - k = (n - (k + 1)) + 1 by omega, HD.out]
            exact rdC_tile _ _ _ _ _ HX0.out t _ (by rw [← HD.out]; exact h1)
          have HRS := Lib.hid hrs
          clear hC3 hI3 h1 h2 h3 hna hrs HT c4 f4 hwp
          go_wp2_with (first
            | (refine wpl_alloc_tile rfl rfl ?_)
            | (refine wpl_store_tile rfl (.tmp 5) (.tmp 47) rfl _ rfl t H3.out rfl (BoxA.new _ _ _) (by simp [tcA_size, blankT_length]) ?_; rw [World.setRow_alloc_new]))
          obtain ⟨w4, hw4⟩ : ∃ w4, w3.alloc (.cells (tcA t) 29) = w4 := ⟨_, rfl⟩
          rw [hw4] at HC4 HI4 HO4 HB4 HLO ⊢
          obtain ⟨b5, hb5⟩ : ∃ b5, w3.heap.size = b5 := ⟨_, rfl⟩
          rw [hb5] at HB4 ⊢
          clear hw4 hb5
          have hz1 := fun W (hn : New w4 W) => HZ.out W done A c p2 (HC4.out.trans (hn.chg _)) (HI4.out.new hn) (HO4.out.new hn) (by have := HDL.out; omega)
          rw [HDL.out] at hz1
          have HZ1 := Lib.hid hz1
          have HZ64 := Lib.hid (HZL.out done (OwnT.len HO4.out))
          have hdr : New w4 w4.drew := Below.drew (new_refl _)
          have hr0 : w4.drew.rangeAt b5 0 (tcl t) := (HB4.out.later hdr).range
          have hsz : (Try.prog.info? 29).map (·.size) = some (tcl t).length := by rw [tcl_length, H3.out]; exact size_tile
          have hne := run_neT t (Zf done) H3.out HZ64.out
          have htc : tcA (Zf done) = (tcl (Zf done)).toArray := rfl
          rw [htc] at HZ1 hne
          have htc : tcA t = (tcl t).toArray := rfl
          rw [htc] at hne HB4
          clear htc hz1
          obtain ⟨z, hzz⟩ : ∃ z, Zf done = z := ⟨_, rfl⟩
          rw [hzz] at HZ1 HZ64 hne HRS
          clear hzz
          refine wp_region_L (fun w' => w'.rangeAt b5 0 (tcl t)) [4] (by kernel_rfl) ?_
          refine wpAnyL_move (i := 1) (v := ?_) rfl rfl (by kernel_rfl) (fun _ _ _ h => h) (by rfl) (fun W => ?_) (by assumption) ?_
          rotate_left
          · go_simp
            (try with_reducible rfl)
          rotate_right
          simp only [Act.put, List.setIfInBounds_toArray, List.set_cons_zero, List.set_cons_succ]
          refine wpAnyL_move (i := 2) (v := ?_) rfl rfl (by kernel_rfl) (fun _ _ _ h => h) (by rfl) (fun W => ?_) (by assumption) ?_
          rotate_left
          · go_simp
            (try with_reducible rfl)
          rotate_right
          simp only [Act.put, List.setIfInBounds_toArray, List.set_cons_zero, List.set_cons_succ]
          refine wpAnyL_take (i := 0) rfl rfl (by kernel_rfl) (fun _ _ _ h => h) (by rfl) (fun W hW => exec_load_mid (.tmp 5) rfl _ _ rfl (tcl t) _ hW Try.underlying29 rfl hsz) (by assumption) ?_
          simp only [Act.put, List.setIfInBounds_toArray, List.set_cons_zero, List.set_cons_succ]
          refine wpAnyL_one (i := 3) rfl rfl (by kernel_rfl) (by rfl) (fun K hK => ?_)
          go_simp
          (with_reducible refine (HZ1.out _ hdr).mono ?_)
          rintro e w5 ⟨rfl, hN⟩
          have HNZ := Lib.hid (hdr.trans hN)
          refine hK.out _ _ ((HB4.out.later HNZ.out).range) ?_
          clear hK K hN hr0 hdr
          refine wpAnyL_tail 4 rfl rfl (by decide) (by kernel_rfl) ?_
          have HC5 := Lib.hid (HC4.out.new HNZ.out)
          have HI5 := Lib.hid (HI4.out.new HNZ.out)
          have HO5 := Lib.hid (HO4.out.new HNZ.out)
          have HB5 := Lib.hid (HB4.out.later HNZ.out)
          have HLO5 := Lib.hid (show w.heap.size ≤ w5.heap.size by have := HLO.out; have := HNZ.out.size; omega)
          by_cases htz : t = z
          · rw [show decide (t ≠ z) = false by simp [htz]] at hne
            have hrn : rdC Zf n [] (bs.drop p) = none := by rw [HRS.out, if_pos htz]
            have HRN := Lib.hid hrn
            clear htz hrn
            go_wp2_with (go_at_call 45; (with_reducible refine (rn_need_no _).mono ?_); rintro e w6 ⟨rfl, rfl⟩)
            exact ⟨rfl, HC5.out, .inr ⟨HRN.out, rfl⟩⟩
          rw [show decide (t ≠ z) = true by simp [htz]] at hne
          have HR2 : Hid (rdC Zf n [] (bs.drop p) = rdC Zf (n - (k + 1)) (done ++ [t]) (bs.drop p2)) := Lib.hid (by rw [HRS.out, if_neg htz])
          clear htz
          go_wp2_with (go_at_call 45; (with_reducible refine (rn_need_yes _).mono ?_); rintro e w6 ⟨rfl, rfl⟩)
          clear hne
          have hdr : New w5 w5.drew := Below.drew (new_refl _)
          obtain ⟨-, -, c2, -, f2⟩ := (HI5.out.new hdr).cells
          have hr0 : w5.drew.rangeAt b5 0 (tcl t) := (HB5.out.later hdr).range
          have HNB := Lib.hid (New.alloc hdr (.cells (tcl t).toArray 29))
          obtain ⟨-, -, c4, -, -⟩ := (HI5.out.new HNB.out).cells
          have HO6 := Lib.hid (HO5.out.new hdr)
          refine wp_region_L (fun w' => w'.cell? ⟨g, 2, none⟩ = some (.slice A done.length c)) [8] (by kernel_rfl) ?_
          refine wpAnyL_move (i := 0) (v := ?_) rfl rfl (by kernel_rfl) (fun _ _ _ h => h) (by rfl) (fun W => ?_) (by assumption) ?_
          rotate_left
          · go_simp
            (try with_reducible rfl)
          rotate_right
          simp only [Act.put, List.setIfInBounds_toArray, List.set_cons_zero, List.set_cons_succ]
          refine wpAnyL_move (i := 1) (v := ?_) rfl rfl (by kernel_rfl) (fun _ _ _ h => h) (by rfl) (fun W => ?_) (by assumption) ?_
          rotate_left
          · go_simp
            (try with_reducible rfl)
          rotate_right
          simp only [Act.put, List.setIfInBounds_toArray, List.set_cons_zero, List.set_cons_succ]
          refine wpAnyL_move (i := 2) (v := ?_) rfl rfl (by kernel_rfl) (fun _ _ _ h => h) (by rfl) (fun W => ?_) (by assumption) ?_
          rotate_left
          · go_simp
            (try with_reducible rfl)
          rotate_right
          simp only [Act.put, List.setIfInBounds_toArray, List.set_cons_zero, List.set_cons_succ]
          refine wpAnyL_move (i := 3) (v := ?_) rfl rfl (by kernel_rfl) (fun _ _ _ h => h) (by rfl) (fun W => ?_) (by assumption) ?_
          rotate_left
          · go_simp
            (try with_reducible rfl)
          rotate_right
          simp only [Act.put, List.setIfInBounds_toArray, List.set_cons_zero, List.set_cons_succ]
          refine wpAnyL_move (i := 4) (v := ?_) rfl rfl (by kernel_rfl) (fun _ _ _ h => h) (by rfl) (fun W => ?_) (by assumption) ?_
          rotate_left
          · go_simp
            (try with_reducible rfl)
          rotate_right
          simp only [Act.put, List.setIfInBounds_toArray, List.set_cons_zero, List.set_cons_succ]
          refine wpAnyL_take (i := 5) (v := ?_) rfl rfl (by kernel_rfl) (fun _ _ _ h => h) (by rfl) (fun W hW => ?_) (by assumption) ?_
          rotate_left
          · (try dsimp only at hW)
            go_simp
            (try with_reducible rfl)
          rotate_right
          simp only [Act.put, List.setIfInBounds_toArray, List.set_cons_zero, List.set_cons_succ]
          refine wpAnyL_one (i := 6) rfl rfl (by kernel_rfl) (by rfl) (fun K hK => ?_)
          refine wp_load_mid 29 (.tmp 5) rfl b5 0 rfl (tcl t) _ hr0 Try.underlying29 rfl hsz ?_
          refine hK.out _ _ c2 ?_
          clear hK K
          (try simp only [Act.put, List.setIfInBounds_toArray, List.set_cons_zero, List.set_cons_succ])
          refine wpAnyL_one (i := 7) rfl rfl (by kernel_rfl) (by rfl) (fun K hK => ?_)
          refine wp_buildSlice1 (.tmp 60) rfl rfl (build_tile1 t H3.out _) ?_
          refine hK.out _ _ c4 ?_
          clear hK K c2 f2 c4 hr0
          refine wpAnyL_tail 8 rfl rfl (by decide) (by kernel_rfl) ?_
          simp only [Act.put, List.setIfInBounds_toArray, List.set_cons_zero, List.set_cons_succ]
          refine wpl_appendC1 (enc := tcl) rfl (.tmp 59) (.tmp 61) rfl Try.underlying22 info_tile rfl (by omega) rfl rfl HO6.out t (by rw [tcl_length, H3.out]) (tcl_one t) (by have := HDL.out; omega) (by have := HDL.out; omega) (by have := HLO5.out; have := hdr.size; omega) ?_
          rintro A' c' w7 hO7 hg -
          have HC7 := Lib.hid ((HC5.out.new hdr).grown hg (fun k hk => .inr ((HO6.out.lt k hk).1)))
          have HO7 := Lib.hid hO7
          have HI7 := Lib.hid ((HI5.out.new hdr).chg (M := fun k => (Value.slice A done.length c).ownBlock = some k) ((Chg.refl _ _).grown hg (fun k hk => .inl hk)) (fun k hk h => by have := (HO6.out.lt k h).1; have := HG.out; have := HZG.out; omega))
          obtain ⟨-, -, c5, -, f5⟩ := HI7.out.cells
          have f6 := f5 2
          clear hO7 hg f5 hdr
          go_wp2_with fail
          have HI8 : Hid (IsRd Z (w7.setCell ⟨g, 2, none⟩ (.slice A' (done.length + 1) c')) g wd hg (.slice A' (done ++ [t]).length c') bs p2) := Lib.hid (by rw [List.length_append]; exact HI7.out.setT _)
          have HC8 := Lib.hid (HC7.out.setCell (p := ⟨g, 2, none⟩) (.inl rfl) (.slice A' (done.length + 1) c'))
          have HO8 : Hid (OwnT w.heap.size (w7.setCell ⟨g, 2, none⟩ (.slice A' (done.length + 1) c')) (.slice A' (done ++ [t]).length c') (done ++ [t])) := Lib.hid (by rw [List.length_append]; exact HO7.out.chg ((Chg.refl (fun k => k = g) w7).setCell (p := ⟨g, 2, none⟩) (.inl rfl) _) (fun k hk => own_apart HO7.out HG.out k hk))
          go_wp2
          go_roundw
          case rel => exact ⟨k + 1, p2, c', A', done ++ [t], by omega, by go_num, Lib.hid (by rw [List.length_append, HDL.out]; rfl), HR2, HC8, HI8, HO8⟩
          case measure => simp [intOf]; omega
      · have HRN : Hid (rdC Zf n [] (bs.drop p) = none) := Lib.hid (by rw [HR.out, List.drop_eq_nil_of_le (by omega), show n - k = (n - (k + 1)) + 1 by omega, rdC_end])
        have HP := Lib.hid hp
        clear hp
        go_wp2_with fail
        refine HNX.out.mono ?_
        rintro e w1 ⟨hC1, ⟨hbad, _⟩ | ⟨_, rfl, _⟩⟩
        · exact absurd hbad HP.out
        exact ⟨rfl, HC.out.trans hC1, .inr ⟨HRN.out, rfl⟩⟩
    · have hke : k = n := by omega
      subst hke
      go_wp2
      go_end0
      refine ⟨HC.out, .inl ⟨p', c, A, done, ?_, HDL.out, HI.out, HO.out, rfl⟩⟩
      rw [HR.out, Nat.sub_self]
      rfl
end Go.Proofs.Ythihffglkheleaa
