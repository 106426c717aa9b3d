/- Contract of the function that reads a patch (runs.Apply$1). -/
import Derived.Test.YthihffglkheleaaTt
set_option linter.unusedVariables false
set_option linter.unusedSimpArgs false
namespace Go.Proofs.Ythihffglkheleaa
open Go.RowKit


set_option maxRecDepth 100000 in
set_option maxHeartbeats 4000000 in
theorem rn_AP1 (Z : Nat × Nat) (lo' hi' g q qa : Nat) (wd0 hg0 : Int) (bs : List U8) (wa ha : Int) (B : Option Addr) (d : Nat) (ta : List (List Col)) (w : World) (hq : Box w q 66 (.pointer (some ⟨g, 0, none⟩))) (hqg : q ≠ g)
    (hqa : BoxA w qa 43 #[.int .i64 wa, .int .i64 ha, .slice B ta.length d]) (hqag : qa ≠ g) (hT : RdT lo' hi' w (.slice B ta.length d) ta) (hTg : hi' ≤ g) (hrt : rightB wa ha ta.length = true)
    (hr : IsRd Z w g wd0 hg0 (.slice none 0 0) bs 0) (hl : bs.length ≤ 1099511627776) :
    Calls Try.prog 53 #[.pointer (some ⟨q, 0, none⟩), .pointer (some ⟨qa, 0, none⟩)] w (RunsR Z g bs (readPa wa ha ta bs) w) := by
  have HR0 := Lib.hid hr
  have HL := Lib.hid hl
  have HQ := Lib.hid hq
  have HQG := Lib.hid hqg
  have HQA := Lib.hid hqa
  have HQAG := Lib.hid hqag
  have HT := Lib.hid hT
  have HTG := Lib.hid hTg
  have HRT := Lib.hid hrt
  clear hr hl hq hqg hqa hqag hT hTg hrt
  have hmf := hmf
  have HNX := Lib.hid (rn_next Z g wd0 hg0 (.slice none 0 0) bs 0 2 w HR0.out HL.out (by omega))
  have cq := HQ.out.cell
  by_cases hp : 2 ≤ bs.length
  · obtain ⟨x, y, rest, hbs⟩ : ∃ x y rest, bs = x :: y :: rest := by
      match bs, hp with
      | x :: y :: rest, _ => exact ⟨x, y, rest, rfl⟩
    have HBS := Lib.hid hbs
    clear hp hbs
    go_enter Try.func53, Try.ntmps53
    go_wp2_with fail
    refine HNX.out.mono ?_
    rintro e w1 ⟨hC1, ⟨_, ⟨A1, rfl, hR1⟩, hI1⟩ | ⟨hbad, _⟩⟩
    rotate_left
    · rw [HBS.out] at hbad
      simp at hbad; omega
    rw [List.drop_zero, HBS.out, show (x :: y :: rest).take 2 = [x, y] from rfl] at hR1
    rw [Nat.zero_add] at hI1
    obtain ⟨b, off, c1, e1, hb1, hb2, _, _, _, hcell⟩ := hR1.at_ 0 (by simp)
    injection e1 with e1 e2 e3
    subst e1 e3
    have k0 := hcell 0 (by simp)
    have k1 := hcell 1 (by simp)
    simp only [List.getElem_cons_zero, List.getElem_cons_succ, Nat.add_zero] at k0 k1
    have HC1 := Lib.hid hC1
    have HI1 := Lib.hid hI1
    have cq1 := (HQ.out.chg hC1 HQG.out).cell
    have HQ1 := Lib.hid (HQ.out.chg hC1 HQG.out)
    have HBZ := Lib.hid (And.intro hb1 hb2)
    clear HNX hC1 hI1 hR1 e2 hcell hb1 hb2 cq
    go_wp2_with fail
    have HS3 : w1.drew.cell? ⟨q, 0, none⟩ = some (.pointer (some ⟨g, 0, none⟩)) ∧ w1.drew.cell? ⟨b, off, none⟩ = some (e8 x) ∧ w1.drew.cell? ⟨b, off + 1, none⟩ = some (e8 y) := ⟨cq1, k0, k1⟩
    have hwx : IntKind.i64.wrap x.1 = x.1 := by rw [IntKind.wrap_i64]; omega
    have hwy : IntKind.i64.wrap y.1 = y.1 := by rw [IntKind.wrap_i64]; omega
    refine wp_region_L (fun w' => w'.cell? ⟨q, 0, none⟩ = some (.pointer (some ⟨g, 0, none⟩)) ∧ w'.cell? ⟨b, off, none⟩ = some (e8 x) ∧ w'.cell? ⟨b, off + 1, none⟩ = some (e8 y)) [13] (by kernel_rfl) ?_
    refine wpAnyL_take (i := 0) (v := ?_) rfl rfl (by kernel_rfl) (fun _ _ _ h => h) (by rfl) (fun W hW => ?_) (by assumption) ?_
    rotate_left
    · (try dsimp only at hW)
      go_simp
      (try with_reducible rfl)
    rotate_right
    simp only [Act.put, List.setIfInBounds_toArray, List.set_cons_zero, List.set_cons_succ]
    refine wpAnyL_take (i := 1) (v := ?_) rfl rfl (by kernel_rfl) (fun _ _ _ h => h) (by rfl) (fun W hW => ?_) (by assumption) ?_
    rotate_left
    · (try dsimp only at hW)
      go_simp
      (try with_reducible rfl)
    rotate_right
    simp only [Act.put, List.setIfInBounds_toArray, List.set_cons_zero, List.set_cons_succ]
    refine wpAnyL_move (i := 2) (v := ?_) rfl rfl (by kernel_rfl) (fun _ _ _ h => h) (by rfl) (fun W => ?_) (by assumption) ?_
    rotate_left
    · go_simp
      (try with_reducible rfl)
    rotate_right
    simp only [Act.put, List.setIfInBounds_toArray, List.set_cons_zero, List.set_cons_succ]
    refine wpAnyL_move (i := 3) (v := ?_) rfl rfl (by kernel_rfl) (fun _ _ _ h => h) (by rfl) (fun W => ?_) (by assumption) ?_
    rotate_left
    · go_simp
      (try with_reducible rfl)
    rotate_right
    simp only [Act.put, List.setIfInBounds_toArray, List.set_cons_zero, List.set_cons_succ]
    refine wpAnyL_take (i := 4) (v := ?_) rfl rfl (by kernel_rfl) (fun _ _ _ h => h) (by rfl) (fun W hW => ?_) (by assumption) ?_
    rotate_left
    · (try dsimp only at hW)
      go_simp
      (try with_reducible rfl)
    rotate_right
    simp only [Act.put, List.setIfInBounds_toArray, List.set_cons_zero, List.set_cons_succ]
    refine wpAnyL_move (i := 5) (v := ?_) rfl rfl (by kernel_rfl) (fun _ _ _ h => h) (by rfl) (fun W => ?_) (by assumption) ?_
    rotate_left
    · go_simp
      (try with_reducible rfl)
    rotate_right
    simp only [Act.put, List.setIfInBounds_toArray, List.set_cons_zero, List.set_cons_succ]
    refine wpAnyL_move (i := 6) (v := ?_) rfl rfl (by kernel_rfl) (fun _ _ _ h => h) (by rfl) (fun W => ?_) (by assumption) ?_
    rotate_left
    · go_simp
      (try with_reducible rfl)
    rotate_right
    simp only [Act.put, List.setIfInBounds_toArray, List.set_cons_zero, List.set_cons_succ]
    refine wpAnyL_move (i := 7) (v := ?_) rfl rfl (by kernel_rfl) (fun _ _ _ h => h) (by rfl) (fun W => ?_) (by assumption) ?_
    rotate_left
    · go_simp
      (try with_reducible rfl)
    rotate_right
    simp only [Act.put, List.setIfInBounds_toArray, List.set_cons_zero, List.set_cons_succ]
    refine wpAnyL_take (i := 8) (v := ?_) rfl rfl (by kernel_rfl) (fun _ _ _ h => h) (by rfl) (fun W hW => ?_) (by assumption) ?_
    rotate_left
    · (try dsimp only at hW)
      go_simp
      (try with_reducible rfl)
    rotate_right
    simp only [Act.put, List.setIfInBounds_toArray, List.set_cons_zero, List.set_cons_succ]
    refine wpAnyL_move (i := 9) (v := ?_) rfl rfl (by kernel_rfl) (fun _ _ _ h => h) (by rfl) (fun W => ?_) (by assumption) ?_
    rotate_left
    · go_simp
      (try with_reducible rfl)
    rotate_right
    simp only [Act.put, List.setIfInBounds_toArray, List.set_cons_zero, List.set_cons_succ]
    refine wpAnyL_move (i := 10) (v := ?_) rfl rfl (by kernel_rfl) (fun _ _ _ h => h) (by rfl) (fun W => ?_) (by assumption) ?_
    rotate_left
    · go_simp
      (try with_reducible rfl)
    rotate_right
    simp only [Act.put, List.setIfInBounds_toArray, List.set_cons_zero, List.set_cons_succ]
    refine wpAnyL_move (i := 11) (v := ?_) rfl rfl (by kernel_rfl) (fun _ _ _ h => h) (by rfl) (fun W => ?_) (by assumption) ?_
    rotate_left
    · go_simp
      (try with_reducible rfl)
    rotate_right
    simp only [Act.put, List.setIfInBounds_toArray, List.set_cons_zero, List.set_cons_succ]
    refine wpAnyL_move (i := 12) (v := ?_) rfl rfl (by kernel_rfl) (fun _ _ _ h => h) (by rfl) (fun W => ?_) (by assumption) ?_
    rotate_left
    · go_simp
      (try with_reducible rfl)
    rotate_right
    simp only [Act.put, List.setIfInBounds_toArray, List.set_cons_zero, List.set_cons_succ]
    refine wpAnyL_tail 13 rfl rfl (by decide) (by kernel_rfl) ?_
    clear HS3
    obtain ⟨g0, g1, -, -, f1⟩ := HI1.out.cells
    have f10 := f1 0
    have f11 := f1 1
    have hqg := HQG.out
    have hgq : ¬ g = q := fun h => hqg h.symm
    obtain ⟨w2, hw2⟩ : ∃ w2, w2 = ((w1.setCell ⟨g, 0, none⟩ (.int .i64 x.1)).setCell ⟨g, 1, none⟩ (.int .i64 y.1)).drew := ⟨_, rfl⟩
    have HI2 : Hid (IsRd Z w2 g x.1 y.1 (.slice none 0 0) bs 2) := Lib.hid (by rw [hw2]; exact (HI1.out.new (new_refl w1).drew).setWH x.1 y.1)
    have HC2 : Hid (Chg (fun k => k = g) w w2) := Lib.hid (by rw [hw2]; exact ((HC1.out.new (new_refl w1).drew).setCell (p := ⟨g, 0, none⟩) (.inl rfl) _).setCell (p := ⟨g, 1, none⟩) (.inl rfl) _)
    clear f1 k0 k1 hwx hwy
    go_wp2_with fail
    rw [← hw2]
    clear hw2 f10 f11 hqg hgq cq1 g0 g1
    have cq2 := (HQ.out.chg HC2.out HQG.out).cell
    obtain ⟨g20, g21, -, -, -⟩ := HI2.out.cells
    obtain ⟨a20, a21, a22, -⟩ := (HQA.out.chg HC2.out HQAG.out).of3
    have hrc : readPa wa ha ta bs = if x.1 = wa ∧ y.1 = ha then (rdC (ZP ta) (wa * ha).toNat [] rest).map fun q => (x.1, y.1, q.1, bs.length - q.2.length) else none := by rw [HBS.out]; rfl
    by_cases s1 : x.1 = wa
    · have d1 : (x.1 == wa) = true := by simpa using s1
      by_cases s2 : y.1 = ha
      · have d2 : (y.1 == ha) = true := by simpa using s2
        rw [if_pos ⟨s1, s2⟩] at hrc
        have hrt := HRT.out
        obtain ⟨hn16, hn2, hs⟩ := right_len wa ha ta.length hrt
        have hn2' : x.1 * y.1 = (ta.length : Int) := by rw [s1, s2]; omega
        rw [← hn2, Int.toNat_natCast] at hrc
        have htl := rn_tilesP Z g qa x.1 y.1 bs 2 ta.length (ZP ta) w2.drew (HI2.out.new (new_refl w2).drew) HL.out hn2' hn16
          (fun W done A c p' hC hI hO hlt => rn_Apply11 lo' hi' wa ha B d ta qa done.length W ((HT.out.chg HC2.out (fun k h1 h2 => by have := HTG.out; omega)).chg ((new_refl w2).drew.chg _ |>.trans hC) (fun k h1 h2 => by have := HTG.out; omega)) ((HQA.out.chg HC2.out HQAG.out).chg ((new_refl w2).drew.chg _ |>.trans hC) HQAG.out) hlt)
          (fun done h => ZP_length HT.out.2 done)
        have HTL := Lib.hid htl
        have HRC := Lib.hid hrc
        have HLE := Lib.hid HC2.out.size
        clear hs hn2 hn2' hn16 htl hrc s1 s2 hrt
        refine wp_region_L (fun w' => w'.cell? ⟨q, 0, none⟩ = some (.pointer (some ⟨g, 0, none⟩)) ∧ w'.cell? ⟨g, 0, none⟩ = some (.int .i64 x.1) ∧ w'.cell? ⟨g, 1, none⟩ = some (.int .i64 y.1) ∧ w'.cell? ⟨qa, 0, none⟩ = some (.int .i64 wa) ∧ w'.cell? ⟨qa, 1, none⟩ = some (.int .i64 ha)) [] (by kernel_rfl) ?_
        have HS5 : w2.drew.cell? ⟨q, 0, none⟩ = some (.pointer (some ⟨g, 0, none⟩)) ∧ w2.drew.cell? ⟨g, 0, none⟩ = some (.int .i64 x.1) ∧ w2.drew.cell? ⟨g, 1, none⟩ = some (.int .i64 y.1) ∧ w2.drew.cell? ⟨qa, 0, none⟩ = some (.int .i64 wa) ∧ w2.drew.cell? ⟨qa, 1, none⟩ = some (.int .i64 ha) := ⟨cq2, g20, g21, a20, a21⟩
        refine wpAnyL_take (i := 0) (v := ?_) rfl rfl (by kernel_rfl) (fun _ _ _ h => h) (by rfl) (fun W hW => ?_) (by assumption) ?_
        rotate_left
        · (try dsimp only at hW)
          go_simp
          (try with_reducible rfl)
        rotate_right
        simp only [Act.put, List.setIfInBounds_toArray, List.set_cons_zero, List.set_cons_succ]
        refine wpAnyL_move (i := 1) (v := ?_) rfl rfl (by kernel_rfl) (fun _ _ _ h => h) (by rfl) (fun W => ?_) (by assumption) ?_
        rotate_left
        · go_simp
          (try with_reducible rfl)
        rotate_right
        simp only [Act.put, List.setIfInBounds_toArray, List.set_cons_zero, List.set_cons_succ]
        refine wpAnyL_move (i := 2) (v := ?_) rfl rfl (by kernel_rfl) (fun _ _ _ h => h) (by rfl) (fun W => ?_) (by assumption) ?_
        rotate_left
        · go_simp
          (try with_reducible rfl)
        rotate_right
        simp only [Act.put, List.setIfInBounds_toArray, List.set_cons_zero, List.set_cons_succ]
        refine wpAnyL_move (i := 3) (v := ?_) rfl rfl (by kernel_rfl) (fun _ _ _ h => h) (by rfl) (fun W => ?_) (by assumption) ?_
        rotate_left
        · go_simp
          (try with_reducible rfl)
        rotate_right
        simp only [Act.put, List.setIfInBounds_toArray, List.set_cons_zero, List.set_cons_succ]
        refine wpAnyL_take (i := 4) (v := ?_) rfl rfl (by kernel_rfl) (fun _ _ _ h => h) (by rfl) (fun W hW => ?_) (by assumption) ?_
        rotate_left
        · (try dsimp only at hW)
          go_simp
          (try with_reducible rfl)
        rotate_right
        simp only [Act.put, List.setIfInBounds_toArray, List.set_cons_zero, List.set_cons_succ]
        refine wpAnyL_move (i := 5) (v := ?_) rfl rfl (by kernel_rfl) (fun _ _ _ h => h) (by rfl) (fun W => ?_) (by assumption) ?_
        rotate_left
        · go_simp
          (try with_reducible rfl)
        rotate_right
        simp only [Act.put, List.setIfInBounds_toArray, List.set_cons_zero, List.set_cons_succ]
        refine wpAnyL_take (i := 6) (v := ?_) rfl rfl (by kernel_rfl) (fun _ _ _ h => h) (by rfl) (fun W hW => ?_) (by assumption) ?_
        rotate_left
        · (try dsimp only at hW)
          go_simp
          (try with_reducible rfl)
        rotate_right
        simp only [Act.put, List.setIfInBounds_toArray, List.set_cons_zero, List.set_cons_succ]
        refine wpAnyL_move (i := 7) (v := ?_) rfl rfl (by kernel_rfl) (fun _ _ _ h => h) (by rfl) (fun W => ?_) (by assumption) ?_
        rotate_left
        · go_simp
          (try with_reducible rfl)
        rotate_right
        simp only [Act.put, List.setIfInBounds_toArray, List.set_cons_zero, List.set_cons_succ]
        refine wpAnyL_move (i := 8) (v := ?_) rfl rfl (by kernel_rfl) (fun _ _ _ h => h) (by rfl) (fun W => ?_) (by assumption) ?_
        rotate_left
        · go_simp
          (try with_reducible rfl)
        rotate_right
        simp only [Act.put, List.setIfInBounds_toArray, List.set_cons_zero, List.set_cons_succ]
        refine wpAnyL_take (i := 9) (v := ?_) rfl rfl (by kernel_rfl) (fun _ _ _ h => h) (by rfl) (fun W hW => ?_) (by assumption) ?_
        rotate_left
        · (try dsimp only at hW)
          go_simp
          (try with_reducible rfl)
        rotate_right
        simp only [Act.put, List.setIfInBounds_toArray, List.set_cons_zero, List.set_cons_succ]
        refine wpAnyL_move (i := 10) (v := ?_) rfl rfl (by kernel_rfl) (fun _ _ _ h => h) (by rfl) (fun W => ?_) (by assumption) ?_
        rotate_left
        · go_simp
          (try with_reducible rfl)
        rotate_right
        simp only [Act.put, List.setIfInBounds_toArray, List.set_cons_zero, List.set_cons_succ]
        refine wpAnyL_move (i := 11) (v := ?_) rfl rfl (by kernel_rfl) (fun _ _ _ h => h) (by rfl) (fun W => ?_) (by assumption) ?_
        rotate_left
        · go_simp
          (try with_reducible rfl)
        rotate_right
        simp only [Act.put, List.setIfInBounds_toArray, List.set_cons_zero, List.set_cons_succ]
        refine wpAnyL_move (i := 12) (v := ?_) rfl rfl (by kernel_rfl) (fun _ _ _ h => h) (by rfl) (fun W => ?_) (by assumption) ?_
        rotate_left
        · go_simp
          (try with_reducible rfl)
        rotate_right
        simp only [Act.put, List.setIfInBounds_toArray, List.set_cons_zero, List.set_cons_succ]
        refine wpAnyL_take (i := 13) (v := ?_) rfl rfl (by kernel_rfl) (fun _ _ _ h => h) (by rfl) (fun W hW => ?_) (by assumption) ?_
        rotate_left
        · (try dsimp only at hW)
          go_simp
          (try with_reducible rfl)
        rotate_right
        simp only [Act.put, List.setIfInBounds_toArray, List.set_cons_zero, List.set_cons_succ]
        refine wpAnyL_move (i := 14) (v := ?_) rfl rfl (by kernel_rfl) (fun _ _ _ h => h) (by rfl) (fun W => ?_) (by assumption) ?_
        rotate_left
        · go_simp
          (try with_reducible rfl)
        rotate_right
        simp only [Act.put, List.setIfInBounds_toArray, List.set_cons_zero, List.set_cons_succ]
        refine wpAnyL_take (i := 15) (v := ?_) rfl rfl (by kernel_rfl) (fun _ _ _ h => h) (by rfl) (fun W hW => ?_) (by assumption) ?_
        rotate_left
        · (try dsimp only at hW)
          go_simp
          (try with_reducible rfl)
        rotate_right
        simp only [Act.put, List.setIfInBounds_toArray, List.set_cons_zero, List.set_cons_succ]
        refine wpAnyL_move (i := 16) (v := ?_) rfl rfl (by kernel_rfl) (fun _ _ _ h => h) (by rfl) (fun W => ?_) (by assumption) ?_
        rotate_left
        · go_simp
          (try with_reducible rfl)
        rotate_right
        simp only [Act.put, List.setIfInBounds_toArray, List.set_cons_zero, List.set_cons_succ]
        refine wpAnyL_move (i := 17) (v := ?_) rfl rfl (by kernel_rfl) (fun _ _ _ h => h) (by rfl) (fun W => ?_) (by assumption) ?_
        rotate_left
        · go_simp
          (try with_reducible rfl)
        rotate_right
        simp only [Act.put, List.setIfInBounds_toArray, List.set_cons_zero, List.set_cons_succ]
        refine wpAnyL_one (i := 18) rfl rfl (by kernel_rfl) (by rfl) (fun K hK => ?_)
        go_simp
        refine (rn_need_yes _).mono ?_
        rintro e w6 ⟨rfl, rfl⟩
        refine hK.out _ _ HS5 ?_
        refine wpAnyL_end (by kernel_rfl) ?_
        clear hK K HS5
        go_wp2_with fail
        refine HTL.out.mono ?_
        rintro e w7 ⟨hC7, ⟨p2, c, A, l, h1, h2, h3, h4, rfl⟩ | ⟨h1, rfl⟩⟩
        · have hr : readPa wa ha ta bs = some (x.1, y.1, l, p2) := by
            rw [HRC.out, show rest = bs.drop 2 by rw [HBS.out]; rfl, h1]
            have := h3.2.1
            simp only [Option.map_some, List.length_drop]
            congr 4
            omega
          have HR := Lib.hid hr
          have H3 := Lib.hid h3
          have H4 := Lib.hid h4
          have HC7 := Lib.hid ((HC2.out.new (new_refl w2).drew).trans hC7)
          clear hr h1 h2 h3 h4 hC7 HTL
          go_wp2
          go_end0
          exact ⟨HC7.out, .inl ⟨_, _, l, p2, c, A, HR.out, H3.out, OwnC.mono H4.out HLE.out, rfl⟩⟩
        · exact ⟨rfl, (HC2.out.new (new_refl w2).drew).trans hC7, .inr ⟨by rw [HRC.out, show rest = bs.drop 2 by rw [HBS.out]; rfl, h1]; rfl, rfl⟩⟩
      · have d2 : (y.1 == ha) = false := by simpa using s2
        rw [if_neg (fun h => s2 h.2)] at hrc
        have HRC := Lib.hid hrc
        clear hrc s1 s2
        refine wp_region_L (fun w' => w'.cell? ⟨q, 0, none⟩ = some (.pointer (some ⟨g, 0, none⟩)) ∧ w'.cell? ⟨g, 0, none⟩ = some (.int .i64 x.1) ∧ w'.cell? ⟨g, 1, none⟩ = some (.int .i64 y.1) ∧ w'.cell? ⟨qa, 0, none⟩ = some (.int .i64 wa) ∧ w'.cell? ⟨qa, 1, none⟩ = some (.int .i64 ha)) [] (by kernel_rfl) ?_
        have HS5 : w2.drew.cell? ⟨q, 0, none⟩ = some (.pointer (some ⟨g, 0, none⟩)) ∧ w2.drew.cell? ⟨g, 0, none⟩ = some (.int .i64 x.1) ∧ w2.drew.cell? ⟨g, 1, none⟩ = some (.int .i64 y.1) ∧ w2.drew.cell? ⟨qa, 0, none⟩ = some (.int .i64 wa) ∧ w2.drew.cell? ⟨qa, 1, none⟩ = some (.int .i64 ha) := ⟨cq2, g20, g21, a20, a21⟩
        refine wpAnyL_take (i := 0) (v := ?_) rfl rfl (by kernel_rfl) (fun _ _ _ h => h) (by rfl) (fun W hW => ?_) (by assumption) ?_
        rotate_left
        · (try dsimp only at hW)
          go_simp
          (try with_reducible rfl)
        rotate_right
        simp only [Act.put, List.setIfInBounds_toArray, List.set_cons_zero, List.set_cons_succ]
        refine wpAnyL_move (i := 1) (v := ?_) rfl rfl (by kernel_rfl) (fun _ _ _ h => h) (by rfl) (fun W => ?_) (by assumption) ?_
        rotate_left
        · go_simp
          (try with_reducible rfl)
        rotate_right
        simp only [Act.put, List.setIfInBounds_toArray, List.set_cons_zero, List.set_cons_succ]
        refine wpAnyL_move (i := 2) (v := ?_) rfl rfl (by kernel_rfl) (fun _ _ _ h => h) (by rfl) (fun W => ?_) (by assumption) ?_
        rotate_left
        · go_simp
          (try with_reducible rfl)
        rotate_right
        simp only [Act.put, List.setIfInBounds_toArray, List.set_cons_zero, List.set_cons_succ]
        refine wpAnyL_move (i := 3) (v := ?_) rfl rfl (by kernel_rfl) (fun _ _ _ h => h) (by rfl) (fun W => ?_) (by assumption) ?_
        rotate_left
        · go_simp
          (try with_reducible rfl)
        rotate_right
        simp only [Act.put, List.setIfInBounds_toArray, List.set_cons_zero, List.set_cons_succ]
        refine wpAnyL_take (i := 4) (v := ?_) rfl rfl (by kernel_rfl) (fun _ _ _ h => h) (by rfl) (fun W hW => ?_) (by assumption) ?_
        rotate_left
        · (try dsimp only at hW)
          go_simp
          (try with_reducible rfl)
        rotate_right
        simp only [Act.put, List.setIfInBounds_toArray, List.set_cons_zero, List.set_cons_succ]
        refine wpAnyL_move (i := 5) (v := ?_) rfl rfl (by kernel_rfl) (fun _ _ _ h => h) (by rfl) (fun W => ?_) (by assumption) ?_
        rotate_left
        · go_simp
          (try with_reducible rfl)
        rotate_right
        simp only [Act.put, List.setIfInBounds_toArray, List.set_cons_zero, List.set_cons_succ]
        refine wpAnyL_take (i := 6) (v := ?_) rfl rfl (by kernel_rfl) (fun _ _ _ h => h) (by rfl) (fun W hW => ?_) (by assumption) ?_
        rotate_left
        · (try dsimp only at hW)
          go_simp
          (try with_reducible rfl)
        rotate_right
        simp only [Act.put, List.setIfInBounds_toArray, List.set_cons_zero, List.set_cons_succ]
        refine wpAnyL_move (i := 7) (v := ?_) rfl rfl (by kernel_rfl) (fun _ _ _ h => h) (by rfl) (fun W => ?_) (by assumption) ?_
        rotate_left
        · go_simp
          (try with_reducible rfl)
        rotate_right
        simp only [Act.put, List.setIfInBounds_toArray, List.set_cons_zero, List.set_cons_succ]
        refine wpAnyL_move (i := 8) (v := ?_) rfl rfl (by kernel_rfl) (fun _ _ _ h => h) (by rfl) (fun W => ?_) (by assumption) ?_
        rotate_left
        · go_simp
          (try with_reducible rfl)
        rotate_right
        simp only [Act.put, List.setIfInBounds_toArray, List.set_cons_zero, List.set_cons_succ]
        refine wpAnyL_take (i := 9) (v := ?_) rfl rfl (by kernel_rfl) (fun _ _ _ h => h) (by rfl) (fun W hW => ?_) (by assumption) ?_
        rotate_left
        · (try dsimp only at hW)
          go_simp
          (try with_reducible rfl)
        rotate_right
        simp only [Act.put, List.setIfInBounds_toArray, List.set_cons_zero, List.set_cons_succ]
        refine wpAnyL_move (i := 10) (v := ?_) rfl rfl (by kernel_rfl) (fun _ _ _ h => h) (by rfl) (fun W => ?_) (by assumption) ?_
        rotate_left
        · go_simp
          (try with_reducible rfl)
        rotate_right
        simp only [Act.put, List.setIfInBounds_toArray, List.set_cons_zero, List.set_cons_succ]
        refine wpAnyL_move (i := 11) (v := ?_) rfl rfl (by kernel_rfl) (fun _ _ _ h => h) (by rfl) (fun W => ?_) (by assumption) ?_
        rotate_left
        · go_simp
          (try with_reducible rfl)
        rotate_right
        simp only [Act.put, List.setIfInBounds_toArray, List.set_cons_zero, List.set_cons_succ]
        refine wpAnyL_move (i := 12) (v := ?_) rfl rfl (by kernel_rfl) (fun _ _ _ h => h) (by rfl) (fun W => ?_) (by assumption) ?_
        rotate_left
        · go_simp
          (try with_reducible rfl)
        rotate_right
        simp only [Act.put, List.setIfInBounds_toArray, List.set_cons_zero, List.set_cons_succ]
        refine wpAnyL_take (i := 13) (v := ?_) rfl rfl (by kernel_rfl) (fun _ _ _ h => h) (by rfl) (fun W hW => ?_) (by assumption) ?_
        rotate_left
        · (try dsimp only at hW)
          go_simp
          (try with_reducible rfl)
        rotate_right
        simp only [Act.put, List.setIfInBounds_toArray, List.set_cons_zero, List.set_cons_succ]
        refine wpAnyL_move (i := 14) (v := ?_) rfl rfl (by kernel_rfl) (fun _ _ _ h => h) (by rfl) (fun W => ?_) (by assumption) ?_
        rotate_left
        · go_simp
          (try with_reducible rfl)
        rotate_right
        simp only [Act.put, List.setIfInBounds_toArray, List.set_cons_zero, List.set_cons_succ]
        refine wpAnyL_take (i := 15) (v := ?_) rfl rfl (by kernel_rfl) (fun _ _ _ h => h) (by rfl) (fun W hW => ?_) (by assumption) ?_
        rotate_left
        · (try dsimp only at hW)
          go_simp
          (try with_reducible rfl)
        rotate_right
        simp only [Act.put, List.setIfInBounds_toArray, List.set_cons_zero, List.set_cons_succ]
        refine wpAnyL_move (i := 16) (v := ?_) rfl rfl (by kernel_rfl) (fun _ _ _ h => h) (by rfl) (fun W => ?_) (by assumption) ?_
        rotate_left
        · go_simp
          (try with_reducible rfl)
        rotate_right
        simp only [Act.put, List.setIfInBounds_toArray, List.set_cons_zero, List.set_cons_succ]
        refine wpAnyL_move (i := 17) (v := ?_) rfl rfl (by kernel_rfl) (fun _ _ _ h => h) (by rfl) (fun W => ?_) (by assumption) ?_
        rotate_left
        · go_simp
          (try with_reducible rfl)
        rotate_right
        simp only [Act.put, List.setIfInBounds_toArray, List.set_cons_zero, List.set_cons_succ]
        refine wpAnyL_one (i := 18) rfl rfl (by kernel_rfl) (by rfl) (fun K hK => ?_)
        go_simp
        refine (rn_need_no _).mono ?_
        rintro e w6 ⟨rfl, rfl⟩
        exact ⟨rfl, HC2.out.new (new_refl w2).drew, .inr ⟨HRC.out, rfl⟩⟩
    · have d1 : (x.1 == wa) = false := by simpa using s1
      rw [if_neg (fun h => s1 h.1)] at hrc
      have HRC := Lib.hid hrc
      clear hrc s1
      refine wp_region_L (fun w' => w'.cell? ⟨q, 0, none⟩ = some (.pointer (some ⟨g, 0, none⟩)) ∧ w'.cell? ⟨g, 0, none⟩ = some (.int .i64 x.1) ∧ w'.cell? ⟨g, 1, none⟩ = some (.int .i64 y.1) ∧ w'.cell? ⟨qa, 0, none⟩ = some (.int .i64 wa) ∧ w'.cell? ⟨qa, 1, none⟩ = some (.int .i64 ha)) [] (by kernel_rfl) ?_
      have HS5 : w2.drew.cell? ⟨q, 0, none⟩ = some (.pointer (some ⟨g, 0, none⟩)) ∧ w2.drew.cell? ⟨g, 0, none⟩ = some (.int .i64 x.1) ∧ w2.drew.cell? ⟨g, 1, none⟩ = some (.int .i64 y.1) ∧ w2.drew.cell? ⟨qa, 0, none⟩ = some (.int .i64 wa) ∧ w2.drew.cell? ⟨qa, 1, none⟩ = some (.int .i64 ha) := ⟨cq2, g20, g21, a20, a21⟩
      refine wpAnyL_take (i := 0) (v := ?_) rfl rfl (by kernel_rfl) (fun _ _ _ h => h) (by rfl) (fun W hW => ?_) (by assumption) ?_
      rotate_left
      · (try dsimp only at hW)
        go_simp
        (try with_reducible rfl)
      rotate_right
      simp only [Act.put, List.setIfInBounds_toArray, List.set_cons_zero, List.set_cons_succ]
      refine wpAnyL_move (i := 1) (v := ?_) rfl rfl (by kernel_rfl) (fun _ _ _ h => h) (by rfl) (fun W => ?_) (by assumption) ?_
      rotate_left
      · go_simp
        (try with_reducible rfl)
      rotate_right
      simp only [Act.put, List.setIfInBounds_toArray, List.set_cons_zero, List.set_cons_succ]
      refine wpAnyL_move (i := 2) (v := ?_) rfl rfl (by kernel_rfl) (fun _ _ _ h => h) (by rfl) (fun W => ?_) (by assumption) ?_
      rotate_left
      · go_simp
        (try with_reducible rfl)
      rotate_right
      simp only [Act.put, List.setIfInBounds_toArray, List.set_cons_zero, List.set_cons_succ]
      refine wpAnyL_move (i := 3) (v := ?_) rfl rfl (by kernel_rfl) (fun _ _ _ h => h) (by rfl) (fun W => ?_) (by assumption) ?_
      rotate_left
      · go_simp
        (try with_reducible rfl)
      rotate_right
      simp only [Act.put, List.setIfInBounds_toArray, List.set_cons_zero, List.set_cons_succ]
      refine wpAnyL_take (i := 4) (v := ?_) rfl rfl (by kernel_rfl) (fun _ _ _ h => h) (by rfl) (fun W hW => ?_) (by assumption) ?_
      rotate_left
      · (try dsimp only at hW)
        go_simp
        (try with_reducible rfl)
      rotate_right
      simp only [Act.put, List.setIfInBounds_toArray, List.set_cons_zero, List.set_cons_succ]
      refine wpAnyL_move (i := 5) (v := ?_) rfl rfl (by kernel_rfl) (fun _ _ _ h => h) (by rfl) (fun W => ?_) (by assumption) ?_
      rotate_left
      · go_simp
        (try with_reducible rfl)
      rotate_right
      simp only [Act.put, List.setIfInBounds_toArray, List.set_cons_zero, List.set_cons_succ]
      refine wpAnyL_take (i := 6) (v := ?_) rfl rfl (by kernel_rfl) (fun _ _ _ h => h) (by rfl) (fun W hW => ?_) (by assumption) ?_
      rotate_left
      · (try dsimp only at hW)
        go_simp
        (try with_reducible rfl)
      rotate_right
      simp only [Act.put, List.setIfInBounds_toArray, List.set_cons_zero, List.set_cons_succ]
      refine wpAnyL_move (i := 7) (v := ?_) rfl rfl (by kernel_rfl) (fun _ _ _ h => h) (by rfl) (fun W => ?_) (by assumption) ?_
      rotate_left
      · go_simp
        (try with_reducible rfl)
      rotate_right
      simp only [Act.put, List.setIfInBounds_toArray, List.set_cons_zero, List.set_cons_succ]
      refine wpAnyL_move (i := 8) (v := ?_) rfl rfl (by kernel_rfl) (fun _ _ _ h => h) (by rfl) (fun W => ?_) (by assumption) ?_
      rotate_left
      · go_simp
        (try with_reducible rfl)
      rotate_right
      simp only [Act.put, List.setIfInBounds_toArray, List.set_cons_zero, List.set_cons_succ]
      refine wpAnyL_pass (i := 9) rfl rfl (by kernel_rfl) (fun _ _ _ h => h) (by rfl) (by assumption) ?_
      simp only [Act.put, List.setIfInBounds_toArray, List.set_cons_zero, List.set_cons_succ]
      refine wpAnyL_pass (i := 10) rfl rfl (by kernel_rfl) (fun _ _ _ h => h) (by rfl) (by assumption) ?_
      simp only [Act.put, List.setIfInBounds_toArray, List.set_cons_zero, List.set_cons_succ]
      refine wpAnyL_pass (i := 11) rfl rfl (by kernel_rfl) (fun _ _ _ h => h) (by rfl) (by assumption) ?_
      simp only [Act.put, List.setIfInBounds_toArray, List.set_cons_zero, List.set_cons_succ]
      refine wpAnyL_pass (i := 12) rfl rfl (by kernel_rfl) (fun _ _ _ h => h) (by rfl) (by assumption) ?_
      simp only [Act.put, List.setIfInBounds_toArray, List.set_cons_zero, List.set_cons_succ]
      refine wpAnyL_pass (i := 13) rfl rfl (by kernel_rfl) (fun _ _ _ h => h) (by rfl) (by assumption) ?_
      simp only [Act.put, List.setIfInBounds_toArray, List.set_cons_zero, List.set_cons_succ]
      refine wpAnyL_pass (i := 14) rfl rfl (by kernel_rfl) (fun _ _ _ h => h) (by rfl) (by assumption) ?_
      simp only [Act.put, List.setIfInBounds_toArray, List.set_cons_zero, List.set_cons_succ]
      refine wpAnyL_pass (i := 15) rfl rfl (by kernel_rfl) (fun _ _ _ h => h) (by rfl) (by assumption) ?_
      simp only [Act.put, List.setIfInBounds_toArray, List.set_cons_zero, List.set_cons_succ]
      refine wpAnyL_pass (i := 16) rfl rfl (by kernel_rfl) (fun _ _ _ h => h) (by rfl) (by assumption) ?_
      simp only [Act.put, List.setIfInBounds_toArray, List.set_cons_zero, List.set_cons_succ]
      refine wpAnyL_move (i := 17) (v := ?_) rfl rfl (by kernel_rfl) (fun _ _ _ h => h) (by rfl) (fun W => ?_) (by assumption) ?_
      rotate_left
      · go_simp
        (try with_reducible rfl)
      rotate_right
      simp only [Act.put, List.setIfInBounds_toArray, List.set_cons_zero, List.set_cons_succ]
      refine wpAnyL_one (i := 18) rfl rfl (by kernel_rfl) (by rfl) (fun K hK => ?_)
      go_simp
      refine (rn_need_no _).mono ?_
      rintro e w6 ⟨rfl, rfl⟩
      exact ⟨rfl, HC2.out.new (new_refl w2).drew, .inr ⟨HRC.out, rfl⟩⟩
  · have HP := Lib.hid hp
    clear hp
    go_enter Try.func53, Try.ntmps53
    go_wp2_with fail
    refine HNX.out.mono ?_
    rintro e w1 ⟨hC1, ⟨hbad, _⟩ | ⟨_, rfl, _⟩⟩
    · exact absurd hbad (by have := HP.out; omega)
    exact ⟨rfl, hC1, .inr ⟨readPa_short _ _ _ (by have := HP.out; omega), rfl⟩⟩
end Go.Proofs.Ythihffglkheleaa
