/- Contracts of the reader of runs: the functions that read a canvas, and a patch. -/
import Derived.Test.YthihffglkheleaaTr
set_option linter.unusedVariables false
set_option linter.unusedSimpArgs false
namespace Go.Proofs.Ythihffglkheleaa
open Go.RowKit

/-- The canvas with whose bytes others begin: sizes, tiles, how many bytes. -/
def readCv (bs : List U8) : Option (Int × Int × List (List Col) × Nat) :=
  match bs with
  | x :: y :: rest => if sizesB x.1 y.1 = true then (rdC ZA (x.1 * y.1).toNat [] rest).map fun q => (x.1, y.1, q.1, bs.length - q.2.length) else none
  | _ => none
/-- The canvas to which a patch goes with which bytes begin. -/
def readPa (wa ha : Int) (ta : List (List Col)) (bs : List U8) : Option (Int × Int × List (List Col) × Nat) :=
  match bs with
  | x :: y :: rest => if x.1 = wa ∧ y.1 = ha then (rdC (ZP ta) (wa * ha).toNat [] rest).map fun q => (x.1, y.1, q.1, bs.length - q.2.length) else none
  | _ => none
theorem readCv_short {bs : List U8} (h : bs.length < 2) : readCv bs = none := by
  match bs with
  | [] => rfl
  | [_] => rfl
  | x :: y :: r => simp at h; omega
theorem readPa_short {bs : List U8} (wa ha : Int) (ta : List (List Col)) (h : bs.length < 2) : readPa wa ha ta bs = none := by
  match bs with
  | [] => rfl
  | [_] => rfl
  | x :: y :: r => simp at h; omega
/-- What such a function comes to. -/
def RunsR (Z : Nat × Nat) (g : Nat) (bs : List U8) (r : Option (Int × Int × List (List Col) × Nat)) (w : World) (e : Ending) (w' : World) : Prop :=
  Chg (fun k => k = g) w w' ∧ ((∃ (wd hg : Int) (l : List (List Col)) (p2 c : Nat) (A : Option Addr), r = some (wd, hg, l, p2) ∧ IsRd Z w' g wd hg (.slice A l.length c) bs p2 ∧ OwnT w.heap.size w' (.slice A l.length c) l ∧ e = .returned (.tuple #[])) ∨ (r = none ∧ e = boomW))
theorem IsRd.setWH {Z : Nat × Nat} {w : World} {g : Nat} {wd hg : Int} {T : Value} {bs : List U8} {p : Nat} (h : IsRd Z w g wd hg T bs p) (wd' hg' : Int) : IsRd Z ((w.setCell ⟨g, 0, none⟩ (.int .i64 wd')).setCell ⟨g, 1, none⟩ (.int .i64 hg')) g wd' hg' T bs p := by
  obtain ⟨h1, hp, A, c, h2, h3⟩ := h
  refine ⟨h1, hp, A, c, ?_, h3.chg (((Chg.refl (fun k => k = g) w).setCell (p := ⟨g, 0, none⟩) (.inl rfl) _).setCell (p := ⟨g, 1, none⟩) (.inl rfl) _) (fun k h4 h5 => by omega)⟩
  have := (h2.set 0 (.int .i64 wd')).set 1 (.int .i64 hg')
  simpa using this
theorem ZA_all (done : List (List Col)) : ZA done = zA done done.length := by
  have := ZA_take done done.length (Nat.le_refl _)
  rwa [List.take_length] at this


set_option maxRecDepth 100000 in
set_option maxHeartbeats 4000000 in
theorem rn_RC1 (Z : Nat × Nat) (g q : Nat) (wd0 hg0 : Int) (bs : List U8) (w : World) (hq : Box w q 66 (.pointer (some ⟨g, 0, none⟩))) (hqg : q ≠ g) (hr : IsRd Z w g wd0 hg0 (.slice none 0 0) bs 0) (hl : bs.length ≤ 1099511627776) :
    Calls Try.prog 43 #[.pointer (some ⟨q, 0, none⟩)] w (RunsR Z g bs (readCv bs) w) := by
  have HR0 := Lib.hid hr
  have HL := Lib.hid hl
  have HQ := Lib.hid hq
  have HQG := Lib.hid hqg
  clear hr hl hq hqg
  have hmf := hmf
  have HNX := Lib.hid (rn_next Z g wd0 hg0 (.slice none 0 0) bs 0 2 w HR0.out HL.out (by omega))
  have cq := HQ.out.cell
  by_cases hp : 2 ≤ bs.length
  · obtain ⟨x, y, rest, hbs⟩ : ∃ x y rest, bs = x :: y :: rest := by
      match bs, hp with
      | x :: y :: rest, _ => exact ⟨x, y, rest, rfl⟩
    have HBS := Lib.hid hbs
    clear hp hbs
    go_enter Try.func43, Try.ntmps43
    go_wp2_with fail
    refine HNX.out.mono ?_
    rintro e w1 ⟨hC1, ⟨_, ⟨A1, rfl, hR1⟩, hI1⟩ | ⟨hbad, _⟩⟩
    rotate_left
    · rw [HBS.out] at hbad
      simp at hbad; omega
    rw [List.drop_zero, HBS.out, show (x :: y :: rest).take 2 = [x, y] from rfl] at hR1
    rw [Nat.zero_add] at hI1
    obtain ⟨b, off, c1, e1, hb1, hb2, _, _, _, hcell⟩ := hR1.at_ 0 (by simp)
    injection e1 with e1 e2 e3
    subst e1 e3
    have k0 := hcell 0 (by simp)
    have k1 := hcell 1 (by simp)
    simp only [List.getElem_cons_zero, List.getElem_cons_succ, Nat.add_zero] at k0 k1
    have HC1 := Lib.hid hC1
    have HI1 := Lib.hid hI1
    have cq1 := (HQ.out.chg hC1 HQG.out).cell
    have HQ1 := Lib.hid (HQ.out.chg hC1 HQG.out)
    have HBZ := Lib.hid (And.intro hb1 hb2)
    clear HNX hC1 hI1 hR1 e2 hcell hb1 hb2 cq
    go_wp2_with fail
    have HS3 : w1.drew.cell? ⟨q, 0, none⟩ = some (.pointer (some ⟨g, 0, none⟩)) ∧ w1.drew.cell? ⟨b, off, none⟩ = some (e8 x) ∧ w1.drew.cell? ⟨b, off + 1, none⟩ = some (e8 y) := ⟨cq1, k0, k1⟩
    have hwx : IntKind.i64.wrap x.1 = x.1 := by rw [IntKind.wrap_i64]; omega
    have hwy : IntKind.i64.wrap y.1 = y.1 := by rw [IntKind.wrap_i64]; omega
    refine wp_region_L (fun w' => w'.cell? ⟨q, 0, none⟩ = some (.pointer (some ⟨g, 0, none⟩)) ∧ w'.cell? ⟨b, off, none⟩ = some (e8 x) ∧ w'.cell? ⟨b, off + 1, none⟩ = some (e8 y)) [13] (by kernel_rfl) ?_
    refine wpAnyL_take (i := 0) (v := ?_) rfl rfl (by kernel_rfl) (fun _ _ _ h => h) (by rfl) (fun W hW => ?_) (by assumption) ?_
    rotate_left
    · (try dsimp only at hW)
      go_simp
      (try with_reducible rfl)
    rotate_right
    simp only [Act.put, List.setIfInBounds_toArray, List.set_cons_zero, List.set_cons_succ]
    refine wpAnyL_take (i := 1) (v := ?_) rfl rfl (by kernel_rfl) (fun _ _ _ h => h) (by rfl) (fun W hW => ?_) (by assumption) ?_
    rotate_left
    · (try dsimp only at hW)
      go_simp
      (try with_reducible rfl)
    rotate_right
    simp only [Act.put, List.setIfInBounds_toArray, List.set_cons_zero, List.set_cons_succ]
    refine wpAnyL_move (i := 2) (v := ?_) rfl rfl (by kernel_rfl) (fun _ _ _ h => h) (by rfl) (fun W => ?_) (by assumption) ?_
    rotate_left
    · go_simp
      (try with_reducible rfl)
    rotate_right
    simp only [Act.put, List.setIfInBounds_toArray, List.set_cons_zero, List.set_cons_succ]
    refine wpAnyL_move (i := 3) (v := ?_) rfl rfl (by kernel_rfl) (fun _ _ _ h => h) (by rfl) (fun W => ?_) (by assumption) ?_
    rotate_left
    · go_simp
      (try with_reducible rfl)
    rotate_right
    simp only [Act.put, List.setIfInBounds_toArray, List.set_cons_zero, List.set_cons_succ]
    refine wpAnyL_take (i := 4) (v := ?_) rfl rfl (by kernel_rfl) (fun _ _ _ h => h) (by rfl) (fun W hW => ?_) (by assumption) ?_
    rotate_left
    · (try dsimp only at hW)
      go_simp
      (try with_reducible rfl)
    rotate_right
    simp only [Act.put, List.setIfInBounds_toArray, List.set_cons_zero, List.set_cons_succ]
    refine wpAnyL_move (i := 5) (v := ?_) rfl rfl (by kernel_rfl) (fun _ _ _ h => h) (by rfl) (fun W => ?_) (by assumption) ?_
    rotate_left
    · go_simp
      (try with_reducible rfl)
    rotate_right
    simp only [Act.put, List.setIfInBounds_toArray, List.set_cons_zero, List.set_cons_succ]
    refine wpAnyL_move (i := 6) (v := ?_) rfl rfl (by kernel_rfl) (fun _ _ _ h => h) (by rfl) (fun W => ?_) (by assumption) ?_
    rotate_left
    · go_simp
      (try with_reducible rfl)
    rotate_right
    simp only [Act.put, List.setIfInBounds_toArray, List.set_cons_zero, List.set_cons_succ]
    refine wpAnyL_move (i := 7) (v := ?_) rfl rfl (by kernel_rfl) (fun _ _ _ h => h) (by rfl) (fun W => ?_) (by assumption) ?_
    rotate_left
    · go_simp
      (try with_reducible rfl)
    rotate_right
    simp only [Act.put, List.setIfInBounds_toArray, List.set_cons_zero, List.set_cons_succ]
    refine wpAnyL_take (i := 8) (v := ?_) rfl rfl (by kernel_rfl) (fun _ _ _ h => h) (by rfl) (fun W hW => ?_) (by assumption) ?_
    rotate_left
    · (try dsimp only at hW)
      go_simp
      (try with_reducible rfl)
    rotate_right
    simp only [Act.put, List.setIfInBounds_toArray, List.set_cons_zero, List.set_cons_succ]
    refine wpAnyL_move (i := 9) (v := ?_) rfl rfl (by kernel_rfl) (fun _ _ _ h => h) (by rfl) (fun W => ?_) (by assumption) ?_
    rotate_left
    · go_simp
      (try with_reducible rfl)
    rotate_right
    simp only [Act.put, List.setIfInBounds_toArray, List.set_cons_zero, List.set_cons_succ]
    refine wpAnyL_move (i := 10) (v := ?_) rfl rfl (by kernel_rfl) (fun _ _ _ h => h) (by rfl) (fun W => ?_) (by assumption) ?_
    rotate_left
    · go_simp
      (try with_reducible rfl)
    rotate_right
    simp only [Act.put, List.setIfInBounds_toArray, List.set_cons_zero, List.set_cons_succ]
    refine wpAnyL_move (i := 11) (v := ?_) rfl rfl (by kernel_rfl) (fun _ _ _ h => h) (by rfl) (fun W => ?_) (by assumption) ?_
    rotate_left
    · go_simp
      (try with_reducible rfl)
    rotate_right
    simp only [Act.put, List.setIfInBounds_toArray, List.set_cons_zero, List.set_cons_succ]
    refine wpAnyL_move (i := 12) (v := ?_) rfl rfl (by kernel_rfl) (fun _ _ _ h => h) (by rfl) (fun W => ?_) (by assumption) ?_
    rotate_left
    · go_simp
      (try with_reducible rfl)
    rotate_right
    simp only [Act.put, List.setIfInBounds_toArray, List.set_cons_zero, List.set_cons_succ]
    refine wpAnyL_tail 13 rfl rfl (by decide) (by kernel_rfl) ?_
    clear HS3
    obtain ⟨g0, g1, -, -, f1⟩ := HI1.out.cells
    have f10 := f1 0
    have f11 := f1 1
    have hqg := HQG.out
    have hgq : ¬ g = q := fun h => hqg h.symm
    have HI2 := Lib.hid ((HI1.out.new (new_refl w1).drew).setWH x.1 y.1)
    have HC2 : Hid (Chg (fun k => k = g) w ((w1.drew.setCell ⟨g, 0, none⟩ (.int .i64 x.1)).setCell ⟨g, 1, none⟩ (.int .i64 y.1))) := Lib.hid (((HC1.out.new (new_refl w1).drew).setCell (p := ⟨g, 0, none⟩) (.inl rfl) _).setCell (p := ⟨g, 1, none⟩) (.inl rfl) _)
    clear f1 k0 k1 hwx hwy
    have hrc : readCv bs = if sizesB x.1 y.1 = true then (rdC ZA (x.1 * y.1).toNat [] rest).map fun q => (x.1, y.1, q.1, bs.length - q.2.length) else none := by rw [HBS.out]; rfl
    by_cases s1 : 1 ≤ x.1
    · have d1 : decide (1 ≤ x.1) = true := by simpa using s1
      by_cases s2 : x.1 ≤ 4
      · have d2 : decide (x.1 ≤ 4) = true := by simpa using s2
        by_cases s3 : 1 ≤ y.1
        · have d3 : decide (1 ≤ y.1) = true := by simpa using s3
          by_cases s4 : y.1 ≤ 4
          · have d4 : decide (y.1 ≤ 4) = true := by simpa using s4
            have hs : sizesB x.1 y.1 = true := by simp [sizesB, s1, s2, s3, s4]
            rw [if_pos hs] at hrc
            obtain ⟨m1, m2⟩ := mul_small _ _ hs
            obtain ⟨n, hn⟩ : ∃ n, n = (x.1 * y.1).toNat := ⟨_, rfl⟩
            rw [← hn] at hrc
            have hn2 : x.1 * y.1 = (n : Int) := by omega
            have hn16 : n ≤ 16 := by omega
            have htl := rn_tilesA Z g q x.1 y.1 bs 2 n ZA _ HI2.out HL.out hn2 hn16
              (fun W done A c p' hC hI hO hlt => by
                rw [ZA_all done]
                exact rn_RC11 Z _ _ q g x.1 y.1 A c done bs p' done.length W ((HQ.out.chg HC2.out HQG.out).chg hC HQG.out) hI (OwnT.rdT hO (Nat.le_refl _)) (Nat.le_refl _))
              (fun done h => ZA_length h)
            have HTL := Lib.hid htl
            have HRC := Lib.hid hrc
            have HLE := Lib.hid HC2.out.size
            clear hs hn m1 m2 hn2 hn16 htl hrc s1 s2 s3 s4
            go_wp2_with (go_at_call 45; (with_reducible refine (rn_need_yes _).mono ?_); rintro e w6 ⟨rfl, rfl⟩)
            refine HTL.out.mono ?_
            rintro e w7 ⟨hC7, ⟨p2, c, A, l, h1, h2, h3, h4, rfl⟩ | ⟨h1, rfl⟩⟩
            · have hr : readCv bs = some (x.1, y.1, l, p2) := by
                rw [HRC.out, show rest = bs.drop 2 by rw [HBS.out]; rfl, h1]
                have := h3.2.1
                simp only [Option.map_some, List.length_drop]
                congr 4
                omega
              have HR := Lib.hid hr
              have H3 := Lib.hid h3
              have H4 := Lib.hid h4
              have HC7 := Lib.hid (HC2.out.trans hC7)
              clear hr h1 h2 h3 h4 hC7 HTL
              go_wp2
              go_end0
              exact ⟨HC7.out, .inl ⟨_, _, l, p2, c, A, HR.out, H3.out, OwnC.mono H4.out HLE.out, rfl⟩⟩
            · exact ⟨rfl, HC2.out.trans hC7, .inr ⟨by rw [HRC.out, show rest = bs.drop 2 by rw [HBS.out]; rfl, h1]; rfl, rfl⟩⟩
          · have d4 : decide (y.1 ≤ 4) = false := by simpa using s4
            rw [if_neg (by simp [sizesB, s4])] at hrc
            have HRC := Lib.hid hrc
            clear hrc
            (try clear s1)
            (try clear s2)
            (try clear s3)
            (try clear s4)
            go_wp2_with (go_at_call 45; (with_reducible refine (rn_need_no _).mono ?_); rintro e w6 ⟨rfl, rfl⟩)
            exact ⟨rfl, HC2.out, .inr ⟨HRC.out, rfl⟩⟩
        · have d3 : decide (1 ≤ y.1) = false := by simpa using s3
          rw [if_neg (by simp [sizesB, s3])] at hrc
          have HRC := Lib.hid hrc
          clear hrc
          (try clear s1)
          (try clear s2)
          (try clear s3)
          (try clear s4)
          go_wp2_with (go_at_call 45; (with_reducible refine (rn_need_no _).mono ?_); rintro e w6 ⟨rfl, rfl⟩)
          exact ⟨rfl, HC2.out, .inr ⟨HRC.out, rfl⟩⟩
      · have d2 : decide (x.1 ≤ 4) = false := by simpa using s2
        rw [if_neg (by simp [sizesB, s2])] at hrc
        have HRC := Lib.hid hrc
        clear hrc
        (try clear s1)
        (try clear s2)
        (try clear s3)
        (try clear s4)
        go_wp2_with (go_at_call 45; (with_reducible refine (rn_need_no _).mono ?_); rintro e w6 ⟨rfl, rfl⟩)
        exact ⟨rfl, HC2.out, .inr ⟨HRC.out, rfl⟩⟩
    · have d1 : decide (1 ≤ x.1) = false := by simpa using s1
      rw [if_neg (by simp [sizesB, s1])] at hrc
      have HRC := Lib.hid hrc
      clear hrc
      (try clear s1)
      (try clear s2)
      (try clear s3)
      (try clear s4)
      go_wp2_with (go_at_call 45; (with_reducible refine (rn_need_no _).mono ?_); rintro e w6 ⟨rfl, rfl⟩)
      exact ⟨rfl, HC2.out, .inr ⟨HRC.out, rfl⟩⟩
  · have HP := Lib.hid hp
    clear hp
    go_enter Try.func43, Try.ntmps43
    go_wp2_with fail
    refine HNX.out.mono ?_
    rintro e w1 ⟨hC1, ⟨hbad, _⟩ | ⟨_, rfl, _⟩⟩
    · exact absurd hbad (by have := HP.out; omega)
    exact ⟨rfl, hC1, .inr ⟨readCv_short (by have := HP.out; omega), rfl⟩⟩
end Go.Proofs.Ythihffglkheleaa
