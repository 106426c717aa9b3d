/- Contracts of runs: Canvas and Patch. -/
import Derived.Test.YthihffglkheleaaTj
set_option linter.unusedVariables false
set_option linter.unusedSimpArgs false
namespace Go.Proofs.Ythihffglkheleaa
open Go.RowKit

/-- A call that returns a new row and an error. -/
def OutSE (p : List U8 × Int) (w : World) (e : Ending) (w' : World) : Prop :=
  ∃ A c, e = .returned (.tuple #[.slice A p.1.length c, .int .i64 p.2]) ∧ New w w' ∧ Own e8 5 w.heap.size w' (.slice A p.1.length c) p.1
def canvI (wd hg : Int) (ts : List (List Col)) : List U8 × Int := if rightB wd hg ts.length = true then (canvB wd hg ZA ts, 0) else ([], 150)
theorem right_len (wd hg : Int) (n : Nat) (h : rightB wd hg n = true) : n ≤ 16 ∧ (n : Int) = wd * hg ∧ sizesB wd hg = true := by
  simp only [rightB, Bool.and_eq_true, decide_eq_true_eq] at h
  have := mul_small wd hg h.1
  exact ⟨by omega, h.2, h.1⟩
theorem Box3A (w : World) (wd hg : Int) (A : Option Addr) (n c : Nat) {b : Nat} (h : BoxA w b 43 #[.int .i64 wd, .int .i64 hg, .slice A n c]) :
    w.cell? ⟨b, 0, none⟩ = some (.int .i64 wd) ∧ w.cell? ⟨b, 1, none⟩ = some (.int .i64 hg) ∧ w.cell? ⟨b, 2, none⟩ = some (.slice A n c) := by
  refine ⟨?_, ?_, ?_⟩ <;> rw [h.cell] <;> rfl

set_option maxRecDepth 100000 in
set_option maxHeartbeats 4000000 in
theorem rn_Canvas (lo hi : Nat) (wd hg : Int) (A : Option Addr) (c : Nat) (ts : List (List Col)) (w : World) (hv : RdT lo hi w (.slice A ts.length c) ts) (hh : hi ≤ w.heap.size) :
    Calls Try.prog 19 #[vCv wd hg A ts.length c] w (OutSE (canvI wd hg ts) w) := by
  have hck := fun W => cv_Check wd hg A ts.length c W
  have hb := BoxA.new w 43 #[.int .i64 wd, .int .i64 hg, .slice A ts.length c]
  have hn := new_alloc w (.cells #[.int .i64 wd, .int .i64 hg, .slice A ts.length c] 43)
  have HB := Lib.hid hb
  have HN := Lib.hid hn
  have HV := Lib.hid hv
  have HH := Lib.hid hh
  clear hb hn hv hh
  cases hr : rightB wd hg ts.length with
  | false =>
    rw [show canvI wd hg ts = ([], 150) by rw [canvI, hr]; rfl]
    rw [hr] at hck
    have HCK := Lib.hid hck
    clear hck hr
    go_enter Try.func19, Try.ntmps19
    go_wp2_with (go_at_call 40; ((with_reducible refine (HCK.out _).mono ?_); rintro e w1 ⟨rfl, hN1⟩; have HN1 := Lib.hid (HN.out.trans hN1); clear hN1))
    go_ret2
    exact ⟨none, 0, rfl, HN1.out, Own.nil _ _ _ _⟩
  | true =>
    obtain ⟨hl, _, _⟩ := right_len wd hg ts.length hr
    rw [show canvI wd hg ts = (canvB wd hg ZA ts, 0) by rw [canvI, hr]; rfl]
    rw [hr] at hck
    have HCK := Lib.hid hck
    have HL := Lib.hid hl
    clear hck hr hl
    go_enter Try.func19, Try.ntmps19
    go_wp2_with (go_at_call 40; ((with_reducible refine (HCK.out _).mono ?_); rintro e w1 ⟨rfl, hN1⟩; have HN1 := Lib.hid (HN.out.trans hN1); have HB1 := Lib.hid (HB.out.later hN1); clear hN1))
    have hdr : New w1 w1.drew := Below.drew (new_refl _)
    have hnd := HN1.out.trans hdr
    obtain ⟨c0, c1, c2⟩ := Box3A _ _ _ _ _ _ (HB1.out.later hdr)
    obtain ⟨W2, hW2⟩ : ∃ W2, w1.drew.alloc (.cells #[.slice A ts.length c] 22) = W2 := ⟨_, rfl⟩
    have hbx : Box W2 w1.heap.size 22 (.slice A ts.length c) := by rw [← hW2]; exact Box.new w1.drew _ _
    have hn2 : New w1.drew W2 := by rw [← hW2]; exact new_alloc _ _
    obtain ⟨e0, e1, e2⟩ := Box3A _ _ _ _ _ _ ((HB1.out.later hdr).later hn2)
    have hv2 := (HV.out.new hnd).new hn2
    have hby := rn_bytesA lo hi wd hg A c ts w1.heap.size ZA W2 hv2 (by have := HH.out; have := hnd.size; have := hn2.size; omega)
      (fun W k hk hW => by rw [ZA_take ts k (by omega)]; exact rn_ahead1 lo hi _ ts w1.heap.size k W (hv2.new hW) (hbx.later hW) (by omega))
      (fun k => ZA_length (fun t ht => HV.out.2 t (List.mem_of_mem_take ht))) (by have := HL.out; omega)
    have HBY := Lib.hid hby
    have HN2 := Lib.hid (hnd.trans hn2)
    clear hby hv2 hn2 hbx hnd hdr
    generalize canvB wd hg ZA ts = bs at *
    go_region_held3 (fun w' => w'.cell? ⟨w.heap.size, 0, none⟩ = some (.int .i64 wd) ∧ w'.cell? ⟨w.heap.size, 1, none⟩ = some (.int .i64 hg) ∧ w'.cell? ⟨w.heap.size, 2, none⟩ = some (.slice A ts.length c))
      (first | exact ⟨c0, c1, c2⟩ | (rw [hW2]; exact ⟨e0, e1, e2⟩) | exact ⟨f0, f1, f2⟩ | assumption | go_keep)
      ((first
        | (go_at_call 42; ((with_reducible refine (rn_ahead _ _ _ _).mono ?_); rintro e w3 ⟨rfl, rfl⟩))
        | (go_at_call 41; ((try (rw [hW2])); (with_reducible refine HBY.out.mono ?_); rintro e w4 ⟨A4, c4, rfl, hN4, hO4⟩; have HN4 := Lib.hid (HN2.out.trans hN4); have HO4 := Lib.hid hO4; obtain ⟨f0, f1, f2⟩ : w4.cell? ⟨w.heap.size, 0, none⟩ = some (.int .i64 wd) ∧ w4.cell? ⟨w.heap.size, 1, none⟩ = some (.int .i64 hg) ∧ w4.cell? ⟨w.heap.size, 2, none⟩ = some (.slice A ts.length c) := (Box3A _ _ _ _ _ _ ((HB1.out.later (New.trans (Below.drew (new_refl _)) (by rw [← hW2]; exact new_alloc _ _))).later hN4)); clear hN4))))
    all_goals
      go_wp2
      go_ret2
      exact ⟨A4, c4, rfl, HN4.out, HO4.out.mono HN2.out.size⟩

/-- the patch from one canvas to another -/
def patchI (wa ha : Int) (ta : List (List Col)) (wb hb : Int) (tb : List (List Col)) : List U8 × Int :=
  if rightB wa ha ta.length = true then (if rightB wb hb tb.length = true then (if wa = wb ∧ ha = hb then (canvB wb hb (ZP ta) tb, 0) else ([], 2)) else ([], 150)) else ([], 150)

set_option maxRecDepth 100000 in
set_option maxHeartbeats 4000000 in
theorem rn_Patch (lo hi lo' hi' : Nat) (wa ha : Int) (A : Option Addr) (c : Nat) (ta : List (List Col)) (wb hb : Int) (B : Option Addr) (d : Nat) (tb : List (List Col)) (w : World) (hv : RdT lo hi w (.slice A ta.length c) ta) (hu : RdT lo' hi' w (.slice B tb.length d) tb) (hh' : hi' ≤ w.heap.size) :
    Calls Try.prog 23 #[vCv wa ha A ta.length c, vCv wb hb B tb.length d] w (OutSE (patchI wa ha ta wb hb tb) w) := by
  have hmf := hmf
  have hca := fun W => cv_Check wa ha A ta.length c W
  have hcb := fun W => cv_Check wb hb B tb.length d W
  have hA := (BoxA.new w 43 #[.int .i64 wa, .int .i64 ha, .slice A ta.length c]).later (new_alloc _ (.cells #[.int .i64 wb, .int .i64 hb, .slice B tb.length d] 43))
  have hB := BoxA.new (w.alloc (.cells #[.int .i64 wa, .int .i64 ha, .slice A ta.length c] 43)) 43 #[.int .i64 wb, .int .i64 hb, .slice B tb.length d]
  rw [World.size_alloc] at hB
  have hn := (new_alloc w (.cells #[.int .i64 wa, .int .i64 ha, .slice A ta.length c] 43)).alloc (.cells #[.int .i64 wb, .int .i64 hb, .slice B tb.length d] 43)
  have HA := Lib.hid hA
  have HB := Lib.hid hB
  have HN := Lib.hid hn
  have HV := Lib.hid hv
  have HU := Lib.hid hu
  have HH := Lib.hid hh'
  clear hA hB hn hv hu hh'
  cases hr : rightB wa ha ta.length with
  | false =>
    rw [show patchI wa ha ta wb hb tb = ([], 150) by rw [patchI, hr]; rfl]
    rw [hr] at hca
    have HCA := Lib.hid hca
    have HCB := Lib.hid hcb
    clear hca hcb hr
    go_enter Try.func23, Try.ntmps23
    go_wp2_with ((first
      | (go_at_call 40; (with_reducible refine (HCA.out _).mono ?_); rintro e w1 ⟨rfl, hN1⟩; have HN1 := Lib.hid (HN.out.trans hN1); obtain ⟨a0, a1, a2⟩ := Box3A _ _ _ _ _ _ (HA.out.later hN1); obtain ⟨b0, b1, b2⟩ := Box3A _ _ _ _ _ _ (HB.out.later hN1); have HA1 := Lib.hid (HA.out.later hN1); have HB1 := Lib.hid (HB.out.later hN1); clear hN1)
      | (go_at_call 40; (with_reducible refine (HCB.out _).mono ?_); rintro e w2 ⟨rfl, hN2⟩; have HN2 := Lib.hid (HN1.out.trans hN2); obtain ⟨a0, a1, a2⟩ := Box3A _ _ _ _ _ _ (HA1.out.later hN2); obtain ⟨b0, b1, b2⟩ := Box3A _ _ _ _ _ _ (HB1.out.later hN2); have HA2 := Lib.hid (HA1.out.later hN2); have HB2 := Lib.hid (HB1.out.later hN2); clear hN2)))
    go_ret2
    exact ⟨none, 0, rfl, HN1.out, Own.nil _ _ _ _⟩
  | true =>
    obtain ⟨hla, hma, _⟩ := right_len wa ha ta.length hr
    rw [hr] at hca
    have HCA := Lib.hid hca
    clear hca
    cases hs : rightB wb hb tb.length with
    | false =>
      rw [show patchI wa ha ta wb hb tb = ([], 150) by rw [patchI, hr, hs]; rfl]
      rw [hs] at hcb
      have HCB := Lib.hid hcb
      clear hcb hr hs hla hma
      go_enter Try.func23, Try.ntmps23
      go_wp2_with ((first
        | (go_at_call 40; (with_reducible refine (HCA.out _).mono ?_); rintro e w1 ⟨rfl, hN1⟩; have HN1 := Lib.hid (HN.out.trans hN1); obtain ⟨a0, a1, a2⟩ := Box3A _ _ _ _ _ _ (HA.out.later hN1); obtain ⟨b0, b1, b2⟩ := Box3A _ _ _ _ _ _ (HB.out.later hN1); have HA1 := Lib.hid (HA.out.later hN1); have HB1 := Lib.hid (HB.out.later hN1); clear hN1)
        | (go_at_call 40; (with_reducible refine (HCB.out _).mono ?_); rintro e w2 ⟨rfl, hN2⟩; have HN2 := Lib.hid (HN1.out.trans hN2); obtain ⟨a0, a1, a2⟩ := Box3A _ _ _ _ _ _ (HA1.out.later hN2); obtain ⟨b0, b1, b2⟩ := Box3A _ _ _ _ _ _ (HB1.out.later hN2); have HA2 := Lib.hid (HA1.out.later hN2); have HB2 := Lib.hid (HB1.out.later hN2); clear hN2)))
      go_ret2
      exact ⟨none, 0, rfl, HN2.out, Own.nil _ _ _ _⟩
    | true =>
      obtain ⟨hlb, hmb, _⟩ := right_len wb hb tb.length hs
      rw [hs] at hcb
      have HCB := Lib.hid hcb
      clear hcb
      by_cases hw : wa = wb
      · by_cases hg : ha = hb
        · have hq1 : (wa != wb) = false := by simpa using hw
          have hq2 : (ha != hb) = false := by simpa using hg
          rw [show patchI wa ha ta wb hb tb = (canvB wb hb (ZP ta) tb, 0) by rw [patchI, hr, hs, if_pos rfl, if_pos rfl, if_pos ⟨hw, hg⟩]]
          have HTL := Lib.hid (show tb.length = ta.length by rw [hw, hg] at hma; omega)
          have HLB := Lib.hid hlb
          clear hr hs hla hma hlb hmb hw hg
          go_enter Try.func23, Try.ntmps23
          go_wp2_with ((first
            | (go_at_call 40; (with_reducible refine (HCA.out _).mono ?_); rintro e w1 ⟨rfl, hN1⟩; have HN1 := Lib.hid (HN.out.trans hN1); obtain ⟨a0, a1, a2⟩ := Box3A _ _ _ _ _ _ (HA.out.later hN1); obtain ⟨b0, b1, b2⟩ := Box3A _ _ _ _ _ _ (HB.out.later hN1); have HA1 := Lib.hid (HA.out.later hN1); have HB1 := Lib.hid (HB.out.later hN1); clear hN1)
            | (go_at_call 40; (with_reducible refine (HCB.out _).mono ?_); rintro e w2 ⟨rfl, hN2⟩; have HN2 := Lib.hid (HN1.out.trans hN2); obtain ⟨a0, a1, a2⟩ := Box3A _ _ _ _ _ _ (HA1.out.later hN2); obtain ⟨b0, b1, b2⟩ := Box3A _ _ _ _ _ _ (HB1.out.later hN2); have HA2 := Lib.hid (HA1.out.later hN2); have HB2 := Lib.hid (HB1.out.later hN2); clear hN2)))
          have hby := rn_bytesP lo' hi' wb hb B d tb w.heap.size (ZP ta) w2 (HU.out.new HN2.out) (by have := HH.out; have := HN2.out.size; omega)
            (fun W k hk hW => by rw [ZP_take ta tb k (by omega)]; exact rn_Patch1 lo hi wa ha A c ta w.heap.size k W ((HV.out.new HN2.out).new hW) (HA2.out.later hW) (by have := HTL.out; omega))
            (fun k => ZP_length HV.out.2 _) (by have := HLB.out; omega)
          refine hby.mono ?_
          rintro e w3 ⟨A3, c3, rfl, hN3, hO3⟩
          have HN3 := Lib.hid (HN2.out.trans hN3)
          have HO3 := Lib.hid hO3
          clear hby hN3 hO3
          go_wp2
          go_ret2
          exact ⟨A3, c3, rfl, HN3.out, HO3.out.mono HN2.out.size⟩
        · have hq1 : (wa != wb) = false := by simpa using hw
          have hq2 : (ha != hb) = true := by simpa using hg
          rw [show patchI wa ha ta wb hb tb = ([], 2) by rw [patchI, hr, hs, if_pos rfl, if_pos rfl, if_neg (fun h => hg h.2)]]
          clear hr hs hla hma hlb hmb hw hg
          go_enter Try.func23, Try.ntmps23
          go_wp2_with ((first
            | (go_at_call 40; (with_reducible refine (HCA.out _).mono ?_); rintro e w1 ⟨rfl, hN1⟩; have HN1 := Lib.hid (HN.out.trans hN1); obtain ⟨a0, a1, a2⟩ := Box3A _ _ _ _ _ _ (HA.out.later hN1); obtain ⟨b0, b1, b2⟩ := Box3A _ _ _ _ _ _ (HB.out.later hN1); have HA1 := Lib.hid (HA.out.later hN1); have HB1 := Lib.hid (HB.out.later hN1); clear hN1)
            | (go_at_call 40; (with_reducible refine (HCB.out _).mono ?_); rintro e w2 ⟨rfl, hN2⟩; have HN2 := Lib.hid (HN1.out.trans hN2); obtain ⟨a0, a1, a2⟩ := Box3A _ _ _ _ _ _ (HA1.out.later hN2); obtain ⟨b0, b1, b2⟩ := Box3A _ _ _ _ _ _ (HB1.out.later hN2); have HA2 := Lib.hid (HA1.out.later hN2); have HB2 := Lib.hid (HB1.out.later hN2); clear hN2)))
          go_ret2
          exact ⟨none, 0, rfl, HN2.out, Own.nil _ _ _ _⟩
      · have hq1 : (wa != wb) = true := by simpa using hw
        rw [show patchI wa ha ta wb hb tb = ([], 2) by rw [patchI, hr, hs, if_pos rfl, if_pos rfl, if_neg (fun h => hw h.1)]]
        clear hr hs hla hma hlb hmb hw
        go_enter Try.func23, Try.ntmps23
        go_wp2_with ((first
          | (go_at_call 40; (with_reducible refine (HCA.out _).mono ?_); rintro e w1 ⟨rfl, hN1⟩; have HN1 := Lib.hid (HN.out.trans hN1); obtain ⟨a0, a1, a2⟩ := Box3A _ _ _ _ _ _ (HA.out.later hN1); obtain ⟨b0, b1, b2⟩ := Box3A _ _ _ _ _ _ (HB.out.later hN1); have HA1 := Lib.hid (HA.out.later hN1); have HB1 := Lib.hid (HB.out.later hN1); clear hN1)
          | (go_at_call 40; (with_reducible refine (HCB.out _).mono ?_); rintro e w2 ⟨rfl, hN2⟩; have HN2 := Lib.hid (HN1.out.trans hN2); obtain ⟨a0, a1, a2⟩ := Box3A _ _ _ _ _ _ (HA1.out.later hN2); obtain ⟨b0, b1, b2⟩ := Box3A _ _ _ _ _ _ (HB1.out.later hN2); have HA2 := Lib.hid (HA1.out.later hN2); have HB2 := Lib.hid (HB1.out.later hN2); clear hN2)))
        go_ret2
        exact ⟨none, 0, rfl, HN2.out, Own.nil _ _ _ _⟩
end Go.Proofs.Ythihffglkheleaa
