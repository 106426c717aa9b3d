/- Contracts of octet.Get, Part, Open, slices.Compare. -/
import Derived.Test.YtcbijmlkkdpheaaOf
set_option linter.unusedVariables false
set_option linter.unusedSimpArgs false
namespace Go.Proofs.Ytcbijmlkkdpheaa
open Go.RowKit

def getI (b : List U8) (at_ width : Int) : Res Int :=
  if isWB width = true then (if 0 ≤ at_ ∧ at_ ≤ b.length then (if width ≤ b.length - at_ then .ok (numI ((b.drop at_.toNat).take width.toNat)) else .no 110) else .no 2) else .no 111

set_option maxHeartbeats 1000000 in
theorem oc_Get1 (lo hi : Nat) (v : Value) (b : List U8) (at_ width : Int) (w : World) (p q r : Nat) (hv : Rd e8 lo hi w v b)
    (hp : Box w p 3 (.int .i64 width)) (hq : Box w q 3 (.int .i64 at_)) (hr : Box w r 22 v) :
    Calls Try.prog 49 #[.pointer (some ⟨p, 0, none⟩), .pointer (some ⟨q, 0, none⟩), .pointer (some ⟨r, 0, none⟩)] w (OutP (VN .u64) (getI b at_ width) w) := by
  obtain ⟨A, c, rfl, h1, h2⟩ := hv.form
  have hl := hv.len
  have HR := Lib.hid hv
  have cp := hp.cell
  have cq := hq.cell
  have cr := hr.cell
  clear hv hp hq hr
  by_cases g1 : isWB width = true
  · obtain ⟨w1, w2⟩ := (isWB_iff _).1 g1
    have G1 := Lib.hid g1
    clear g1
    by_cases g2 : 0 ≤ at_
    · by_cases g3 : at_ ≤ b.length
      · by_cases g4 : width ≤ b.length - at_
        · obtain ⟨A', hs, hR⟩ := slice_lh Try.underlying22 size_u8 HR.out .i64 .i64 at_ (at_ + width) g2 (by omega) (by omega)
          have hlen : (at_ + width).toNat - at_.toNat = width.toNat := by omega
          rw [hlen] at hR
          have HR2 := Lib.hid hR
          rw [hlen] at hs
          have g5 : at_ + width ≤ b.length := by omega
          clear hR hlen
          go_enter Try.func49, Try.ntmps49
          go_wp2_with (first | (go_at_call 51; refine (oc_is _ _).mono ?_; rw [G1.out]; rintro e w' ⟨rfl, rfl⟩) | (go_at_call 50; refine (oc_need_yes _ _).mono ?_; rintro e w' ⟨rfl, rfl⟩) | (go_at_call 52; refine (oc_number _ _ _ _ _ HR2.out).mono ?_; rintro e w' ⟨rfl, rfl⟩))
          go_ret
          exact .yes (by rw [getI, if_pos G1.out, if_pos ⟨g2, g3⟩, if_pos g4]) (new_refl _) rfl
        · have d4 : decide (width ≤ (b.length : Int) - at_) = false := decide_eq_false g4
          go_enter Try.func49, Try.ntmps49
          go_wp2_with (first | (go_at_call 51; refine (oc_is _ _).mono ?_; rw [G1.out]; rintro e w' ⟨rfl, rfl⟩) | (go_at_call 50; ((with_reducible refine (oc_need_yes _ _).mono ?_); rintro e w' ⟨rfl, rfl⟩)) | (go_at_call 50; ((with_reducible refine (oc_need_no _ _).mono ?_); rintro e w' ⟨rfl, rfl⟩)))
          exact ⟨rfl, .no (by rw [getI, if_pos G1.out, if_pos ⟨g2, g3⟩, if_neg (by omega)]) (new_refl _)⟩
      · have d4 : decide (at_ ≤ (b.length : Int)) = false := decide_eq_false g3
        go_enter Try.func49, Try.ntmps49
        go_wp2_with (first | (go_at_call 51; refine (oc_is _ _).mono ?_; rw [G1.out]; rintro e w' ⟨rfl, rfl⟩) | (go_at_call 50; ((with_reducible refine (oc_need_yes _ _).mono ?_); rintro e w' ⟨rfl, rfl⟩)) | (go_at_call 50; ((with_reducible refine (oc_need_no _ _).mono ?_); rintro e w' ⟨rfl, rfl⟩)))
        exact ⟨rfl, .no (by rw [getI, if_pos G1.out, if_neg (by omega)]) (new_refl _)⟩
    · have d4 : decide (0 ≤ at_) = false := decide_eq_false g2
      go_enter Try.func49, Try.ntmps49
      go_wp2_with (first | (go_at_call 51; refine (oc_is _ _).mono ?_; rw [G1.out]; rintro e w' ⟨rfl, rfl⟩) | (go_at_call 50; ((with_reducible refine (oc_need_yes _ _).mono ?_); rintro e w' ⟨rfl, rfl⟩)) | (go_at_call 50; ((with_reducible refine (oc_need_no _ _).mono ?_); rintro e w' ⟨rfl, rfl⟩)))
      exact ⟨rfl, .no (by rw [getI, if_pos G1.out, if_neg (by omega)]) (new_refl _)⟩
  · have G1 := Lib.hid (show isWB width = false by simpa using g1)
    clear g1
    go_enter Try.func49, Try.ntmps49
    go_wp2_with (first | (go_at_call 51; refine (oc_is _ _).mono ?_; rw [G1.out]; rintro e w' ⟨rfl, rfl⟩) | (go_at_call 50; ((with_reducible refine (oc_need_yes _ _).mono ?_); rintro e w' ⟨rfl, rfl⟩)) | (go_at_call 50; ((with_reducible refine (oc_need_no _ _).mono ?_); rintro e w' ⟨rfl, rfl⟩)))
    exact ⟨rfl, .no (by rw [getI, if_neg (by rw [G1.out]; simp)]) (new_refl _)⟩

/-- Get -/
theorem oc_Get (lo hi : Nat) (v : Value) (b : List U8) (at_ width : Int) (w : World) (hv : Rd e8 lo hi w v b) :
    Calls Try.prog 16 #[v, .int .i64 at_, .int .i64 width] w (OutT (.int .u64 0) (VN .u64) (getI b at_ width) w) := by
  obtain ⟨A, c, rfl, h1, h2⟩ := hv.form
  have hb1 := Box.new w 22 (.slice A b.length c)
  have hb2 := Box.new (w.alloc (.cells #[.slice A b.length c] 22)) 3 (.int .i64 at_)
  have hb3 := Box.new ((w.alloc (.cells #[.slice A b.length c] 22)).alloc (.cells #[.int .i64 at_] 3)) 3 (.int .i64 width)
  have hW0 : New w (((w.alloc (.cells #[.slice A b.length c] 22)).alloc (.cells #[.int .i64 at_] 3)).alloc (.cells #[.int .i64 width] 3)) := ((new_alloc w _).alloc _).alloc _
  simp only [World.size_alloc] at hb2 hb3
  have HR := Lib.hid (hv.new hW0)
  have HB1 := Lib.hid ((hb1.alloc (.cells #[.int .i64 at_] 3)).alloc (.cells #[.int .i64 width] 3))
  have HB2 := Lib.hid (hb2.alloc (.cells #[.int .i64 width] 3))
  have HB3 := Lib.hid hb3
  have HW := Lib.hid hW0
  have hmf := hmf
  clear hv hb1 hb2 hb3 hW0
  go_enter Try.func16, Try.ntmps16
  go_wp2_with fail
  refine (tr_u64_out (r := getI b at_ width) _ _ (fun _ => by rfl) _ (fun W hW => oc_Get1 lo hi _ b at_ width W _ _ _ (HR.out.new hW) (HB3.out.later hW) (HB2.out.later hW) (HB1.out.later hW))).mono ?_
  rintro e w'' ho
  obtain ⟨hn, ⟨a, v, hr, rfl, hv⟩ | ⟨x, hr, rfl⟩⟩ := ho.split
  · have HN2 := Lib.hid (HW.out.trans hn)
    obtain rfl : v = _ := hv
    clear hn
    go_wp2
    go_ret2
    exact .yes hr.out HN2.out rfl
  · have HN2 := Lib.hid (HW.out.trans hn)
    clear hn
    go_wp2
    go_ret2
    exact .no hr.out HN2.out

/-- a part's bytes -/
def partI (b p : List U8) : Res (List U8) := if 65535 < p.length then .no 3 else .ok (b ++ beI 2 p.length ++ p)

set_option maxHeartbeats 1000000 in
theorem oc_Part (lo hi lo' hi' : Nat) (v u : Value) (b p : List U8) (w : World) (hv : Rd e8 lo hi w v b) (hu : Rd e8 lo' hi' w u p) (hl : b.length ≤ 1099511627776) :
    Calls Try.prog 20 #[v, u] w (OutT (.slice none 0 0) (VO e8 5) (partI b p) w) := by
  obtain ⟨A, c, rfl, h1, h2⟩ := hv.form
  obtain ⟨B, d, rfl, h3, h4⟩ := hu.form
  have HV := Lib.hid hv
  have HU := Lib.hid hu
  have HL := Lib.hid hl
  clear hv hu hl
  by_cases hp : 65535 < p.length
  · have HP := Lib.hid hp
    have hp2 : (65535 : Int) < (p.length : Int) := by omega
    clear hp
    go_enter Try.func20, Try.ntmps20
    go_wp2
    go_ret2
    exact .no (by rw [partI, if_pos HP.out]) (new_refl _)
  · have HP := Lib.hid hp
    have hp2 : (p.length : Int) ≤ 65535 := by omega
    clear hp
    go_enter Try.func20, Try.ntmps20
    go_wp2_with fail
    refine (oc_laid 2 p.length w (by omega) (by omega) (by omega) (by omega) (.inr (by simp; omega))).mono ?_
    rintro e w1 ⟨v1, rfl, hN1, hR1⟩
    have hb : (beI (Int.toNat 2) (p.length : Int)).length ≤ 2 := by rw [beI_length]; exact Nat.le_refl _
    have hy : ∃ ys, Hid (ys = beI (Int.toNat 2) (p.length : Int)) := ⟨_, Lib.hid rfl⟩
    obtain ⟨ys, HY⟩ := hy
    rw [← HY.out] at hR1 hb
    obtain ⟨A1, c1, rfl, _, _⟩ := hR1.form
    have HN1 := Lib.hid hN1
    have HR1 := Lib.hid hR1
    clear hN1 hR1
    go_wp2_with fail
    refine (oc_behind lo hi _ _ _ _ b ys _ (HV.out.new HN1.out) HR1.out (by have := HL.out; omega)).mono ?_
    rintro e w2 ⟨A2, c2, rfl, hN2, hO2⟩
    have HN2 := Lib.hid (New.trans HN1.out hN2)
    have HO2 := Lib.hid (hO2.mono HN1.out.size)
    clear hN2 hO2
    go_wp2_with fail
    have hlen : (b ++ ys).length = b.length + ys.length := by simp
    have HR2 : Rd e8 w.heap.size w2.heap.size w2 (.slice A2 (b.length + ys.length) c2) (b ++ ys) := HO2.out.rd (Nat.le_refl _)
    rw [← hlen] at HR2
    have c8 := oc_behind _ _ lo' hi' (.slice A2 (b ++ ys).length c2) _ (b ++ ys) p w2 HR2 (HU.out.new HN2.out) (by have := HL.out; simp; omega)
    rw [hlen] at c8
    refine c8.mono ?_
    rintro e w3 ⟨A3, c3, rfl, hN3, hO3⟩
    have HN3 := Lib.hid (New.trans HN2.out hN3)
    have HO3 := Lib.hid (hO3.mono HN2.out.size)
    clear hN3 hO3 hlen HR2 c8
    go_wp2
    go_ret2
    exact .yes (by rw [partI, if_neg HP.out]) HN3.out ⟨A3, c3, by rw [← show (2 : Nat) = Int.toNat 2 from rfl] at HY; rw [← HY.out]; simp; omega, by rw [← show (2 : Nat) = Int.toNat 2 from rfl] at HY; rw [← HY.out]; exact HO3.out⟩
end Go.Proofs.Ytcbijmlkkdpheaa
