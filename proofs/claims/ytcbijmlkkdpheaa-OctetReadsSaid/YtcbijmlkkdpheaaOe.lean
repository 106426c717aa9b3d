/- Contracts of octet.size, Size, Put. -/
import Derived.Test.YtcbijmlkkdpheaaOd
import Derived.Deep.RegionHeld3
import Derived.Deep.RegionWith
set_option linter.unusedVariables false
set_option linter.unusedSimpArgs false
namespace Go.Proofs.Ytcbijmlkkdpheaa
open Go.RowKit

def okW (x : I64) : Bool := isWB x.1
def sumW : List I64 → Int
  | [] => 0
  | x :: xs => x.1 + sumW xs
theorem sumW_append (xs ys : List I64) : sumW (xs ++ ys) = sumW xs + sumW ys := by
  induction xs with
  | nil => simp [sumW]
  | cons x xs ih => simp [sumW, ih]; omega
theorem sumW_bound (xs : List I64) (h : xs.all okW = true) : (xs.length : Int) ≤ sumW xs ∧ sumW xs ≤ 8 * xs.length := by
  induction xs with
  | nil => simp [sumW]
  | cons x xs ih =>
    simp only [List.all_cons, Bool.and_eq_true] at h
    have h1 := (isWB_iff _).1 h.1
    have := ih h.2
    simp [sumW]
    omega

def sizeI (xs : List I64) : Res Int := if xs.all okW = true then .ok (sumW xs) else .no 111
def laidI (width n : Int) : Res (List U8) := if isWB width = true then (if width = 8 ∨ n < 256 ^ width.toNat then .ok (beI width.toNat n) else .no 112) else .no 111
def putI (b : List U8) (width n : Int) : Res (List U8) := match laidI width n with | .ok xs => .ok (b ++ xs) | .no x => .no x
/-- a slice that is read -/
def VR {α : Type} (enc : α → Value) (w w' : World) (v : Value) (xs : List α) : Prop := ∃ A c, v = .slice A xs.length c ∧ Rd enc w.heap.size w'.heap.size w' v xs

theorem oc_laidP (width n : Int) (w : World) (hn : 0 ≤ n) (hn' : n ≤ 18446744073709551615) : Calls Try.prog 47 #[.int .i64 width, .int .u64 n] w (OutP (VR e8) (laidI width n) w) := by
  by_cases h : isWB width = true
  · have h1 := (isWB_iff _).1 h
    by_cases h2 : width = 8 ∨ n < 256 ^ width.toNat
    · refine (oc_laid width n w h1.1 h1.2 hn hn' h2).mono ?_
      rintro e w' ⟨v, rfl, hN, hR⟩
      obtain ⟨A, c, rfl, _⟩ := hR.form
      exact .yes (by rw [laidI, if_pos h, if_pos h2]) hN ⟨A, c, rfl, hR⟩
    · refine (oc_laid_big width n w h1.1 (by omega) hn (by omega)).mono ?_
      rintro e w' ⟨rfl, rfl⟩
      exact .no (by rw [laidI, if_pos h, if_neg h2]) (new_refl _)
  · refine (oc_laid_width width n w (fun h' => h ((isWB_iff _).2 h'))).mono ?_
    rintro e w' ⟨rfl, rfl⟩
    exact .no (by rw [laidI, if_neg h]) (new_refl _)

theorem oc_size (lo hi : Nat) (v : Value) (xs : List I64) (w : World) (hv : Rd ei lo hi w v xs) (hl : xs.length ≤ 140737488355328) :
    Calls Try.prog 58 #[v] w (fun e w' => w = w' ∧ OutP (VN .i64) (sizeI xs) w e w') := by
  obtain ⟨A, c, rfl, h1, h2⟩ := hv.form
  have HR := Lib.hid hv
  have HL := Lib.hid hl
  clear hv hl
  have hl : xs.length ≤ 9223372036854775807 := by omega
  go_enter Try.func58, Try.ntmps58
  go_wp2_with fail
  go_loop [3, 8, 5] (fun n i _ => ∃ k : Nat, k ≤ xs.length ∧ i = .int .i64 k ∧ n = .int .i64 (sumW (xs.take k)) ∧ Hid ((xs.take k).all okW = true)) (fun _ i _ => xs.length - (intOf i).toNat)
  case atStart => exact ⟨0, Nat.zero_le _, rfl, rfl, by show _ = _; simp⟩
  case round =>
    obtain ⟨k, hk, rfl, rfl, HA⟩ := hrel
    by_cases hlt : k < xs.length
    · obtain ⟨b, off, c', e, hb1, hb2, hb3, hc1, hc2, hc⟩ := HR.out.at_ k hlt
      injection e with e1 e2 e3
      subst e1
      have hcell := hc k hlt
      clear hc e2 e3
      have hs := sumW_bound _ HA.out
      have hs2 : 0 ≤ sumW (xs.take k) ∧ sumW (xs.take k) ≤ 1125899906842624 := by
        have := HL.out
        have h3 : (xs.take k).length ≤ xs.length := by simp; omega
        omega
      clear hs
      go_wp2_with (go_at_call 51; refine (oc_is _ _).mono ?_; rintro e w' ⟨rfl, rfl⟩)
      by_cases hok : 1 ≤ xs[k].1 ∧ xs[k].1 ≤ 8
      · have hd : isWB xs[k].1 = true := (isWB_iff _).2 hok
        rw [hd]
        refine (oc_need_yes _ _).mono ?_
        rintro e w' ⟨rfl, rfl⟩
        obtain ⟨hok1, hok2⟩ := hok
        go_wp2
        go_round
        case rel => exact ⟨k + 1, by omega, by go_num, by rw [take_snoc _ _ hlt, sumW_append]; simp [sumW], by show _ = _; rw [take_snoc _ _ hlt, List.all_append, HA.out]; simpa [okW] using (isWB_iff _).2 ⟨hok1, hok2⟩⟩
        case measure => simp [intOf]; omega
      · have hd : isWB xs[k].1 = false := (isWB_not _).2 hok
        rw [hd]
        refine (oc_need_no _ _).mono ?_
        rintro e w' ⟨rfl, rfl⟩
        have hn : ¬ (xs.all okW = true) := by
          intro h
          rw [List.all_eq_true] at h
          exact hok ((isWB_iff _).1 (h xs[k] (List.getElem_mem _)))
        exact ⟨rfl, rfl, .no (by rw [sizeI, if_neg hn]) (new_refl _)⟩
    · go_wp2
      go_ret
      have hk' : k = xs.length := by omega
      subst hk'
      have h := HA.out
      rw [List.take_length] at h
      exact ⟨rfl, .yes (by rw [sizeI, if_pos h]) (new_refl _) (by simp [VN])⟩

theorem oc_size_yes (lo hi : Nat) (v : Value) (xs : List I64) (w : World) (hv : Rd ei lo hi w v xs) (hl : xs.length ≤ 140737488355328) (h : xs.all okW = true) :
    Calls Try.prog 58 #[v] w (fun e w' => e = .returned (.int .i64 (sumW xs)) ∧ w = w') := by
  refine (oc_size lo hi v xs w hv hl).mono ?_
  rintro e w' ⟨rfl, ho⟩
  rw [sizeI, if_pos h] at ho
  obtain ⟨_, v, he, hv⟩ := ho
  obtain rfl : v = _ := hv
  exact ⟨he, rfl⟩
theorem oc_size_no (lo hi : Nat) (v : Value) (xs : List I64) (w : World) (hv : Rd ei lo hi w v xs) (hl : xs.length ≤ 140737488355328) (h : ¬ xs.all okW = true) :
    Calls Try.prog 58 #[v] w (fun e w' => e = boom 111 ∧ w = w') := by
  refine (oc_size lo hi v xs w hv hl).mono ?_
  rintro e w' ⟨rfl, ho⟩
  rw [sizeI, if_neg h] at ho
  exact ⟨ho.2, rfl⟩

theorem oc_Size1 (lo hi : Nat) (v : Value) (xs : List I64) (w : World) (p : Addr) (hv : Rd ei lo hi w v xs) (hl : xs.length ≤ 140737488355328) (hp : w.cell? p = some v) :
    Calls Try.prog 57 #[.pointer (some p)] w (OutP (VN .i64) (sizeI xs) w) := by
  obtain ⟨A, c, rfl, h1, h2⟩ := hv.form
  have HR := Lib.hid hv
  have HL := Lib.hid hl
  clear hv hl
  go_enter Try.func57, Try.ntmps57
  go_wp2_with fail
  refine (oc_size _ _ _ xs _ HR.out HL.out).mono ?_
  rintro e w' ⟨_, ho⟩
  obtain ⟨hn, ⟨a, v, hr, rfl, hv⟩ | ⟨x, hr, rfl⟩⟩ := ho.split
  · have HN := Lib.hid hn
    clear hn
    obtain rfl : v = _ := hv
    go_wp2
    go_ret
    exact .yes hr.out HN.out rfl
  · exact ⟨rfl, .no hr.out hn⟩

/-- Size -/
theorem oc_Size (lo hi : Nat) (v : Value) (xs : List I64) (w : World) (hv : Rd ei lo hi w v xs) (hl : xs.length ≤ 140737488355328) :
    Calls Try.prog 27 #[v] w (OutT (.int .i64 0) (VN .i64) (sizeI xs) w) := by
  obtain ⟨A, c, rfl, h1, h2⟩ := hv.form
  have HR := Lib.hid hv
  have HL := Lib.hid hl
  clear hv hl
  have hmf : ∀ (fn : Fn) (first cap : Array Value) (w : World), (Instr.makeFunc fn first cap).run Try.prog w = .ok (.func fn first cap) w := fun _ _ _ _ => rfl
  have hb := Box.new w 50 (.slice A xs.length c)
  have hn := new_alloc w (.cells #[.slice A xs.length c] 50)
  have HB := Lib.hid hb
  have HN := Lib.hid hn
  clear hb hn
  go_enter Try.func27, Try.ntmps27
  go_wp2_with fail
  refine (tr_int_out (r := sizeI xs) _ _ (fun _ => by rfl) _ (fun W hW => oc_Size1 lo hi _ xs W _ (HR.out.new (HN.out.trans hW)) HL.out (HB.out.later hW).cell)).mono ?_
  rintro e w'' ho
  obtain ⟨hn, ⟨a, v, hr, rfl, hv⟩ | ⟨x, hr, rfl⟩⟩ := ho.split
  · have HN2 := Lib.hid (HN.out.trans hn)
    clear hn
    obtain rfl : v = _ := hv
    go_wp2
    go_ret2
    exact .yes hr.out HN2.out rfl
  · have HN2 := Lib.hid (HN.out.trans hn)
    clear hn
    go_wp2
    go_ret2
    exact .no hr.out HN2.out
end Go.Proofs.Ytcbijmlkkdpheaa
