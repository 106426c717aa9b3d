/- Contracts of octet.Put, Get, Part. -/
import Derived.Test.YtcbijmlkkdpheaaOe
set_option linter.unusedVariables false
set_option linter.unusedSimpArgs false
namespace Go.Proofs.Ytcbijmlkkdpheaa
open Go.RowKit

theorem with_true {p : Prop} (h : p) (_ : True) : p := h

set_option maxHeartbeats 1000000 in
theorem oc_Put1 (lo hi : Nat) (v : Value) (b : List U8) (width n : Int) (w : World) (p q r : Nat) (hv : Rd e8 lo hi w v b) (hl : b.length + 8 ≤ 140737488355328) (hn : 0 ≤ n) (hn' : n ≤ 18446744073709551615)
    (hp : Box w p 22 v) (hq : Box w q 3 (.int .i64 width)) (hr : Box w r 26 (.int .u64 n)) :
    Calls Try.prog 45 #[.pointer (some ⟨p, 0, none⟩), .pointer (some ⟨q, 0, none⟩), .pointer (some ⟨r, 0, none⟩)] w (OutP (VO e8 5) (putI b width n) w) := by
  obtain ⟨A, c, rfl, h1, h2⟩ := hv.form
  have HR := Lib.hid hv
  have HL := Lib.hid hl
  have HP := Lib.hid hp
  have HN := Lib.hid hn'
  have cp := hp.cell
  have cq := hq.cell
  have cr := hr.cell
  clear hv hl hn' hp hq hr
  have HC := Lib.hid (fun W => oc_laidP width n W hn HN.out)
  have hpi : putI b width n = match laidI width n with | .ok xs => .ok (b ++ xs) | .no x => .no x := rfl
  rw [hpi]
  clear hpi
  have hx : ∀ xs, laidI width n = .ok xs → xs.length ≤ 8 := by
    intro xs h
    by_cases h1 : isWB width = true
    · have := (isWB_iff _).1 h1
      rw [laidI, if_pos h1] at h
      by_cases h2 : width = 8 ∨ n < 256 ^ width.toNat
      · rw [if_pos h2] at h
        injection h with h
        rw [← h, beI_length]
        omega
      · rw [if_neg h2] at h
        cases h
    · rw [laidI, if_neg h1] at h
      cases h
  generalize laidI width n = R at HC hx
  rcases R with xs | x
  · have hcc : ∀ W, Calls Try.prog 47 #[.int .i64 width, .int .u64 n] W fun e w' => ∃ A c, e = .returned (.slice A xs.length c) ∧ New W w' ∧ Rd e8 W.heap.size w'.heap.size w' (.slice A xs.length c) xs := fun W => (HC.out W).mono fun e w' h => by
      obtain ⟨hn, v, rfl, A, c, rfl, hr⟩ := h
      exact ⟨A, c, rfl, hn, hr⟩
    have HD := Lib.hid hcc
    clear hcc HC
    go_enter Try.func45, Try.ntmps45
    go_wp2_with fail
    go_region_held3 (fun w' => w'.cell? ⟨p, 0, none⟩ = some (.slice A b.length c) ∧ w'.cell? ⟨q, 0, none⟩ = some (.int .i64 width) ∧ w'.cell? ⟨r, 0, none⟩ = some (.int .u64 n) ∧ New w w')
      (first | exact ⟨cp, cq, cr, Below.drew (new_refl w)⟩ | (go_split_ands; exact ⟨cell_later hN2 (by assumption), cell_later hN2 (by assumption), cell_later hN2 (by assumption), New.trans (by assumption) hN2⟩) | (go_split_ands; exact ⟨cell_later hN1 (by assumption), cell_later hN1 (by assumption), cell_later hN1 (by assumption), New.trans (by assumption) hN1⟩) | go_keep)
      ((first | (go_at_call 47; refine (HD.out _).mono ?_; rintro e w1 ⟨A1, c1, rfl, hN1, hR1⟩) | (go_at_call 46; refine (oc_behind lo hi _ _ _ _ b xs _ (HR.out.new (Below.trans (Below.drew (new_refl w)) hN1)) hR1 (by have := HL.out; have := hx xs rfl; omega)).mono ?_; rintro e w2 ⟨A2, c2, rfl, hN2, hO2⟩)))
    go_split_ands
    have hn2 : New w w2 := by assumption
    have hs : w.heap.size ≤ w1.heap.size := hN1.size
    have HO := Lib.hid hO2
    have HN3 := Lib.hid hn2
    clear hO2 hn2 hN1 hR1 hN2
    go_wp2
    go_ret
    exact .yes rfl HN3.out ⟨A2, c2, by simp, HO.out.mono hs⟩
  · have hcc : ∀ W, Calls Try.prog 47 #[.int .i64 width, .int .u64 n] W fun e w' => e = boom x ∧ New W w' := fun W => (HC.out W).mono fun e w' h => ⟨h.2, h.1⟩
    have HD := Lib.hid hcc
    clear hcc HC hx
    go_enter Try.func45, Try.ntmps45
    go_wp2_with fail
    refine wp_region_held_drew (S := fun w' => w'.cell? ⟨p, 0, none⟩ = some (.slice A b.length c) ∧ w'.cell? ⟨q, 0, none⟩ = some (.int .i64 width) ∧ w'.cell? ⟨r, 0, none⟩ = some (.int .u64 n)) rfl ⟨cp, cq, cr⟩ (fun hS => ?_)
    refine wpAnyH_take (i := 0) (v := .slice A b.length c) rfl (by kernel_rfl) (by kernel_rfl) (by kernel_rfl) (fun _ _ _ h => h) (.inl ⟨rfl, fun w h => by simp [go_sem, h.1]⟩) hS ?_
    refine wpAnyH_take (i := 1) (v := .int .i64 width) rfl (by kernel_rfl) (by kernel_rfl) (by kernel_rfl) (fun _ _ _ h => h) (.inl ⟨rfl, fun w h => by simp [go_sem, h.2.1]⟩) hS ?_
    refine wpAnyH_take (i := 2) (v := .int .u64 n) rfl (by kernel_rfl) (by kernel_rfl) (by kernel_rfl) (fun _ _ _ h => h) (.inl ⟨rfl, fun w h => by simp [go_sem, h.2.2]⟩) hS ?_
    refine wpAnyH_ready (rs := [3]) (by kernel_rfl) (by simp) (AllReadyH.cons rfl (fun K' hK => ?_) AllReadyH.nil)
    rw [if_pos (by rfl)]
    clear hK
    go_simp
    refine (HD.out _).mono ?_
    rintro e w1 ⟨rfl, hN1⟩
    exact ⟨rfl, .no rfl (Below.trans (Below.drew (new_refl w)) hN1)⟩

theorem hmf : ∀ (fn : Fn) (first cap : Array Value) (w : World), (Instr.makeFunc fn first cap).run Try.prog w = .ok (.func fn first cap) w := fun _ _ _ _ => rfl

/-- Put -/
theorem oc_Put (lo hi : Nat) (v : Value) (b : List U8) (width n : Int) (w : World) (hv : Rd e8 lo hi w v b) (hl : b.length + 8 ≤ 140737488355328) (hn : 0 ≤ n) (hn' : n ≤ 18446744073709551615) :
    Calls Try.prog 11 #[v, .int .i64 width, .int .u64 n] w (OutT (.slice none 0 0) (VO e8 5) (putI b width n) w) := by
  obtain ⟨A, c, rfl, h1, h2⟩ := hv.form
  have HL := Lib.hid hl
  have HN := Lib.hid hn'
  have hb1 := Box.new w 22 (.slice A b.length c)
  have hb2 := Box.new (w.alloc (.cells #[.slice A b.length c] 22)) 3 (.int .i64 width)
  have hb3 := Box.new ((w.alloc (.cells #[.slice A b.length c] 22)).alloc (.cells #[.int .i64 width] 3)) 26 (.int .u64 n)
  have hW0 : New w (((w.alloc (.cells #[.slice A b.length c] 22)).alloc (.cells #[.int .i64 width] 3)).alloc (.cells #[.int .u64 n] 26)) := ((new_alloc w _).alloc _).alloc _
  simp only [World.size_alloc] at hb2 hb3
  have HR := Lib.hid (hv.new hW0)
  have HB1 := Lib.hid ((hb1.alloc (.cells #[.int .i64 width] 3)).alloc (.cells #[.int .u64 n] 26))
  have HB2 := Lib.hid (hb2.alloc (.cells #[.int .u64 n] 26))
  have HB3 := Lib.hid hb3
  have HW := Lib.hid hW0
  have hmf := hmf
  clear hv hl hn' hb1 hb2 hb3 hW0
  go_enter Try.func11, Try.ntmps11
  go_wp2_with fail
  refine (tr_bytes_out (r := putI b width n) _ _ (fun _ => by rfl) _ (fun W hW => oc_Put1 lo hi _ b width n W _ _ _ (HR.out.new hW) HL.out hn HN.out (HB1.out.later hW) (HB2.out.later hW) (HB3.out.later hW))).mono ?_
  rintro e w'' ho
  obtain ⟨hn, ⟨a, v, hr, rfl, hv⟩ | ⟨x, hr, rfl⟩⟩ := ho.split
  · have HN2 := Lib.hid (HW.out.trans hn)
    obtain ⟨A', c', rfl, ho⟩ := hv
    have HO := Lib.hid (ho.mono HW.out.size)
    clear hn ho
    go_wp2
    go_ret2
    exact .yes hr.out HN2.out ⟨_, _, rfl, HO.out⟩
  · have HN2 := Lib.hid (HW.out.trans hn)
    clear hn
    go_wp2
    go_ret2
    exact .no hr.out HN2.out
end Go.Proofs.Ytcbijmlkkdpheaa
