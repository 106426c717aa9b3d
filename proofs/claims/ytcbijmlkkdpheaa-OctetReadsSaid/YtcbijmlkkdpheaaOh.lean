/- Contracts of octet.Open and of what readers read. -/
import Derived.Test.YtcbijmlkkdpheaaOg
import Derived.StillTailTactics
set_option linter.unusedVariables false
set_option linter.unusedSimpArgs false
namespace Go.Proofs.Ytcbijmlkkdpheaa
open Go.RowKit

/-- The reader at block g has xs left, and failed with the number f. -/
def IsR (Z : Nat × Nat) (w : World) (g : Nat) (xs : List U8) (f : Int) : Prop := Z.2 ≤ g ∧ ∃ A c, w.heap[g]? = some (.cells #[.slice A xs.length c, .int .i64 f] 88 (0, 0)) ∧ Rd e8 Z.1 Z.2 w (.slice A xs.length c) xs
theorem IsR.lt {Z : Nat × Nat} {w : World} {g : Nat} {xs : List U8} {f : Int} (h : IsR Z w g xs f) : g < w.heap.size := by
  obtain ⟨hz, A, c, h, _⟩ := h
  exact (Array.getElem?_eq_some_iff.1 h).1
theorem IsR.le {Z : Nat × Nat} {w : World} {g : Nat} {xs : List U8} {f : Int} (h : IsR Z w g xs f) : Z.2 ≤ g := h.1
theorem IsR.chg' {Z : Nat × Nat} {w w' : World} {g : Nat} {xs : List U8} {f : Int} {M : Nat → Prop} (h : IsR Z w g xs f) (hc : Chg M w w') (hm : ∀ k, (Z.1 ≤ k ∧ k < Z.2) ∨ k = g → ¬ M k) : IsR Z w' g xs f := by
  have hl := h.lt
  obtain ⟨hz, A, c, h, hr⟩ := h
  exact ⟨hz, A, c, (hc.block g hl (hm g (.inr rfl))).trans h, hr.chg hc (fun k h1 h2 => hm k (.inl ⟨h1, h2⟩))⟩
theorem IsR.chg {Z : Nat × Nat} {w w' : World} {g : Nat} {xs : List U8} {f : Int} {M : Nat → Prop} (h : IsR Z w g xs f) (hc : Chg M w w') (hm : ∀ k, k ≤ g → ¬ M k) : IsR Z w' g xs f :=
  h.chg' hc (fun k hk => hm k (by have := h.le; omega))
theorem IsR.new {Z : Nat × Nat} {w w' : World} {g : Nat} {xs : List U8} {f : Int} (h : IsR Z w g xs f) (hc : New w w') : IsR Z w' g xs f := h.chg (hc.chg (fun _ => False)) (fun _ _ h => h)
theorem IsR.cells {Z : Nat × Nat} {w : World} {g : Nat} {xs : List U8} {f : Int} (h : IsR Z w g xs f) : ∃ A c, w.cell? ⟨g, 0, none⟩ = some (.slice A xs.length c) ∧ w.cell? ⟨g, 1, none⟩ = some (.int .i64 f) ∧ (∀ o, w.frozen? ⟨g, o, none⟩ = false) ∧ Rd e8 Z.1 Z.2 w (.slice A xs.length c) xs := by
  obtain ⟨hz, A, c, h, hr⟩ := h
  exact ⟨A, c, by simp [World.cell?, h], by simp [World.cell?, h], fun o => by simp [World.frozen?, h], hr⟩

theorem IsR.set {Z : Nat × Nat} {w : World} {g : Nat} {xs ys : List U8} {f : Int} (h : IsR Z w g xs f) {A : Option Addr} {n c : Nat} (hn : n = ys.length) (hr : Rd e8 Z.1 Z.2 w (.slice A n c) ys) : IsR Z (w.setCell ⟨g, 0, none⟩ (.slice A n c)) g ys f := by
  have hl := h.lt
  obtain ⟨hz, A0, c0, h, _⟩ := h
  subst hn
  refine ⟨hz, A, c, ?_, hr.keep (fun k _ hk _ => Below.heap_setCell _ _ _ _ (by simp; omega)) (by simp [World.setCell])⟩
  rw [Array.getElem?_eq_getElem hl] at h
  simp only [World.setCell, Array.getElem?_modify, if_true]
  rw [Array.getElem?_eq_getElem hl]
  injection h with h
  simp [h]

/-- Open -/
theorem oc_Open (lo hi : Nat) (v : Value) (b : List U8) (w : World) (hv : Rd e8 lo hi w v b) :
    Calls Try.prog 21 #[v] w fun e w' => New w w' ∧ ((1048576 < b.length ∧ e = .returned (.tuple #[.pointer none, .int .i64 3])) ∨ (b.length ≤ 1048576 ∧ ∃ g Z, w.heap.size ≤ Z.1 ∧ w.heap.size ≤ g ∧ e = .returned (.tuple #[.pointer (some ⟨g, 0, none⟩), .int .i64 0]) ∧ IsR Z w' g b 0)) := by
  obtain ⟨A, c, rfl, h1, h2⟩ := hv.form
  have HV := Lib.hid hv
  clear hv
  by_cases hb : 1048576 < b.length
  · have hb2 : (1048576 : Int) < (b.length : Int) := by omega
    have HB := Lib.hid hb
    clear hb
    go_enter Try.func21, Try.ntmps21
    go_wp2
    go_ret2
    exact ⟨new_refl _, .inl ⟨HB.out, rfl⟩⟩
  · have hb2 : (b.length : Int) ≤ 1048576 := by omega
    have HB := Lib.hid (show b.length ≤ 1048576 by omega)
    clear hb
    go_enter Try.func21, Try.ntmps21
    go_wp2_with fail
    refine (oc_clone8 lo hi _ b _ HV.out (by have := HB.out; omega)).mono ?_
    rintro e w1 ⟨A1, c1, rfl, hN1, hO1⟩
    have HN1 := Lib.hid hN1
    have HO1 := Lib.hid hO1
    clear hN1 hO1
    go_wp2
    go_ret2
    exact ⟨HN1.out.alloc _, .inr ⟨HB.out, w1.heap.size, (w.heap.size, w1.heap.size), Nat.le_refl _, HN1.out.size, rfl, Nat.le_refl _, A1, c1, heap_alloc_new _ _, (HO1.out.rd (Nat.le_refl _)).new (new_alloc _ _)⟩⟩

/-- front: what the reader's rest begins with -/
def frontI (n : Int) (xs : List U8) : Res (List U8) := if 0 ≤ n then (if n ≤ xs.length then .ok (xs.take n.toNat) else .no 110) else .no 2
theorem oc_front {Z : Nat × Nat} (g : Nat) (xs : List U8) (f n : Int) (w : World) (h : IsR Z w g xs f) :
    Calls Try.prog 55 #[.pointer (some ⟨g, 0, none⟩), .int .i64 n] w fun e w' => w = w' ∧ match frontI n xs with | .ok ys => ∃ A c, e = .returned (.slice A ys.length c) ∧ Rd e8 Z.1 Z.2 w (.slice A ys.length c) ys | .no x => e = boom x := by
  obtain ⟨A, c, c0, c1, hf, hR⟩ := h.cells
  obtain ⟨_, _, he, h1, h2⟩ := hR.form
  injection he with e1 e2 e3
  subst e1 e3
  clear e2
  have HR := Lib.hid hR
  have f0 := hf 0
  have f1 := hf 1
  clear h hf hR
  have hl := HR.out.len
  by_cases g1 : 0 ≤ n
  · by_cases g2 : n ≤ xs.length
    · rw [show frontI n xs = .ok (xs.take n.toNat) by rw [frontI, if_pos g1, if_pos g2]]
      obtain ⟨A', hs, hR2⟩ := slice_hm Try.underlying22 size_u8 HR.out .i64 .i64 n g1 g2
      have HR2 := Lib.hid hR2
      clear hR2
      go_enter Try.func55, Try.ntmps55
      go_wp2_with (go_at_call 50; ((with_reducible refine (oc_need_yes _ _).mono ?_); rintro e w' ⟨rfl, rfl⟩))
      go_ret
      have hlen : (xs.take n.toNat).length = n.toNat := by simp; omega
      exact ⟨rfl, A', n.toNat, by rw [hlen]; rfl, by rw [hlen]; exact HR2.out⟩
    · rw [show frontI n xs = .no 110 by rw [frontI, if_pos g1, if_neg g2]]
      have d1 : decide (n ≤ (xs.length : Int)) = false := decide_eq_false g2
      go_enter Try.func55, Try.ntmps55
      go_wp2_with (first | (go_at_call 50; ((with_reducible refine (oc_need_yes _ _).mono ?_); rintro e w' ⟨rfl, rfl⟩)) | (go_at_call 50; ((with_reducible refine (oc_need_no _ _).mono ?_); rintro e w' ⟨rfl, rfl⟩)))
      exact ⟨rfl, rfl, rfl⟩
  · rw [show frontI n xs = .no 2 by rw [frontI, if_neg g1]]
    have d1 : decide (0 ≤ n) = false := decide_eq_false g1
    go_enter Try.func55, Try.ntmps55
    go_wp2_with (first | (go_at_call 50; ((with_reducible refine (oc_need_yes _ _).mono ?_); rintro e w' ⟨rfl, rfl⟩)) | (go_at_call 50; ((with_reducible refine (oc_need_no _ _).mono ?_); rintro e w' ⟨rfl, rfl⟩)))
    exact ⟨rfl, rfl, rfl⟩

/-- What reading comes to: a value of the form V, and what is left. -/
def RdP (Z : Nat × Nat) {α : Type} (V : World → World → Value → α → Prop) (g : Nat) (xs : List U8) (r : Res (α × List U8)) (w : World) (e : Ending) (w' : World) : Prop :=
  Chg (fun k => k = g) w w' ∧ match r with
    | .ok p => ∃ v, e = .returned v ∧ V w w' v p.1 ∧ IsR Z w' g p.2 0
    | .no x => e = boom x ∧ IsR Z w' g xs 0
def numR (width : Int) (xs : List U8) : Res (Int × List U8) := if isWB width = true then (if width ≤ xs.length then .ok (numI (xs.take width.toNat), xs.drop width.toNat) else .no 110) else .no 111

set_option maxRecDepth 100000 in
set_option maxHeartbeats 2000000 in
theorem oc_Number1 {Z : Nat × Nat} (g p q : Nat) (xs : List U8) (width : Int) (w : World) (h : IsR Z w g xs 0) (hp : Box w p 3 (.int .i64 width)) (hq : Box w q 43 (.pointer (some ⟨g, 0, none⟩))) :
    Calls Try.prog 64 #[.pointer (some ⟨p, 0, none⟩), .pointer (some ⟨q, 0, none⟩)] w (RdP Z (VN .u64) g xs (numR width xs) w) := by
  obtain ⟨A, c, c0, c1, hf, hR⟩ := h.cells
  obtain ⟨_, _, he, h1, h2⟩ := hR.form
  injection he with e1 e2 e3
  subst e1 e3
  clear e2
  have HR := Lib.hid hR
  have HH := Lib.hid h
  have f0 := hf 0
  have f1 := hf 1
  have cp := hp.cell
  have cq := hq.cell
  clear h hf hR hp hq
  have hl := HR.out.len
  by_cases g1 : isWB width = true
  · obtain ⟨w1, w2⟩ := (isWB_iff _).1 g1
    have G1 := Lib.hid g1
    clear g1
    by_cases g2 : width ≤ xs.length
    · rw [show numR width xs = .ok (numI (xs.take width.toNat), xs.drop width.toNat) by rw [numR, if_pos G1.out, if_pos g2]]
      obtain ⟨ys, HY⟩ : ∃ ys, Hid (ys = xs.take width.toNat) := ⟨_, Lib.hid rfl⟩
      have hfr : ∀ W, IsR Z W g xs 0 → Calls Try.prog 55 #[.pointer (some ⟨g, 0, none⟩), .int .i64 width] W fun e w' => W = w' ∧ ∃ A c, e = .returned (.slice A ys.length c) ∧ Rd e8 Z.1 Z.2 W (.slice A ys.length c) ys := fun W hW => by
        have := oc_front g xs 0 width W hW
        rw [show frontI width xs = .ok ys by rw [frontI, if_pos (by omega), if_pos g2, HY.out]] at this
        exact this
      obtain ⟨A', hs, hR2⟩ := slice_l Try.underlying22 size_u8 HR.out .i64 width (by omega) g2
      have HR2 := Lib.hid hR2
      have HF := Lib.hid hfr
      clear hfr hR2
      go_enter Try.func64, Try.ntmps64
      go_wp2_with (first | (go_at_call 51; refine (oc_is _ _).mono ?_; rw [G1.out]; rintro e w' ⟨rfl, rfl⟩) | (go_at_call 50; ((with_reducible refine (oc_need_yes _ _).mono ?_); rintro e w' ⟨rfl, rfl⟩)))
      go_region_held3 (fun w' => w'.cell? ⟨p, 0, none⟩ = some (.int .i64 width) ∧ w'.cell? ⟨q, 0, none⟩ = some (.pointer (some ⟨g, 0, none⟩)) ∧ Hid (∃ m, w' = w.drewN m))
        (first | exact ⟨cp, cq, Lib.hid ⟨1, rfl⟩⟩ | go_keep | assumption)
        ((first | (go_at_call 55; refine (HF.out _ (by exact HH.out)).mono ?_; rintro e w' ⟨rfl, A2, c2, rfl, hR3⟩) | (go_at_call 52; refine (oc_number _ _ _ _ _ hR3).mono ?_; rintro e w' ⟨rfl, rfl⟩)))
      clear hR3
      go_wp2
      obtain ⟨W, hW⟩ : ∃ W, W = w.drew := ⟨_, rfl⟩
      rw [← hW]
      have cp' : W.cell? ⟨p, 0, none⟩ = some (.int .i64 width) := by rw [hW]; exact cp
      have cq' : W.cell? ⟨q, 0, none⟩ = some (.pointer (some ⟨g, 0, none⟩)) := by rw [hW]; exact cq
      have c0' : W.cell? ⟨g, 0, none⟩ = some (.slice A xs.length c) := by rw [hW]; exact c0
      have f0' : W.frozen? ⟨g, 0, none⟩ = false := by rw [hW]; exact f0
      have HW := Lib.hid hW
      clear hW cp cq c0 f0
      go_still_tail 11, (by kernel_rfl)
      change wpList _ _ _ _ _ W.drew
      go_wp2
      go_ret
      have hN : Chg (fun k => k = g) w (W.drew.setCell ⟨g, 0, none⟩ (.slice A' (xs.length - width.toNat) (c - width.toNat))) := by
        rw [HW.out]
        exact Chg.setCell (M := fun k => k = g) ((Chg.refl _ w).drew.drew) (p := ⟨g, 0, none⟩) (.inl rfl) _
      have hI : IsR Z (W.drew.setCell ⟨g, 0, none⟩ (.slice A' (xs.length - width.toNat) (c - width.toNat))) g (xs.drop width.toNat) 0 := by
        rw [HW.out]
        exact IsR.set (w := w.drew.drew) HH.out (by simp) HR2.out
      exact ⟨hN, _, rfl, by rw [HY.out]; rfl, hI⟩
    · rw [show numR width xs = .no 110 by rw [numR, if_pos G1.out, if_neg g2]]
      have hfr : ∀ W, IsR Z W g xs 0 → Calls Try.prog 55 #[.pointer (some ⟨g, 0, none⟩), .int .i64 width] W fun e w' => W = w' ∧ e = boom 110 := fun W hW => by
        have := oc_front g xs 0 width W hW
        rw [show frontI width xs = .no 110 by rw [frontI, if_pos (by omega), if_neg g2]] at this
        exact this
      have HF := Lib.hid hfr
      clear hfr
      go_enter Try.func64, Try.ntmps64
      go_wp2_with (first | (go_at_call 51; refine (oc_is _ _).mono ?_; rw [G1.out]; rintro e w' ⟨rfl, rfl⟩) | (go_at_call 50; ((with_reducible refine (oc_need_yes _ _).mono ?_); rintro e w' ⟨rfl, rfl⟩)))
      refine wp_region_held_drew (S := fun w' => w'.cell? ⟨p, 0, none⟩ = some (.int .i64 width) ∧ w'.cell? ⟨q, 0, none⟩ = some (.pointer (some ⟨g, 0, none⟩))) rfl ⟨cp, cq⟩ (fun hS => ?_)
      refine wpAnyH_take (i := 0) (v := .pointer (some ⟨g, 0, none⟩)) rfl (by kernel_rfl) (by kernel_rfl) (by kernel_rfl) (fun _ _ _ h => h) (.inl ⟨rfl, fun w h => by simp [go_sem, h.2]⟩) hS ?_
      refine wpAnyH_take (i := 1) (v := .pointer (some ⟨g, 0, none⟩)) rfl (by kernel_rfl) (by kernel_rfl) (by kernel_rfl) (fun _ _ _ h => h) (.inl ⟨rfl, fun w h => by simp [go_sem]⟩) hS ?_
      refine wpAnyH_take (i := 2) (v := .pointer (some ⟨g, 0, none⟩)) rfl (by kernel_rfl) (by kernel_rfl) (by kernel_rfl) (fun _ _ _ h => h) (.inl ⟨rfl, fun w h => by simp [go_sem]⟩) hS ?_
      refine wpAnyH_take (i := 3) (v := .int .i64 width) rfl (by kernel_rfl) (by kernel_rfl) (by kernel_rfl) (fun _ _ _ h => h) (.inl ⟨rfl, fun w h => by simp [go_sem, h.1]⟩) hS ?_
      refine wpAnyH_ready (rs := [4]) (by kernel_rfl) (by simp) (AllReadyH.cons rfl (fun K' hK => ?_) AllReadyH.nil)
      rw [if_pos (by rfl)]
      clear hK
      go_simp
      refine (HF.out _ (by exact HH.out)).mono ?_
      rintro e w1 ⟨rfl, rfl⟩
      exact ⟨rfl, (Chg.refl _ w).drew, rfl, HH.out⟩
  · have G1 := Lib.hid (show isWB width = false by simpa using g1)
    clear g1
    rw [show numR width xs = .no 111 by rw [numR, if_neg (by rw [G1.out]; simp)]]
    go_enter Try.func64, Try.ntmps64
    go_wp2_with (first | (go_at_call 51; refine (oc_is _ _).mono ?_; rw [G1.out]; rintro e w' ⟨rfl, rfl⟩) | (go_at_call 50; ((with_reducible refine (oc_need_no _ _).mono ?_); rintro e w' ⟨rfl, rfl⟩)))
    exact ⟨rfl, Chg.refl _ w, rfl, HH.out⟩
end Go.Proofs.Ytcbijmlkkdpheaa
