/- Contracts of octet.reads and of the methods of Reader. -/
import Derived.Test.YtcbijmlkkdpheaaOi
set_option linter.unusedVariables false
set_option linter.unusedSimpArgs false
namespace Go.Proofs.Ytcbijmlkkdpheaa
open Go.RowKit

theorem VN.before {k : IntKind} {w W w' : World} {v : Value} {n : Int} (h : VN k W w' v n) (hn : New w W) : VN k w w' v n := h
/-- What a reader's method comes to: the value, what is left, and why it failed. -/
def readI {α : Type} (z : α) (r : Res (α × List U8)) (xs : List U8) (f : Int) : α × List U8 × Int :=
  if f = 0 then (match r with | .ok p => (p.1, p.2, 0) | .no x => (z, xs, x)) else (z, xs, f)
def RdR (Z : Nat × Nat) {α : Type} (V : World → World → Value → α → Prop) (g : Nat) (p : α × List U8 × Int) (w : World) (e : Ending) (w' : World) : Prop :=
  Chg (fun k => k = g) w w' ∧ ∃ v, e = .returned v ∧ V w w' v p.1 ∧ IsR Z w' g p.2.1 p.2.2

theorem IsR.fail {Z : Nat × Nat} {w : World} {g : Nat} {xs : List U8} {f : Int} (h : IsR Z w g xs f) {A : Option Addr} {c : Nat} (hr : Rd e8 Z.1 Z.2 w (.slice A xs.length c) xs) (x : Int) :
    IsR Z ((w.setCell ⟨g, 0, none⟩ (.slice A xs.length c)).setCell ⟨g, 1, none⟩ (.int .i64 x)) g xs x := by
  have hl := h.lt
  obtain ⟨hz, A0, c0, h, _⟩ := h
  refine ⟨hz, A, c, ?_, hr.keep (fun k _ hk _ => (Below.heap_setCell _ _ _ _ (by simp; omega)).trans (Below.heap_setCell _ _ _ _ (by simp; omega))) (by simp [World.setCell])⟩
  rw [Array.getElem?_eq_getElem hl] at h
  injection h with h
  simp only [World.setCell, Array.getElem?_modify, if_true]
  rw [Array.getElem?_eq_getElem hl]
  simp [h]

set_option maxRecDepth 100000 in
set_option maxHeartbeats 2000000 in
theorem oc_reads64 {Z : Nat × Nat} {r : Res (Int × List U8)} (g : Nat) (xs : List U8) (fl : Int) (f : Nat) (cap : Array Value) (hcf : ∀ W, (callFunc f cap).run Try.prog W = .ok (.enter f cap) W) (w : World) (hr : IsR Z w g xs fl)
    (hx : ∀ x, r = .no x → x ≠ 0) (h : ∀ W, New w W → IsR Z W g xs 0 → Calls Try.prog f cap W (RdP Z (VN .u64) g xs r W)) :
    Calls Try.prog 63 #[.pointer (some ⟨g, 0, none⟩), .func (.func f) #[] cap] w (RdR Z (VN .u64) g (readI 0 r xs fl) w) := by
  obtain ⟨A, c, c0, c1, hf, hR⟩ := hr.cells
  have f0 := hf 0
  have f1 := hf 1
  have HH := Lib.hid hr
  have HZ := Lib.hid hr.le
  have HR := Lib.hid hR
  have HC := Lib.hid h
  have HCF := Lib.hid hcf
  have HX := Lib.hid hx
  clear hr hf hR h hcf hx
  by_cases g1 : fl = 0
  · subst g1
    have hlt := HH.out.lt
    go_enter Try.func63, Try.ntmps63
    go_wp2_with fail
    have hN0 := new_alloc w (.cells #[.slice A xs.length c] 86)
    have hB0 := Box.new w 86 (.slice A xs.length c)
    refine (tr_u64 f cap HCF.out _ (fun k => k = g) (by rintro k rfl; simp; omega) (fun e W w' => RdP Z (VN .u64) g xs r W e w') (fun W hW _ => (HC.out W (hN0.trans hW) (HH.out.new (hN0.trans hW))).mono fun e w' ho => ⟨ho, ho.1, ?_⟩)).mono ?_
    · obtain ⟨_, ho⟩ := ho
      rcases r with p | x
      · obtain ⟨v, rfl, hv, _⟩ := ho
        obtain rfl : v = _ := hv; exact .inl ⟨_, rfl⟩
      · exact .inr ⟨x, ho.1⟩
    · rintro e w'' ⟨e0, W, w', ⟨_, ho⟩, hW, hs, hc, ht, hc2, hsz⟩
      simp only [World.size_alloc] at hs hc2
      have hNW : New w W := hN0.trans hW
      have hch : Chg (fun k => k = g) w w'' := by
        have h1 : Chg (fun k => k = g ∨ w.heap.size ≤ k) w W := hNW.chg _
        have h2 : Chg (fun k => k = g ∨ w.heap.size ≤ k) W w' := hc.mono (fun k _ h => .inl h)
        have h3 : Chg (fun k => k = g ∨ w.heap.size ≤ k) w' w'' := hc2.mono (fun k _ h => .inr (by omega))
        exact ((h1.trans h2).trans h3).mono (fun k hk h => by omega)
      have hB : Box w'' w.heap.size 86 (.slice A xs.length c) := ((hB0.later hW).chg hc (by omega)).chg hc2 (by omega)
      have HCH := Lib.hid hch
      have cB := hB.cell
      clear hch hB hB0
      rcases r with ⟨a, xs'⟩ | x
      · obtain ⟨v0, rfl, hv, hi⟩ := ho
        rcases ht with ⟨v, he, rfl⟩ | ⟨x, he, rfl⟩
        · injection he with he
          subst he
          have hv2 := VN.before (VN.later (w := w.alloc (.cells #[.slice A xs.length c] 86)) hv (by simpa using hs) (by simpa using hc2)) hN0
          have hi2 : IsR Z w'' g xs' 0 := hi.chg hc2 (by intro k hk; omega)
          have HV := Lib.hid hv2
          have HI := Lib.hid hi2
          clear hv hi hv2 hi2 hc hc2 hW hN0 hNW
          obtain ⟨n, hve⟩ : ∃ n, v0 = .int .u64 n := ⟨_, HV.out⟩
          subst hve
          go_wp2
          go_ret
          exact ⟨HCH.out, _, rfl, HV.out, HI.out⟩
        · cases he
      · obtain ⟨rfl, hi⟩ := ho
        rcases ht with ⟨v, he, rfl⟩ | ⟨x', he, rfl⟩
        · cases he
        · injection he with he
          injection he with he
          injection he with he
          injection he with _ he
          injection he with _ he
          subst he
          have hi2 : IsR Z w'' g xs 0 := hi.chg hc2 (by intro k hk; omega)
          have hx0 : (x != 0) = true := by simpa using HX.out x rfl
          have hR2 : Rd e8 Z.1 Z.2 w'' (.slice A xs.length c) xs := ((HR.out.new hNW).chg hc (by intro k _ hk; have := HZ.out; omega)).chg hc2 (by intro k _ hk; have := HZ.out; omega)
          obtain ⟨A9, c9, d0, d1, df, _⟩ := hi2.cells
          have df0 := df 0
          have df1 := df 1
          have HI := Lib.hid hi2
          have HR2 := Lib.hid hR2
          clear hi hi2 hc hc2 hW hN0 hNW hR2 df c0 c1 f0 f1
          go_wp2
          go_ret
          refine ⟨(HCH.out.setCell (.inl rfl) _).setCell (.inl rfl) _, _, rfl, rfl, ?_⟩
          show IsR Z _ g xs x
          exact HI.out.fail HR2.out x
  · have G1 := Lib.hid g1
    have d1 : (fl != 0) = true := by simpa using g1
    clear g1
    go_enter Try.func63, Try.ntmps63
    go_wp2_with fail
    go_ret
    rw [show readI 0 r xs fl = (0, xs, fl) by simp [readI, G1.out]]
    exact ⟨Chg.refl _ w, _, rfl, rfl, HH.out⟩
set_option maxRecDepth 100000 in
set_option maxHeartbeats 2000000 in
theorem oc_reads8 {Z : Nat × Nat} {r : Res (List U8 × List U8)} (g : Nat) (xs : List U8) (fl : Int) (f : Nat) (cap : Array Value) (hcf : ∀ W, (callFunc f cap).run Try.prog W = .ok (.enter f cap) W) (w : World) (hr : IsR Z w g xs fl)
    (hx : ∀ x, r = .no x → x ≠ 0) (h : ∀ W, New w W → IsR Z W g xs 0 → Calls Try.prog f cap W (RdP Z (VO e8 5) g xs r W)) :
    Calls Try.prog 53 #[.pointer (some ⟨g, 0, none⟩), .func (.func f) #[] cap] w (RdR Z (VO e8 5) g (readI [] r xs fl) w) := by
  obtain ⟨A, c, c0, c1, hf, hR⟩ := hr.cells
  have f0 := hf 0
  have f1 := hf 1
  have HH := Lib.hid hr
  have HZ := Lib.hid hr.le
  have HR := Lib.hid hR
  have HC := Lib.hid h
  have HCF := Lib.hid hcf
  have HX := Lib.hid hx
  clear hr hf hR h hcf hx
  by_cases g1 : fl = 0
  · subst g1
    have hlt := HH.out.lt
    go_enter Try.func53, Try.ntmps53
    go_wp2_with fail
    have hN0 := new_alloc w (.cells #[.slice A xs.length c] 86)
    have hB0 := Box.new w 86 (.slice A xs.length c)
    refine (tr_bytes f cap HCF.out _ (fun k => k = g) (by rintro k rfl; simp; omega) (fun e W w' => RdP Z (VO e8 5) g xs r W e w') (fun W hW _ => (HC.out W (hN0.trans hW) (HH.out.new (hN0.trans hW))).mono fun e w' ho => ⟨ho, ho.1, ?_⟩)).mono ?_
    · obtain ⟨_, ho⟩ := ho
      rcases r with p | x
      · obtain ⟨v, rfl, hv, _⟩ := ho
        obtain ⟨A, c, rfl, _⟩ := hv; exact .inl ⟨A, _, c, rfl⟩
      · exact .inr ⟨x, ho.1⟩
    · rintro e w'' ⟨e0, W, w', ⟨_, ho⟩, hW, hs, hc, ht, hc2, hsz⟩
      simp only [World.size_alloc] at hs hc2
      have hNW : New w W := hN0.trans hW
      have hch : Chg (fun k => k = g) w w'' := by
        have h1 : Chg (fun k => k = g ∨ w.heap.size ≤ k) w W := hNW.chg _
        have h2 : Chg (fun k => k = g ∨ w.heap.size ≤ k) W w' := hc.mono (fun k _ h => .inl h)
        have h3 : Chg (fun k => k = g ∨ w.heap.size ≤ k) w' w'' := hc2.mono (fun k _ h => .inr (by omega))
        exact ((h1.trans h2).trans h3).mono (fun k hk h => by omega)
      have hB : Box w'' w.heap.size 86 (.slice A xs.length c) := ((hB0.later hW).chg hc (by omega)).chg hc2 (by omega)
      have HCH := Lib.hid hch
      have cB := hB.cell
      clear hch hB hB0
      rcases r with ⟨a, xs'⟩ | x
      · obtain ⟨v0, rfl, hv, hi⟩ := ho
        rcases ht with ⟨v, he, rfl⟩ | ⟨x, he, rfl⟩
        · injection he with he
          subst he
          have hv2 := VO.before (VO.later (w := w.alloc (.cells #[.slice A xs.length c] 86)) hv (by simpa using hs) (by simpa using hc2)) hN0
          have hi2 : IsR Z w'' g xs' 0 := hi.chg hc2 (by intro k hk; omega)
          have HV := Lib.hid hv2
          have HI := Lib.hid hi2
          clear hv hi hv2 hi2 hc hc2 hW hN0 hNW
          obtain ⟨A', n', c', hve⟩ : ∃ A' n' c', v0 = .slice A' n' c' := (by obtain ⟨A2, c2, h, _⟩ := HV.out; exact ⟨A2, _, c2, h⟩)
          subst hve
          go_wp2
          go_ret
          exact ⟨HCH.out, _, rfl, HV.out, HI.out⟩
        · cases he
      · obtain ⟨rfl, hi⟩ := ho
        rcases ht with ⟨v, he, rfl⟩ | ⟨x', he, rfl⟩
        · cases he
        · injection he with he
          injection he with he
          injection he with he
          injection he with _ he
          injection he with _ he
          subst he
          have hi2 : IsR Z w'' g xs 0 := hi.chg hc2 (by intro k hk; omega)
          have hx0 : (x != 0) = true := by simpa using HX.out x rfl
          have hR2 : Rd e8 Z.1 Z.2 w'' (.slice A xs.length c) xs := ((HR.out.new hNW).chg hc (by intro k _ hk; have := HZ.out; omega)).chg hc2 (by intro k _ hk; have := HZ.out; omega)
          obtain ⟨A9, c9, d0, d1, df, _⟩ := hi2.cells
          have df0 := df 0
          have df1 := df 1
          have HI := Lib.hid hi2
          have HR2 := Lib.hid hR2
          clear hi hi2 hc hc2 hW hN0 hNW hR2 df c0 c1 f0 f1
          go_wp2
          go_ret
          refine ⟨(HCH.out.setCell (.inl rfl) _).setCell (.inl rfl) _, _, rfl, ⟨none, 0, rfl, Own.nil _ _ _ _⟩, ?_⟩
          show IsR Z _ g xs x
          exact HI.out.fail HR2.out x
  · have G1 := Lib.hid g1
    have d1 : (fl != 0) = true := by simpa using g1
    clear g1
    go_enter Try.func53, Try.ntmps53
    go_wp2_with fail
    go_ret
    rw [show readI [] r xs fl = ([], xs, fl) by simp [readI, G1.out]]
    exact ⟨Chg.refl _ w, _, rfl, ⟨none, 0, rfl, Own.nil _ _ _ _⟩, HH.out⟩

theorem numR_no {width : Int} {xs : List U8} : ∀ x, numR width xs = .no x → x ≠ 0 := by
  intro x h
  unfold numR at h
  split at h
  · split at h
    · cases h
    · injection h with h; omega
  · injection h with h; omega
theorem bytesR_no {n : Int} {xs : List U8} : ∀ x, bytesR n xs = .no x → x ≠ 0 := by
  intro x h
  unfold bytesR at h
  split at h
  · split at h
    · cases h
    · injection h with h; omega
  · injection h with h; omega
theorem partR_no {xs : List U8} : ∀ x, partR xs = .no x → x ≠ 0 := by
  intro x h
  unfold partR at h
  split at h
  · split at h
    · cases h
    · injection h with h; omega
  · injection h with h; omega

theorem RdR.before_VN {Z : Nat × Nat} {k : IntKind} {g : Nat} {p : Int × List U8 × Int} {w W w' : World} {e : Ending} (h : RdR Z (VN k) g p W e w') (hn : New w W) : RdR Z (VN k) g p w e w' := by
  obtain ⟨hc, v, he, hv, hi⟩ := h
  exact ⟨((hn.chg _).trans hc), v, he, hv, hi⟩
theorem RdR.before_VO {Z : Nat × Nat} {g : Nat} {t : TypeId} {p : List U8 × List U8 × Int} {w W w' : World} {e : Ending} (h : RdR Z (VO e8 t) g p W e w') (hn : New w W) : RdR Z (VO e8 t) g p w e w' := by
  obtain ⟨hc, v, he, hv, hi⟩ := h
  exact ⟨((hn.chg _).trans hc), v, he, hv.before hn, hi⟩

/-- (*Reader).Number -/
theorem oc_rNumber {Z : Nat × Nat} (g : Nat) (xs : List U8) (fl width : Int) (w : World) (hr : IsR Z w g xs fl) :
    Calls Try.prog 35 #[.pointer (some ⟨g, 0, none⟩), .int .i64 width] w (RdR Z (VN .u64) g (readI 0 (numR width xs) xs fl) w) := by
  have hb1 := Box.new w 43 (.pointer (some ⟨g, 0, none⟩))
  have hb2 := Box.new (w.alloc (.cells #[.pointer (some ⟨g, 0, none⟩)] 43)) 3 (.int .i64 width)
  have hW0 : New w ((w.alloc (.cells #[.pointer (some ⟨g, 0, none⟩)] 43)).alloc (.cells #[.int .i64 width] 3)) := (new_alloc w _).alloc _
  simp only [World.size_alloc] at hb2
  have HR := Lib.hid (hr.new hW0)
  have HB1 := Lib.hid (hb1.alloc (.cells #[.int .i64 width] 3))
  have HB2 := Lib.hid hb2
  have HW := Lib.hid hW0
  have hmf := hmf
  clear hr hb1 hb2 hW0
  go_enter Try.func35, Try.ntmps35
  go_wp2_with fail
  refine (oc_reads64 g xs fl _ _ (fun _ => by rfl) _ HR.out numR_no (fun W hW hI => oc_Number1 g _ _ xs width W hI (HB2.out.later hW) (HB1.out.later hW))).mono ?_
  rintro e w'' ho
  obtain ⟨hc, v, rfl, hv, hi⟩ := ho.before_VN HW.out
  have HC := Lib.hid hc
  have HI := Lib.hid hi
  obtain rfl : v = _ := hv
  clear hc hi ho
  go_wp2
  go_ret
  exact ⟨HC.out, _, rfl, rfl, HI.out⟩

/-- (*Reader).Bytes -/
theorem oc_rBytes {Z : Nat × Nat} (g : Nat) (xs : List U8) (fl n : Int) (w : World) (hl : xs.length ≤ 1099511627776) (hr : IsR Z w g xs fl) :
    Calls Try.prog 38 #[.pointer (some ⟨g, 0, none⟩), .int .i64 n] w (RdR Z (VO e8 5) g (readI [] (bytesR n xs) xs fl) w) := by
  have hb1 := Box.new w 43 (.pointer (some ⟨g, 0, none⟩))
  have hb2 := Box.new (w.alloc (.cells #[.pointer (some ⟨g, 0, none⟩)] 43)) 3 (.int .i64 n)
  have hW0 : New w ((w.alloc (.cells #[.pointer (some ⟨g, 0, none⟩)] 43)).alloc (.cells #[.int .i64 n] 3)) := (new_alloc w _).alloc _
  simp only [World.size_alloc] at hb2
  have HR := Lib.hid (hr.new hW0)
  have HB1 := Lib.hid (hb1.alloc (.cells #[.int .i64 n] 3))
  have HB2 := Lib.hid hb2
  have HW := Lib.hid hW0
  have HL := Lib.hid hl
  have hmf := hmf
  clear hr hb1 hb2 hW0 hl
  go_enter Try.func38, Try.ntmps38
  go_wp2_with fail
  refine (oc_reads8 g xs fl _ _ (fun _ => by rfl) _ HR.out bytesR_no (fun W hW hI => oc_Bytes1 g _ _ xs n W HL.out hI (HB1.out.later hW) (HB2.out.later hW))).mono ?_
  rintro e w'' ho
  obtain ⟨hc, v, rfl, hv, hi⟩ := ho.before_VO HW.out
  have HC := Lib.hid hc
  have HI := Lib.hid hi
  have HV := Lib.hid hv
  obtain ⟨A, c, rfl, _⟩ := hv
  clear hc hi ho
  go_wp2
  go_ret
  exact ⟨HC.out, _, rfl, HV.out, HI.out⟩

/-- (*Reader).Part -/
theorem oc_rPart {Z : Nat × Nat} (g : Nat) (xs : List U8) (fl : Int) (w : World) (hl : xs.length ≤ 1099511627776) (hr : IsR Z w g xs fl) :
    Calls Try.prog 22 #[.pointer (some ⟨g, 0, none⟩)] w (RdR Z (VO e8 5) g (readI [] (partR xs) xs fl) w) := by
  have hb1 := Box.new w 43 (.pointer (some ⟨g, 0, none⟩))
  have hW0 := new_alloc w (.cells #[.pointer (some ⟨g, 0, none⟩)] 43)
  have HR := Lib.hid (hr.new hW0)
  have HB1 := Lib.hid hb1
  have HW := Lib.hid hW0
  have HL := Lib.hid hl
  have hmf := hmf
  clear hr hb1 hW0 hl
  go_enter Try.func22, Try.ntmps22
  go_wp2_with fail
  refine (oc_reads8 g xs fl _ _ (fun _ => by rfl) _ HR.out partR_no (fun W hW hI => oc_Part1 g _ xs W HL.out hI (HB1.out.later hW))).mono ?_
  rintro e w'' ho
  obtain ⟨hc, v, rfl, hv, hi⟩ := ho.before_VO HW.out
  have HC := Lib.hid hc
  have HI := Lib.hid hi
  have HV := Lib.hid hv
  obtain ⟨A, c, rfl, _⟩ := hv
  clear hc hi ho
  go_wp2
  go_ret
  exact ⟨HC.out, _, rfl, HV.out, HI.out⟩

theorem oc_rLeft {Z : Nat × Nat} (g : Nat) (xs : List U8) (fl : Int) (w : World) (hr : IsR Z w g xs fl) :
    Calls Try.prog 41 #[.pointer (some ⟨g, 0, none⟩)] w fun e w' => e = .returned (.int .i64 xs.length) ∧ w = w' := by
  obtain ⟨A, c, c0, c1, hf, hR⟩ := hr.cells
  clear hr hf hR
  go_enter Try.func41, Try.ntmps41
  go_wp2
  go_ret
  exact ⟨rfl, rfl⟩
theorem oc_rErr {Z : Nat × Nat} (g : Nat) (xs : List U8) (fl : Int) (w : World) (hr : IsR Z w g xs fl) :
    Calls Try.prog 24 #[.pointer (some ⟨g, 0, none⟩)] w fun e w' => e = .returned (.int .i64 fl) ∧ w = w' := by
  obtain ⟨A, c, c0, c1, hf, hR⟩ := hr.cells
  clear hr hf hR
  go_enter Try.func24, Try.ntmps24
  go_wp2
  go_ret
  exact ⟨rfl, rfl⟩
def endI (xs : List U8) (fl : Int) : Int := if fl = 0 then (if xs.length = 0 then 0 else 113) else fl
theorem oc_rEnd {Z : Nat × Nat} (g : Nat) (xs : List U8) (fl : Int) (w : World) (hr : IsR Z w g xs fl) :
    Calls Try.prog 23 #[.pointer (some ⟨g, 0, none⟩)] w fun e w' => e = .returned (.int .i64 (endI xs fl)) ∧ w = w' := by
  have HR := Lib.hid hr
  clear hr
  by_cases h1 : fl = 0
  · subst h1
    by_cases h2 : xs.length = 0
    · have H2 := Lib.hid h2
      have h3 : decide (0 < xs.length) = false := by simp [h2]
      clear h2
      go_enter Try.func23, Try.ntmps23
      go_wp2_with (first | (go_at_call 24; refine (oc_rErr _ _ _ _ HR.out).mono ?_; rintro e w' ⟨rfl, rfl⟩) | (go_at_call 41; refine (oc_rLeft _ _ _ _ HR.out).mono ?_; rintro e w' ⟨rfl, rfl⟩))
      go_ret
      exact ⟨by simp [endI, H2.out], rfl⟩
    · have H2 := Lib.hid h2
      have h3 : decide (0 < xs.length) = true := by simp; omega
      clear h2
      go_enter Try.func23, Try.ntmps23
      go_wp2_with (first | (go_at_call 24; refine (oc_rErr _ _ _ _ HR.out).mono ?_; rintro e w' ⟨rfl, rfl⟩) | (go_at_call 41; refine (oc_rLeft _ _ _ _ HR.out).mono ?_; rintro e w' ⟨rfl, rfl⟩))
      go_ret
      exact ⟨by rw [endI, if_pos rfl, if_neg H2.out]; rfl, rfl⟩
  · have H1 := Lib.hid h1
    have h3 : (fl != 0) = true := by simpa using h1
    clear h1
    go_enter Try.func23, Try.ntmps23
    go_wp2_with (go_at_call 24; refine (oc_rErr _ _ _ _ HR.out).mono ?_; rintro e w' ⟨rfl, rfl⟩)
    go_ret
    exact ⟨by rw [endI, if_neg H1.out]; rfl, rfl⟩
end Go.Proofs.Ytcbijmlkkdpheaa
