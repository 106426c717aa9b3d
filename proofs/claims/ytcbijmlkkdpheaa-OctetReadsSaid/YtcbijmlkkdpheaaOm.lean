/- Contracts of octet.Split. -/
import Derived.Test.YtcbijmlkkdpheaaOl
import Derived.WalkMore
set_option linter.unusedVariables false
set_option linter.unusedSimpArgs false
namespace Go.Proofs.Ytcbijmlkkdpheaa
open Go.RowKit
attribute [local go_sem] Oper.semAt_some

def splitI (ws : List I64) (xs : List U8) : Res (List U64) :=
  if ws.all okW = true then (if sumW ws ≤ xs.length then (if sumW ws = xs.length then .ok (numsU ws xs) else .no 113) else .no 110) else .no 111

set_option maxRecDepth 100000 in
set_option maxHeartbeats 4000000 in
theorem oc_Split1_no (lo hi lo' hi' : Nat) (v u : Value) (ws : List I64) (xs : List U8) (w : World) (p q : Nat) (hv : Rd ei lo hi w v ws) (hu : Rd e8 lo' hi' w u xs) (hl : ws.length ≤ 1099511627776)
    (hp : Box w p 50 v) (hq : Box w q 22 u) (hno : ¬ (ws.all okW = true ∧ sumW ws = xs.length)) :
    Calls Try.prog 61 #[.pointer (some ⟨p, 0, none⟩), .pointer (some ⟨q, 0, none⟩)] w (OutP (VO e64 26) (splitI ws xs) w) := by
  obtain ⟨A, c, rfl, h1, h2⟩ := hv.form
  obtain ⟨B, d, rfl, h3, h4⟩ := hu.form
  have HV := Lib.hid hv
  have HL := Lib.hid hl
  have cp := hp.cell
  have cq := hq.cell
  clear hu hl hp hq
  by_cases g1 : ws.all okW = true
  · have G1 := Lib.hid g1
    have hx : sumW ws ≠ xs.length := fun h => hno ⟨g1, h⟩
    have HX := Lib.hid hx
    clear g1 hno hv
    by_cases g2 : sumW ws ≤ xs.length
    · have G2 := Lib.hid g2
      have d1 : decide (sumW ws ≤ (xs.length : Int)) = true := by simpa using g2
      have d2 : ((xs.length : Int) == sumW ws) = false := by simp; omega
      clear g2 hx
      rw [show splitI ws xs = .no 113 by rw [splitI, if_pos G1.out, if_pos G2.out, if_neg HX.out]]
      go_enter Try.func61, Try.ntmps61
      go_wp2_with fail
      go_step3
      go_wp2_with (first | (go_at_call 58; ((with_reducible refine (oc_size_yes _ _ _ ws _ HV.out (by have := HL.out; omega) G1.out).mono ?_); rintro e w' ⟨rfl, rfl⟩)) | (go_at_call 50; first | ((with_reducible refine (oc_need_yes _ _).mono ?_); rintro e w' ⟨rfl, rfl⟩) | ((with_reducible refine (oc_need_no _ _).mono ?_); rintro e w' ⟨rfl, rfl⟩)))
      exact ⟨rfl, .no rfl (new_refl _)⟩
    · have G2 := Lib.hid g2
      have d1 : decide (sumW ws ≤ (xs.length : Int)) = false := by simpa using g2
      clear g2 hx
      rw [show splitI ws xs = .no 110 by rw [splitI, if_pos G1.out, if_neg G2.out]]
      go_enter Try.func61, Try.ntmps61
      go_wp2_with fail
      go_step3
      go_wp2_with (first | (go_at_call 58; ((with_reducible refine (oc_size_yes _ _ _ ws _ HV.out (by have := HL.out; omega) G1.out).mono ?_); rintro e w' ⟨rfl, rfl⟩)) | (go_at_call 50; ((with_reducible refine (oc_need_no _ _).mono ?_); rintro e w' ⟨rfl, rfl⟩)))
      exact ⟨rfl, .no rfl (new_refl _)⟩
  · have G1 := Lib.hid g1
    clear g1 hno hv
    rw [show splitI ws xs = .no 111 by rw [splitI, if_neg G1.out]]
    go_enter Try.func61, Try.ntmps61
    go_wp2_with fail
    go_step3
    go_wp2_with (go_at_call 58; ((with_reducible refine (oc_size_no _ _ _ ws _ HV.out (by have := HL.out; omega) G1.out).mono ?_); rintro e w' ⟨rfl, rfl⟩))
    exact ⟨rfl, .no rfl (new_refl _)⟩

theorem New.trans' {M : Nat → Prop} {a b c : World} (h : New a b) (k : Chg M b c) (hm : ∀ k, k < a.heap.size → ¬ M k) : New a c :=
  Below.trans h (k.below h.size hm)
theorem info_u64' : (Try.prog.info? 26).map (fun i => (i.zero, i.size, i.bytes)) = some (some (e64 ⟨0, by omega⟩), 1, 8) := info_u64
set_option maxRecDepth 100000 in
set_option maxHeartbeats 4000000 in
theorem oc_Split1_yes (lo hi lo' hi' : Nat) (v u : Value) (ws : List I64) (xs : List U8) (w : World) (p q : Nat) (hv : Rd ei lo hi w v ws) (hu : Rd e8 lo' hi' w u xs) (hl : ws.length ≤ 1099511627776)
    (hp : Box w p 50 v) (hq : Box w q 22 u) (g1 : ws.all okW = true) (g2 : sumW ws = xs.length) (hh : hi ≤ w.heap.size) (hh' : hi' ≤ w.heap.size) :
    Calls Try.prog 61 #[.pointer (some ⟨p, 0, none⟩), .pointer (some ⟨q, 0, none⟩)] w (OutP (VO e64 26) (.ok (numsU ws xs)) w) := by
  obtain ⟨A, c, rfl, h1, h2⟩ := hv.form
  obtain ⟨B, d, rfl, h3, h4⟩ := hu.form
  have HV := Lib.hid hv
  have HU := Lib.hid hu
  have HL := Lib.hid hl
  have HP := Lib.hid hp
  have HQ := Lib.hid hq
  have cp := hp.cell
  have cq := hq.cell
  have G1 := Lib.hid g1
  have G2 := Lib.hid g2
  have HH := Lib.hid hh
  have HH' := Lib.hid hh'
  have d1 : decide (sumW ws ≤ (xs.length : Int)) = true := by simp [g2]
  have d2 : ((xs.length : Int) == sumW ws) = true := by simp [g2]
  have hout := Box.new w 51 (.slice none 0 0)
  have cq2 := (hq.alloc (.cells #[.slice none 0 0] 51)).cell
  have cp2 := ((hp.alloc (.cells #[.slice none 0 0] 51)).alloc (.cells #[.slice B xs.length d, .int .i64 0] 88)).cell
  have HO := Lib.hid hout
  clear hv hu hl hp hq g1 g2 hh hh' hout
  refine (callsIn_wide (n := 0)).1 (callsIn_of_wp_marks Try.func61 rfl trivial ?_)
  refine wpIn_wide.2 ?_
  simp only [Try.ntmps61, List.size_toArray, List.length_cons, List.length_nil, Nat.reduceAdd, Nat.reduceSub, Array.replicate_succ, Array.replicate_zero, List.push_toArray, List.append_toArray, List.nil_append, List.cons_append]
  go_wp2_with fail
  go_step3
  go_wp2_with (first | (go_at_call 58; ((with_reducible refine (oc_size_yes _ _ _ ws _ HV.out (by have := HL.out; omega) G1.out).mono ?_); rintro e w' ⟨rfl, rfl⟩)) | (go_at_call 50; ((with_reducible refine (oc_need_yes _ _).mono ?_); rintro e w' ⟨rfl, rfl⟩)))
  go_step3
  go_wp2_with (go_at_call 62; ((with_reducible refine (oc_numbers A _ _ _ _).mono ?_); rintro e W0 ⟨rfl, hw0⟩; have HW0 := Lib.hid hw0; clear hw0))
  have hw0 := HW0.out
  try simp only [World.size_alloc] at hw0
  have hN1 : New w ((w.alloc (.cells #[.slice none 0 0] 51)).alloc (.cells #[.slice B xs.length d, .int .i64 0] 88)) := (new_alloc w _).alloc _
  have hN0 : New w W0 := by rw [hw0]; exact (hN1.alloc _).alloc _
  have hs0 : W0.heap.size = w.heap.size + 4 := by rw [hw0]; simp
  have hO0 : Box W0 w.heap.size 51 (.slice none 0 0) := by rw [hw0]; exact ((HO.out.alloc _).alloc _).alloc _
  have hR0 : IsR (lo', hi') W0 (w.heap.size + 1) xs 0 := by
    refine ⟨by have := HH'.out; simp; omega, B, d, ?_, HU.out.new hN0⟩
    rw [hw0]
    have := heap_alloc_new (w.alloc (.cells #[.slice none 0 0] 51)) (.cells #[.slice B xs.length d, .int .i64 0] 88)
    rw [World.size_alloc] at this
    exact (((new_alloc _ _).alloc _).block _ (by simp)).trans this
  have hP0 : Box W0 (w.heap.size + 3) 50 (.slice A ws.length c) := by
    rw [hw0]
    have := Box.new (((w.alloc (.cells #[.slice none 0 0] 51)).alloc (.cells #[.slice B xs.length d, .int .i64 0] 88)).alloc (.cells #[.pointer (some ⟨w.heap.size + 1, 0, none⟩)] 43)) 50 (.slice A ws.length c)
    simp only [World.size_alloc] at this
    exact this
  have hQ0 : Box W0 (w.heap.size + 2) 43 (.pointer (some ⟨w.heap.size + 1, 0, none⟩)) := by
    rw [hw0]
    have := Box.new ((w.alloc (.cells #[.slice none 0 0] 51)).alloc (.cells #[.slice B xs.length d, .int .i64 0] 88)) 43 (.pointer (some ⟨w.heap.size + 1, 0, none⟩))
    simp only [World.size_alloc] at this
    exact this.alloc _
  have hIt := oc_numbers1 lo (.slice A ws.length c) (w.heap.size + 1) (w.heap.size + 3) (w.heap.size + 2) hi ws xs W0 (fun k => k = w.heap.size ∨ w.heap.size + 4 ≤ k) hR0 (HV.out.new hN0) hP0 hQ0 G1.out G2.out (by have := HH.out; omega) (by omega) (by omega)
    (fun k hk => by have := HH.out; have := HH'.out; simp only at hk; omega)
  have HN0 := Lib.hid hN0
  have HS0 := Lib.hid hs0
  have HP0 := Lib.hid hP0
  have HPl := Lib.hid HP.out.lt
  clear hw0 HW0 hN1 hN0 hR0 hP0 hQ0 cp cq cq2 cp2 HO HU
  refine (wpIn_wide (n := 0)).1 ?_
  refine wpIn_range (gf := 71) (lb := #[.pointer (some ⟨w.heap.size + 3, 0, none⟩), .pointer (some ⟨w.heap.size + 2, 0, none⟩)]) rfl (fun _ _ => by rfl) (Mc := fun k => k = w.heap.size ∨ w.heap.size + 6 ≤ k) hIt (new_refl _) (fun _ => rfl) (by rw [hs0]; omega) (by rw [hs0]; omega) (by rw [hs0]; intro k hk; omega)
    (fun pre W => ∃ A1 c1, Box W w.heap.size 51 (.slice A1 pre.length c1) ∧ Own e64 26 (w.heap.size + 6) W (.slice A1 pre.length c1) pre ∧ New w W)
    (fun cd pre W => cd = .exit 0 ∧ pre.length = ws.length ∧ ∃ A1 c1, Box W w.heap.size 51 (.slice A1 pre.length c1) ∧ Own e64 26 (w.heap.size + 6) W (.slice A1 pre.length c1) pre ∧ New w W)
    ?hI ?hIx ⟨none, 0, hO0, Own.nil _ _ _ _, HN0.out⟩
    (fun x => { tmps := #[.pointer (some ⟨p, 0, none⟩), .pointer (some ⟨q, 0, none⟩), .slice none 0 0, .int .i64 (sumW ws), .pointer (some ⟨w.heap.size, 0, none⟩), .pointer (some ⟨w.heap.size + 1, 0, none⟩), e64 x, .slice A ws.length c, .int .i64 (sumW ws), .slice B xs.length d, .int .i64 xs.length, .int .i64 (sumW ws), .bool true, .tuple #[], .slice B xs.length d, .int .i64 xs.length, .int .i64 (sumW ws), .bool true, .tuple #[], .slice B xs.length d, .agg #[.slice B xs.length d], .agg #[.slice B xs.length d, .int .i64 0], .pointer (some ⟨w.heap.size + 1, 0, none⟩), .pointer (some ⟨w.heap.size + 1, 0, none⟩), .slice A ws.length c, .func (.func 71) #[] #[.pointer (some ⟨w.heap.size + 3, 0, none⟩), .pointer (some ⟨w.heap.size + 2, 0, none⟩)], e64 x, undef, undef, undef, undef, undef, undef, undef, undef, undef, undef], defers := [] }) ?assign ?body ?done ?stop
  case hI =>
    rintro s A' B' ⟨A1, c1, hb, ho, hn⟩ hc
    refine ⟨A1, c1, hb.chg hc (by rw [hs0]; omega), ho.chg hc (fun k hk => by have := ho.lt k hk; rw [hs0]; omega), hn.trans' hc (fun k hk => by rw [hs0]; omega)⟩
  case hIx =>
    rintro cd s A' B' ⟨he, hl, A1, c1, hb, ho, hn⟩ hc
    refine ⟨he, hl, A1, c1, hb.chg hc (by rw [hs0]; omega), ho.chg hc (fun k hk => by have := ho.lt k hk; rw [hs0]; omega), hn.trans' hc (fun k hk => by rw [hs0]; omega)⟩
  case assign =>
    intro l x W K hK
    gi_wp2
    exact hK
  case body =>
    rintro l pre x W hsz ⟨A1, c1, hb, ho, hn⟩ hok
    dsimp only
    have hpl : pre.length + 1 ≤ ws.length := by have := hok.length_le; simpa [numsU_length] using this
    have HPRE := Lib.hid hpl
    have HSZ := Lib.hid (show w.heap.size + 6 ≤ W.heap.size by omega)
    have HB := Lib.hid hb
    have HOW := Lib.hid ho
    have HN := Lib.hid hn
    have cb := hb.cell
    have cb2 := (hb.alloc (.cells #[e64 x] 26)).cell
    clear hb ho hn hok hsz hs0 hO0 hIt hpl d1 d2
    gi_wp2_with (gi_at_builtin; refine wplIn_append1 (enc := e64) rfl (.tmp 27) (.tmp 29) rfl Try.underlying51 info_u64 rfl (fun _ => rfl) x rfl rfl HOW.out (by have := HL.out; have := HPRE.out; omega) (by have := HL.out; have := HPRE.out; omega) HSZ.out ?_)
    intro A2 c2 w2 ho2 hg
    have hc2 : Chg (fun k => w.heap.size + 6 ≤ k) W w2 := (Chg.refl _ W).grown hg (fun k hk => .inl (HOW.out.lt k hk).1)
    have hb2 := HB.out.chg hc2 (by omega)
    have hb3 := hb2.set (.slice A2 (pre.length + 1) c2)
    have hc3 : Chg (fun k => k = w.heap.size ∨ w.heap.size + 6 ≤ k) W (w2.setCell ⟨w.heap.size, 0, none⟩ (.slice A2 (pre.length + 1) c2)) := (hc2.mono (fun _ _ h => .inr h)).setCell (.inl (.inl rfl)) _
    have hn3 : New w (w2.setCell ⟨w.heap.size, 0, none⟩ (.slice A2 (pre.length + 1) c2)) := HN.out.trans' hc3 (fun k hk => by omega)
    have ho3 := ho2.chg ((Chg.refl (fun k => k = w.heap.size) w2).setCell (p := ⟨w.heap.size, 0, none⟩) (.inl rfl) (.slice A2 (pre.length + 1) c2)) (fun k hk => by have := ho2.lt k hk; omega)
    have cb3 := hb2.cell
    have fb3 := hb2.free
    have cb4 := hb3.cell
    have cp4 := (HP.out.later hn3).cell
    have HB3 := Lib.hid hb3
    have HC3 := Lib.hid hc3
    have HN3 := Lib.hid hn3
    have HO3 := Lib.hid ho3
    clear hb2 hb3 hc2 hc3 hn3 ho2 ho3 hg
    by_cases hx : pre.length + 1 = ws.length
    · have hx2 : (((pre.length + 1 : Nat) : Int) == (ws.length : Int)) = true := by simp; omega
      have HX := Lib.hid hx
      clear hx
      gi_wp2
      exact ⟨HC3.out, rfl, by rw [List.length_append]; exact HX.out, A2, c2, by rw [List.length_append]; exact HB3.out, by rw [List.length_append]; exact HO3.out, HN3.out⟩
    · have hx2 : (((pre.length + 1 : Nat) : Int) == (ws.length : Int)) = false := by simp; omega
      clear hx
      gi_wp2
      exact ⟨HC3.out, A2, c2, by rw [List.length_append]; exact HB3.out, by rw [List.length_append]; exact HO3.out, HN3.out⟩
  case done =>
    rintro ys W rfl ⟨A1, c1, hb, ho, hn⟩ hK
    have cb := hb.cell
    have HN := Lib.hid hn
    have HOW := Lib.hid ho
    have HK := Lib.hid hK
    clear hb hn ho hK hO0 hIt d1 d2
    go_wp2
    refine ⟨by simp, .inl ⟨_, _, rfl, run_takeDeferred HK.out, ?_⟩⟩
    have hc5 : Chg (fun k => k = W0.heap.size) W (W.putObj W0.heap.size (.deferred none)) := chg_putObj (Chg.refl _ W) _ (.inl rfl)
    refine ⟨_, results_tmp rfl _ _ _, .yes rfl (HN.out.trans' hc5 (fun k hk => by have := HS0.out; omega)) ⟨A1, c1, rfl, ?_⟩⟩
    exact (HOW.out.chg hc5 (fun k hk => by have := HOW.out.lt k hk; have := HS0.out; omega)).mono (by omega)
  case stop =>
    rintro cd pre W hpre ⟨rfl, hl, A1, c1, hb, ho, hn⟩ hK
    obtain rfl : pre = numsU ws xs := hpre.eq_of_length (by rw [numsU_length]; exact hl)
    have cb := hb.cell
    have HN := Lib.hid hn
    have HOW := Lib.hid ho
    have HK := Lib.hid hK
    clear hb hn ho hK hO0 hIt d1 d2 hl hpre
    refine (wpIn_wide (n := 0)).2 ?_
    go_wp2
    refine ⟨by simp, .inl ⟨_, _, rfl, run_takeDeferred HK.out, ?_⟩⟩
    have hc5 : Chg (fun k => k = W0.heap.size) W (W.putObj W0.heap.size (.deferred none)) := chg_putObj (Chg.refl _ W) _ (.inl rfl)
    refine ⟨_, results_tmp rfl _ _ _, .yes rfl (HN.out.trans' hc5 (fun k hk => by have := HS0.out; omega)) ⟨A1, c1, rfl, ?_⟩⟩
    exact (HOW.out.chg hc5 (fun k hk => by have := HOW.out.lt k hk; have := HS0.out; omega)).mono (by omega)

theorem oc_Split1 (lo hi lo' hi' : Nat) (v u : Value) (ws : List I64) (xs : List U8) (w : World) (p q : Nat) (hv : Rd ei lo hi w v ws) (hu : Rd e8 lo' hi' w u xs) (hl : ws.length ≤ 1099511627776)
    (hp : Box w p 50 v) (hq : Box w q 22 u) (hh : hi ≤ w.heap.size) (hh' : hi' ≤ w.heap.size) :
    Calls Try.prog 61 #[.pointer (some ⟨p, 0, none⟩), .pointer (some ⟨q, 0, none⟩)] w (OutP (VO e64 26) (splitI ws xs) w) := by
  by_cases h : ws.all okW = true ∧ sumW ws = xs.length
  · rw [splitI, if_pos h.1, if_pos (by omega), if_pos h.2]
    exact oc_Split1_yes lo hi lo' hi' v u ws xs w p q hv hu hl hp hq h.1 h.2 hh hh'
  · exact oc_Split1_no lo hi lo' hi' v u ws xs w p q hv hu hl hp hq h

/-- octet.Split -/
theorem oc_Split (lo hi lo' hi' : Nat) (v u : Value) (xs : List I64) (ys : List U8) (w : World) (hv : Rd ei lo hi w v xs) (hu : Rd e8 lo' hi' w u ys) (hl : xs.length ≤ 1099511627776)(HH : hi ≤ w.heap.size ∧ hi' ≤ w.heap.size) :
    Calls Try.prog 31 #[v, u] w (OutT (.slice none 0 0) (VO e64 26) (splitI xs ys) w) := by
  obtain ⟨A, c, rfl, h1, h2⟩ := hv.form
  obtain ⟨B, d, rfl, h3, h4⟩ := hu.form
  have HL := Lib.hid hl
  have hb1 := Box.new w 50 (.slice A xs.length c)
  have hb2 := Box.new (w.alloc (.cells #[.slice A xs.length c] 50)) 22 (.slice B ys.length d)
  have hW0 : New w ((w.alloc (.cells #[.slice A xs.length c] 50)).alloc (.cells #[.slice B ys.length d] 22)) := (new_alloc w _).alloc _
  have hsz : ((w.alloc (.cells #[.slice A xs.length c] 50)).alloc (.cells #[.slice B ys.length d] 22)).heap.size = w.heap.size + 2 := by simp
  simp only [World.size_alloc] at hb2
  have HV := Lib.hid (hv.new hW0)
  have HU := Lib.hid (hu.new hW0)
  have HB1 := Lib.hid (hb1.alloc (.cells #[.slice B ys.length d] 22))
  have HB2 := Lib.hid hb2
  have HW := Lib.hid hW0
  have HZ := Lib.hid hsz
  have hmf := hmf
  clear hv hu hl hb1 hb2 hW0 hsz
  go_enter Try.func31, Try.ntmps31
  go_wp2_with fail
  refine (tr_u64s_out (r := splitI xs ys) _ _ (fun _ => by rfl) _ (fun W hW => oc_Split1 lo hi lo' hi' _ _ xs ys W _ _ (HV.out.new hW) (HU.out.new hW) HL.out (HB1.out.later hW) (HB2.out.later hW) (by have := HH.1; have := HZ.out; have := hW.size; omega) (by have := HH.2; have := HZ.out; have := hW.size; omega))).mono ?_
  rintro e w'' ho
  obtain ⟨hn, ⟨a, v, hr, rfl, hv⟩ | ⟨x, hr, rfl⟩⟩ := ho.split
  · have HN2 := Lib.hid (HW.out.trans hn)
    obtain ⟨A', c', rfl, ho⟩ := hv
    have HO := Lib.hid (ho.mono HW.out.size)
    clear hn ho
    go_wp2
    go_ret2
    exact .yes hr.out HN2.out ⟨_, _, rfl, HO.out⟩
  · have HN2 := Lib.hid (HW.out.trans hn)
    clear hn
    go_wp2
    go_ret2
    exact .no hr.out HN2.out
/-- octet.Lay -/
theorem oc_Lay (lo hi lo' hi' : Nat) (v u : Value) (xs : List I64) (ys : List U64) (w : World) (hv : Rd ei lo hi w v xs) (hu : Rd e64 lo' hi' w u ys) (hl : xs.length ≤ 1099511627776) :
    Calls Try.prog 29 #[v, u] w (OutT (.slice none 0 0) (VO e8 5) (layI xs ys) w) := by
  obtain ⟨A, c, rfl, h1, h2⟩ := hv.form
  obtain ⟨B, d, rfl, h3, h4⟩ := hu.form
  have HL := Lib.hid hl
  have hb1 := Box.new w 50 (.slice A xs.length c)
  have hb2 := Box.new (w.alloc (.cells #[.slice A xs.length c] 50)) 51 (.slice B ys.length d)
  have hW0 : New w ((w.alloc (.cells #[.slice A xs.length c] 50)).alloc (.cells #[.slice B ys.length d] 51)) := (new_alloc w _).alloc _
  have hsz : ((w.alloc (.cells #[.slice A xs.length c] 50)).alloc (.cells #[.slice B ys.length d] 51)).heap.size = w.heap.size + 2 := by simp
  simp only [World.size_alloc] at hb2
  have HV := Lib.hid (hv.new hW0)
  have HU := Lib.hid (hu.new hW0)
  have HB1 := Lib.hid (hb1.alloc (.cells #[.slice B ys.length d] 51))
  have HB2 := Lib.hid hb2
  have HW := Lib.hid hW0
  have HZ := Lib.hid hsz
  have hmf := hmf
  clear hv hu hl hb1 hb2 hW0 hsz
  go_enter Try.func29, Try.ntmps29
  go_wp2_with fail
  refine (tr_bytes_out (r := layI xs ys) _ _ (fun _ => by rfl) _ (fun W hW => oc_Lay1 lo hi lo' hi' _ _ xs ys W _ _ (HV.out.new hW) (HU.out.new hW) HL.out (HB1.out.later hW) (HB2.out.later hW))).mono ?_
  rintro e w'' ho
  obtain ⟨hn, ⟨a, v, hr, rfl, hv⟩ | ⟨x, hr, rfl⟩⟩ := ho.split
  · have HN2 := Lib.hid (HW.out.trans hn)
    obtain ⟨A', c', rfl, ho⟩ := hv
    have HO := Lib.hid (ho.mono HW.out.size)
    clear hn ho
    go_wp2
    go_ret2
    exact .yes hr.out HN2.out ⟨_, _, rfl, HO.out⟩
  · have HN2 := Lib.hid (HW.out.trans hn)
    clear hn
    go_wp2
    go_ret2
    exact .no hr.out HN2.out
end Go.Proofs.Ytcbijmlkkdpheaa
