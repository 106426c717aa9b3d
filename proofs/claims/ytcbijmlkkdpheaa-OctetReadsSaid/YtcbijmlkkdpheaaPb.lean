/- Contract of wakes. -/
import Derived.Test.YtcbijmlkkdpheaaPa
set_option linter.unusedVariables false
set_option linter.unusedSimpArgs false
namespace Go.Proofs.Ytcbijmlkkdpheaa
open Go.RowKit

section
variable {α : Type} {enc : α → Value} {lo hi : Nat} {w w' : World} {v : Value} {xs : List α}
theorem Rd.below {B : Nat} (h : Rd enc lo hi w v xs) (hb : Below B w w') (hB : hi ≤ B) : Rd enc lo hi w' v xs :=
  h.keep (fun k _ h2 _ => hb.block k (by omega)) hb.size
theorem rd_build (w : World) (xs : List α) (e : TypeId) (hl : xs.length ≤ 9223372036854775807) : Rd enc w.heap.size (w.heap.size + 1) (w.alloc (.cells (xs.map enc).toArray e)) (.slice (some ⟨w.heap.size, 0, none⟩) xs.length xs.length) xs := by
  refine ⟨_, _, rfl, Nat.le_refl _, hl, .inr ⟨w.heap.size, 0, rfl, Nat.le_refl _, by omega, by simp, fun i hi => ?_⟩⟩
  have := heap_alloc_new w (.cells (xs.map enc).toArray e)
  simp only [World.cell?, this]
  simp [hi]
theorem Rd.step (h : Rd enc lo w.heap.size w v xs) (hn : New w w') : Rd enc lo w'.heap.size w' v xs := (h.new hn).mono (Nat.le_refl _) hn.size
theorem VO.rd2 {e : TypeId} (h : VO enc e w w' v xs) : Rd enc w.heap.size w'.heap.size w' v xs := h.rd
theorem OutT.ok {z : Value} {V : World → World → Value → α → Prop} {r : Res α} {e : Ending} {a : α} (h : OutT z V r w e w') (hr : r = .ok a) : New w w' ∧ ∃ v, e = .returned (.tuple #[v, .int .i64 0]) ∧ V w w' v a := by
  subst hr; exact h
theorem OutT.bad {z : Value} {V : World → World → Value → α → Prop} {r : Res α} {e : Ending} {x : Int} (h : OutT z V r w e w') (hr : r = .no x) : New w w' ∧ e = .returned (.tuple #[z, .int .i64 x]) := by
  subst hr; exact h
end
theorem New.drewN {w w' : World} (h : New w w') (n : Nat) : New w (w'.drewN n) := ⟨h.os, h.tape, h.output, h.size, h.block⟩
/-- bytes, numbers -/
def b8 (l : List Nat) : List U8 := l.map fun (n : Nat) => ⟨(n : Int) % 256, by omega⟩
def bi (l : List Nat) : List I64 := l.map fun (n : Nat) => ⟨(n : Int) % 9223372036854775808, by omega⟩
def b64 (l : List Nat) : List U64 := l.map fun (n : Nat) => ⟨(n : Int) % 18446744073709551616, by omega⟩

set_option maxRecDepth 100000 in
set_option maxHeartbeats 4000000 in
theorem law_wakes (w : World) : Calls Try.prog 9 #[] w fun e w' => e = .returned (.bool true) ∧ New w w' := by
  go_enter Try.func9, Try.ntmps9
  go_wp2_with fail
  have hr : Rd e8 w.heap.size (w.heap.size + 1) (w.alloc (.cells #[.int .u8 9] 5)) (.slice (some ⟨w.heap.size, 0, none⟩) 1 1) (b8 [9]) := rd_build w (b8 [9]) 5 (by decide)
  refine (oc_Put _ _ _ (b8 [9]) 3 258 _ hr (by decide) (by decide) (by decide)).mono ?_
  rintro e w1 ho
  obtain ⟨hN, v1, rfl, A1, c1, rfl, hO⟩ := ho.ok (a := b8 [9, 0, 1, 2]) (by kernel_rfl)
  have HN1 := Lib.hid ((new_alloc w _).trans hN)
  have HA := Lib.hid (hO.rd (Nat.le_refl _))
  clear hN hO ho hr
  go_wp2_with fail
  have hr : Rd e8 w1.heap.size (w1.heap.size + 1) (w1.alloc (.cells #[.int .u8 0, .int .u8 1, .int .u8 2] 5)) (.slice (some ⟨w1.heap.size, 0, none⟩) 3 3) (b8 [0, 1, 2]) := rd_build w1 (b8 [0, 1, 2]) 5 (by decide)
  refine (oc_Get _ _ _ (b8 [0, 1, 2]) 1 2 _ hr).mono ?_
  rintro e w2 ho
  obtain ⟨hN, v2, rfl, rfl⟩ := ho.ok (a := 258) (by kernel_rfl)
  have HN2 := Lib.hid (HN1.out.trans ((new_alloc w1 _).trans hN))
  have HA2 := Lib.hid (HA.out.step ((new_alloc w1 _).trans hN))
  clear hN ho hr HA HN1
  go_wp2_with fail
  have hr1 : Rd ei w2.heap.size (w2.heap.size + 1) (w2.alloc (.cells #[.int .i64 1, .int .i64 2] 3)) (.slice (some ⟨w2.heap.size, 0, none⟩) 2 2) (bi [1, 2]) := rd_build w2 (bi [1, 2]) 3 (by decide)
  have hr2 : Rd e64 (w2.heap.size + 1) (w2.heap.size + 2) ((w2.alloc (.cells #[.int .i64 1, .int .i64 2] 3)).alloc (.cells #[.int .u64 7, .int .u64 258] 26)) (.slice (some ⟨w2.heap.size + 1, 0, none⟩) 2 2) (b64 [7, 258]) := by
    have := rd_build (enc := e64) (w2.alloc (.cells #[.int .i64 1, .int .i64 2] 3)) (b64 [7, 258]) 26 (by decide)
    rw [World.size_alloc] at this
    exact this
  refine (oc_Lay _ _ _ _ _ _ (bi [1, 2]) (b64 [7, 258]) _ (hr1.new (new_alloc _ _)) hr2 (by decide)).mono ?_
  rintro e w3 ho
  obtain ⟨hN, v3, rfl, A3, c3, rfl, hO⟩ := ho.ok (a := b8 [7, 1, 2]) (by kernel_rfl)
  have HN3 := Lib.hid (HN2.out.trans (((new_alloc w2 _).alloc _).trans hN))
  have HA3 := Lib.hid (HA2.out.step (((new_alloc w2 _).alloc _).trans hN))
  have HB3 := Lib.hid (hO.rd (Nat.le_refl _))
  clear hN ho hO hr1 hr2 HA2 HN2
  go_wp2_with fail
  have hr1 : Rd ei w3.heap.size (w3.heap.size + 1) (w3.alloc (.cells #[.int .i64 1, .int .i64 2] 3)) (.slice (some ⟨w3.heap.size, 0, none⟩) 2 2) (bi [1, 2]) := rd_build w3 (bi [1, 2]) 3 (by decide)
  refine (oc_Split _ _ _ _ _ _ (bi [1, 2]) (b8 [7, 1, 2]) _ hr1 (HB3.out.new (new_alloc _ _)) (by decide) ⟨by simp, by simp⟩).mono ?_
  rintro e w4 ho
  obtain ⟨hN, v4, rfl, A4, c4, rfl, hO⟩ := ho.ok (a := b64 [7, 258]) (by kernel_rfl)
  have HN4 := Lib.hid (HN3.out.trans ((new_alloc w3 _).trans hN))
  have HA4 := Lib.hid (HA3.out.step ((new_alloc w3 _).trans hN))
  have HB4 := Lib.hid (HB3.out.step ((new_alloc w3 _).trans hN))
  have HC4 := Lib.hid (hO.rd (Nat.le_refl _))
  clear hN ho hO hr1 HA3 HB3 HN3
  go_wp2_with fail
  have hr1 : Rd e8 w4.heap.size (w4.heap.size + 1) (w4.alloc (.cells #[.int .u8 5, .int .u8 6] 5)) (.slice (some ⟨w4.heap.size, 0, none⟩) 2 2) (b8 [5, 6]) := rd_build w4 (b8 [5, 6]) 5 (by decide)
  refine (oc_Part 0 0 _ _ _ _ [] (b8 [5, 6]) _ (Rd.nil _ _ _ _) hr1 (by decide)).mono ?_
  rintro e w5 ho
  obtain ⟨hN, v5, rfl, A5, c5, rfl, hO⟩ := ho.ok (a := b8 [0, 2, 5, 6]) (by kernel_rfl)
  have HN5 := Lib.hid (HN4.out.trans ((new_alloc w4 _).trans hN))
  have HA5 := Lib.hid (HA4.out.step ((new_alloc w4 _).trans hN))
  have HB5 := Lib.hid (HB4.out.step ((new_alloc w4 _).trans hN))
  have HC5 := Lib.hid (HC4.out.step ((new_alloc w4 _).trans hN))
  have HD5 := Lib.hid (hO.rd (Nat.le_refl _))
  clear hN ho hO hr1 HA4 HB4 HC4 HN4
  go_wp2_with fail
  refine (oc_Open _ _ _ (b8 [0, 2, 5, 6]) _ HD5.out).mono ?_
  rintro e w6 ⟨hN, ⟨hlong, _⟩ | ⟨_, g, Z, hZ, hg, rfl, hI⟩⟩
  · exact absurd hlong (by decide)
  have HN6 := Lib.hid (HN5.out.trans hN)
  have HG := Lib.hid hg
  have HA6 := Lib.hid (HA5.out.new hN)
  have HB6 := Lib.hid (HB5.out.new hN)
  have HC6 := Lib.hid (HC5.out.new hN)
  have HD6 := Lib.hid (HD5.out.new hN)
  have HI6 := Lib.hid hI
  have HS5 := Lib.hid HN5.out.size
  clear hN hZ hg hI HA5 HB5 HC5 HD5 HN5
  go_wp2_with fail
  refine (oc_rPart g (b8 [0, 2, 5, 6]) 0 _ (by decide) HI6.out).mono ?_
  rw [show readI [] (partR (b8 [0, 2, 5, 6])) (b8 [0, 2, 5, 6]) 0 = (b8 [5, 6], [], 0) by kernel_rfl]
  rintro e w7 ⟨hC, v7, rfl, ⟨A7, c7, rfl, hO⟩, hI⟩
  have hm : ∀ k, k < w5.heap.size → ¬ (k = g) := fun k hk => by have := HG.out; omega
  have HN7 : Hid (New w w7) := Lib.hid (Below.trans HN6.out (hC.below HN6.out.size (fun k hk => hm k (by have := HS5.out; omega))))
  have HA7 := Lib.hid (HA6.out.chg hC (fun k _ hk => hm k hk))
  have HB7 := Lib.hid (HB6.out.chg hC (fun k _ hk => hm k hk))
  have HC7 := Lib.hid (HC6.out.chg hC (fun k _ hk => hm k hk))
  have HD7 := Lib.hid (HD6.out.chg hC (fun k _ hk => hm k hk))
  have HE7 := Lib.hid (hO.rd (Nat.le_refl _))
  have HI7 := Lib.hid hI
  clear hC hO hI hm HN6 HA6 HB6 HC6 HD6 HI6 HG HS5
  go_wp2_with fail
  refine (oc_Put 0 0 _ [] 1 256 _ (Rd.nil _ _ _ _) (by decide) (by decide) (by decide)).mono ?_
  rintro e w8 ho
  obtain ⟨hN, rfl⟩ := ho.bad (x := 112) (by kernel_rfl)
  have HN8 : Hid (New w w8) := Lib.hid (HN7.out.trans hN)
  have HA8 := Lib.hid (HA7.out.new hN)
  have HB8 := Lib.hid (HB7.out.new hN)
  have HC8 := Lib.hid (HC7.out.new hN)
  have HD8 := Lib.hid (HD7.out.new hN)
  have HE8 := Lib.hid (HE7.out.new hN)
  have HI8 := Lib.hid (HI7.out.new hN)
  clear hN ho HN7 HA7 HB7 HC7 HD7 HE7 HI7
  go_wp2_with fail
  have hr1 : Rd e8 w8.heap.size (w8.heap.size + 1) (w8.alloc (.cells #[.int .u8 9, .int .u8 0, .int .u8 1, .int .u8 2] 5)) (.slice (some ⟨w8.heap.size, 0, none⟩) 4 4) (b8 [9, 0, 1, 2]) := rd_build w8 (b8 [9, 0, 1, 2]) 5 (by decide)
  refine (oc_eq8 _ _ _ _ _ _ (b8 [9, 0, 1, 2]) (b8 [9, 0, 1, 2]) _ (HA8.out.new (new_alloc _ _)) hr1).mono ?_
  rw [decide_eq_true (rfl : b8 [9, 0, 1, 2] = b8 [9, 0, 1, 2])]
  rintro e w9 ⟨rfl, nd, hd⟩
  have hN : New w8 w9 := by rw [hd]; exact (new_alloc _ _).drewN _
  have HN9 := Lib.hid (HN8.out.trans hN)
  have HA9 := Lib.hid (HA8.out.new hN)
  have HB9 := Lib.hid (HB8.out.new hN)
  have HC9 := Lib.hid (HC8.out.new hN)
  have HD9 := Lib.hid (HD8.out.new hN)
  have HE9 := Lib.hid (HE8.out.new hN)
  have HI9 := Lib.hid (HI8.out.new hN)
  clear hN hd hr1 HN8 HA8 HB8 HC8 HD8 HE8 HI8
  go_wp2_with fail
  have hr1 : Rd e8 w9.heap.size (w9.heap.size + 1) (w9.alloc (.cells #[.int .u8 7, .int .u8 1, .int .u8 2] 5)) (.slice (some ⟨w9.heap.size, 0, none⟩) 3 3) (b8 [7, 1, 2]) := rd_build w9 (b8 [7, 1, 2]) 5 (by decide)
  refine (oc_eq8 _ _ _ _ _ _ (b8 [7, 1, 2]) (b8 [7, 1, 2]) _ (HB9.out.new (new_alloc _ _)) hr1).mono ?_
  rw [decide_eq_true (rfl : b8 [7, 1, 2] = b8 [7, 1, 2])]
  rintro e w10 ⟨rfl, nd, hd⟩
  have hN : New w9 w10 := by rw [hd]; exact (new_alloc _ _).drewN _
  have HN10 := Lib.hid (HN9.out.trans hN)
  have HA10 := Lib.hid (HA9.out.new hN)
  have HB10 := Lib.hid (HB9.out.new hN)
  have HC10 := Lib.hid (HC9.out.new hN)
  have HD10 := Lib.hid (HD9.out.new hN)
  have HE10 := Lib.hid (HE9.out.new hN)
  have HI10 := Lib.hid (HI9.out.new hN)
  clear hN hd hr1 HN9 HA9 HB9 HC9 HD9 HE9 HI9
  go_wp2_with fail
  have hr1 : Rd e64 w10.heap.size (w10.heap.size + 1) (w10.alloc (.cells #[.int .u64 7, .int .u64 258] 26)) (.slice (some ⟨w10.heap.size, 0, none⟩) 2 2) (b64 [7, 258]) := rd_build w10 (b64 [7, 258]) 26 (by decide)
  refine (oc_eq64 _ _ _ _ _ _ (b64 [7, 258]) (b64 [7, 258]) _ (HC10.out.new (new_alloc _ _)) hr1).mono ?_
  rw [decide_eq_true (rfl : b64 [7, 258] = b64 [7, 258])]
  rintro e w11 ⟨rfl, nd, hd⟩
  have hN : New w10 w11 := by rw [hd]; exact (new_alloc _ _).drewN _
  have HN11 := Lib.hid (HN10.out.trans hN)
  have HA11 := Lib.hid (HA10.out.new hN)
  have HB11 := Lib.hid (HB10.out.new hN)
  have HC11 := Lib.hid (HC10.out.new hN)
  have HD11 := Lib.hid (HD10.out.new hN)
  have HE11 := Lib.hid (HE10.out.new hN)
  have HI11 := Lib.hid (HI10.out.new hN)
  clear hN hd hr1 HN10 HA10 HB10 HC10 HD10 HE10 HI10
  go_wp2_with fail
  have hr1 : Rd e8 w11.heap.size (w11.heap.size + 1) (w11.alloc (.cells #[.int .u8 0, .int .u8 2, .int .u8 5, .int .u8 6] 5)) (.slice (some ⟨w11.heap.size, 0, none⟩) 4 4) (b8 [0, 2, 5, 6]) := rd_build w11 (b8 [0, 2, 5, 6]) 5 (by decide)
  refine (oc_eq8 _ _ _ _ _ _ (b8 [0, 2, 5, 6]) (b8 [0, 2, 5, 6]) _ (HD11.out.new (new_alloc _ _)) hr1).mono ?_
  rw [decide_eq_true (rfl : b8 [0, 2, 5, 6] = b8 [0, 2, 5, 6])]
  rintro e w12 ⟨rfl, nd, hd⟩
  have hN : New w11 w12 := by rw [hd]; exact (new_alloc _ _).drewN _
  have HN12 := Lib.hid (HN11.out.trans hN)
  have HA12 := Lib.hid (HA11.out.new hN)
  have HB12 := Lib.hid (HB11.out.new hN)
  have HC12 := Lib.hid (HC11.out.new hN)
  have HD12 := Lib.hid (HD11.out.new hN)
  have HE12 := Lib.hid (HE11.out.new hN)
  have HI12 := Lib.hid (HI11.out.new hN)
  clear hN hd hr1 HN11 HA11 HB11 HC11 HD11 HE11 HI11
  go_wp2_with fail
  have hr1 : Rd e8 w12.heap.size (w12.heap.size + 1) (w12.alloc (.cells #[.int .u8 5, .int .u8 6] 5)) (.slice (some ⟨w12.heap.size, 0, none⟩) 2 2) (b8 [5, 6]) := rd_build w12 (b8 [5, 6]) 5 (by decide)
  refine (oc_eq8 _ _ _ _ _ _ (b8 [5, 6]) (b8 [5, 6]) _ (HE12.out.new (new_alloc _ _)) hr1).mono ?_
  rw [decide_eq_true (rfl : b8 [5, 6] = b8 [5, 6])]
  rintro e w13 ⟨rfl, nd, hd⟩
  have hN : New w12 w13 := by rw [hd]; exact (new_alloc _ _).drewN _
  have HN13 := Lib.hid (HN12.out.trans hN)
  have HA13 := Lib.hid (HA12.out.new hN)
  have HB13 := Lib.hid (HB12.out.new hN)
  have HC13 := Lib.hid (HC12.out.new hN)
  have HD13 := Lib.hid (HD12.out.new hN)
  have HE13 := Lib.hid (HE12.out.new hN)
  have HI13 := Lib.hid (HI12.out.new hN)
  clear hN hd hr1 HN12 HA12 HB12 HC12 HD12 HE12 HI12
  go_wp2_with fail
  refine (oc_rEnd g [] 0 _ HI13.out).mono ?_
  rintro e w14 ⟨rfl, rfl⟩
  go_wp2_with fail
  go_ret
  exact ⟨rfl, HN13.out⟩
end Go.Proofs.Ytcbijmlkkdpheaa
