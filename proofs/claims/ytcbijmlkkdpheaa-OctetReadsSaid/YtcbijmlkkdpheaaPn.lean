/- Contracts of the reference of readers. -/
import Derived.Test.YtcbijmlkkdpheaaPm
import Derived.Test.YtcbijmlkkdpheaaPi
set_option linter.unusedVariables false
set_option linter.unusedSimpArgs false
namespace Go.Proofs.Ytcbijmlkkdpheaa
open Go.RowKit

theorem Rd.le_cap2 {α : Type} {enc : α → Value} {lo hi : Nat} {w : World} {A : Option Addr} {c : Nat} {xs : List α} (h : Rd enc lo hi w (.slice A xs.length c) xs) : xs.length ≤ c := by
  obtain ⟨A', c', e, h1, h2, h3⟩ := h
  injection e with _ _ e
  omega
theorem ref_Part (lo hi : Nat) (v : Value) (xs : List U8) (w : World) (hv : Rd e8 lo hi w v xs) (hl : xs.length ≤ 1099511627776) :
    Calls Try.prog 36 #[v] w fun e w' => ∃ A c, e = .returned (.slice A (beI 2 xs.length ++ xs).length c) ∧ New w w' ∧ Own e8 5 w.heap.size w' (.slice A (beI 2 xs.length ++ xs).length c) (beI 2 xs.length ++ xs) := by
  obtain ⟨A, c, rfl, h1, h2⟩ := hv.form
  have HV := Lib.hid hv
  have HL := Lib.hid hl
  obtain ⟨bs, hbs⟩ : ∃ bs, bs = beI 2 (xs.length : Int) := ⟨_, rfl⟩
  have hbl : bs.length = 2 := by rw [hbs, beI_length]
  have hlay := fun W => ref_Lay 2 xs.length W (by omega) (by omega) (by omega) (by omega)
  rw [show beI (2 : Int).toNat (xs.length : Int) = bs from hbs.symm] at hlay
  rw [← hbs]
  have HBL := Lib.hid hbl
  have HLY := Lib.hid hlay
  clear hv hbs hbl hlay
  go_enter Try.func36, Try.ntmps36
  go_wp2_with fail
  refine (HLY.out _).mono ?_
  rintro e w1 ⟨A1, c1, rfl, hN, hO⟩
  have HN1 := Lib.hid hN
  have HO1 := Lib.hid (hO.rd (Nat.le_refl _))
  clear hN hO
  go_wp2_with fail
  refine (ref_Behind _ _ _ _ _ _ bs xs _ HO1.out (HV.out.new HN1.out) (by have := HBL.out; have := HL.out; omega)).mono ?_
  rintro e w2 ⟨A2, c2, rfl, hN, hO⟩
  have HN2 := Lib.hid (HN1.out.trans hN)
  have HO2 := Lib.hid (hO.mono HN1.out.size)
  clear hN hO
  go_wp2
  go_ret
  exact ⟨A2, c2, by rw [List.length_append]; rfl, HN2.out, HO2.out⟩

/-- What a step of the reference's reader gives: the reader that is left, and the bytes. -/
def RestP (lo hi : Nat) (p : List U8 × List U8 × Int) (w : World) (e : Ending) (w' : World) : Prop :=
  New w w' ∧ ∃ A1 c1 A2 c2, e = .returned (.tuple #[.agg #[.slice A1 p.2.1.length c1, .int .i64 p.2.2], .slice A2 p.1.length c2]) ∧ Rd e8 lo hi w' (.slice A1 p.2.1.length c1) p.2.1 ∧ Rd e8 lo hi w' (.slice A2 p.1.length c2) p.1
theorem RestP.mk {lo hi : Nat} {p : List U8 × List U8 × Int} {w w' : World} {A1 A2 : Option Addr} {c1 c2 : Nat} (hn : New w w') (h1 : Rd e8 lo hi w (.slice A1 p.2.1.length c1) p.2.1) (h2 : Rd e8 lo hi w (.slice A2 p.1.length c2) p.1) :
    RestP lo hi p w (.returned (.tuple #[.agg #[.slice A1 p.2.1.length c1, .int .i64 p.2.2], .slice A2 p.1.length c2])) w' := ⟨hn, _, _, _, _, rfl, h1.new hn, h2.new hn⟩

set_option maxHeartbeats 4000000 in
theorem ref_Take (lo hi : Nat) (A : Option Addr) (c : Nat) (xs : List U8) (fl n : Int) (w : World) (hv : Rd e8 lo hi w (.slice A xs.length c) xs) :
    Calls Try.prog 39 #[.agg #[.slice A xs.length c, .int .i64 fl], .int .i64 n] w (RestP lo hi (readI [] (bytesR n xs) xs fl) w) := by
  have HV := Lib.hid hv
  have hl := hv.len
  have hlc := hv.le_cap2
  by_cases g0 : fl = 0
  · subst g0
    by_cases g1 : 0 ≤ n
    · by_cases g2 : n ≤ xs.length
      · have hre : readI [] (bytesR n xs) xs 0 = (xs.take n.toNat, xs.drop n.toNat, 0) := by simp only [readI, if_true, bytesR, if_pos g1, if_pos g2]
        rw [hre]
        obtain ⟨A5, hs5, hR5⟩ := slice_h Try.underlying22 size_u8 hv .i64 n g1 g2
        obtain ⟨A6, hs6, hR6⟩ := slice_l Try.underlying22 size_u8 hv .i64 n g1 g2
        obtain ⟨ys, hy⟩ : ∃ ys, ys = xs.take n.toNat := ⟨_, rfl⟩
        obtain ⟨zs, hz⟩ : ∃ zs, zs = xs.drop n.toNat := ⟨_, rfl⟩
        have hyl : n.toNat = ys.length := by rw [hy, List.length_take]; omega
        have hzl : xs.length - n.toNat = zs.length := by rw [hz, List.length_drop]
        rw [← hy, ← hz]
        rw [← hy] at hR5
        rw [← hz] at hR6
        rw [hzl] at hR6 hs6
        rw [hyl] at hR5 hs5
        have HR5 := Lib.hid hR5
        have HR6 := Lib.hid hR6
        clear hre hv hy hz hyl hzl hR5 hR6
        go_enter Try.func39, Try.ntmps39
        go_wp2_with fail
        have hb0 := heap_alloc_new w (.cells #[.slice A xs.length c, .int .i64 0] 68)
        have hb1 := heap_alloc_new (w.alloc (.cells #[.slice A xs.length c, .int .i64 0] 68)) (.cells #[.slice none 0 0, .int .i64 0] 68)
        have hb0' := (Below.heap_alloc (w.alloc (.cells #[.slice A xs.length c, .int .i64 0] 68)) (.cells #[.slice none 0 0, .int .i64 0] 68) w.heap.size (by simp)).trans hb0
        have hNW : New w ((w.alloc (.cells #[.slice A xs.length c, .int .i64 0] 68)).alloc (.cells #[.slice none 0 0, .int .i64 0] 68)) := (new_alloc _ _).alloc _
        rw [World.size_alloc] at hb1
        generalize ((w.alloc (.cells #[.slice A xs.length c, .int .i64 0] 68)).alloc (.cells #[.slice none 0 0, .int .i64 0] 68)) = W0 at *
        obtain ⟨p, hp⟩ : ∃ p, p = w.heap.size := ⟨_, rfl⟩
        rw [← hp] at hb0' hb1 ⊢
        have c0 : W0.cell? ⟨p, 0, none⟩ = some (.slice A xs.length c) := by simp [World.cell?, hb0']
        have c2 : W0.cell? ⟨p + 1, 0, none⟩ = some (.slice none 0 0) := by simp [World.cell?, hb1]
        have c3 : W0.cell? ⟨p + 1, 1, none⟩ = some (.int .i64 0) := by simp [World.cell?, hb1]
        have z2 : W0.frozen? ⟨p + 1, 0, none⟩ = false := by simp [World.frozen?, hb1]
        have z3 : W0.frozen? ⟨p + 1, 1, none⟩ = false := by simp [World.frozen?, hb1]
        have HNW := Lib.hid hNW
        have HB1 := Lib.hid hb1
        have HPP := Lib.hid hp
        clear hb0 hb0' hb1 hNW hp
        go_region_held3 (fun w' => w'.cell? ⟨p, 0, none⟩ = some (.slice A xs.length c))
          (first | exact c0 | assumption | go_keep)
          (fail)
        all_goals
          go_wp2_with fail
          refine bodyPost_ret (v := .tuple #[.agg #[.slice A6 zs.length (c - n.toNat), .int .i64 0], .slice A5 ys.length c]) ?_ rfl ?_
          · simp [results, Try.results39, go_sem, c2, c3]
          · refine RestP.mk ?_ HR6.out HR5.out
            have hle : w.heap.size ≤ p + 1 := by have := HPP.out; omega
            first
              | exact Below.drew ((HNW.out.setCell (p := ⟨p + 1, 0, none⟩) hle _).setCell (p := ⟨p + 1, 1, none⟩) hle _)
              | exact ((Below.drew HNW.out).setCell (p := ⟨p + 1, 0, none⟩) hle _).setCell (p := ⟨p + 1, 1, none⟩) hle _
      · have hd : decide ((xs.length : Int) < n) = true := by simp; omega
        have hd2 : decide (n < 0) = false := by simp; omega
        have hre : readI [] (bytesR n xs) xs 0 = ([], xs, 110) := by simp only [readI, if_true, bytesR, if_pos g1, if_neg g2]
        rw [hre]
        clear hre hv
        go_enter Try.func39, Try.ntmps39
        go_wp2_with fail
        refine bodyPost_ret (v := .tuple #[.agg #[.slice A xs.length c, .int .i64 110], .slice none 0 0]) ?_ rfl ?_
        · simp [results, Try.results39, go_sem]
        · exact RestP.mk ((new_alloc _ _).alloc _) HV.out (Rd.nil _ _ _ _)
    · have hd2 : decide (n < 0) = true := by simp; omega
      have hre : readI [] (bytesR n xs) xs 0 = ([], xs, 2) := by simp only [readI, if_true, bytesR, if_neg g1]
      rw [hre]
      clear hre hv
      go_enter Try.func39, Try.ntmps39
      go_wp2_with fail
      refine bodyPost_ret (v := .tuple #[.agg #[.slice A xs.length c, .int .i64 2], .slice none 0 0]) ?_ rfl ?_
      · simp [results, Try.results39, go_sem]
      · exact RestP.mk ((new_alloc _ _).alloc _) HV.out (Rd.nil _ _ _ _)
  · have hne : (fl != 0) = true := by simpa using g0
    have hre : readI [] (bytesR n xs) xs fl = ([], xs, fl) := by unfold readI; rw [if_neg g0]
    rw [hre]
    clear hre
    clear hv
    go_enter Try.func39, Try.ntmps39
    go_wp2_with fail
    refine bodyPost_ret (v := .tuple #[.agg #[.slice A xs.length c, .int .i64 fl], .slice none 0 0]) ?_ rfl ?_
    · simp [results, Try.results39, go_sem]
    · exact RestP.mk ((new_alloc _ _).alloc _) HV.out (Rd.nil _ _ _ _)
end Go.Proofs.Ytcbijmlkkdpheaa
