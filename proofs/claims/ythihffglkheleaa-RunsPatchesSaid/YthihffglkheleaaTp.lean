/- Contract of runs.ReadTile. -/
import Derived.Test.YthihffglkheleaaTo
set_option linter.unusedVariables false
set_option linter.unusedSimpArgs false
namespace Go.Proofs.Ythihffglkheleaa
open Go.RowKit

theorem BoxA.load {w : World} {b : Nat} {t : List Col} (h : BoxA w b 29 (tcA t)) (ht : t.length = 64) : (loadVar 29 ⟨b, 0, none⟩).run Try.prog w = .ok (.agg (tcA t)) w :=
  run_loadVar_row w b 29 29 (tcA t) (0, 0) _ h Try.underlying29 rfl (size_tc ht)
theorem chg_setCells (M : Nat → Prop) (b : Nat) (hb : M b) : ∀ (vs : List Value) (o : Nat) (w : World), Chg M w (w.setCells b o vs)
  | [], _, w => Chg.refl M w
  | v :: vs, o, w => ((Chg.refl M w).setCell (p := ⟨b, o, none⟩) (.inl hb) v).trans (chg_setCells M b hb vs (o + 1) _)
theorem setCells_drew (b : Nat) : ∀ (vs : List Value) (o : Nat) (w : World), w.drew.setCells b o vs = (w.setCells b o vs).drew
  | [], _, _ => rfl
  | v :: vs, o, w => setCells_drew b vs (o + 1) (w.setCell ⟨b, o, none⟩ v)
theorem still_load_tile {o : Oper} {a : Act} {w : World} {K : Act → Prop} (x : Operand) (ho : o.op = .load 29 x) (b : Nat) (hx : a.eval x = .pointer (some ⟨b, 0, none⟩)) (t : List Col) (ht : t.length = 64) (hb : BoxA w b 29 (tcA t)) (h : K (a.put o.dst (.agg (tcA t)))) : o.still Try.prog a w K := by
  have hr : (execOp a.eval o).run Try.prog w = .ok (.value (.agg (tcA t))) w := by
    unfold execOp
    simp only [ho, hx, Instr.loadAt, Instr.sureAddr, Sem.run_bind, Sem.run_pure, Result.andThen_ok, hb.load ht]
  unfold Oper.still
  rw [hr, Oper.stillUpon_value]
  exact h

set_option maxRecDepth 100000 in
set_option maxHeartbeats 4000000 in
theorem rn_ReadTile1 (Z : Nat × Nat) (p q g : Nat) (wd hg : Int) (T : Value) (bs : List U8) (at_ : Nat) (t0 : List Col) (w : World) (hp : Box w p 66 (.pointer (some ⟨g, 0, none⟩))) (hq : BoxA w q 29 (tcA t0)) (ht0 : t0.length = 64) (hr : IsRd Z w g wd hg T bs at_) (hl : bs.length ≤ 1099511627776)
    (hpg : p ≠ g) (hqg : q ≠ g) (hqz : Z.2 ≤ q) (hpq : p ≠ q) :
    Calls Try.prog 33 #[.pointer (some ⟨p, 0, none⟩), .pointer (some ⟨q, 0, none⟩)] w fun e w' => Chg (fun k => k = g ∨ k = q) w w' ∧ ∃ p2, IsRd Z w' g wd hg T bs p2 ∧
      ((∃ t, rdI (bs.drop at_) 64 none = some (t, bs.drop p2) ∧ p2 = at_ + (tileB t).length ∧ t.length = 64 ∧ BoxA w' q 29 (tcA t) ∧ e = .returned (.tuple #[])) ∨ (rdI (bs.drop at_) 64 none = none ∧ e = boomW)) := by
  have cp := hp.cell
  have HT := Lib.hid (rn_tile Z g wd hg T bs at_ w hr hl)
  have HQ := Lib.hid hq
  clear hp hq hr
  go_enter Try.func33, Try.ntmps33
  go_wp2_with fail
  refine HT.out.mono ?_
  rintro e w1 ⟨hC, p2, hI, ⟨t, h1, h2, h3, rfl⟩ | ⟨h1, rfl⟩⟩
  · have HC := Lib.hid hC
    have HI := Lib.hid hI
    have HQ1 := Lib.hid (HQ.out.chg hC hqg)
    have H1 := Lib.hid h1
    have H2 := Lib.hid h2
    have H3 := Lib.hid h3
    clear hC hI h1 h2 h3 HT
    go_wp2_with (refine wpl_store_tile rfl (.tmp 1) (.tmp 3) rfl _ rfl t H3.out rfl HQ1.out (by rw [tcA_size, ht0]) ?_)
    go_end0
    have hc := chg_setRow (fun k => k = q) w1 q (tcA t) rfl
    refine ⟨(HC.out.mono (fun _ _ h => .inl h)).trans (hc.mono (fun _ _ h => .inr h)), p2, HI.out.chg hc (fun k hk => by omega), .inl ⟨t, H1.out, H2.out, H3.out, HQ1.out.setRow _, rfl⟩⟩
  · exact ⟨rfl, hC.mono (fun _ _ h => .inl h), p2, hI, .inr ⟨h1, rfl⟩⟩

/-- A tile, how many bytes, an error. -/
def OutRT (r : Option (List Col × Nat)) (w : World) (e : Ending) (w' : World) : Prop :=
  New w w' ∧ e = .returned (.tuple #[.agg (tcA (match r with | some x => x.1 | none => blankT)), .int .i64 (match r with | some x => (x.2 : Int) | none => 0), .int .i64 (match r with | some _ => 0 | none => 200)])

set_option maxRecDepth 100000 in
set_option maxHeartbeats 4000000 in
theorem rn_ReadTile (lo hi : Nat) (A : Option Addr) (c : Nat) (bs : List U8) (w : World) (hv : Rd e8 lo hi w (.slice A bs.length c) bs) (hh : hi ≤ w.heap.size) (hl : bs.length ≤ 1099511627776) :
    Calls Try.prog 14 #[.slice A bs.length c] w (OutRT (readT bs) w) := by
  obtain ⟨W4, hW4⟩ : ∃ W4, W4 = (((w.alloc (.cells (tcA blankT) 29)).alloc (.cells #[.int .i64 0, .int .i64 0, .slice none 0 0, .slice A bs.length c, .int .i64 0] 68)).alloc (.cells #[.pointer (some ⟨w.heap.size + 1, 0, none⟩)] 66)).alloc (.cells (tcA blankT) 29) := ⟨_, rfl⟩
  have hs4 : W4.heap.size = w.heap.size + 4 := by rw [hW4]; simp
  have hn4 : New w W4 := by rw [hW4]; exact (((new_alloc w _).alloc _).alloc _).alloc _
  have b0 : BoxA W4 w.heap.size 29 (tcA blankT) := by
    rw [hW4]; exact (((BoxA.new w _ _).later (new_alloc _ _)).later (new_alloc _ _)).later (new_alloc _ _)
  have b1 : BoxA W4 (w.heap.size + 1) 68 #[.int .i64 0, .int .i64 0, .slice none 0 0, .slice A bs.length c, .int .i64 ((0 : Nat) : Int)] := by
    have := BoxA.new (w.alloc (.cells (tcA blankT) 29)) 68 #[.int .i64 0, .int .i64 0, .slice none 0 0, .slice A bs.length c, .int .i64 0]
    rw [World.size_alloc] at this
    rw [hW4]; exact (this.later (new_alloc _ _)).later (new_alloc _ _)
  have b2 : Box W4 (w.heap.size + 1 + 1) 66 (.pointer (some ⟨w.heap.size + 1, 0, none⟩)) := by
    have := Box.new ((w.alloc (.cells (tcA blankT) 29)).alloc (.cells #[.int .i64 0, .int .i64 0, .slice none 0 0, .slice A bs.length c, .int .i64 0] 68)) 66 (.pointer (some ⟨w.heap.size + 1, 0, none⟩))
    simp only [World.size_alloc] at this
    rw [hW4]; exact this.alloc _
  have b3 : BoxA W4 (w.heap.size + 1 + 1 + 1) 29 (tcA blankT) := by
    have := BoxA.new (((w.alloc (.cells (tcA blankT) 29)).alloc (.cells #[.int .i64 0, .int .i64 0, .slice none 0 0, .slice A bs.length c, .int .i64 0] 68)).alloc (.cells #[.pointer (some ⟨w.heap.size + 1, 0, none⟩)] 66)) 29 (tcA blankT)
    simp only [World.size_alloc] at this
    rw [hW4]; exact this
  have hI : IsRd (lo, hi) W4 (w.heap.size + 1) 0 0 (.slice none 0 0) bs 0 := ⟨by simp; omega, by omega, A, c, b1, hv.new hn4⟩
  have hrd := rn_reads 33 #[.pointer (some ⟨w.heap.size + 1 + 1, 0, none⟩), .pointer (some ⟨w.heap.size + 1 + 1 + 1, 0, none⟩)] (fun _ => by rfl) (.pointer (some ⟨w.heap.size + 1, 0, none⟩)) W4 (fun k => k = w.heap.size + 1 ∨ k = w.heap.size + 1 + 1 + 1) (fun k hk => by omega)
    (fun e W w' => ∃ p2, IsRd (lo, hi) w' (w.heap.size + 1) 0 0 (.slice none 0 0) bs p2 ∧ ((∃ t, rdI (bs.drop 0) 64 none = some (t, bs.drop p2) ∧ p2 = 0 + (tileB t).length ∧ t.length = 64 ∧ BoxA w' (w.heap.size + 1 + 1 + 1) 29 (tcA t) ∧ e = .returned (.tuple #[])) ∨ (rdI (bs.drop 0) 64 none = none ∧ e = boomW)))
    (fun W hW _ => (rn_ReadTile1 (lo, hi) (w.heap.size + 1 + 1) (w.heap.size + 1 + 1 + 1) (w.heap.size + 1) 0 0 (.slice none 0 0) bs 0 blankT W (b2.later hW) (b3.later hW) blankT_length (hI.new hW) hl (by omega) (by omega) (by simp; omega) (by omega)).mono (fun e w' h => by
      obtain ⟨h1, p2, h2, h3⟩ := h
      refine ⟨⟨p2, h2, h3⟩, h1, ?_⟩
      rcases h3 with ⟨t, _, _, _, _, h4⟩ | ⟨_, h4⟩
      · exact .inl h4
      · exact .inr h4))
  have HRD := Lib.hid hrd
  have HN4 := Lib.hid hn4
  have HS4 := Lib.hid hs4
  have HB0 := Lib.hid b0
  have HB2 := Lib.hid b2
  have hmf := hmf
  rw [List.drop_zero] at HRD
  clear hv hh b0 b1 b2 b3 hI hrd hn4 hs4
  obtain ⟨R, hR⟩ : ∃ R, R = readT bs := ⟨_, rfl⟩
  rw [← hR]
  have HR := Lib.hid hR
  clear hR
  go_enter Try.func14, Try.ntmps14
  go_wp2_with (refine wpl_alloc_tile rfl rfl ?_)
  rw [← hW4]
  clear hW4
  refine HRD.out.mono ?_
  rintro e w5 ⟨e0, W, w6, ⟨p2, hI2, hres⟩, hNW, hC6, hok, hC5⟩
  have hc45 : Chg (fun k => k = w.heap.size + 1 ∨ k = w.heap.size + 1 + 1 + 1 ∨ k = w.heap.size + 4) W4 w5 := ((hNW.chg _).trans (hC6.mono (fun _ _ h => by rcases h with h | h; exact .inl h; exact .inr (.inl h)))).trans (hC5.mono (fun _ _ h => .inr (.inr (by have := HS4.out; omega))))
  have HC45 := Lib.hid hc45
  have HB5 := Lib.hid (HB0.out.chg hc45 (by omega))
  rcases hok with ⟨rfl, rfl⟩ | ⟨rfl, rfl⟩
  · rcases hres with ⟨t, h1, h2, h3, h4, _⟩ | ⟨_, h4⟩
    · have hb4 := h4.chg hC5 (by have := HS4.out; omega)
      obtain ⟨_, _, A2, c2, hg2, _⟩ := hI2
      have hg5 := (hg2.chg hC5 (by have := HS4.out; omega)).cell 4
      simp only [List.getElem?_toArray, List.getElem?_cons_zero, List.getElem?_cons_succ] at hg5
      have cp5 := (HB2.out.chg hc45 (by omega)).cell
      have hrt : readT bs = some (t, p2) := by
        rw [readT, h1]
        simp only [Option.map_some, Option.some.injEq, Prod.mk.injEq, true_and, List.length_drop]
        have := (rdI_back h1).2
        have h5 : bs.length = (tileB t).length + (bs.drop p2).length := by rw [← List.length_append, ← this]
        rw [List.length_drop] at h5
        omega
      obtain rfl : R = some (t, p2) := HR.out.trans hrt
      have HB4 := Lib.hid hb4
      have H3 := Lib.hid h3
      clear hNW hC6 hC5 hc45 h1 h2 h4 hb4 hg2 hrt h3 HRD
      have hr3 := HB4.out
      have hth : w5.there w.heap.size 0 (tcl t).length := fun j hj => ⟨by rw [Nat.zero_add, HB5.out.cell, Array.getElem?_eq_getElem (by rw [tcA_size, blankT_length]; rw [tcl_length, H3.out] at hj; omega)]; rfl, by rw [Nat.zero_add]; exact HB5.out.free j⟩
      have hszl : (Try.prog.info? 29).map (·.size) = some (tcl t).length := by rw [tcl_length, H3.out]; exact size_tile
      have hone : ∀ v ∈ tcl t, v.oneCell' = true := fun v hv => (Array.all_eq_true_iff_forall_mem.1 (tcA_one t)) v (by simpa [tcA] using hv)
      have hu := Try.underlying29
      rw [show tcA t = (tcl t).toArray from rfl] at hr3
      have hrq := hr3.range
      generalize htl : tcl t = tl at *
      have HTL := Lib.hid htl
      clear htl HB4
      have hq6 := World.rangeAt_setCells_apart hrq w.heap.size 0 tl (.inl (by omega))
      have hp6 : (w5.setCells w.heap.size 0 tl).cell? ⟨w.heap.size + 1 + 1, 0, none⟩ = some (.pointer (some ⟨w.heap.size + 1, 0, none⟩)) := by rw [World.cell?_setCells_out _ _ _ _ _ (fun h => by simp at h; omega)]; exact cp5
      have hg6 : (w5.setCells w.heap.size 0 tl).cell? ⟨w.heap.size + 1, 4, none⟩ = some (.int .i64 p2) := by rw [World.cell?_setCells_out _ _ _ _ _ (fun h => by simp at h)]; exact hg5
      have hth6 := World.there_setCells hth w.heap.size 0 tl
      have hsame := World.rangeAt_setCells_same w5 w.heap.size 0 tl hth
      have hld := run_loadVar_mid (P := Try.prog) (w5.setCells w.heap.size 0 tl).drew w.heap.size 0 29 tl _ ((World.rangeAt_drew _ _ _ _).2 hsame) hu rfl hszl
      have hS5 : w5.drew.rangeAt (w.heap.size + 1 + 1 + 1) 0 tl ∧ w5.drew.cell? ⟨w.heap.size + 1 + 1, 0, none⟩ = some (.pointer (some ⟨w.heap.size + 1, 0, none⟩)) ∧ w5.drew.cell? ⟨w.heap.size + 1, 4, none⟩ = some (.int .i64 p2) ∧ w5.drew.there w.heap.size 0 tl.length := ⟨(World.rangeAt_drew _ _ _ _).2 hrq, cp5, hg5, (World.there_drew _ _ _ _).2 hth⟩
      have hS6 : (w5.setCells w.heap.size 0 tl).drew.rangeAt (w.heap.size + 1 + 1 + 1) 0 tl ∧ (w5.setCells w.heap.size 0 tl).drew.cell? ⟨w.heap.size + 1 + 1, 0, none⟩ = some (.pointer (some ⟨w.heap.size + 1, 0, none⟩)) ∧ (w5.setCells w.heap.size 0 tl).drew.cell? ⟨w.heap.size + 1, 4, none⟩ = some (.int .i64 p2) ∧ (w5.setCells w.heap.size 0 tl).drew.there w.heap.size 0 tl.length := ⟨(World.rangeAt_drew _ _ _ _).2 hq6, hp6, hg6, (World.there_drew _ _ _ _).2 hth6⟩
      have hdd : w5.drew.setCells w.heap.size 0 tl = (w5.setCells w.heap.size 0 tl).drew := setCells_drew _ _ _ _
      have HS5 := Lib.hid hS5
      have HS6 := Lib.hid hS6
      have HLD := Lib.hid hld
      have HDD := Lib.hid hdd
      clear hr3 hrq hq6 hp6 hg6 hth6 hsame hld hS5 hS6 hdd hth cp5 hg5
      go_wp2_with fail
      go_region_held3 (fun w' => w'.rangeAt (w.heap.size + 1 + 1 + 1) 0 tl ∧ w'.cell? ⟨w.heap.size + 1 + 1, 0, none⟩ = some (.pointer (some ⟨w.heap.size + 1, 0, none⟩)) ∧ w'.cell? ⟨w.heap.size + 1, 4, none⟩ = some (.int .i64 p2) ∧ w'.there w.heap.size 0 tl.length)
        (first | exact HS5.out | exact HS6.out | (rw [HDD.out]; exact HS6.out) | assumption | go_keep)
        (fail)
      all_goals
        (try rw [HDD.out])
        go_wp2
        refine bodyPost_ret (v := .tuple #[.agg tl.toArray, .int .i64 p2, .int .i64 0]) (by simp [results, Try.results14, asAddr, HLD.out]) rfl ⟨?_, by rw [← HTL.out]; rfl⟩
        have hc := (HC45.out.mono (fun _ _ h => .inl h)).trans ((chg_setCells (fun k => k = w.heap.size) w.heap.size rfl tl 0 w5).drew.mono (M' := fun k => (k = w.heap.size + 1 ∨ k = w.heap.size + 1 + 1 + 1 ∨ k = w.heap.size + 4) ∨ k = w.heap.size) (fun _ _ h => .inr h))
        exact HN4.out.trans' hc (fun k hk => by omega)
    · cases h4
  · rcases hres with ⟨t, _, _, _, _, h4⟩ | ⟨h1, _⟩
    · cases h4
    · have hrt : readT bs = none := by rw [readT, h1]; rfl
      obtain rfl : R = none := HR.out.trans hrt
      clear hI2 hNW hC6 hC5 hc45 h1 hrt HRD
      go_wp2_with (first
        | (refine wpl_build_tile rfl rfl ?_)
        | (refine wpl_store_tile rfl (.tmp 2) (.tmp 14) rfl _ rfl blankT blankT_length rfl HB5.out (by simp [tcA_size, blankT_length]) ?_))
      have hld := (HB5.out.setRow (tcA blankT)).load blankT_length
      refine bodyPost_ret (v := .tuple #[.agg (tcA blankT), .int .i64 0, .int .i64 200]) (by simp [results, Try.results14, asAddr, hld]) rfl ⟨?_, rfl⟩
      have hc := (HC45.out.mono (fun _ _ h => .inl h)).trans ((chg_setRow (fun k => k = w.heap.size) w5 w.heap.size (tcA blankT) rfl).mono (M' := fun k => (k = w.heap.size + 1 ∨ k = w.heap.size + 1 + 1 + 1 ∨ k = w.heap.size + 4) ∨ k = w.heap.size) (fun _ _ h => .inr h))
      exact HN4.out.trans' hc (fun k hk => by omega)
end Go.Proofs.Ythihffglkheleaa
