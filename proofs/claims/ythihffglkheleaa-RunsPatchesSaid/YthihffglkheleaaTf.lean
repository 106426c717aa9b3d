/- Contracts of runs.Size. -/
import Derived.Test.YthihffglkheleaaTe
set_option linter.unusedVariables false
set_option linter.unusedSimpArgs false
namespace Go.Proofs.Ythihffglkheleaa
open Go.RowKit

theorem tileB_chgs (t : List Col) (h : 0 < t.length) : (tileB t).length = 5 * (1 + chgs t[0] t) := by
  cases t with
  | nil => simp at h
  | cons c l => rw [tileB, rleK_length]; simp [chgs]
/-- A slice of tiles. -/
def RdT (lo hi : Nat) (w : World) (v : Value) (ts : List (List Col)) : Prop := RdC 256 tcl lo hi w v ts ∧ ∀ t ∈ ts, t.length = 64
section
variable {lo hi : Nat} {w w' : World} {v : Value} {ts : List (List Col)}
theorem RdT.new (h : RdT lo hi w v ts) (hc : New w w') : RdT lo hi w' v ts := ⟨h.1.new hc, h.2⟩
theorem RdT.form (h : RdT lo hi w v ts) : ∃ A c, v = .slice A ts.length c ∧ ts.length ≤ c ∧ c ≤ 9223372036854775807 := h.1.form
theorem RdT.at_ {A : Option Addr} {c : Nat} (h : RdT lo hi w (.slice A ts.length c) ts) (k : Nat) (hk : k < ts.length) :
    ∃ b off, A = some ⟨b, off, none⟩ ∧ lo ≤ b ∧ b < hi ∧ (∀ j, j < 256 → w.cell? ⟨b, off + k * 256 + j, none⟩ = (tcl ts[k])[j]?) ∧ ts[k].length = 64 := by
  obtain ⟨b, off, hA, h1, h2, hc⟩ := h.1.at_ k hk
  exact ⟨b, off, hA, h1, h2, hc, h.2 _ (List.getElem_mem hk)⟩
theorem RdT.chg {M : Nat → Prop} (h : RdT lo hi w v ts) (hc : Chg M w w') (hm : ∀ k, lo ≤ k → k < hi → ¬ M k) : RdT lo hi w' v ts := by
  obtain ⟨⟨A, c, e, h1, h2, h3⟩, ht⟩ := h
  refine ⟨⟨A, c, e, h1, h2, ?_⟩, ht⟩
  rcases h3 with h3 | ⟨b, off, hA, hl, hh, hs, hcell⟩
  · exact .inl h3
  · exact .inr ⟨b, off, hA, hl, hh, Nat.lt_of_lt_of_le hs hc.size, fun i hi j hj => (World.cell?_of_block (hc.block b hs (hm b hl hh))).trans (hcell i hi j hj)⟩
end
theorem BoxA.tile {w : World} {b : Nat} {ty : TypeId} {t : List Col} (h : BoxA w b ty (tcA t)) (j : Nat) : w.cell? ⟨b, j, none⟩ = (tcl t)[j]? := by rw [h.cell]; simp [tcA]

set_option maxRecDepth 100000 in
set_option maxHeartbeats 4000000 in
theorem rn_Size1 (n k : Int) (t : List Col) (w : World) (ht : t.length = 64) (h0 : 0 ≤ n) (h1 : n ≤ 1099511627776) :
    Calls Try.prog 37 #[.int .i64 n, .int .i64 k, .agg (tcA t)] w fun e w' => e = .returned (.int .i64 (n + (tileB t).length)) ∧ New w w' := by
  have hb := BoxA.new w 29 (tcA t)
  have HB := Lib.hid hb
  have HS := Lib.hid (size_tc ht)
  have hr := rn_Runs t (w.alloc (.cells (tcA t) 29)) ht
  have h00 : 0 < t.length := by omega
  rw [tileB_chgs t h00]
  have hcl : chgs (t[0]'h00) t ≤ 64 := Nat.le_trans (chgs_le t (t[0]'h00)) (Nat.le_of_eq ht)
  generalize chgs (t[0]'h00) t = m at *
  have HR := Lib.hid hr
  clear hr hb ht
  generalize tcA t = cs at *
  go_enter Try.func37, Try.ntmps37
  go_wp2_with (first
    | (refine wpList_load_row rfl 29 (.tmp 5) rfl _ rfl _ cs (0, 0) _ HB.out Try.underlying29 rfl HS.out ?_)
    | (go_at_call 17; ((with_reducible refine HR.out.mono ?_); rintro e w1 ⟨rfl, hN⟩; have HN := Lib.hid hN; clear hN)))
  go_ret
  exact ⟨by simp, (new_alloc w _).trans HN.out⟩

/-- how many bytes tiles have -/
def sizeT (ts : List (List Col)) : Nat := (ts.map fun t => (tileB t).length).sum
theorem sizeT_take (ts : List (List Col)) (k : Nat) (hk : k < ts.length) : sizeT (ts.take (k + 1)) = sizeT (ts.take k) + (tileB ts[k]).length := by
  rw [sizeT, sizeT, List.take_add_one, List.map_append, List.sum_append, List.getElem?_eq_getElem hk]
  simp
theorem sizeT_le (ts : List (List Col)) (h : ∀ t ∈ ts, t.length = 64) : sizeT ts ≤ 320 * ts.length := by
  induction ts with
  | nil => simp [sizeT]
  | cons t ts ih =>
    have h1 := tileB_le t
    have h2 := h t (by simp)
    have h3 := ih (fun x hx => h x (by simp [hx]))
    simp only [sizeT, List.map_cons, List.sum_cons, List.length_cons] at h3 ⊢
    omega

set_option maxRecDepth 100000 in
set_option maxHeartbeats 4000000 in
theorem rn_toldI (lo hi : Nat) (v : Value) (ts : List (List Col)) (w : World) (hv : RdT lo hi w v ts) (hl : ts.length ≤ 1000) :
    Calls Try.prog 36 #[.int .i64 0, v, .func (.func 37) #[] #[]] w fun e w' => e = .returned (.int .i64 (sizeT ts)) ∧ New w w' := by
  obtain ⟨A, c, rfl, h1, h2⟩ := hv.form
  have HV := Lib.hid hv
  have HL := Lib.hid hl
  clear hv
  go_enter Try.func36, Try.ntmps36
  go_wp2_with fail
  go_loopw [0, 11] (fun a i wr => ∃ k : Nat, k ≤ ts.length ∧ a = .int .i64 (sizeT (ts.take k)) ∧ i = .int .i64 k ∧ Hid (New w wr)) (fun _ i _ => ts.length - (intOf i).toNat)
  case atStart => exact ⟨0, by omega, by simp [sizeT], rfl, Lib.hid (new_refl _)⟩
  case round =>
    obtain ⟨k, hk, rfl, rfl, HN⟩ := hrel
    by_cases hlt : k < ts.length
    · obtain ⟨b, off, e, _, _, hc, ht⟩ := (HV.out.new HN.out).at_ k hlt
      subst e
      have hst := sizeT_take ts k hlt
      have hsl := sizeT_le (ts.take k) (fun t h => HV.out.2 t (List.mem_of_mem_take h))
      rw [List.length_take] at hsl
      have HST := Lib.hid hst
      have hb3 := BoxA.new wr 29 (tcA ts[k])
      have hsz2 := Lib.hid (size_tc ht)
      have hpz := tcA_size ts[k]
      have HCC := Lib.hid hc
      have HTT := Lib.hid ht
      have hs1 := Lib.hid (fun W => rn_Size1 (sizeT (ts.take k)) k ts[k] W ht (by omega) (by omega))
      clear hst hc ht hpz
      generalize ts[k] = t at *
      generalize sizeT (ts.take k) = m at *
      go_wp2_with (first
        | (refine wpl_load_tile rfl (.tmp 14) rfl _ _ rfl t HTT.out HCC.out ?_)
        | (refine wpl_alloc_tile rfl rfl ?_)
        | (refine wpl_store_tile rfl (.tmp 8) (.tmp 15) rfl _ rfl t HTT.out rfl (BoxA.new _ _ _) (by simp [tcA_size, blankT_length]) ?_; rw [World.setRow_alloc_new])
        | (refine wpList_load_row rfl 29 (.tmp 8) rfl _ rfl _ (tcA t) (0, 0) _ hb3 Try.underlying29 rfl hsz2.out ?_)
        | (go_at_call 37; ((with_reducible refine (hs1.out _).mono ?_); rintro e w1 ⟨rfl, hN1⟩; have HN1 := Lib.hid ((HN.out.alloc _).trans hN1); clear hN1)))
      go_roundw
      case rel => exact ⟨k + 1, by omega, by rw [HST.out]; go_num, by go_num, HN1⟩
      case measure => simp [intOf]; omega
    · have HK := Lib.hid (show ts.take k = ts from List.take_of_length_le (by omega))
      rw [HK.out]
      go_wp2
      go_ret
      exact ⟨rfl, HN.out⟩
theorem rn_Size (lo hi : Nat) (v : Value) (ts : List (List Col)) (w : World) (hv : RdT lo hi w v ts) (hl : ts.length ≤ 1000) :
    Calls Try.prog 16 #[v] w fun e w' => e = .returned (.int .i64 (sizeT ts)) ∧ New w w' := by
  have HV := Lib.hid hv
  obtain ⟨A, c, rfl, h1, h2⟩ := hv.form
  clear hv
  go_enter Try.func16, Try.ntmps16
  go_wp2_with (go_at_call 36; ((with_reducible refine (rn_toldI _ _ _ ts _ HV.out hl).mono ?_); rintro e w1 ⟨rfl, hN⟩; have HN := Lib.hid hN; clear hN))
  go_ret
  exact ⟨rfl, HN.out⟩
end Go.Proofs.Ythihffglkheleaa
