/- Contract of runs.Tile: the bytes of a tile. -/
import Derived.Test.YthihffglkheleaaTc
import Derived.Test.YthihffglkheleaaBf
set_option linter.unusedVariables false
set_option linter.unusedSimpArgs false
namespace Go.Proofs.Ythihffglkheleaa
open Go.RowKit
attribute [local go_sem] Oper.semAt_some

def runsB (l : List (Nat × Col)) : List U8 := l.flatMap (fun x => runB x.1 x.2)
theorem runsB_length (l : List (Nat × Col)) : (runsB l).length = 5 * l.length := by
  induction l with
  | nil => rfl
  | cons x l ih => simp only [runsB, List.flatMap_cons, List.length_append, List.length_cons] at ih ⊢; rw [ih]; simp [runB]; omega
theorem runsB_snoc (l : List (Nat × Col)) (x : Nat × Col) : runsB (l ++ [x]) = runsB l ++ runB x.1 x.2 := by simp [runsB]
theorem chgs_le (l : List Col) : ∀ c, chgs c l ≤ l.length := by
  induction l with
  | nil => intro c; simp [chgs]
  | cons d l ih => intro c; have := ih d; simp only [chgs, List.length_cons]; split <;> omega
theorem runsT_le (t : List Col) : (runsT t).length ≤ t.length := by
  cases t with
  | nil => simp [runsT]
  | cons c l => rw [runsT, runsK_len]; have := chgs_le l c; simp; omega
theorem tileB_le (t : List Col) : (tileB t).length ≤ 5 * t.length := by
  rw [tileB_runs]
  have := runsT_le t
  have := runsB_length (runsT t)
  rw [runsB] at this
  omega

theorem rd_new5 (w : World) (a b c d e : U8) (t : TypeId) : Rd e8 0 (w.heap.size + 1) (w.alloc (.cells #[e8 a, e8 b, e8 c, e8 d, e8 e] t)) (.slice (some ⟨w.heap.size, 0, none⟩) 5 5) [a, b, c, d, e] := by
  refine ⟨_, _, rfl, by simp, by simp, .inr ⟨w.heap.size, 0, rfl, by omega, by omega, by simp, fun i hi => ?_⟩⟩
  have := heap_alloc_new w (.cells #[e8 a, e8 b, e8 c, e8 d, e8 e] t)
  simp only [World.cell?, this]
  simp only [List.length_cons, List.length_nil] at hi
  match i, hi with
  | 0, _ => simp
  | 1, _ => simp
  | 2, _ => simp
  | 3, _ => simp
  | 4, _ => simp
set_option maxRecDepth 100000 in
set_option maxHeartbeats 4000000 in
theorem rn_Tile (t : List Col) (w : World) (ht : t.length = 64) :
    Calls Try.prog 10 #[.agg (tcA t)] w (OutS (tileB t) w) := by
  have HT := Lib.hid ht
  have hrl : (runsT t).length ≤ 64 := by have := runsT_le t; omega
  have HRL := Lib.hid hrl
  have hIt := fun p W Mb hp hm => rn_each1 p t W Mb ht hp hm
  rw [show tileB t = runsB (runsT t) from tileB_runs t]
  generalize runsT t = rs at *
  have hb1 := BoxA.new w 29 (tcA t)
  have HB1 := Lib.hid (hb1.later (new_alloc _ (.cells #[.slice none 0 0] 23)))
  have hb3 := Box.new (w.alloc (.cells (tcA t) 29)) 23 (.slice none 0 0)
  rw [World.size_alloc] at hb3
  have HB3 := Lib.hid hb3
  clear hb1 hb3
  refine (callsIn_wide (n := 0)).1 (callsIn_of_wp_marks Try.func10 rfl trivial ?_)
  refine wpIn_wide.2 ?_
  simp only [Try.ntmps10, List.size_toArray, List.length_cons, List.length_nil, Nat.reduceAdd, Nat.reduceSub, Array.replicate_succ, Array.replicate_zero, List.push_toArray, List.append_toArray, List.nil_append, List.cons_append]
  have hsz := Lib.hid (size_tc ht)
  clear ht hrl
  generalize tcA t = cs at *
  go_wp2_with (first
    | (refine wpList_load_row rfl 29 (.tmp 1) rfl _ rfl _ cs (0, 0) _ HB1.out Try.underlying29 rfl hsz.out ?_)
    | (go_at_call 31; ((with_reducible refine (rn_each cs _).mono ?_); rintro e W0 ⟨rfl, hw0⟩; have HW0 := Lib.hid hw0; clear hw0)))
  have hw0 := HW0.out
  have hN0 : New w W0 := by rw [hw0]; exact ((new_alloc w _).alloc _).alloc _
  have hs0 : W0.heap.size = w.heap.size + 3 := by rw [hw0]; simp
  have hO0 : Box W0 (w.heap.size + 1) 23 (.slice none 0 0) := by rw [hw0]; exact HB3.out.alloc _
  have hC0 : BoxA W0 (w.heap.size + 2) 29 cs := by
    rw [hw0]
    have := BoxA.new ((w.alloc (.cells cs 29)).alloc (.cells #[.slice none 0 0] 23)) 29 cs
    simp only [World.size_alloc] at this
    exact this
  have hIt2 := hIt (w.heap.size + 2) W0 (fun k => k = w.heap.size + 1 ∨ w.heap.size + 3 ≤ k) hC0 (by omega)
  have HN0 := Lib.hid hN0
  have HS0 := Lib.hid hs0
  clear hw0 HW0 hN0 hC0 hIt HB1 HB3 hsz
  simp only [World.size_alloc, Nat.add_assoc, Nat.reduceAdd]
  refine (wpIn_wide (n := 0)).1 ?_
  refine wpIn_range2 (gf := 55) (lb := #[.pointer (some ⟨w.heap.size + 2, 0, none⟩)]) rfl (fun _ _ => by rfl) (Mc := fun k => k = w.heap.size + 1 ∨ w.heap.size + 5 ≤ k) hIt2 (new_refl _) (fun _ => rfl) (by simp) (by rw [hs0]; omega) (by rw [hs0]; intro k hk; omega)
    (fun pre W => ∃ A1 c1, Box W (w.heap.size + 1) 23 (.slice A1 (runsB pre).length c1) ∧ Own e8 5 (w.heap.size + 5) W (.slice A1 (runsB pre).length c1) (runsB pre) ∧ New w W)
    (fun cd pre W => False)
    ?hI ?hIx ⟨none, 0, hO0, Own.nil _ _ _ _, HN0.out⟩
    (fun x W W' a' => a' = { tmps := #[.agg cs, .pointer (some ⟨w.heap.size, 0, none⟩), .slice none 0 0, .pointer (some ⟨w.heap.size + 1, 0, none⟩), .int .i64 x.1, .pointer (some ⟨W.heap.size, 0, none⟩), .agg cs, .func (.func 55) #[] #[.pointer (some ⟨w.heap.size + 2, 0, none⟩)], .int .i64 x.1, vC x.2, undef, undef, undef, undef, undef, undef, undef, undef, undef, undef, undef, undef, undef, undef], defers := [] } ∧ W.heap.size < W'.heap.size ∧ BoxA W' W.heap.size 27 #[e8 x.2.1, e8 x.2.2.1, e8 x.2.2.2.1, e8 x.2.2.2.2])
    ?hAsg ?assign ?body ?done ?stop
  case hI =>
    rintro s A' B' ⟨A1, c1, hb, ho, hn⟩ hc
    have hno : ∀ k, k ≠ W0.heap.size → k ≠ W0.heap.size + 1 → ¬ (False ∨ k = W0.heap.size ∨ k = W0.heap.size + 1) := fun k h1 h2 h => by rcases h with h | h | h; exact h; exact h1 h; exact h2 h
    exact ⟨A1, c1, hb.chg hc (hno _ (by omega) (by omega)), ho.chg hc (fun k hk => by have := ho.lt k hk; exact hno _ (by omega) (by omega)), hn.trans' hc (fun k hk => hno _ (by omega) (by omega))⟩
  case hIx =>
    rintro cd s A' B' h hc
    exact h
  case hAsg =>
    rintro x A B C a' ⟨h1, h2, h3⟩ hs hc
    exact ⟨h1, Nat.lt_of_lt_of_le h2 hc.size, h3.chg hc (by omega)⟩
  case assign =>
    intro l x W K hK
    gi_wp2
    exact hK _ _ (new_alloc _ _) ⟨rfl, by simp, BoxA.new _ _ _⟩
  case body =>
    rintro l pre x W0' W a' hsz hsz2 ⟨rfl, hlt, hcol⟩ ⟨A1, c1, hb, ho, hn⟩ hok
    have hpl : pre.length + 1 ≤ 64 := by have h1 := hok.length_le; have h2 := HRL.out; simp at h1; omega
    have hbl := runsB_length pre
    have HPL := Lib.hid (show (runsB pre).length + 5 ≤ 320 by omega)
    have HSZ := Lib.hid (show w.heap.size + 5 ≤ W.heap.size by omega)
    have HB := Lib.hid hb
    have HOW := Lib.hid ho
    have HN := Lib.hid hn
    have cb := hb.cell
    have k0 := hcol.cell 0
    have k1 := hcol.cell 1
    have k2 := hcol.cell 2
    have k3 := hcol.cell 3
    simp only [List.getElem?_toArray, List.getElem?_cons_zero, List.getElem?_cons_succ] at k0 k1 k2 k3
    obtain ⟨n, c⟩ := x
    have HSN := Lib.hid (runsB_snoc pre (n, c))
    simp only at HSN
    generalize runsB pre = bs at *
    clear hb ho hn hok hsz hsz2 hs0 hO0 hIt2 hpl hlt hcol hbl
    gi_wp2_with (gi_at_builtin; refine wplIn_append (enc := e8) (ys := runB n c) rfl (.tmp 10) (.tmp 21) rfl Try.underlying23 info_u8 rfl (fun _ => rfl) rfl rfl (HOW.out.new (new_alloc _ _)) (rd_new5 _ _ _ _ _ _ _) (by have := HPL.out; simp [runB]; omega) (by have := HPL.out; simp [runB]; omega) (by have := HSZ.out; simp; omega) ?_)
    intro A2 c2 w2 ho2 hg
    rw [← List.length_append] at ho2 ⊢
    have hc2 : Chg (fun k => w.heap.size + 5 ≤ k) W w2 := ((Chg.refl _ W).alloc _).grown hg (fun k hk => .inl (HOW.out.lt k hk).1)
    have hb2 := HB.out.chg hc2 (by omega)
    have hb3 := hb2.set (.slice A2 (bs ++ runB n c).length c2)
    have hc3 : Chg (fun k => k = w.heap.size + 1 ∨ w.heap.size + 5 ≤ k) W (w2.setCell ⟨w.heap.size + 1, 0, none⟩ (.slice A2 (bs ++ runB n c).length c2)) := (hc2.mono (fun _ _ h => .inr h)).setCell (.inl (.inl rfl)) _
    have hn3 : New w (w2.setCell ⟨w.heap.size + 1, 0, none⟩ (.slice A2 (bs ++ runB n c).length c2)) := HN.out.trans' hc3 (fun k hk => by omega)
    have ho3 := ho2.chg ((Chg.refl (fun k => k = w.heap.size + 1) w2).setCell (p := ⟨w.heap.size + 1, 0, none⟩) (.inl rfl) (.slice A2 (bs ++ runB n c).length c2)) (fun k hk => by have := ho2.lt k hk; omega)
    have cb3 := hb2.cell
    have fb3 := hb2.free
    have HB3 := Lib.hid hb3
    have HC3 := Lib.hid hc3
    have HN3 := Lib.hid hn3
    have HO3 := Lib.hid ho3
    clear hb2 hb3 hc2 hc3 hn3 ho2 ho3 hg
    generalize bs ++ runB n c = bs2 at *
    gi_wp2
    exact ⟨HC3.out, A2, c2, by rw [HSN.out]; exact HB3.out, by rw [HSN.out]; exact HO3.out, HN3.out⟩
  case done =>
    rintro ys W rfl ⟨A1, c1, hb, ho, hn⟩ hK
    have cb := hb.cell
    have HN := Lib.hid hn
    have HOW := Lib.hid ho
    have HK := Lib.hid hK
    clear hb hn ho hK hO0 hIt2
    generalize runsB ys = bs at *
    go_wp2
    refine ⟨by simp, .inl ⟨_, _, rfl, run_takeDeferred HK.out, ?_⟩⟩
    have hc5 : Chg (fun k => k = W0.heap.size) W (W.putObj W0.heap.size (.deferred none)) := chg_putObj (Chg.refl _ W) _ (.inl rfl)
    refine ⟨_, results_tmp rfl _ _ _, A1, c1, rfl, HN.out.trans' hc5 (fun k hk => by have := HS0.out; omega), ?_⟩
    exact (HOW.out.chg hc5 (fun k hk => by have := HOW.out.lt k hk; have := HS0.out; omega)).mono (by omega)
  case stop =>
    rintro cd pre W hpre h hK
    exact h.elim
end Go.Proofs.Ythihffglkheleaa
