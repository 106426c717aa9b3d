/- Contracts of the reader of runs: the tile ahead that ReadCanvas asks; words for tiles. -/
import Derived.Test.YthihffglkheleaaTp
import Derived.Test.YthihffglkheleaaBg
set_option linter.unusedVariables false
set_option linter.unusedSimpArgs false
namespace Go.Proofs.Ythihffglkheleaa
open Go.RowKit

/-- A row of tiles, of the call's own. -/
abbrev OwnT (lo : Nat) (w : World) (v : Value) (ts : List (List Col)) : Prop := OwnC 256 tcl 29 lo w v ts
theorem OwnT.len {lo : Nat} {w : World} {v : Value} {ts : List (List Col)} (h : OwnT lo w v ts) : ∀ t ∈ ts, t.length = 64 := fun t ht => by
  have := h.2 t ht
  rw [tcl_length] at this
  omega
theorem OwnT.rdT {lo hi : Nat} {w : World} {v : Value} {ts : List (List Col)} (h : OwnT lo w v ts) (hh : w.heap.size ≤ hi) : RdT lo hi w v ts := ⟨h.rdC hh, h.len⟩
theorem info_tile : (Try.prog.info? 29).map (fun i => (i.zero, i.size, i.bytes)) = some (some (.agg (tcA blankT)), 256, 256) := by kernel_rfl
theorem tcl_one (t : List Col) : ∀ v ∈ tcl t, v.oneCell' = true := fun v hv => (Array.all_eq_true_iff_forall_mem.1 (tcA_one t)) v (by simpa [tcA] using hv)
theorem build_tile1 (t : List Col) (ht : t.length = 64) : ∀ W, (Instr.buildSlice 22 1 #[(0, .agg (tcl t).toArray)]).run Try.prog W = .ok (.slice (some ⟨W.heap.size, 0, none⟩) 1 1) (W.alloc (.cells (tcl t).toArray 29)) :=
  buildSlice1_run (K := 256) Try.underlying22 zero_tile (by omega) (by omega) (tcl t) (by rw [tcl_length, ht]) _ rfl
theorem IsRd.setT {Z : Nat × Nat} {w : World} {g : Nat} {wd hg : Int} {T : Value} {bs : List U8} {p : Nat} (h : IsRd Z w g wd hg T bs p) (T' : Value) : IsRd Z (w.setCell ⟨g, 2, none⟩ T') g wd hg T' bs p := by
  obtain ⟨h1, hp, A, c, h2, h3⟩ := h
  refine ⟨h1, hp, A, c, ?_, h3.chg ((Chg.refl (fun k => k = g) w).setCell (p := ⟨g, 2, none⟩) (.inl rfl) _) (fun k h4 h5 => by omega)⟩
  have := h2.set 2 T'
  simpa using this
theorem IsRd.setP {Z : Nat × Nat} {w : World} {g : Nat} {wd hg : Int} {T : Value} {bs : List U8} {p : Nat} (h : IsRd Z w g wd hg T bs p) (p' : Nat) (hp' : p' ≤ bs.length) : IsRd Z (w.setCell ⟨g, 4, none⟩ (.int .i64 p')) g wd hg T bs p' := by
  obtain ⟨h1, hp, A, c, h2, h3⟩ := h
  refine ⟨h1, hp', A, c, ?_, h3.chg ((Chg.refl (fun k => k = g) w).setCell (p := ⟨g, 4, none⟩) (.inl rfl) _) (fun k h4 h5 => by omega)⟩
  have := h2.set 4 (.int .i64 p')
  simpa using this
theorem IsRd.cells {Z : Nat × Nat} {w : World} {g : Nat} {wd hg : Int} {T : Value} {bs : List U8} {p : Nat} (h : IsRd Z w g wd hg T bs p) :
    w.cell? ⟨g, 0, none⟩ = some (.int .i64 wd) ∧ w.cell? ⟨g, 1, none⟩ = some (.int .i64 hg) ∧ w.cell? ⟨g, 2, none⟩ = some T ∧ w.cell? ⟨g, 4, none⟩ = some (.int .i64 p) ∧ ∀ i, w.frozen? ⟨g, i, none⟩ = false := by
  obtain ⟨h1, hp, A, c, h2, h3⟩ := h
  refine ⟨?_, ?_, ?_, ?_, fun i => h2.free i⟩ <;> rw [h2.cell] <;> rfl

set_option maxRecDepth 100000 in
set_option maxHeartbeats 4000000 in
theorem rn_RC11 (Z : Nat × Nat) (lo hi q g : Nat) (wd hg : Int) (A : Option Addr) (c : Nat) (ts : List (List Col)) (bs : List U8) (p k : Nat) (w : World) (hq : Box w q 66 (.pointer (some ⟨g, 0, none⟩)))
    (hI : IsRd Z w g wd hg (.slice A ts.length c) bs p) (hT : RdT lo hi w (.slice A ts.length c) ts) (hk : k ≤ ts.length) :
    Calls Try.prog 47 #[.int .i64 k, .pointer (some ⟨q, 0, none⟩)] w fun e w' => e = .returned (.agg (tcA (zA ts k))) ∧ New w w' := by
  have hn := new_alloc w (.cells (tcA blankT) 29)
  obtain ⟨_, _, c2, _⟩ := (hI.new hn).cells
  have cq := (hq.later hn).cell
  have hb0 := BoxA.new w 29 (tcA blankT)
  have hn2 := new_alloc (w.alloc (.cells (tcA blankT) 29)) (.cells #[.slice A ts.length c] 22)
  have hbx := Box.new (w.alloc (.cells (tcA blankT) 29)) 22 (.slice A ts.length c)
  rw [World.size_alloc] at hbx
  have hah := rn_ahead1 lo hi (.slice A ts.length c) ts _ k _ ((hT.new hn).new hn2) hbx hk
  have HB := Lib.hid (hb0.later hn2)
  have HN := Lib.hid (hn.trans hn2)
  have hz64 := zA_length hT.2 k
  have HAH := Lib.hid hah
  have HS := Lib.hid (size_tc hz64)
  clear hah hbx hn2 hb0 hT hI hq hn
  generalize zA ts k = z at *
  have HZ := Lib.hid hz64
  clear hz64
  go_enter Try.func47, Try.ntmps47
  go_wp2_with (first
    | (refine wpl_alloc_tile rfl rfl ?_)
    | (go_at_call 42; ((with_reducible refine (rn_ahead _ _ _ _).mono ?_); rintro e w3 ⟨rfl, rfl⟩))
    | (go_at_call 60; ((with_reducible refine HAH.out.mono ?_); rintro e w4 ⟨rfl, hN4⟩; have HN4 := Lib.hid (HN.out.trans hN4); have HB4 := Lib.hid (HB.out.later hN4); clear hN4))
    | (refine wpl_store_tile rfl (.tmp 3) (.tmp 11) rfl _ rfl z HZ.out rfl HB4.out (by simp [tcA_size, blankT_length]) ?_))
  refine bodyPost_ret (v := .agg (tcA z)) (results_cell_row rfl _ _ _ _ _ _ _ rfl (HB4.out.setRow (tcA z)) Try.underlying29 rfl HS.out) rfl ⟨rfl, ?_⟩
  exact HN4.out.trans' (chg_setRow (fun k => k = w.heap.size) _ _ _ rfl) (fun k hk => by omega)
end Go.Proofs.Ythihffglkheleaa
