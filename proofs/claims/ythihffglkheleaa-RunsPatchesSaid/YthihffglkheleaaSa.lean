/- Contracts of slices.Clone and slices.Equal at bytes (for every seat). -/
import Derived.Test.YthihffglkheleaaTi
import Derived.Deep.QuietTactic
import Derived.BigQuiet
set_option linter.unusedVariables false
set_option linter.unusedSimpArgs false
namespace Go.Proofs.Ythihffglkheleaa
open Go.RowKit

theorem own_empty {α : Type} (enc : α → Value) (e : TypeId) (w : World) (lo : Nat) (hlo : lo ≤ w.heap.size) : Own enc e lo (w.alloc (.cells #[] e)) (.slice (some ⟨w.heap.size, 0, none⟩) 0 0) [] :=
  ⟨by simp, .inr ⟨w.heap.size, 0, #[], rfl, hlo, heap_alloc_new w _, by simp, by simp [maxLen], by simp, by simp⟩⟩

theorem oc_clone8 (lo hi : Nat) (v : Value) (xs : List U8) (w : World) (hv : Rd e8 lo hi w v xs) (hl : xs.length * 1 ≤ 140737488355328) :
    Calls Try.prog 13 #[v] w fun e w' => ∃ A c, e = .returned (.slice A xs.length c) ∧ New w w' ∧ Own e8 5 w.heap.size w' (.slice A xs.length c) xs := by
  obtain ⟨A, c, rfl, h1, h2⟩ := hv.form
  have HV := Lib.hid hv
  clear hv
  have hq := fun (W : World) => Lib.run_eql_slice_nil W 23 5 A xs.length c 0 0 Try.underlying23
  rcases A with _ | ad
  · have hx : xs = [] := by
      obtain ⟨A', c', e, _, _, h⟩ := HV.out
      rcases h with h | ⟨b, off, h, _⟩
      · exact h
      · subst h
        injection e with e1
        cases e1
    subst hx
    clear hl hq h1 h2 HV
    have hq := fun (W : World) => Lib.run_eql_slice_nil W 23 5 none 0 c 0 0 Try.underlying23
    go_enter Try.func13, Try.ntmps13
    go_wp2
    go_ret
    exact ⟨none, 0, rfl, Below.refl _ _, Own.nil _ _ _ _⟩
  · go_enter Try.func13, Try.ntmps13
    have he : Own e8 5 w.heap.size (w.alloc (.cells #[] 5)) (.slice (some ⟨w.heap.size, 0, none⟩) 0 0) ([] : List U8) := own_empty _ _ w _ (Nat.le_refl _)
    have hn : New w (w.alloc (.cells #[] 5)) := (Below.refl _ w).alloc (Nat.le_refl _) _
    have HE := Lib.hid he
    have HN := Lib.hid hn
    clear he hn
    go_wp2_with (at_builtin; refine wpl_append (enc := e8) rfl (.tmp 5) (.tmp 6) rfl Try.underlying23 info_u8 rfl (fun _ => rfl) rfl rfl HE.out (HV.out.new HN.out) (by simpa using hl) (by simp; omega) HN.out.size ?_)
    intro A' c' w' HO hg _
    have HO' := Lib.hid HO
    have HG := Lib.hid hg
    clear HO hg
    go_wp2
    go_ret
    exact ⟨A', c', by simp, Below.grown HN.out HG.out HN.out.size (by intro k hk; simp [Value.ownBlock] at hk; omega), HO'.out⟩
theorem oc_eq8 (lo hi lo' hi' : Nat) (v u : Value) (xs ys : List U8) (w : World) (hv : Rd e8 lo hi w v xs) (hu : Rd e8 lo' hi' w u ys) :
    Calls Try.prog 11 #[v, u] w fun e w' => e = .returned (.bool (decide (xs = ys))) ∧ ∃ n, w' = w.drewN n := by
  obtain ⟨A, c, rfl, h1, h2⟩ := hv.form
  obtain ⟨B, d, rfl, h3, h4⟩ := hu.form
  have hl := hv.len
  have HV := Lib.hid hv
  have HU := Lib.hid hu
  clear hv hu
  by_cases hne : xs.length = ys.length
  · have hne' : ((xs.length : Int) != (ys.length : Int)) = false := by simp [hne]
    have HL := Lib.hid hne
    clear hne
    go_enter Try.func11, Try.ntmps11
    go_wp2
    go_loopw [13, 5] (fun i _ wr => ∃ k m : Nat, k ≤ xs.length ∧ i = .int .i64 k ∧ Hid (wr = w.drewN m) ∧ Hid (xs.take k = ys.take k)) (fun i _ _ => xs.length - (intOf i).toNat)
    case atStart => exact ⟨0, 0, Nat.zero_le _, rfl, Lib.hid rfl, Lib.hid rfl⟩
    case round =>
      obtain ⟨k, m, hk, rfl, HW, HT⟩ := hrel
      by_cases hlt : k < xs.length
      · have hlt2 : k < ys.length := by have := HL.out; omega
        obtain ⟨b, off, c', e, _, _, _, _, _, hc⟩ := HV.out.at_ k hlt
        obtain ⟨b2, off2, c2', e2, _, _, _, _, _, hc2⟩ := HU.out.at_ k hlt2
        injection e with e1 e2' e3
        injection e2 with e4 e5 e6
        subst e1 e4
        have hcell : wr.cell? ⟨b, off + k, none⟩ = some (e8 xs[k]) := by rw [HW.out]; exact hc k hlt
        have hcell2 : wr.cell? ⟨b2, off2 + k, none⟩ = some (e8 ys[k]) := by rw [HW.out]; exact hc2 k hlt2
        clear hc hc2 e2' e3 e5 e6
        by_cases hxy : xs[k] = ys[k]
        · have hb : (xs[k].val != ys[k].val) = false := by simp [hxy]
          have HX := Lib.hid hxy
          clear hxy
          go_wp2
          go_quiet (fail)
          go_wp2
          go_roundw
          case rel => exact ⟨k + 1, m + nq, by omega, by go_num, by show _ = _; rw [HW.out, World.drewN_drewN], by show _ = _; rw [take_snoc _ _ hlt, take_snoc _ _ hlt2, HT.out, HX.out]⟩
          case measure => simp [intOf]; omega
        · have hb : (xs[k].val != ys[k].val) = true := by simp; exact fun h => hxy (Subtype.ext h)
          have HX := Lib.hid hxy
          clear hxy
          go_wp2
          go_quiet (fail)
          go_wp2
          go_ret
          have hd : decide (xs = ys) = false := by simp; rintro rfl; exact HX.out rfl
          exact ⟨by rw [hd]; rfl, m + nq, by rw [HW.out, World.drewN_drewN]⟩
      · go_wp2
        go_ret
        have hk1 : k = xs.length := by omega
        have hd : decide (xs = ys) = true := by
          have h := HT.out
          rw [List.take_of_length_le (by omega), List.take_of_length_le (by have := HL.out; omega)] at h
          simpa using h
        exact ⟨by rw [hd]; rfl, m, HW.out⟩
  · have hne' : ((xs.length : Int) != (ys.length : Int)) = true := by simp; omega
    have hd : decide (xs = ys) = false := by simp; rintro rfl; exact hne rfl
    rw [hd]
    clear hd
    go_enter Try.func11, Try.ntmps11
    go_wp2
    go_ret
    exact ⟨rfl, 0, rfl⟩
end Go.Proofs.Ythihffglkheleaa
