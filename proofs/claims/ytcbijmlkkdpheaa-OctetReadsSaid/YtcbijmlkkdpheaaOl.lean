/- Contracts of octet's numbers: the maker and what is ranged over. -/
import Derived.Test.YtcbijmlkkdpheaaOk
import Derived.Test.YtcbijmlkkdpheaaBc
set_option linter.unusedVariables false
set_option linter.unusedSimpArgs false
namespace Go.Proofs.Ytcbijmlkkdpheaa
open Go.RowKit
attribute [local go_sem] Oper.semAt_some

theorem numI_bound (xs : List U8) : 0 ≤ numI xs ∧ numI xs ≤ 18446744073709551615 := by
  rcases List.eq_nil_or_concat xs with rfl | ⟨ys, y, rfl⟩
  · simp [numI]
  · rw [List.concat_eq_append, numI_snoc]
    have h1 := Int.emod_nonneg (numI ys * 256 + y.1) (show (18446744073709551616 : Int) ≠ 0 by decide)
    have h2 := Int.emod_lt_of_pos (numI ys * 256 + y.1) (show (0 : Int) < 18446744073709551616 by decide)
    omega
def numU (xs : List U8) : U64 := ⟨numI xs, numI_bound xs⟩
/-- the numbers that stand there -/
def numsU : List I64 → List U8 → List U64
  | [], _ => []
  | w :: ws, xs => numU (xs.take w.1.toNat) :: numsU ws (xs.drop w.1.toNat)
theorem numsU_length : ∀ (ws : List I64) (xs : List U8), (numsU ws xs).length = ws.length
  | [], _ => rfl
  | w :: ws, xs => by simp [numsU, numsU_length ws]
theorem numsU_at : ∀ (ws : List I64) (xs : List U8) (k : Nat) (h : k < ws.length), ws.all okW = true → (numsU ws xs)[k]'(by rw [numsU_length]; exact h) = numU ((xs.drop (sumW (ws.take k)).toNat).take ws[k].1.toNat)
  | w :: ws, xs, 0, h, _ => by simp [numsU, sumW]
  | w :: ws, xs, k + 1, h, ha => by
    simp only [List.all_cons, Bool.and_eq_true] at ha
    simp only [numsU, List.getElem_cons_succ]
    rw [numsU_at ws _ k (by simpa using h) ha.2, List.drop_drop]
    have h1 := (isWB_iff _).1 ha.1
    have h2 := sumW_bound (ws.take k) (List.all_eq_true.2 (fun x hx => List.all_eq_true.1 ha.2 x (List.mem_of_mem_take hx)))
    congr 3
    simp only [List.take_succ_cons, sumW]
    omega
theorem sumW_take_le (ws : List I64) (k : Nat) (h : k < ws.length) (ha : ws.all okW = true) : 0 ≤ sumW (ws.take k) ∧ sumW (ws.take k) + ws[k].1 = sumW (ws.take (k + 1)) ∧ sumW (ws.take (k + 1)) ≤ sumW ws := by
  have e1 := take_snoc ws k h
  have h2 := sumW_bound (ws.take k) (List.all_eq_true.2 (fun x hx => List.all_eq_true.1 ha x (List.mem_of_mem_take hx)))
  have h3 := sumW_bound (ws.drop (k + 1)) (List.all_eq_true.2 (fun x hx => List.all_eq_true.1 ha x (List.mem_of_mem_drop hx)))
  have h4 : sumW ws = sumW (ws.take (k + 1)) + sumW (ws.drop (k + 1)) := by rw [← sumW_append, List.take_append_drop]
  refine ⟨by omega, ?_, by omega⟩
  rw [e1, sumW_append]
  simp [sumW]
theorem all_at (ws : List I64) (ha : ws.all okW = true) (k : Nat) (h : k < ws.length) : isWB ws[k].1 = true := List.all_eq_true.1 ha _ (List.getElem_mem h)

set_option maxHeartbeats 1000000 in
theorem oc_numbers (A : Option Addr) (n c : Nat) (g : Nat) (w : World) :
    Calls Try.prog 62 #[.pointer (some ⟨g, 0, none⟩), .slice A n c] w fun e w' => e = .returned (.func (.func 71) #[] #[.pointer (some ⟨w.heap.size + 1, 0, none⟩), .pointer (some ⟨w.heap.size, 0, none⟩)]) ∧
      w' = (w.alloc (.cells #[.pointer (some ⟨g, 0, none⟩)] 43)).alloc (.cells #[.slice A n c] 50) := by
  have hmf := hmf
  go_enter Try.func62, Try.ntmps62
  go_wp2_with fail
  go_ret
  exact ⟨rfl, rfl⟩

set_option maxRecDepth 100000 in
set_option maxHeartbeats 4000000 in
/-- what is ranged over: all widths are some, and together they are the bytes -/
theorem oc_numbers1 {Z : Nat × Nat} (lo : Nat) (v : Value) (g p q B : Nat) (ws : List I64) (xs : List U8) (w : World) (Mb : Nat → Prop) (hr : IsR Z w g xs 0) (hv : Rd ei lo B w v ws) (hp : Box w p 50 v) (hq : Box w q 43 (.pointer (some ⟨g, 0, none⟩)))
    (ha : ws.all okW = true) (hs : sumW ws = xs.length) (hB : B ≤ g) (hpg : g < p) (hqg : g < q) (hm : ∀ k, (lo ≤ k ∧ k < B) ∨ (Z.1 ≤ k ∧ k < Z.2) ∨ k = g ∨ k = p ∨ k = q → ¬ Mb k) :
    Iter Try.prog 71 #[.pointer (some ⟨p, 0, none⟩), .pointer (some ⟨q, 0, none⟩)] (fun x => #[e64 x]) (fun k => k = g) Mb (fun pre x => pre ++ [x] <+: numsU ws xs) (fun ys => ys = numsU ws xs) (fun pre => pre <+: numsU ws xs) w := by
  intro l J Jx W hW hJ hJx hY h0
  obtain ⟨A, c, rfl, h1, h2⟩ := hv.form
  have hR := Lib.hid (hr.new hW)
  have hV := Lib.hid (hv.new hW)
  have hP := Lib.hid (hp.later hW)
  have hQ := Lib.hid (hq.later hW)
  have cp := hP.out.cell
  have cq := hQ.out.cell
  have hl9 : ws.length ≤ 9223372036854775807 := hv.len
  have HA := Lib.hid ha
  have HS := Lib.hid hs
  have HM := Lib.hid hm
  have HJ := Lib.hid hJ
  have HY := Lib.hid hY
  clear hr hv hp hq ha hs hm hJ hJx hY hW
  refine callsIn_of_wp Try.func71 rfl trivial ?_
  simp only [Try.ntmps71, List.size_toArray, List.length_cons, List.length_nil, Nat.reduceAdd, Nat.reduceSub, Array.replicate_succ, Array.replicate_zero, List.push_toArray, List.append_toArray, List.nil_append, List.cons_append]
  gi_wp2
  gi_loopw [8] (fun i wr => ∃ k : Nat, k ≤ ws.length ∧ i = .int .i64 k ∧ Hid (J ((numsU ws xs).take k) wr) ∧ Hid (Chg (fun j => j = g ∨ Mb j) W wr) ∧ Hid (IsR Z wr g (xs.drop (sumW (ws.take k)).toNat) 0)) (fun i _ => ws.length - (intOf i).toNat)
  case atStart => exact ⟨0, Nat.zero_le _, rfl, Lib.hid (by simpa using h0), Lib.hid (Chg.refl _ _), by simpa [sumW] using hR⟩
  case round =>
    obtain ⟨k, hk, rfl, HJ1, HC, HR1⟩ := hrel
    by_cases hlt : k < ws.length
    · have hMk : ∀ j, (lo ≤ j ∧ j < B) ∨ j = p ∨ j = q → ¬ (j = g ∨ Mb j) := fun j hj hh => by
        rcases hh with hh | hh
        · omega
        · exact HM.out j (by omega) hh
      have hV1 := hV.out.chg HC.out (fun j h1 h2 => hMk j (by omega))
      have cp' := (hP.out.chg HC.out (hMk p (by omega))).cell
      have cq' := (hQ.out.chg HC.out (hMk q (by omega))).cell
      obtain ⟨b, off, c', e, _, _, _, _, _, hc⟩ := hV1.at_ k hlt
      injection e with e1 e2 e3
      subst e1
      have hcell : wr.cell? ⟨b, off + k, none⟩ = some (ei ws[k]) := hc k hlt
      have hnl : k < (numsU ws xs).length := by rw [numsU_length]; exact hlt
      have hat := numsU_at ws xs k hlt HA.out
      have hsum := sumW_take_le ws k hlt HA.out
      have hwd := (isWB_iff _).1 (all_at ws HA.out k hlt)
      have hen : numR ws[k].1 (xs.drop (sumW (ws.take k)).toNat) = .ok ((numsU ws xs)[k].1, xs.drop (sumW (ws.take (k + 1))).toNat) := by
        rw [numR, if_pos (all_at ws HA.out k hlt), if_pos (by have := HS.out; simp only [List.length_drop]; omega), hat, List.drop_drop]
        congr 3
        omega
      have hnum : readI 0 (numR ws[k].1 (xs.drop (sumW (ws.take k)).toNat)) (xs.drop (sumW (ws.take k)).toNat) 0 = ((numsU ws xs)[k].1, xs.drop (sumW (ws.take (k + 1))).toNat, 0) := by
        simp only [readI, if_true, hen]
      have HT := Lib.hid (take_snoc _ k hnl)
      have hn := oc_rNumber g _ 0 ws[k].1 wr HR1.out
      rw [hnum] at hn
      have HN := Lib.hid hn
      have hpre : (numsU ws xs).take k ++ [(numsU ws xs)[k]] <+: numsU ws xs := by
        rw [← take_snoc _ k hnl]; exact List.take_prefix _ _
      have HPRE := Lib.hid hpre
      have hYk : ∀ W1, J ((numsU ws xs).take k) W1 → _ := fun W1 hj => HY.out _ (numsU ws xs)[k] W1 hj hpre
      have HYK := Lib.hid hYk
      clear hc e2 e3 hat hsum hwd hen hnum hYk hV1 hn hpre
      generalize (numsU ws xs)[k] = num at *
      gi_wp2_with fail
      refine ⟨trivial, rfl, (callsIn_wide.2 HN.out).mono ?_⟩
      rintro e w1 ⟨hC1, v', rfl, rfl, hR2⟩
      have hj := HJ.out _ _ _ HJ1.out hC1
      obtain ⟨fn, tmps, assign, body, hy, hRo⟩ := HYK.out w1 hj
      have HC1 := Lib.hid hC1
      have HR2 := Lib.hid hR2
      clear hC1 hR2 hj
      gi_wp2
      refine ⟨rfl, hRo.mono ?_⟩
      rintro e W3 ⟨hC3, ⟨rfl, hJ3⟩ | ⟨rfl, hJ3⟩⟩
      · have HC3 := Lib.hid hC3
        have HJ3 := Lib.hid hJ3
        clear hC3 hJ3
        gi_wp2
        go_roundw
        case rel =>
          refine ⟨k + 1, by omega, by go_num, by rw [HT.out]; exact HJ3, Lib.hid ?_, Lib.hid (HR2.out.chg' HC3.out (fun j hj => HM.out j (by omega)))⟩
          exact (HC.out.trans (HC1.out.mono (fun _ _ h => .inl h))).trans (HC3.out.mono (fun _ _ h => .inr h))
        case measure => simp [intOf]; omega
      · gi_wp2
        refine bodyPost_ret (results_none rfl _ _ _) rfl ?_
        exact ⟨⟨_, rfl⟩, .inr ⟨_, HPRE.out, hJ3⟩⟩
    · have HK := Lib.hid (show k = ws.length by omega)
      gi_wp2
      go_end0
      exact ⟨⟨_, rfl⟩, .inl ⟨_, rfl, by have := HJ1.out; rwa [HK.out, ← numsU_length ws xs, List.take_length] at this⟩⟩
end Go.Proofs.Ytcbijmlkkdpheaa
