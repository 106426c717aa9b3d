/- Contracts of the reference of octet, and of few. -/
import Derived.Test.YtcbijmlkkdpheaaOm
set_option linter.unusedVariables false
set_option linter.unusedSimpArgs false
namespace Go.Proofs.Ytcbijmlkkdpheaa
open Go.RowKit

/-- min(n, K) in a walk -/
theorem wpl_min {P : Program} {ops : Array Oper} {rest : List Oper} {o : Oper} {a : Act} {Q : Exit → Act → World → Prop} {w : World} (hgd : o.guard = none) (x : Operand) (K : Nat) {ats : Array TypeId}
    (ho : o.op = .call { callee := .builtin .min, args := #[x, .const (.int .i64 K)], argTypes := ats }) {n : Nat} (hx : a.eval x = .int .i64 n)
    {m : Nat} (hm : m = min n K) (h : wpList P ops Q rest (a.put o.dst (.int .i64 m)) w) : wpList P ops Q (o :: rest) a w := by
  refine wpList_plain hgd fun L hL => ?_
  subst hm
  have e : (if (K : Int) < n then (K : Int) else n) = ((min n K : Nat) : Int) := by
    by_cases hk : K < n
    · rw [if_pos (by omega), Nat.min_eq_right (by omega)]
    · rw [if_neg (by omega), Nat.min_eq_left (by omega)]
  have hc : a.eval (.const (.int .i64 K)) = .int .i64 K := rfl
  unfold Oper.wp execOp
  simp only [ho, resolve, invoke, builtin, Sem.run_bind, Sem.run_pure, Result.andThen_ok, List.map_toArray, List.map_cons, List.map_nil, hx, hc, Builtin.min_, Builtin.min2, List.foldlM_cons, List.foldlM_nil, e]
  exact hL _ _ h

/-- x[:min(len(x), K)] -/
theorem cut {α : Type} {enc : α → Value} {P : Program} {t e : TypeId} (ht : P.underlying t = some (.slice e)) (hinfo : (P.info? e).map (·.size) = some 1) {lo hi : Nat} {w : World} {A : Option Addr} {c : Nat} {xs : List α} (h : Rd enc lo hi w (.slice A xs.length c) xs) (K : Nat) :
    ∃ (ys : List α) (A' : Option Addr), ys = xs.take K ∧ ys.length = min xs.length K ∧ (∀ W, (Instr.slice t (.slice A xs.length c) none (some (.int .i64 ys.length)) none).run P W = .ok (.slice A' ys.length c) W) ∧ Rd enc lo hi w (.slice A' ys.length c) ys := by
  have hyl : (xs.take K).length = min xs.length K := by rw [List.length_take, Nat.min_comm]
  obtain ⟨A', hs, hR⟩ := slice_h ht hinfo h .i64 ((xs.take K).length : Int) (by omega) (by rw [hyl]; omega)
  simp only [Int.toNat_natCast] at hs hR
  refine ⟨_, A', rfl, hyl, hs, ?_⟩
  have e : xs.take (xs.take K).length = xs.take K := by
    rw [hyl]
    by_cases hk : xs.length ≤ K
    · rw [Nat.min_eq_left hk, List.take_of_length_le hk, List.take_length]
    · rw [Nat.min_eq_right (by omega)]
  rwa [e] at hR

theorem ref_Width (n : Int) (w : World) : Calls Try.prog 12 #[.int .i64 n] w fun e w' => e = .returned (.bool (isWB n)) ∧ w = w' := by
  by_cases h1 : 1 ≤ n
  · go_enter Try.func12, Try.ntmps12
    go_wp2
    go_ret
    exact ⟨by simp [isWB, h1], rfl⟩
  · go_enter Try.func12, Try.ntmps12
    go_wp2
    go_ret
    exact ⟨by simp [isWB]; omega, rfl⟩

theorem div_step (n : Int) (k : Nat) : n / 256 ^ k / 256 = n / 256 ^ (k + 1) := by
  rw [Int.pow_succ, Int.ediv_ediv_of_nonneg (by exact Int.pow_nonneg (by omega))]
theorem div_bound (n : Int) (k : Nat) (h0 : 0 ≤ n) (h1 : n ≤ 18446744073709551615) : 0 ≤ n / 256 ^ k ∧ n / 256 ^ k ≤ 18446744073709551615 := by
  have hp : (0 : Int) < 256 ^ k := Int.pow_pos (by omega)
  exact ⟨Int.ediv_nonneg h0 (by omega), Int.le_trans (Int.ediv_le_self _ h0) h1⟩

theorem ref_Fits (width n : Int) (w : World) (h : 0 ≤ width) (h' : width ≤ 8) (hn : 0 ≤ n) (hn' : n ≤ 18446744073709551615) :
    Calls Try.prog 13 #[.int .i64 width, .int .u64 n] w fun e w' => e = .returned (.bool (decide (n < 256 ^ width.toNat))) ∧ w = w' := by
  obtain ⟨W, rfl⟩ : ∃ W : Nat, width = W := ⟨width.toNat, by omega⟩
  have HN := Lib.hid hn
  have HN' := Lib.hid hn'
  clear hn hn'
  go_enter Try.func13, Try.ntmps13
  go_wp2
  go_loop [1, 6] (fun m i => ∃ k : Nat, k ≤ W ∧ i = .int .i64 k ∧ m = .int .u64 (n / 256 ^ k)) (fun _ i => W - (intOf i).toNat)
  case atStart => exact ⟨0, by omega, rfl, by simp⟩
  case round =>
    obtain ⟨k, hk, rfl, rfl⟩ := hrel
    have hb := div_bound n k HN.out HN'.out
    by_cases hlt : k < W
    · go_wp2
      go_round
      case rel => exact ⟨k + 1, by omega, by go_num, by simp [div_step]⟩
      case measure => simp [intOf]; omega
    · go_wp2
      go_ret
      obtain rfl : W = k := by omega
      refine ⟨?_, rfl⟩
      have : decide (n < 256 ^ W) = (n / 256 ^ W == 0) := by
        have hp : (0 : Int) < 256 ^ W := Int.pow_pos (by omega)
        by_cases hx : n < 256 ^ W
        · simp [hx, Int.ediv_eq_zero_of_lt HN.out hx]
        · have : 1 ≤ n / 256 ^ W := by rw [Int.le_ediv_iff_mul_le hp]; omega
          simp [hx]
          omega
      show Ending.returned (.bool (n / 256 ^ W == 0)) = Ending.returned (.bool (decide (n < 256 ^ W)))
      rw [this]
theorem ref_few (lo hi : Nat) (v : Value) (xs : List U8) (w : World) (hv : Rd e8 lo hi w v xs) :
    Calls Try.prog 10 #[v] w fun e w' => ∃ A c, e = .returned (.slice A (xs.take 60).length c) ∧ New w w' ∧ Own e8 5 w.heap.size w' (.slice A (xs.take 60).length c) (xs.take 60) := by
  obtain ⟨A, c, rfl, h1, h2⟩ := hv.form
  have hl := hv.len
  obtain ⟨ys, A', hy, hyl, hs, hR⟩ := cut Try.underlying22 size_u8 hv 60
  rw [← hy]
  have HR := Lib.hid hR
  have HYL := Lib.hid hyl
  clear hv hy hR hyl
  go_enter Try.func10, Try.ntmps10
  go_wp2_with (first | ((with_reducible change wpList _ _ _ (⟨some 6, _, _, _, _, _⟩ :: _) _ _); refine wpl_min rfl (.tmp 5) 60 rfl rfl HYL.out ?_) | (go_at_call 43; refine (oc_clone8 lo hi _ ys _ HR.out (by have := HYL.out; omega)).mono ?_; rintro e w1 ⟨A2, c2, rfl, hN1, hO1⟩; have HN1 := Lib.hid hN1; have HO1 := Lib.hid hO1; clear hN1 hO1))
  go_ret
  exact ⟨A2, c2, rfl, HN1.out, HO1.out⟩

theorem mul_step (n : Int) (x : U8) : IntKind.u64.wrap (IntKind.u64.wrap (256 * n) + IntKind.u64.wrap x.1) = (n * 256 + x.1) % 18446744073709551616 := by
  obtain ⟨x, h0, h1⟩ := x
  simp only [IntKind.wrap_u64]
  omega
theorem ref_Number (lo hi : Nat) (v : Value) (xs : List U8) (w : World) (h : Rd e8 lo hi w v xs) :
    Calls Try.prog 17 #[v] w fun e w' => e = .returned (.int .u64 (numI xs)) ∧ w = w' := by
  obtain ⟨A, c, rfl, h1, h2⟩ := h.form
  have hl := h.len
  have HR := Lib.hid h
  clear h
  go_enter Try.func17, Try.ntmps17
  go_wp2
  go_loop [3, 8, 5] (fun n i _ => ∃ k : Nat, k ≤ xs.length ∧ i = .int .i64 k ∧ n = .int .u64 (numI (xs.take k))) (fun _ i _ => xs.length - (intOf i).toNat)
  case atStart => exact ⟨0, Nat.zero_le _, rfl, rfl⟩
  case round =>
    obtain ⟨k, hk, rfl, rfl⟩ := hrel
    by_cases hlt : k < xs.length
    · obtain ⟨b, off, c', e, hb1, hb2, hb3, hc1, hc2, hc⟩ := HR.out.at_ k hlt
      injection e with e1 e2 e3
      subst e1
      have hcell := hc k hlt
      clear hc e2 e3
      go_wp2
      go_round
      case rel => exact ⟨k + 1, by omega, by go_num, by rw [take_snoc _ _ hlt, numI_snoc, ← mul_step]⟩
      case measure => simp [intOf]; omega
    · go_wp2
      go_ret
      have hk' : k = xs.length := by omega
      subst hk'
      exact ⟨by simp, rfl⟩

theorem ref_Same (lo hi lo' hi' : Nat) (v u : Value) (xs ys : List U8) (w : World) (hv : Rd e8 lo hi w v xs) (hu : Rd e8 lo' hi' w u ys) :
    Calls Try.prog 18 #[v, u] w fun e w' => e = .returned (.bool (decide (xs = ys))) ∧ w = w' := by
  obtain ⟨A, c, rfl, h1, h2⟩ := hv.form
  obtain ⟨B, d, rfl, h3, h4⟩ := hu.form
  have hl := hv.len
  have HV := Lib.hid hv
  have HU := Lib.hid hu
  clear hv hu
  by_cases hne : xs.length = ys.length
  · have hne' : ((xs.length : Int) != (ys.length : Int)) = false := by simp [hne]
    have HL := Lib.hid hne
    clear hne
    go_enter Try.func18, Try.ntmps18
    go_wp2
    go_loop [14, 5, 6] (fun i _ _ => ∃ k : Nat, k ≤ xs.length ∧ i = .int .i64 k ∧ Hid (xs.take k = ys.take k)) (fun i _ _ => xs.length - (intOf i).toNat)
    case atStart => exact ⟨0, Nat.zero_le _, rfl, Lib.hid rfl⟩
    case round =>
      obtain ⟨k, hk, rfl, HT⟩ := hrel
      by_cases hlt : k < xs.length
      · have hlt2 : k < ys.length := by have := HL.out; omega
        obtain ⟨b, off, c', e, _, _, _, _, _, hc⟩ := HV.out.at_ k hlt
        obtain ⟨b2, off2, c2', e2, _, _, _, _, _, hc2⟩ := HU.out.at_ k hlt2
        injection e with e1 e2' e3
        injection e2 with e4 e5 e6
        subst e1 e4
        have hcell : w.cell? ⟨b, off + k, none⟩ = some (e8 xs[k]) := hc k hlt
        have hcell2 : w.cell? ⟨b2, off2 + k, none⟩ = some (e8 ys[k]) := hc2 k hlt2
        clear hc hc2 e2' e3 e5 e6
        by_cases hxy : xs[k] = ys[k]
        · have hb : (xs[k].val != ys[k].val) = false := by simp [hxy]
          have HX := Lib.hid hxy
          clear hxy
          go_wp2
          go_round
          case rel => exact ⟨k + 1, by omega, by go_num, by show _ = _; rw [take_snoc _ _ hlt, take_snoc _ _ hlt2, HT.out, HX.out]⟩
          case measure => simp [intOf]; omega
        · have hb : (xs[k].val != ys[k].val) = true := by simp; exact fun h => hxy (Subtype.ext h)
          have HX := Lib.hid hxy
          clear hxy
          go_wp2
          go_ret
          have hd : decide (xs = ys) = false := by simp; rintro rfl; exact HX.out rfl
          exact ⟨by rw [hd]; rfl, rfl⟩
      · go_wp2
        go_ret
        have hk1 : k = xs.length := by omega
        have hd : decide (xs = ys) = true := by
          have h := HT.out
          rw [List.take_of_length_le (by omega), List.take_of_length_le (by have := HL.out; omega)] at h
          simpa using h
        exact ⟨by rw [hd]; rfl, rfl⟩
  · have hne' : ((xs.length : Int) != (ys.length : Int)) = true := by simp; omega
    have hd : decide (xs = ys) = false := by simp; rintro rfl; exact hne rfl
    rw [hd]
    clear hd
    go_enter Try.func18, Try.ntmps18
    go_wp2
    go_ret
    exact ⟨rfl, rfl⟩

theorem ref_Behind (lo hi lo' hi' : Nat) (v u : Value) (xs ys : List U8) (w : World) (hv : Rd e8 lo hi w v xs) (hu : Rd e8 lo' hi' w u ys) (hl : xs.length + ys.length ≤ 140737488355328) :
    Calls Try.prog 14 #[v, u] w fun e w' => ∃ A c, e = .returned (.slice A (xs ++ ys).length c) ∧ New w w' ∧ Own e8 5 w.heap.size w' (.slice A (xs ++ ys).length c) (xs ++ ys) := by
  obtain ⟨A, c, rfl, h1, h2⟩ := hv.form
  obtain ⟨B, d, rfl, h3, h4⟩ := hu.form
  have HV := Lib.hid hv
  have HU := Lib.hid hu
  have HL := Lib.hid hl
  clear hv hu hl
  have he : Own e8 5 w.heap.size (w.alloc (.cells #[] 5)) (.slice (some ⟨w.heap.size, 0, none⟩) 0 0) ([] : List U8) := own_empty _ _ w _ (Nat.le_refl _)
  have HE := Lib.hid he
  have HN := Lib.hid (new_alloc w (.cells #[] 5))
  clear he
  go_enter Try.func14, Try.ntmps14
  go_wp2_with (at_builtin; refine wpl_append (enc := e8) rfl (.tmp 5) (.tmp 6) rfl Try.underlying22 info_u8 rfl (fun _ => rfl) rfl rfl HE.out (HV.out.new HN.out) (by have := HL.out; simp; omega) (by have := HL.out; simp; omega) HN.out.size ?_)
  intro A1 c1 w1 hO hg _
  have HO1 := Lib.hid hO
  have HN1 := Lib.hid (Below.grown HN.out hg HN.out.size (by intro k hk; simp [Value.ownBlock] at hk; omega))
  clear hO hg
  go_wp2_with (at_builtin; refine wpl_append (enc := e8) rfl (.tmp 7) (.tmp 8) rfl Try.underlying22 info_u8 rfl (fun _ => rfl) rfl rfl HO1.out (HU.out.new HN1.out) (by have := HL.out; omega) (by have := HL.out; omega) HN1.out.size ?_)
  intro A2 c2 w2 hO hg _
  have HO2 := Lib.hid hO
  have HN2 := Lib.hid (Below.grown HN1.out hg HN1.out.size (fun k hk => (HO1.out.lt k hk).1))
  clear hO hg
  go_wp2
  go_ret
  rw [List.length_append]
  exact ⟨A2, c2, rfl, HN2.out, HO2.out⟩

/-- the bytes that a number has, from behind: as the reference lays them -/
theorem beI_front (n : Int) : ∀ k : Nat, beI (k + 1) n = ⟨n / 256 ^ k % 256, by omega⟩ :: beI k n := by
  intro k
  induction k generalizing n with
  | zero => simp [beI]
  | succ k ih =>
    rw [beI, ih]
    simp only [List.cons_append]
    congr 2
    · rw [Int.ediv_ediv_of_nonneg (by omega), Int.pow_succ, Int.mul_comm]
theorem wrap8 (n : Int) (k : Nat) (h0 : 0 ≤ n) : IntKind.u8.wrap (n / 256 ^ k % 256) = n / 256 ^ k % 256 := by
  rw [IntKind.wrap_u8]
  omega
theorem ref_Lay (width n : Int) (w : World) (h : 0 ≤ width) (h' : width ≤ 8) (hn : 0 ≤ n) (hn' : n ≤ 18446744073709551615) :
    Calls Try.prog 15 #[.int .i64 width, .int .u64 n] w fun e w' => ∃ A c, e = .returned (.slice A (beI width.toNat n).length c) ∧ New w w' ∧ Own e8 5 w.heap.size w' (.slice A (beI width.toNat n).length c) (beI width.toNat n) := by
  obtain ⟨W, rfl⟩ : ∃ W : Nat, width = W := ⟨width.toNat, by omega⟩
  have HN := Lib.hid hn
  have HN' := Lib.hid hn'
  clear hn hn'
  go_enter Try.func15, Try.ntmps15
  go_wp2
  go_loopw [1, 5, 7] (fun m o i wr => ∃ (k : Nat) (A : Option Addr) (c : Nat), k ≤ W ∧ i = .int .i64 k ∧ m = .int .u64 (n / 256 ^ k) ∧ o = .slice A k c ∧ Hid (Own e8 5 w.heap.size wr (.slice A k c) (beI k n)) ∧ Hid (New w wr)) (fun _ _ i _ => W - (intOf i).toNat)
  case atStart => exact ⟨0, none, 0, by omega, rfl, by simp, rfl, Lib.hid (Own.nil _ _ _ _), Lib.hid (new_refl _)⟩
  case round =>
    obtain ⟨k, A, c, hk, rfl, rfl, rfl, HO, HW⟩ := hrel
    have hb := div_bound n k HN.out HN'.out
    by_cases hlt : k < W
    · have hw8 := wrap8 n k HN.out
      have hO0 : Own e8 5 w.heap.size (wr.alloc (.cells #[.int .u8 (n / 256 ^ k % 256)] 5)) (.slice (some ⟨wr.heap.size, 0, none⟩) 1 1) [⟨n / 256 ^ k % 256, by omega⟩] :=
        ⟨by simp, .inr ⟨wr.heap.size, 1, _, rfl, HW.out.size, heap_alloc_new wr _, by simp, by simp [maxLen], by simp, by simp⟩⟩
      have HO0 := Lib.hid hO0
      have HWa := Lib.hid (HW.out.alloc (.cells #[.int .u8 (n / 256 ^ k % 256)] 5))
      have HO1 := Lib.hid (HO.out.new (new_alloc wr (.cells #[.int .u8 (n / 256 ^ k % 256)] 5)))
      have hR := HO1.out.rd (Nat.le_refl _)
      have hbl := beI_length k n
      clear hO0
      go_wp2_with (at_builtin; refine wpl_append (enc := e8) (xs := [⟨n / 256 ^ k % 256, by omega⟩]) (ys := beI k n) rfl (.tmp 12) (.tmp 13) rfl Try.underlying22 info_u8 rfl (fun _ => rfl) rfl rfl HO0.out hR (by simp [hbl]; omega) (by simp [hbl]; omega) HWa.out.size ?_)
      intro A1 c1 w1 hO hg _
      rw [← beI_front, Nat.add_comm] at hO
      have HO2 := Lib.hid hO
      have HW2 := Lib.hid (Below.grown HWa.out hg HWa.out.size (fun j hj => (HO0.out.lt j hj).1))
      clear hO hg
      rw [Nat.add_comm 1 k]
      go_wp2
      go_roundw
      case rel => exact ⟨k + 1, A1, c1, by omega, by go_num, by simp [div_step], rfl, HO2, HW2⟩
      case measure => simp [intOf]; omega
    · go_wp2
      go_ret
      obtain rfl : W = k := by omega
      rw [Int.toNat_natCast, beI_length]
      exact ⟨A, c, rfl, HW.out, HO.out⟩
end Go.Proofs.Ytcbijmlkkdpheaa
