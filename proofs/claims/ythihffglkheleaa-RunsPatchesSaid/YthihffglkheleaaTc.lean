/- What is ranged over: the runs of a tile. -/
import Derived.Test.YthihffglkheleaaTb
import Derived.Sort.QuietIn
import Derived.Scope
set_option linter.unusedVariables false
set_option linter.unusedSimpArgs false
namespace Go.Proofs.Ythihffglkheleaa
open Go.RowKit
attribute [local go_sem] Oper.semAt_some

def runsK : Nat → Col → List Col → List (Nat × Col)
  | n, c, [] => [(n, c)]
  | n, c, d :: l => if d = c then runsK (n + 1) c l else (n, c) :: runsK 1 d l
def runsT : List Col → List (Nat × Col)
  | [] => []
  | c :: l => runsK 1 c l
theorem rleK_runs (l : List Col) : ∀ n c, rleK n c l = (runsK n c l).flatMap (fun x => runB x.1 x.2) := by
  induction l with
  | nil => intro n c; simp [rleK, runsK]
  | cons d l ih =>
    intro n c
    simp only [rleK, runsK]
    split
    · exact ih _ _
    · rw [List.flatMap_cons, ih]
theorem tileB_runs (t : List Col) : tileB t = (runsT t).flatMap (fun x => runB x.1 x.2) := by
  cases t with
  | nil => rfl
  | cons c l => exact rleK_runs l 1 c
theorem runsK_len (l : List Col) : ∀ n c, (runsK n c l).length = 1 + chgs c l := by
  induction l with
  | nil => intro n c; rfl
  | cons d l ih =>
    intro n c
    simp only [runsK, chgs]
    split
    · next h => subst h; rw [ih]; omega
    · rw [List.length_cons, ih]; omega
/-- where the walk stands: pre is told, the run from f is k - f long so far -/
def runAt (t : List Col) (pre : List (Nat × Col)) (f k : Nat) : Prop := ∃ h : f < t.length, runsT t = pre ++ runsK (k - f) t[f] (t.drop k)
theorem runAt_start (t : List Col) (h : 0 < t.length) : runAt t [] 0 1 := by
  cases t with
  | nil => simp at h
  | cons c l => exact ⟨by simp, by simp [runsT]⟩
theorem runAt_same {t : List Col} {pre : List (Nat × Col)} {f k : Nat} (h : runAt t pre f k) (hf : f < k) (hk : k < t.length) (he : t[k] = t[f]'(by omega)) : runAt t pre f (k + 1) := by
  obtain ⟨h1, h2⟩ := h
  refine ⟨h1, ?_⟩
  rw [h2, List.drop_eq_getElem_cons hk, runsK, if_pos he, show k + 1 - f = k - f + 1 by omega]
theorem runAt_other {t : List Col} {pre : List (Nat × Col)} {f k : Nat} (h : runAt t pre f k) (hf : f < k) (hk : k < t.length) (he : ¬ t[k] = t[f]'(by omega)) : runAt t (pre ++ [(k - f, t[f]'(by omega))]) k (k + 1) ∧ pre ++ [(k - f, t[f]'(by omega))] <+: runsT t := by
  obtain ⟨h1, h2⟩ := h
  rw [List.drop_eq_getElem_cons hk, runsK, if_neg he] at h2
  refine ⟨⟨hk, ?_⟩, ?_⟩
  · rw [h2, show k + 1 - k = 1 by omega]; simp
  · rw [h2]; exact ⟨_, by simp; rfl⟩
theorem runAt_end {t : List Col} {pre : List (Nat × Col)} {f k : Nat} (h : runAt t pre f k) (hk : k = t.length) : ∃ h : f < t.length, runsT t = pre ++ [(k - f, t[f])] := by
  obtain ⟨h1, h2⟩ := h
  refine ⟨h1, ?_⟩
  rw [h2, List.drop_of_length_le (by omega), runsK]

theorem drewN_chg (M : Nat → Prop) (w : World) (n : Nat) : Chg M w (w.drewN n) := (Chg.refl M w).drewN n
set_option maxRecDepth 100000 in
set_option maxHeartbeats 4000000 in
theorem rn_each1 (p : Nat) (t : List Col) (w : World) (Mb : Nat → Prop) (ht : t.length = 64) (hp : BoxA w p 29 (tcA t)) (hm : ¬ Mb p) :
    Iter Try.prog 55 #[.pointer (some ⟨p, 0, none⟩)] (fun x : Nat × Col => #[.int .i64 x.1, vC x.2]) (fun _ => False) Mb (fun pre x => pre ++ [x] <+: runsT t) (fun ys => ys = runsT t) (fun pre => pre <+: runsT t) w := by
  intro l J Jx W hW hJ hJx hY h0
  have HP := Lib.hid (hp.later hW)
  have HM := Lib.hid hm
  have HY := Lib.hid hY
  have HT := Lib.hid ht
  have HJ0 := Lib.hid h0
  have HJ := Lib.hid hJ
  have HA := Lib.hid (runAt_start t (by omega))
  clear hp hm hJ hJx hY hW ht h0
  refine callsIn_of_wp Try.func55 rfl trivial ?_
  simp only [Try.ntmps55, List.size_toArray, List.length_cons, List.length_nil, Nat.reduceAdd, Nat.reduceSub, Array.replicate_succ, Array.replicate_zero, List.push_toArray, List.append_toArray, List.nil_append, List.cons_append]
  refine wpIn_wide.2 (wp_scope_straight ((wpIn_wide (n := 0)).1 ?_))
  gi_wp2
  refine wpIn_label ?_
  gi_wp2
  gi_loopw [3, 4] (fun a i wr => ∃ (f k : Nat) (pre : List (Nat × Col)), f < k ∧ k ≤ 65 ∧ a = .int .i64 f ∧ i = .int .i64 k ∧ Hid (J pre wr) ∧ Hid (Chg Mb W wr) ∧ Hid ((k ≤ 64 → runAt t pre f k) ∧ (k = 65 → pre = runsT t))) (fun _ i _ => 65 - (intOf i).toNat)
  case atStart => exact ⟨0, 1, [], by omega, by omega, rfl, rfl, HJ0, Lib.hid (Chg.refl _ _), Lib.hid ⟨fun _ => HA.out, fun h => by omega⟩⟩
  case round =>
    obtain ⟨f, k, pre, hfk, hk, rfl, rfl, HJ1, HC, HR⟩ := hrel
    have HB := Lib.hid (HP.out.chg HC.out HM.out)
    by_cases hlt : k < 64
    · have hf64 : f < t.length := by have := HT.out; omega
      have hk64 : k < t.length := by have := HT.out; omega
      obtain ⟨x0, x1, x2, x3⟩ := HB.out.col f hf64
      obtain ⟨y0, y1, y2, y3⟩ := HB.out.col k hk64
      have hra := HR.out.1 (by omega)
      have HS := Lib.hid (fun he => runAt_same hra hfk hk64 he)
      have HO := Lib.hid (fun he => runAt_other hra hfk hk64 he)
      clear hra
      generalize t[f] = cf at *
      generalize t[k] = ck at *
      have hd : decide ((k : Int) < 64) = true := by simp; omega
      by_cases he : ck = cf
      · subst he
        have HS : Hid (runAt t pre f (k + 1)) := Lib.hid (HS.out rfl)
        clear HO
        gi_wp2_with fail
        gi_quiet (fail)
        gi_wp2
        go_roundw
        case rel => exact ⟨f, k + 1, pre, by omega, by omega, rfl, by go_num, Lib.hid (HJ.out _ _ _ HJ1.out (drewN_chg _ _ nq)), Lib.hid (HC.out.drewN nq), Lib.hid ⟨fun _ => by (have h := HS.out); first | exact h | exact h trivial, fun h => by omega⟩⟩
        case measure => simp [intOf]; omega
      · have heq := run_eqC_ne he
        have HO : Hid _ := Lib.hid (HO.out he)
        have HPRE := Lib.hid HO.out.2
        have hYk := fun W1 hj => HY.out pre (k - f, cf) W1 hj HPRE.out
        have HYK := Lib.hid hYk
        have hcast : ((k - f : Nat) : Int) = (k : Int) - (f : Int) := by omega
        clear HS hYk he
        gi_wp2_with fail
        gi_quiet (fail)
        obtain ⟨fn, tmps, assign, body, hy, hRo⟩ := HYK.out _ (HJ.out _ _ _ HJ1.out (drewN_chg _ _ nq))
        simp only [hcast] at hy
        gi_wp2_with fail
        refine ⟨rfl, hRo.mono ?_⟩
        rintro e W3 ⟨hC3, ⟨rfl, hJ3⟩ | ⟨rfl, hJ3⟩⟩
        · have HC3 := Lib.hid (HC.out.trans ((drewN_chg Mb wr nq).trans hC3))
          have HJ3 := Lib.hid hJ3
          clear hC3 hJ3
          gi_wp2
          go_roundw
          case rel => exact ⟨k, k + 1, pre ++ [(k - f, cf)], by omega, by omega, rfl, by go_num, HJ3, HC3, Lib.hid ⟨fun _ => HO.out.1, fun h => by omega⟩⟩
          case measure => simp [intOf]; omega
        · have HJ3 := Lib.hid hJ3
          clear hC3 hJ3
          gi_wp2
          simp only [Exit.noGoto]
          go_end0
          exact ⟨⟨_, rfl⟩, .inr ⟨_, HPRE.out, HJ3.out⟩⟩
    · by_cases h64 : k = 64
      · have hd : decide ((k : Int) < 64) = false := by simp; omega
        obtain ⟨hf64, hre⟩ := runAt_end (HR.out.1 (by omega)) (by rw [HT.out]; exact h64)
        obtain ⟨x0, x1, x2, x3⟩ := HB.out.col f hf64
        generalize t[f] = cf at *
        have HRE := Lib.hid hre
        have HPRE : Hid (pre ++ [(k - f, cf)] <+: runsT t) := Lib.hid (by rw [hre]; exact List.prefix_refl _)
        have hYk := fun W1 hj => HY.out pre (k - f, cf) W1 hj HPRE.out
        have HYK := Lib.hid hYk
        have hcast : ((k - f : Nat) : Int) = (k : Int) - (f : Int) := by omega
        have hk64 : k ≤ 64 := by omega
        have H64 := Lib.hid h64
        clear hYk hre h64
        gi_wp2_with fail
        gi_quiet (fail)
        obtain ⟨fn, tmps, assign, body, hy, hRo⟩ := HYK.out _ (HJ.out _ _ _ HJ1.out (drewN_chg _ _ nq))
        simp only [hcast] at hy
        gi_wp2_with fail
        refine ⟨rfl, hRo.mono ?_⟩
        rintro e W3 ⟨hC3, ⟨rfl, hJ3⟩ | ⟨rfl, hJ3⟩⟩
        · have HC3 := Lib.hid (HC.out.trans ((drewN_chg Mb wr nq).trans hC3))
          have HJ3 := Lib.hid hJ3
          clear hC3 hJ3
          gi_wp2
          go_roundw
          case rel => exact ⟨k, k + 1, pre ++ [(k - f, cf)], by omega, by omega, rfl, by go_num, HJ3, HC3, Lib.hid ⟨fun h => by have := H64.out; omega, fun _ => HRE.out.symm⟩⟩
          case measure => simp [intOf]; omega
        · have HJ3 := Lib.hid hJ3
          clear hC3 hJ3
          gi_wp2
          simp only [Exit.noGoto]
          go_end0
          exact ⟨⟨_, rfl⟩, .inr ⟨_, HPRE.out, HJ3.out⟩⟩
      · have HK := Lib.hid (HR.out.2 (by omega))
        have hk65 : 65 ≤ k := by omega
        have HJ3 := HJ1
        gi_wp2
        simp only [Exit.noGoto]
        go_end0
        exact ⟨⟨_, rfl⟩, .inl ⟨_, HK.out, HJ3.out⟩⟩
end Go.Proofs.Ythihffglkheleaa
