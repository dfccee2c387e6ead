/- Part 8 of the proofs that lead to the statement. -/
import Derived.Test.YthncbdoiilgnhaaY7
import Derived.Test.YthncbdoiilgnhaaRows
import Derived.WalkKit
import Derived.ProofKit
import Derived.OpenShut
import Derived.ShutString
import Derived.ChangeOld
import Derived.Below
/- Insertion sort, plainly and in the program. -/
namespace Go.Proofs.Ythncbdoiilgnhaa
open Go.RowKit
set_option linter.unusedSimpArgs false
set_option linter.unusedVariables false
--newlaws

/-- two neighbours change places -/
def swp (l : List Int) (j : Nat) : List Int := (l.set j (elt l ((j : Int) - 1))).set (j - 1) (elt l (j : Int))
theorem swp_len (l : List Int) (j : Nat) : (swp l j).length = l.length := by simp [swp]
theorem elt_get {l : List Int} {i : Nat} (h : i < l.length) : elt l (i : Int) = l[i] := by simp [elt, h]
theorem elt_swp {l : List Int} {j : Nat} (hj : 0 < j) (hl : j < l.length) (q : Nat) (hq : q < l.length) : elt (swp l j) (q : Int) = if q = j then elt l ((j - 1 : Nat) : Int) else if q = j - 1 then elt l (j : Int) else elt l (q : Int) := by
  have e1 : elt l ((j : Int) - 1) = elt l ((j - 1 : Nat) : Int) := by congr 1; omega
  rw [elt_get (by rw [swp_len]; exact hq)]
  simp only [swp, e1, List.getElem_set]
  by_cases h1 : q = j
  · subst h1
    rw [if_pos rfl, if_neg (by omega), if_pos rfl]
  · rw [if_neg h1]
    by_cases h2 : q = j - 1
    · rw [if_pos h2, if_pos h2.symm]
    · rw [if_neg h2, if_neg (fun h => h2 h.symm), if_neg (fun h => h1 h.symm), elt_get hq]
theorem swp_perm {l : List Int} {j : Nat} (hj : 0 < j) (hl : j < l.length) : (swp l j).Perm l := by
  obtain ⟨k, rfl⟩ : ∃ k, j = k + 1 := ⟨j - 1, by omega⟩
  have h1 : l = l.take k ++ l[k] :: l[k + 1] :: l.drop (k + 2) := by
    rw [List.getElem_cons_drop, List.getElem_cons_drop, List.take_append_drop]
  have h2 : swp l (k + 1) = l.take k ++ l[k + 1] :: l[k] :: l.drop (k + 2) := by
    refine List.ext_getElem ?_ fun i hi hi2 => ?_
    · rw [swp_len]; simp; omega
    · have hi3 : i < l.length := by rw [swp_len] at hi; exact hi
      have := elt_swp (l := l) (j := k + 1) (by omega) hl i hi3
      rw [elt_get hi] at this
      rw [this]
      by_cases c1 : i = k + 1
      · subst c1
        rw [if_pos rfl, elt_get (by omega)]
        rw [List.getElem_append_right (by simp; omega)]
        simp [show min k l.length = k from by omega, show k + 1 - k = 1 from by omega]
      · rw [if_neg c1]
        by_cases c2 : i = k
        · subst c2
          rw [if_pos (by omega), elt_get (by omega)]
          rw [List.getElem_append_right (by simp; omega)]
          simp [show min i l.length = i from by omega]
        · rw [if_neg (by omega), elt_get hi3]
          by_cases c3 : i < k
          · rw [List.getElem_append_left (by simp; omega)]
            simp
          · rw [List.getElem_append_right (by simp; omega)]
            have : i - min k l.length = (i - (k + 2)) + 2 := by omega
            simp only [List.length_take, this, List.getElem_cons_succ, List.getElem_drop]
            congr 1
            omega
  rw [h2]
  conv => rhs; rw [h1]
  exact List.Perm.append_left _ (List.Perm.swap _ _ _)
/-- in order but for the place j -/
def Srt (κ : Int → Int) (l : List Int) (i j : Nat) : Prop := ∀ p q : Nat, p < q → q < i → q ≠ j → κ (elt l (p : Int)) ≤ κ (elt l (q : Int))
theorem Srt.step {κ : Int → Int} {l : List Int} {i j : Nat} (h : Srt κ l i j) (hj : 0 < j) (hi : j < i) (hl : i ≤ l.length) (hlt : κ (elt l (j : Int)) < κ (elt l ((j - 1 : Nat) : Int))) : Srt κ (swp l j) i (j - 1) := by
  intro p q hpq hq hqj
  rw [elt_swp hj (by omega) p (by omega), elt_swp hj (by omega) q (by omega)]
  by_cases q1 : q = j
  · subst q1
    rw [if_pos rfl, if_neg (show ¬ p = q by omega)]
    by_cases p1 : p = q - 1
    · rw [if_pos p1]; omega
    · rw [if_neg p1]; exact h p (q - 1) (by omega) (by omega) (by omega)
  · rw [if_neg q1, if_neg hqj]
    by_cases p1 : p = j
    · rw [if_pos p1]; exact h (j - 1) q (by omega) hq q1
    · rw [if_neg p1]
      by_cases p2 : p = j - 1
      · rw [if_pos p2]; exact h j q (by omega) hq q1
      · rw [if_neg p2]; exact h p q hpq hq q1
theorem Srt.stop {κ : Int → Int} {l : List Int} {i j : Nat} (h : Srt κ l i j) (hj : j = 0 ∨ κ (elt l ((j - 1 : Nat) : Int)) ≤ κ (elt l (j : Int))) : Srt κ l i i := by
  intro p q hpq hq _
  by_cases q1 : q = j
  · subst q1
    rcases hj with h0 | h0
    · omega
    · by_cases p1 : p = q - 1
      · subst p1; exact h0
      · exact Int.le_trans (h p (q - 1) (by omega) (by omega) (by omega)) h0
  · exact h p q hpq hq q1
theorem Srt.next {κ : Int → Int} {l : List Int} {i : Nat} (h : Srt κ l i i) : Srt κ l (i + 1) i := fun p q hpq hq hqi => h p q hpq (by omega) hqi
end Go.Proofs.Ythncbdoiilgnhaa

/- slices.Sort on at most ten integers. -/
namespace Go.Proofs.Ythncbdoiilgnhaa
open Go.RowKit
set_option linter.unusedSimpArgs false
set_option linter.unusedVariables false
--newlaws

theorem oints_swp {l : List Int} {j : Nat} (hj : 0 < j) : ((ints .i64 l).set ((j : Int).toNat * 1) (.int .i64 (elt l ((j : Int) - 1)))).set (((j : Int) - 1).toNat * 1) (.int .i64 (elt l (j : Int))) = ints .i64 (swp l j) := by
  rw [show (j : Int).toNat * 1 = j from by omega, show ((j : Int) - 1).toNat * 1 = j - 1 from by omega]
  simp [ints, swp, List.map_set]
theorem nan_any (x : Int) (w : World) : Calls Try.prog 75 #[.int .i64 x] w (SX.Ret fun v w' => v = .bool false ∧ SX.St w [] w' []) := by
  have hs := SX.St.start w
  refine Z.enter Try.func75 rfl Try.ntmps75 rfl rfl ?_
  refine Z.seq ?_
  refine Z.region ?_
  refine Z.lb 1 rfl ?_
  refine Z.lnil ?_
  refine Z.only [0] rfl ?_
  refine Z.nthen ?_
  refine Z.seq ?_
  refine Z.region ?_
  refine Z.lb 4 rfl ?_
  refine Z.lnil ?_
  refine Z.only [2] rfl ?_
  refine Z.nthen ?_
  refine Z.ret ?_
  -- ret#0
  refine Z.out1 (by exact ⟨rfl, trivial⟩) ?_
  exact ⟨_, rfl, by simp, hs⟩
theorem less_any (x y : Int) (w : World) : Calls Try.prog 63 #[.int .i64 x, .int .i64 y] w (SX.Ret fun v w' => v = .bool (decide (x < y)) ∧ SX.St w [] w' []) := by
  have hs := SX.St.start w
  refine Z.enter Try.func63 rfl Try.ntmps63 rfl rfl ?_
  refine Z.seq ?_
  refine Z.region ?_
  refine Z.lb 1 rfl ?_
  refine Z.lnil ?_
  refine Z.only [0, 1] rfl ?_
  refine Z.nthen ?_
  refine Z.seq ?_
  refine Z.region ?_
  refine Z.lb 1 rfl ?_
  refine Z.le rfl trivial ?_
  refine Z.ZO.call rfl rfl (by rfl) rfl rfl Try.call75 rfl (nan_any _ _) ?_
  rintro v1_1 w1_1 ⟨rfl, hy⟩
  replace hs := hs.call hy
  clear hy
  try simp only [List.cons_append, List.nil_append, List.append_nil] at hs
  refine Z.lb 2 rfl ?_
  refine Z.yes (s := 7) (b := false) rfl ((by simp)) rfl ?_
  refine Z.ls rfl rfl rfl (by rfl) ?_
  refine Z.ls rfl rfl rfl (by rfl) ?_
  refine Z.l rfl rfl (by rfl) (Z.keepS hs) (Z.Yd.pickF rfl rfl) ?_
  refine Z.lb 3 rfl ?_
  refine Z.yes (s := 12) (b := false) rfl ((by simp)) rfl ?_
  refine Z.lb 1 rfl ?_
  refine Z.yes (s := 12) (b := false) rfl rfl rfl ?_
  refine Z.l rfl rfl (by rfl) (Z.keepS hs) (Z.Yd.pickF rfl rfl) ?_
  refine Z.lb 1 rfl ?_
  refine Z.lnil ?_
  refine Z.only [4] rfl ?_
  refine Z.nthen ?_
  refine Z.ret ?_
  -- ret#0
  refine Z.out1 (by exact ⟨rfl, trivial⟩) ?_
  exact ⟨_, rfl, by simp, hs⟩
set_option maxHeartbeats 1000000 in
set_option maxRecDepth 100000 in
theorem insord (g n c T : Nat) (xs : List Int) (w : World) (hs : SX.St w (SX.idsOf [SX.Ent.row (.slice (some ⟨g, 0, none⟩) n c) T 1 n (ints .i64 xs)]) w [SX.Ent.row (.slice (some ⟨g, 0, none⟩) n c) T 1 n (ints .i64 xs)])
    (hl : xs.length = n) (hn : n ≤ 12) :
    Calls Try.prog 57 #[.slice (some ⟨g, 0, none⟩) n c, .int .i64 0, .int .i64 (n : Int)] w (SX.Ret fun v w' => v = .tuple #[] ∧ ∃ ys, ys.Perm xs ∧ Srt (fun x => x) ys n n ∧ SX.St w (SX.idsOf [SX.Ent.row (.slice (some ⟨g, 0, none⟩) n c) T 1 n (ints .i64 xs)]) w' [SX.Ent.row (.slice (some ⟨g, 0, none⟩) n c) T 1 n (ints .i64 ys)]) := by
  generalize hM : SX.idsOf [SX.Ent.row (.slice (some ⟨g, 0, none⟩) n c) T 1 n (ints .i64 xs)] = M at *
  refine Z.enter Try.func57 rfl Try.ntmps57 rfl rfl ?_
  refine Z.seq ?_
  refine Z.region ?_
  refine Z.lb 1 rfl ?_
  refine Z.l rfl rfl (by rfl) (Z.keepS hs) (Z.Yd.add rfl rfl (fun hG => Z.wi64 (by first | omega | (have hG' := Z.gh rfl hG; simp at hG'; omega)))) ?_
  refine Z.lb 1 rfl ?_
  refine Z.lnil ?_
  refine Z.only [0, 1, 2, 6] rfl ?_
  refine Z.nthen ?_
  refine Z.block ?_
  refine Z.loopk (ι := Nat × List Int) [0, 1, 2] rfl (fun x => [(6, [], .int .i64 (x.1 : Int))]) (fun x wr => (1 ≤ x.1 ∧ (x.1 ≤ n ∨ x.1 = 1) ∧ x.2.Perm xs ∧ Srt (fun x => x) x.2 x.1 x.1) ∧ SX.St w M wr [SX.Ent.row (.slice (some ⟨g, 0, none⟩) n c) T 1 n (ints .i64 x.2)]) (fun x => 13 - x.1) (1, xs) (by refine ⟨?_, trivial⟩ <;> (first | rfl | (refine Z.lookv rfl ?_; simp; done) | (refine Z.lookv rfl ?_; simp; omega))) ⟨⟨by simp, .inr rfl, List.Perm.refl _, fun p q h1 h2 _ => by simp only at h2; omega⟩, hs⟩ ?_
  clear hs
  rintro ⟨i, ys⟩ w1 ⟨⟨hi1, hi, hp, hS⟩, hs⟩
  refine Z.only [0, 1, 2, 6] rfl ?_
  (try dsimp only at hs)
  dsimp only at hi1 hi hp hS hs
  refine Z.seq ?_
  refine Z.seq ?_
  refine Z.region ?_
  refine Z.lb 3 rfl ?_
  refine Z.lnil ?_
  refine Z.only [0, 1, 2, 6, 12] rfl ?_
  refine Z.nthen ?_
  refine Z.cond rfl (fun hc1 => ?_) (fun hc1 => ?_)
  · first
      | (exfalso; simp at hc1 <;> omega)
      | (
        (try simp at hc1)
        have hin : i < n := by omega
        refine Z.skip ?_
        refine Z.nthen ?_
        refine Z.seq ?_
        refine Z.block ?_
        refine Z.seq ?_
        refine Z.region ?_
        refine Z.lb 2 rfl ?_
        refine Z.lnil ?_
        refine Z.only [0, 1, 2, 6, 7] rfl ?_
        refine Z.nthen ?_
        refine Z.block ?_
        refine Z.loopk (ι := Nat × List Int) [0, 1, 2, 6] rfl (fun x => [(7, [], .int .i64 (x.1 : Int))]) (fun x wr => (x.1 ≤ i ∧ x.2.Perm xs ∧ Srt (fun x => x) x.2 (i + 1) x.1) ∧ SX.St w M wr [SX.Ent.row (.slice (some ⟨g, 0, none⟩) n c) T 1 n (ints .i64 x.2)]) (fun x => x.1) (i, ys) (by refine ⟨?_, trivial⟩ <;> (first | rfl | (refine Z.lookv rfl ?_; simp; done) | (refine Z.lookv rfl ?_; simp; omega))) ⟨⟨Nat.le_refl _, hp, hS.next⟩, hs⟩ ?_
        clear hs
        rintro ⟨j, zs⟩ w4 ⟨⟨hj, hp, hS⟩, hs⟩
        refine Z.only [0, 1, 2, 6, 7] rfl ?_
        (try dsimp only at hs)
        dsimp only at hj hp hS hs
        have hzl : zs.length = n := by rw [hp.length_eq, hl]
        refine Z.seq ?_
        refine Z.seq ?_
        refine Z.drawK (fun _ => true) mixed hs ?_
        clear hs; intro wd4 hs
        refine Z.tb [0, 1, 2, 3] (by kernel_rfl) rfl ⟨_, hs, by first | (simp; done) | exact fun e he => List.mem_append_right _ he⟩ rfl ?_
        refine Z.split (s := 19) rfl (fun hsp19 => ?_) (fun hsp19 => ?_)
        · first
            | (exfalso; simp at hsp19 <;> omega)
            | (
              refine Z.yes (s := 19) (b := true) rfl hsp19 rfl ?_
              (try simp at hsp19)
              refine Z.tb [4, 5] (by kernel_rfl) rfl ⟨_, hs, by first | (simp; done) | exact fun e he => List.mem_append_right _ he⟩ rfl ?_
              refine Z.t 6 rfl rfl rfl (by rfl) (by kernel_rfl) ⟨_, hs, by first | (simp; done) | exact fun e he => List.mem_append_right _ he⟩ (Z.Yd.elem rfl rfl Try.underlying38 Try.sizeOf3 (fun hG => ⟨(by first | omega | (have hG' := Z.gh rfl hG; simp at hG'; omega)), (by first | omega | (have hG' := Z.gh rfl hG; simp at hG'; omega))⟩)) ?_
              refine Z.t 7 rfl rfl rfl (by rfl) (by kernel_rfl) ⟨_, hs, by first | (simp; done) | exact fun e he => List.mem_append_right _ he⟩ (by first | exact Z.Yd.load rfl Try.isAgg3 (fun _ => Z.cellB (by first | ((repeat (first | exact List.mem_cons_self | refine List.mem_cons_of_mem _ ?_ | refine List.mem_append_right _ ?_)); done) | fail) rfl) | exact Z.Yd.load rfl Try.isAgg3 (fun hG => Z.cellR (by first | ((repeat (first | exact List.mem_cons_self | refine List.mem_cons_of_mem _ ?_ | refine List.mem_append_right _ ?_)); done) | fail) (Z.ints_at (by first | omega | (have hG' := Z.gh rfl hG; simp at hG'; omega)) (by first | omega | (have hG' := Z.gh rfl hG; simp at hG'; omega)))) | exact Z.Yd.load rfl Try.isAgg3 (fun hG => Z.cellXi (by assumption) (by first | omega | (have hG' := Z.gh rfl hG; simp at hG'; omega)) (by first | omega | (have hG' := Z.gh rfl hG; simp at hG'; omega))) | exact Z.Yd.load rfl Try.isAgg3 (fun hG => Z.cellS (by assumption) rfl (by first | omega | (have hG' := Z.gh rfl hG; simp at hG'; omega)) (by first | omega | (have hG' := Z.gh rfl hG; simp at hG'; omega))) | fail "load 4.7") ?_
              refine Z.tb [8, 9] (by kernel_rfl) rfl ⟨_, hs, by first | (simp; done) | exact fun e he => List.mem_append_right _ he⟩ rfl ?_
              refine Z.t 10 rfl rfl rfl (by rfl) (by kernel_rfl) ⟨_, hs, by first | (simp; done) | exact fun e he => List.mem_append_right _ he⟩ (Z.Yd.sub rfl rfl (fun hG => Z.wi64 (by first | omega | (have hG' := Z.gh rfl hG; simp at hG'; omega)))) ?_
              refine Z.t 11 rfl rfl rfl (by rfl) (by kernel_rfl) ⟨_, hs, by first | (simp; done) | exact fun e he => List.mem_append_right _ he⟩ (Z.Yd.elem rfl rfl Try.underlying38 Try.sizeOf3 (fun hG => ⟨(by first | omega | (have hG' := Z.gh rfl hG; simp at hG'; omega)), (by first | omega | (have hG' := Z.gh rfl hG; simp at hG'; omega))⟩)) ?_
              refine Z.t 12 rfl rfl rfl (by rfl) (by kernel_rfl) ⟨_, hs, by first | (simp; done) | exact fun e he => List.mem_append_right _ he⟩ (by first | exact Z.Yd.load rfl Try.isAgg3 (fun _ => Z.cellB (by first | ((repeat (first | exact List.mem_cons_self | refine List.mem_cons_of_mem _ ?_ | refine List.mem_append_right _ ?_)); done) | fail) rfl) | exact Z.Yd.load rfl Try.isAgg3 (fun hG => Z.cellR (by first | ((repeat (first | exact List.mem_cons_self | refine List.mem_cons_of_mem _ ?_ | refine List.mem_append_right _ ?_)); done) | fail) (Z.ints_at (by first | omega | (have hG' := Z.gh rfl hG; simp at hG'; omega)) (by first | omega | (have hG' := Z.gh rfl hG; simp at hG'; omega)))) | exact Z.Yd.load rfl Try.isAgg3 (fun hG => Z.cellXi (by assumption) (by first | omega | (have hG' := Z.gh rfl hG; simp at hG'; omega)) (by first | omega | (have hG' := Z.gh rfl hG; simp at hG'; omega))) | exact Z.Yd.load rfl Try.isAgg3 (fun hG => Z.cellS (by assumption) rfl (by first | omega | (have hG' := Z.gh rfl hG; simp at hG'; omega)) (by first | omega | (have hG' := Z.gh rfl hG; simp at hG'; omega))) | fail "load 4.12") ?_
              refine Z.yes (s := 19) (b := true) rfl rfl rfl ?_
              refine Z.tn 13 rfl rfl (by kernel_rfl) rfl (by exact ⟨rfl, trivial⟩) ?_
              refine Z.ZO.call rfl rfl (by rfl) rfl rfl Try.call63 rfl (less_any _ _ _) ?_
              rintro v4_13 w4_13 ⟨rfl, hy⟩
              replace hs := hs.call hy
              clear hy
              try simp only [List.cons_append, List.nil_append, List.append_nil] at hs
              refine Z.tk (Dn := fun _ => true) (i := 13) (fun _ => ⟨_, hs, by first | (simp; done) | exact fun e he => List.mem_append_right _ he⟩) ?_
              refine Z.t 14 rfl rfl rfl (by rfl) (by kernel_rfl) ⟨_, hs, by first | (simp; done) | exact fun e he => List.mem_append_right _ he⟩ (Z.Yd.pickT rfl rfl) ?_
              refine Z.td (by rfl) (by kernel_rfl) ?_
              refine Z.only [0, 1, 2, 6, 7, 30] rfl ?_
              refine Z.nthen ?_
              refine Z.cond rfl (fun hc4 => ?_) (fun hc4 => ?_)
              · first
                  | (exfalso; simp at hc4 <;> omega)
                  | (
                    (try simp at hc4)
                    refine Z.skip ?_
                    refine Z.nthen ?_
                    refine Z.seq ?_
                    refine Z.block ?_
                    refine Z.drawL [] (fun _ => true) mixed hs ?_
                    clear hs; intro wd6 hs
                    refine Z.tb [0, 1, 2, 3] (by kernel_rfl) rfl ⟨_, hs, by first | (simp; done) | exact fun e he => List.mem_append_right _ he⟩ rfl ?_
                    refine Z.t 4 rfl rfl rfl (by rfl) (by kernel_rfl) ⟨_, hs, by first | (simp; done) | exact fun e he => List.mem_append_right _ he⟩ (Z.Yd.sub rfl rfl (fun hG => Z.wi64 (by first | omega | (have hG' := Z.gh rfl hG; simp at hG'; omega)))) ?_
                    refine Z.tb [5, 6] (by kernel_rfl) rfl ⟨_, hs, by first | (simp; done) | exact fun e he => List.mem_append_right _ he⟩ rfl ?_
                    refine Z.t 7 rfl rfl rfl (by rfl) (by kernel_rfl) ⟨_, hs, by first | (simp; done) | exact fun e he => List.mem_append_right _ he⟩ (Z.Yd.sub rfl rfl (fun hG => Z.wi64 (by first | omega | (have hG' := Z.gh rfl hG; simp at hG'; omega)))) ?_
                    refine Z.t 8 rfl rfl rfl (by rfl) (by kernel_rfl) ⟨_, hs, by first | (simp; done) | exact fun e he => List.mem_append_right _ he⟩ (Z.Yd.elem rfl rfl Try.underlying38 Try.sizeOf3 (fun hG => ⟨(by first | omega | (have hG' := Z.gh rfl hG; simp at hG'; omega)), (by first | omega | (have hG' := Z.gh rfl hG; simp at hG'; omega))⟩)) ?_
                    refine Z.tb [10, 11] (by kernel_rfl) rfl ⟨_, hs, by first | (simp; done) | exact fun e he => List.mem_append_right _ he⟩ rfl ?_
                    refine Z.t 12 rfl rfl rfl (by rfl) (by kernel_rfl) ⟨_, hs, by first | (simp; done) | exact fun e he => List.mem_append_right _ he⟩ (Z.Yd.elem rfl rfl Try.underlying38 Try.sizeOf3 (fun hG => ⟨(by first | omega | (have hG' := Z.gh rfl hG; simp at hG'; omega)), (by first | omega | (have hG' := Z.gh rfl hG; simp at hG'; omega))⟩)) ?_
                    refine Z.fork2 9 13 rfl rfl rfl (by kernel_rfl) rfl rfl trivial trivial ?_ ?_
                    · skip
                      refine Z.ZO.quiet rfl (by rfl) (Z.keepS hs) (by first | exact Z.Yd.load rfl Try.isAgg3 (fun _ => Z.cellB (by first | ((repeat (first | exact List.mem_cons_self | refine List.mem_cons_of_mem _ ?_ | refine List.mem_append_right _ ?_)); done) | fail) rfl) | exact Z.Yd.load rfl Try.isAgg3 (fun hG => Z.cellR (by first | ((repeat (first | exact List.mem_cons_self | refine List.mem_cons_of_mem _ ?_ | refine List.mem_append_right _ ?_)); done) | fail) (Z.ints_at (by first | omega | (have hG' := Z.gh rfl hG; simp at hG'; omega)) (by first | omega | (have hG' := Z.gh rfl hG; simp at hG'; omega)))) | exact Z.Yd.load rfl Try.isAgg3 (fun hG => Z.cellXi (by assumption) (by first | omega | (have hG' := Z.gh rfl hG; simp at hG'; omega)) (by first | omega | (have hG' := Z.gh rfl hG; simp at hG'; omega))) | exact Z.Yd.load rfl Try.isAgg3 (fun hG => Z.cellS (by assumption) rfl (by first | omega | (have hG' := Z.gh rfl hG; simp at hG'; omega)) (by first | omega | (have hG' := Z.gh rfl hG; simp at hG'; omega))) | fail "load 6.9") ?_
                      refine Z.tk (Dn := fun _ => true) (i := 9) (fun _ => ⟨_, hs, by first | (simp; done) | exact fun e he => List.mem_append_right _ he⟩) ?_
                      refine Z.tn 13 rfl rfl (by kernel_rfl) rfl trivial ?_
                      refine Z.ZO.quiet rfl (by rfl) (Z.keepS hs) (by first | exact Z.Yd.load rfl Try.isAgg3 (fun _ => Z.cellB (by first | ((repeat (first | exact List.mem_cons_self | refine List.mem_cons_of_mem _ ?_ | refine List.mem_append_right _ ?_)); done) | fail) rfl) | exact Z.Yd.load rfl Try.isAgg3 (fun hG => Z.cellR (by first | ((repeat (first | exact List.mem_cons_self | refine List.mem_cons_of_mem _ ?_ | refine List.mem_append_right _ ?_)); done) | fail) (Z.ints_at (by first | omega | (have hG' := Z.gh rfl hG; simp at hG'; omega)) (by first | omega | (have hG' := Z.gh rfl hG; simp at hG'; omega)))) | exact Z.Yd.load rfl Try.isAgg3 (fun hG => Z.cellXi (by assumption) (by first | omega | (have hG' := Z.gh rfl hG; simp at hG'; omega)) (by first | omega | (have hG' := Z.gh rfl hG; simp at hG'; omega))) | exact Z.Yd.load rfl Try.isAgg3 (fun hG => Z.cellS (by assumption) rfl (by first | omega | (have hG' := Z.gh rfl hG; simp at hG'; omega)) (by first | omega | (have hG' := Z.gh rfl hG; simp at hG'; omega))) | fail "load 6.13") ?_
                      refine Z.tk (Dn := fun _ => true) (i := 13) (fun _ => ⟨_, hs, by first | (simp; done) | exact fun e he => List.mem_append_right _ he⟩) ?_
                      refine Z.t 14 rfl rfl rfl (by rfl) (by kernel_rfl) ⟨_, hs, by first | (simp; done) | exact fun e he => List.mem_append_right _ he⟩ (Z.Yd.elem rfl rfl Try.underlying38 Try.sizeOf3 (fun hG => ⟨(by first | omega | (have hG' := Z.gh rfl hG; simp at hG'; omega)), (by first | omega | (have hG' := Z.gh rfl hG; simp at hG'; omega))⟩)) ?_
                      refine Z.tn 15 rfl rfl (by kernel_rfl) rfl trivial ?_
                      first | refine Z.ZO.store rfl rfl hs Try.sizeOf3 rfl rfl rfl (by first | exact SX.at0 | exact SX.at1 | exact SX.at2 | exact SX.at3 | exact SX.at4 | exact SX.at5 | exact Z.at6 | exact Z.at7 | exact Z.at8 | exact Z.at9 | exact Z.at10 | exact Z.at11 | exact Z.at12) (by first | (simp; done) | (simp; omega)) ?_ | refine Z.ZO.storeR rfl rfl hs Try.sizeOf3 rfl rfl rfl (by first | exact SX.at0 | exact SX.at1 | exact SX.at2 | exact SX.at3 | exact SX.at4 | exact SX.at5 | exact Z.at6 | exact Z.at7 | exact Z.at8 | exact Z.at9 | exact Z.at10 | exact Z.at11 | exact Z.at12) (by first | omega | (simp [ints_length]; done) | (simp [ints_length]; omega)) ?_
                      clear hs; intro ws hs
                      simp only [Nat.zero_add, Nat.add_zero, Nat.reduceAdd, Int.reduceToNat, Nat.reduceMul, List.set_cons_zero, List.set_cons_succ, List.setIfInBounds_toArray] at hs
                      refine Z.tk (Dn := fun _ => true) (i := 15) (fun _ => ⟨_, hs, by first | (simp; done) | exact fun e he => List.mem_append_right _ he⟩) ?_
                      refine Z.t 16 rfl rfl rfl (by rfl) (by kernel_rfl) ⟨_, hs, by first | (simp; done) | exact fun e he => List.mem_append_right _ he⟩ (Z.Yd.elem rfl rfl Try.underlying38 Try.sizeOf3 (fun hG => ⟨(by first | omega | (have hG' := Z.gh rfl hG; simp at hG'; omega)), (by first | omega | (have hG' := Z.gh rfl hG; simp at hG'; omega))⟩)) ?_
                      refine Z.tn 17 rfl rfl (by kernel_rfl) rfl trivial ?_
                      first | refine Z.ZO.store rfl rfl hs Try.sizeOf3 rfl rfl rfl (by first | exact SX.at0 | exact SX.at1 | exact SX.at2 | exact SX.at3 | exact SX.at4 | exact SX.at5 | exact Z.at6 | exact Z.at7 | exact Z.at8 | exact Z.at9 | exact Z.at10 | exact Z.at11 | exact Z.at12) (by first | (simp; done) | (simp; omega)) ?_ | refine Z.ZO.storeR rfl rfl hs Try.sizeOf3 rfl rfl rfl (by first | exact SX.at0 | exact SX.at1 | exact SX.at2 | exact SX.at3 | exact SX.at4 | exact SX.at5 | exact Z.at6 | exact Z.at7 | exact Z.at8 | exact Z.at9 | exact Z.at10 | exact Z.at11 | exact Z.at12) (by first | omega | (simp [ints_length]; done) | (simp [ints_length]; omega)) ?_
                      clear hs; intro ws hs
                      simp only [Nat.zero_add, Nat.add_zero, Nat.reduceAdd, Int.reduceToNat, Nat.reduceMul, List.set_cons_zero, List.set_cons_succ, List.setIfInBounds_toArray] at hs
                      refine Z.tk (Dn := fun _ => true) (i := 17) (fun _ => ⟨_, hs, by first | (simp; done) | exact fun e he => List.mem_append_right _ he⟩) ?_
                      refine Z.td (by rfl) (by kernel_rfl) ?_
                      refine Z.only [0, 1, 2, 6, 7] rfl ?_
                      refine Z.nblock ?_
                      refine Z.nthen ?_
                      refine Z.region ?_
                      rw [oints_swp (by omega)] at hs
                      refine Z.l rfl rfl (by rfl) (Z.keepS hs) (Z.Yd.pure rfl) ?_
                      refine Z.l rfl rfl (by rfl) (Z.keepS hs) (Z.Yd.sub rfl rfl (fun hG => Z.wi64 (by first | omega | (have hG' := Z.gh rfl hG; simp at hG'; omega)))) ?_
                      refine Z.lb 1 rfl ?_
                      refine Z.lnil ?_
                      refine Z.only [0, 1, 2, 6, 7] rfl ?_
                      refine Z.nthen ?_
                      exact Z.again (j - 1, swp zs j) (by refine ⟨?_, ?_, ?_, ?_, ?_, trivial⟩ <;> (first | rfl | (refine Z.lookv rfl ?_; simp; done) | (refine Z.lookv rfl ?_; simp; omega))) ⟨⟨by simp only; omega, (swp_perm (by omega) (by omega)).trans hp, hS.step (by omega) (by omega) (by omega) (by rw [show ((j - 1 : Nat) : Int) = (j : Int) - 1 from by omega]; assumption)⟩, hs⟩ (by simp only; omega)
                    · skip
                      refine Z.ZO.quiet rfl (by rfl) (Z.keepS hs) (by first | exact Z.Yd.load rfl Try.isAgg3 (fun _ => Z.cellB (by first | ((repeat (first | exact List.mem_cons_self | refine List.mem_cons_of_mem _ ?_ | refine List.mem_append_right _ ?_)); done) | fail) rfl) | exact Z.Yd.load rfl Try.isAgg3 (fun hG => Z.cellR (by first | ((repeat (first | exact List.mem_cons_self | refine List.mem_cons_of_mem _ ?_ | refine List.mem_append_right _ ?_)); done) | fail) (Z.ints_at (by first | omega | (have hG' := Z.gh rfl hG; simp at hG'; omega)) (by first | omega | (have hG' := Z.gh rfl hG; simp at hG'; omega)))) | exact Z.Yd.load rfl Try.isAgg3 (fun hG => Z.cellXi (by assumption) (by first | omega | (have hG' := Z.gh rfl hG; simp at hG'; omega)) (by first | omega | (have hG' := Z.gh rfl hG; simp at hG'; omega))) | exact Z.Yd.load rfl Try.isAgg3 (fun hG => Z.cellS (by assumption) rfl (by first | omega | (have hG' := Z.gh rfl hG; simp at hG'; omega)) (by first | omega | (have hG' := Z.gh rfl hG; simp at hG'; omega))) | fail "load 6.13") ?_
                      refine Z.tk (Dn := fun _ => true) (i := 13) (fun _ => ⟨_, hs, by first | (simp; done) | exact fun e he => List.mem_append_right _ he⟩) ?_
                      refine Z.tn 9 rfl rfl (by kernel_rfl) rfl trivial ?_
                      refine Z.ZO.quiet rfl (by rfl) (Z.keepS hs) (by first | exact Z.Yd.load rfl Try.isAgg3 (fun _ => Z.cellB (by first | ((repeat (first | exact List.mem_cons_self | refine List.mem_cons_of_mem _ ?_ | refine List.mem_append_right _ ?_)); done) | fail) rfl) | exact Z.Yd.load rfl Try.isAgg3 (fun hG => Z.cellR (by first | ((repeat (first | exact List.mem_cons_self | refine List.mem_cons_of_mem _ ?_ | refine List.mem_append_right _ ?_)); done) | fail) (Z.ints_at (by first | omega | (have hG' := Z.gh rfl hG; simp at hG'; omega)) (by first | omega | (have hG' := Z.gh rfl hG; simp at hG'; omega)))) | exact Z.Yd.load rfl Try.isAgg3 (fun hG => Z.cellXi (by assumption) (by first | omega | (have hG' := Z.gh rfl hG; simp at hG'; omega)) (by first | omega | (have hG' := Z.gh rfl hG; simp at hG'; omega))) | exact Z.Yd.load rfl Try.isAgg3 (fun hG => Z.cellS (by assumption) rfl (by first | omega | (have hG' := Z.gh rfl hG; simp at hG'; omega)) (by first | omega | (have hG' := Z.gh rfl hG; simp at hG'; omega))) | fail "load 6.9") ?_
                      refine Z.tk (Dn := fun _ => true) (i := 9) (fun _ => ⟨_, hs, by first | (simp; done) | exact fun e he => List.mem_append_right _ he⟩) ?_
                      refine Z.t 14 rfl rfl rfl (by rfl) (by kernel_rfl) ⟨_, hs, by first | (simp; done) | exact fun e he => List.mem_append_right _ he⟩ (Z.Yd.elem rfl rfl Try.underlying38 Try.sizeOf3 (fun hG => ⟨(by first | omega | (have hG' := Z.gh rfl hG; simp at hG'; omega)), (by first | omega | (have hG' := Z.gh rfl hG; simp at hG'; omega))⟩)) ?_
                      refine Z.tn 15 rfl rfl (by kernel_rfl) rfl trivial ?_
                      first | refine Z.ZO.store rfl rfl hs Try.sizeOf3 rfl rfl rfl (by first | exact SX.at0 | exact SX.at1 | exact SX.at2 | exact SX.at3 | exact SX.at4 | exact SX.at5 | exact Z.at6 | exact Z.at7 | exact Z.at8 | exact Z.at9 | exact Z.at10 | exact Z.at11 | exact Z.at12) (by first | (simp; done) | (simp; omega)) ?_ | refine Z.ZO.storeR rfl rfl hs Try.sizeOf3 rfl rfl rfl (by first | exact SX.at0 | exact SX.at1 | exact SX.at2 | exact SX.at3 | exact SX.at4 | exact SX.at5 | exact Z.at6 | exact Z.at7 | exact Z.at8 | exact Z.at9 | exact Z.at10 | exact Z.at11 | exact Z.at12) (by first | omega | (simp [ints_length]; done) | (simp [ints_length]; omega)) ?_
                      clear hs; intro ws hs
                      simp only [Nat.zero_add, Nat.add_zero, Nat.reduceAdd, Int.reduceToNat, Nat.reduceMul, List.set_cons_zero, List.set_cons_succ, List.setIfInBounds_toArray] at hs
                      refine Z.tk (Dn := fun _ => true) (i := 15) (fun _ => ⟨_, hs, by first | (simp; done) | exact fun e he => List.mem_append_right _ he⟩) ?_
                      refine Z.t 16 rfl rfl rfl (by rfl) (by kernel_rfl) ⟨_, hs, by first | (simp; done) | exact fun e he => List.mem_append_right _ he⟩ (Z.Yd.elem rfl rfl Try.underlying38 Try.sizeOf3 (fun hG => ⟨(by first | omega | (have hG' := Z.gh rfl hG; simp at hG'; omega)), (by first | omega | (have hG' := Z.gh rfl hG; simp at hG'; omega))⟩)) ?_
                      refine Z.tn 17 rfl rfl (by kernel_rfl) rfl trivial ?_
                      first | refine Z.ZO.store rfl rfl hs Try.sizeOf3 rfl rfl rfl (by first | exact SX.at0 | exact SX.at1 | exact SX.at2 | exact SX.at3 | exact SX.at4 | exact SX.at5 | exact Z.at6 | exact Z.at7 | exact Z.at8 | exact Z.at9 | exact Z.at10 | exact Z.at11 | exact Z.at12) (by first | (simp; done) | (simp; omega)) ?_ | refine Z.ZO.storeR rfl rfl hs Try.sizeOf3 rfl rfl rfl (by first | exact SX.at0 | exact SX.at1 | exact SX.at2 | exact SX.at3 | exact SX.at4 | exact SX.at5 | exact Z.at6 | exact Z.at7 | exact Z.at8 | exact Z.at9 | exact Z.at10 | exact Z.at11 | exact Z.at12) (by first | omega | (simp [ints_length]; done) | (simp [ints_length]; omega)) ?_
                      clear hs; intro ws hs
                      simp only [Nat.zero_add, Nat.add_zero, Nat.reduceAdd, Int.reduceToNat, Nat.reduceMul, List.set_cons_zero, List.set_cons_succ, List.setIfInBounds_toArray] at hs
                      refine Z.tk (Dn := fun _ => true) (i := 17) (fun _ => ⟨_, hs, by first | (simp; done) | exact fun e he => List.mem_append_right _ he⟩) ?_
                      refine Z.td (by rfl) (by kernel_rfl) ?_
                      refine Z.only [0, 1, 2, 6, 7] rfl ?_
                      refine Z.nblock ?_
                      refine Z.nthen ?_
                      refine Z.region ?_
                      rw [oints_swp (by omega)] at hs
                      refine Z.l rfl rfl (by rfl) (Z.keepS hs) (Z.Yd.pure rfl) ?_
                      refine Z.l rfl rfl (by rfl) (Z.keepS hs) (Z.Yd.sub rfl rfl (fun hG => Z.wi64 (by first | omega | (have hG' := Z.gh rfl hG; simp at hG'; omega)))) ?_
                      refine Z.lb 1 rfl ?_
                      refine Z.lnil ?_
                      refine Z.only [0, 1, 2, 6, 7] rfl ?_
                      refine Z.nthen ?_
                      exact Z.again (j - 1, swp zs j) (by refine ⟨?_, ?_, ?_, ?_, ?_, trivial⟩ <;> (first | rfl | (refine Z.lookv rfl ?_; simp; done) | (refine Z.lookv rfl ?_; simp; omega))) ⟨⟨by simp only; omega, (swp_perm (by omega) (by omega)).trans hp, hS.step (by omega) (by omega) (by omega) (by rw [show ((j - 1 : Nat) : Int) = (j : Int) - 1 from by omega]; assumption)⟩, hs⟩ (by simp only; omega)
                    )
              · first
                  | (exfalso; simp at hc4 <;> omega)
                  | (
                    (try simp at hc4)
                    have hst3 : j = 0 ∨ elt zs ((j - 1 : Nat) : Int) ≤ elt zs (j : Int) := by
                      first
                      | exact hst
                      | (right; rw [show ((j - 1 : Nat) : Int) = (j : Int) - 1 from by omega]; first | exact hc4 | exact Int.not_lt.1 hc4)
                    refine Z.exit ?_
                    refine Z.xthen ?_
                    refine Z.xthen ?_
                    refine Z.xblock ?_
                    refine Z.nblock ?_
                    refine Z.nthen ?_
                    refine Z.region ?_
                    refine Z.lb 1 rfl ?_
                    refine Z.l rfl rfl (by rfl) (Z.keepS hs) (Z.Yd.add rfl rfl (fun hG => Z.wi64 (by first | omega | (have hG' := Z.gh rfl hG; simp at hG'; omega)))) ?_
                    refine Z.lb 1 rfl ?_
                    refine Z.lnil ?_
                    refine Z.only [0, 1, 2, 6] rfl ?_
                    refine Z.nthen ?_
                    exact Z.again (i + 1, zs) (by refine ⟨?_, ?_, ?_, ?_, trivial⟩ <;> (first | rfl | (refine Z.lookv rfl ?_; simp; done) | (refine Z.lookv rfl ?_; simp; omega))) ⟨⟨by simp only; omega, .inl (by simp only; omega), hp, hS.stop hst3⟩, hs⟩ (by simp only; omega)
                    )
              )
        · first
            | (exfalso; simp at hsp19 <;> omega)
            | (
              refine Z.yes (s := 19) (b := false) rfl hsp19 rfl ?_
              (try simp at hsp19)
              have hst : j = 0 ∨ elt zs ((j - 1 : Nat) : Int) ≤ elt zs (j : Int) := .inl (by omega)
              refine Z.t 4 rfl rfl rfl (by rfl) (by kernel_rfl) ⟨_, hs, by first | (simp; done) | exact fun e he => List.mem_append_right _ he⟩ (Z.Yd.off (v := undef) 19 true rfl (by first | (simp; done) | (simp_all; done)) (by intro c h; cases h)) ?_
              refine Z.t 5 rfl rfl rfl (by rfl) (by kernel_rfl) ⟨_, hs, by first | (simp; done) | exact fun e he => List.mem_append_right _ he⟩ (Z.Yd.off (v := undef) 19 true rfl (by first | (simp; done) | (simp_all; done)) (by intro c h; cases h)) ?_
              refine Z.t 6 rfl rfl rfl (by rfl) (by kernel_rfl) ⟨_, hs, by first | (simp; done) | exact fun e he => List.mem_append_right _ he⟩ (Z.Yd.off (v := undef) 19 true rfl (by first | (simp; done) | (simp_all; done)) (by intro c h; cases h)) ?_
              refine Z.t 7 rfl rfl rfl (by rfl) (by kernel_rfl) ⟨_, hs, by first | (simp; done) | exact fun e he => List.mem_append_right _ he⟩ (Z.Yd.off (v := undef) 19 true rfl (by first | (simp; done) | (simp_all; done)) (by intro c h; cases h)) ?_
              refine Z.t 8 rfl rfl rfl (by rfl) (by kernel_rfl) ⟨_, hs, by first | (simp; done) | exact fun e he => List.mem_append_right _ he⟩ (Z.Yd.off (v := undef) 19 true rfl (by first | (simp; done) | (simp_all; done)) (by intro c h; cases h)) ?_
              refine Z.t 9 rfl rfl rfl (by rfl) (by kernel_rfl) ⟨_, hs, by first | (simp; done) | exact fun e he => List.mem_append_right _ he⟩ (Z.Yd.off (v := undef) 19 true rfl (by first | (simp; done) | (simp_all; done)) (by intro c h; cases h)) ?_
              refine Z.t 10 rfl rfl rfl (by rfl) (by kernel_rfl) ⟨_, hs, by first | (simp; done) | exact fun e he => List.mem_append_right _ he⟩ (Z.Yd.off (v := undef) 19 true rfl (by first | (simp; done) | (simp_all; done)) (by intro c h; cases h)) ?_
              refine Z.t 11 rfl rfl rfl (by rfl) (by kernel_rfl) ⟨_, hs, by first | (simp; done) | exact fun e he => List.mem_append_right _ he⟩ (Z.Yd.off (v := undef) 19 true rfl (by first | (simp; done) | (simp_all; done)) (by intro c h; cases h)) ?_
              refine Z.t 12 rfl rfl rfl (by rfl) (by kernel_rfl) ⟨_, hs, by first | (simp; done) | exact fun e he => List.mem_append_right _ he⟩ (Z.Yd.off (v := undef) 19 true rfl (by first | (simp; done) | (simp_all; done)) (by intro c h; cases h)) ?_
              refine Z.yes (s := 19) (b := false) rfl rfl rfl ?_
              refine Z.tnS 19 true 13 rfl rfl (by kernel_rfl) rfl rfl (by simp) rfl (by rfl) (fun _ => ⟨_, hs, by first | (simp; done) | exact fun e he => List.mem_append_right _ he⟩) ?_
              refine Z.t 14 rfl rfl rfl (by rfl) (by kernel_rfl) ⟨_, hs, by first | (simp; done) | exact fun e he => List.mem_append_right _ he⟩ (Z.Yd.pickF rfl rfl) ?_
              refine Z.td (by rfl) (by kernel_rfl) ?_
              refine Z.only [0, 1, 2, 6, 7, 30] rfl ?_
              refine Z.nthen ?_
              refine Z.cond rfl (fun hc4 => ?_) (fun hc4 => ?_)
              · first
                  | (exfalso; simp at hc4 <;> omega)
                  | (
                    (try simp at hc4)
                    refine Z.skip ?_
                    refine Z.nthen ?_
                    refine Z.seq ?_
                    refine Z.block ?_
                    refine Z.drawL [] (fun _ => true) mixed hs ?_
                    clear hs; intro wd6 hs
                    refine Z.tb [0, 1, 2, 3] (by kernel_rfl) rfl ⟨_, hs, by first | (simp; done) | exact fun e he => List.mem_append_right _ he⟩ rfl ?_
                    refine Z.t 4 rfl rfl rfl (by rfl) (by kernel_rfl) ⟨_, hs, by first | (simp; done) | exact fun e he => List.mem_append_right _ he⟩ (Z.Yd.sub rfl rfl (fun hG => Z.wi64 (by first | omega | (have hG' := Z.gh rfl hG; simp at hG'; omega)))) ?_
                    refine Z.tb [5, 6] (by kernel_rfl) rfl ⟨_, hs, by first | (simp; done) | exact fun e he => List.mem_append_right _ he⟩ rfl ?_
                    refine Z.t 7 rfl rfl rfl (by rfl) (by kernel_rfl) ⟨_, hs, by first | (simp; done) | exact fun e he => List.mem_append_right _ he⟩ (Z.Yd.sub rfl rfl (fun hG => Z.wi64 (by first | omega | (have hG' := Z.gh rfl hG; simp at hG'; omega)))) ?_
                    refine Z.t 8 rfl rfl rfl (by rfl) (by kernel_rfl) ⟨_, hs, by first | (simp; done) | exact fun e he => List.mem_append_right _ he⟩ (Z.Yd.elem rfl rfl Try.underlying38 Try.sizeOf3 (fun hG => ⟨(by first | omega | (have hG' := Z.gh rfl hG; simp at hG'; omega)), (by first | omega | (have hG' := Z.gh rfl hG; simp at hG'; omega))⟩)) ?_
                    refine Z.tb [10, 11] (by kernel_rfl) rfl ⟨_, hs, by first | (simp; done) | exact fun e he => List.mem_append_right _ he⟩ rfl ?_
                    refine Z.t 12 rfl rfl rfl (by rfl) (by kernel_rfl) ⟨_, hs, by first | (simp; done) | exact fun e he => List.mem_append_right _ he⟩ (Z.Yd.elem rfl rfl Try.underlying38 Try.sizeOf3 (fun hG => ⟨(by first | omega | (have hG' := Z.gh rfl hG; simp at hG'; omega)), (by first | omega | (have hG' := Z.gh rfl hG; simp at hG'; omega))⟩)) ?_
                    refine Z.fork2 9 13 rfl rfl rfl (by kernel_rfl) rfl rfl trivial trivial ?_ ?_
                    · skip
                      refine Z.ZO.quiet rfl (by rfl) (Z.keepS hs) (by first | exact Z.Yd.load rfl Try.isAgg3 (fun _ => Z.cellB (by first | ((repeat (first | exact List.mem_cons_self | refine List.mem_cons_of_mem _ ?_ | refine List.mem_append_right _ ?_)); done) | fail) rfl) | exact Z.Yd.load rfl Try.isAgg3 (fun hG => Z.cellR (by first | ((repeat (first | exact List.mem_cons_self | refine List.mem_cons_of_mem _ ?_ | refine List.mem_append_right _ ?_)); done) | fail) (Z.ints_at (by first | omega | (have hG' := Z.gh rfl hG; simp at hG'; omega)) (by first | omega | (have hG' := Z.gh rfl hG; simp at hG'; omega)))) | exact Z.Yd.load rfl Try.isAgg3 (fun hG => Z.cellXi (by assumption) (by first | omega | (have hG' := Z.gh rfl hG; simp at hG'; omega)) (by first | omega | (have hG' := Z.gh rfl hG; simp at hG'; omega))) | exact Z.Yd.load rfl Try.isAgg3 (fun hG => Z.cellS (by assumption) rfl (by first | omega | (have hG' := Z.gh rfl hG; simp at hG'; omega)) (by first | omega | (have hG' := Z.gh rfl hG; simp at hG'; omega))) | fail "load 6.9") ?_
                      refine Z.tk (Dn := fun _ => true) (i := 9) (fun _ => ⟨_, hs, by first | (simp; done) | exact fun e he => List.mem_append_right _ he⟩) ?_
                      refine Z.tn 13 rfl rfl (by kernel_rfl) rfl trivial ?_
                      refine Z.ZO.quiet rfl (by rfl) (Z.keepS hs) (by first | exact Z.Yd.load rfl Try.isAgg3 (fun _ => Z.cellB (by first | ((repeat (first | exact List.mem_cons_self | refine List.mem_cons_of_mem _ ?_ | refine List.mem_append_right _ ?_)); done) | fail) rfl) | exact Z.Yd.load rfl Try.isAgg3 (fun hG => Z.cellR (by first | ((repeat (first | exact List.mem_cons_self | refine List.mem_cons_of_mem _ ?_ | refine List.mem_append_right _ ?_)); done) | fail) (Z.ints_at (by first | omega | (have hG' := Z.gh rfl hG; simp at hG'; omega)) (by first | omega | (have hG' := Z.gh rfl hG; simp at hG'; omega)))) | exact Z.Yd.load rfl Try.isAgg3 (fun hG => Z.cellXi (by assumption) (by first | omega | (have hG' := Z.gh rfl hG; simp at hG'; omega)) (by first | omega | (have hG' := Z.gh rfl hG; simp at hG'; omega))) | exact Z.Yd.load rfl Try.isAgg3 (fun hG => Z.cellS (by assumption) rfl (by first | omega | (have hG' := Z.gh rfl hG; simp at hG'; omega)) (by first | omega | (have hG' := Z.gh rfl hG; simp at hG'; omega))) | fail "load 6.13") ?_
                      refine Z.tk (Dn := fun _ => true) (i := 13) (fun _ => ⟨_, hs, by first | (simp; done) | exact fun e he => List.mem_append_right _ he⟩) ?_
                      refine Z.t 14 rfl rfl rfl (by rfl) (by kernel_rfl) ⟨_, hs, by first | (simp; done) | exact fun e he => List.mem_append_right _ he⟩ (Z.Yd.elem rfl rfl Try.underlying38 Try.sizeOf3 (fun hG => ⟨(by first | omega | (have hG' := Z.gh rfl hG; simp at hG'; omega)), (by first | omega | (have hG' := Z.gh rfl hG; simp at hG'; omega))⟩)) ?_
                      refine Z.tn 15 rfl rfl (by kernel_rfl) rfl trivial ?_
                      first | refine Z.ZO.store rfl rfl hs Try.sizeOf3 rfl rfl rfl (by first | exact SX.at0 | exact SX.at1 | exact SX.at2 | exact SX.at3 | exact SX.at4 | exact SX.at5 | exact Z.at6 | exact Z.at7 | exact Z.at8 | exact Z.at9 | exact Z.at10 | exact Z.at11 | exact Z.at12) (by first | (simp; done) | (simp; omega)) ?_ | refine Z.ZO.storeR rfl rfl hs Try.sizeOf3 rfl rfl rfl (by first | exact SX.at0 | exact SX.at1 | exact SX.at2 | exact SX.at3 | exact SX.at4 | exact SX.at5 | exact Z.at6 | exact Z.at7 | exact Z.at8 | exact Z.at9 | exact Z.at10 | exact Z.at11 | exact Z.at12) (by first | omega | (simp [ints_length]; done) | (simp [ints_length]; omega)) ?_
                      clear hs; intro ws hs
                      simp only [Nat.zero_add, Nat.add_zero, Nat.reduceAdd, Int.reduceToNat, Nat.reduceMul, List.set_cons_zero, List.set_cons_succ, List.setIfInBounds_toArray] at hs
                      refine Z.tk (Dn := fun _ => true) (i := 15) (fun _ => ⟨_, hs, by first | (simp; done) | exact fun e he => List.mem_append_right _ he⟩) ?_
                      refine Z.t 16 rfl rfl rfl (by rfl) (by kernel_rfl) ⟨_, hs, by first | (simp; done) | exact fun e he => List.mem_append_right _ he⟩ (Z.Yd.elem rfl rfl Try.underlying38 Try.sizeOf3 (fun hG => ⟨(by first | omega | (have hG' := Z.gh rfl hG; simp at hG'; omega)), (by first | omega | (have hG' := Z.gh rfl hG; simp at hG'; omega))⟩)) ?_
                      refine Z.tn 17 rfl rfl (by kernel_rfl) rfl trivial ?_
                      first | refine Z.ZO.store rfl rfl hs Try.sizeOf3 rfl rfl rfl (by first | exact SX.at0 | exact SX.at1 | exact SX.at2 | exact SX.at3 | exact SX.at4 | exact SX.at5 | exact Z.at6 | exact Z.at7 | exact Z.at8 | exact Z.at9 | exact Z.at10 | exact Z.at11 | exact Z.at12) (by first | (simp; done) | (simp; omega)) ?_ | refine Z.ZO.storeR rfl rfl hs Try.sizeOf3 rfl rfl rfl (by first | exact SX.at0 | exact SX.at1 | exact SX.at2 | exact SX.at3 | exact SX.at4 | exact SX.at5 | exact Z.at6 | exact Z.at7 | exact Z.at8 | exact Z.at9 | exact Z.at10 | exact Z.at11 | exact Z.at12) (by first | omega | (simp [ints_length]; done) | (simp [ints_length]; omega)) ?_
                      clear hs; intro ws hs
                      simp only [Nat.zero_add, Nat.add_zero, Nat.reduceAdd, Int.reduceToNat, Nat.reduceMul, List.set_cons_zero, List.set_cons_succ, List.setIfInBounds_toArray] at hs
                      refine Z.tk (Dn := fun _ => true) (i := 17) (fun _ => ⟨_, hs, by first | (simp; done) | exact fun e he => List.mem_append_right _ he⟩) ?_
                      refine Z.td (by rfl) (by kernel_rfl) ?_
                      refine Z.only [0, 1, 2, 6, 7] rfl ?_
                      refine Z.nblock ?_
                      refine Z.nthen ?_
                      refine Z.region ?_
                      rw [oints_swp (by omega)] at hs
                      refine Z.l rfl rfl (by rfl) (Z.keepS hs) (Z.Yd.pure rfl) ?_
                      refine Z.l rfl rfl (by rfl) (Z.keepS hs) (Z.Yd.sub rfl rfl (fun hG => Z.wi64 (by first | omega | (have hG' := Z.gh rfl hG; simp at hG'; omega)))) ?_
                      refine Z.lb 1 rfl ?_
                      refine Z.lnil ?_
                      refine Z.only [0, 1, 2, 6, 7] rfl ?_
                      refine Z.nthen ?_
                      exact Z.again (j - 1, swp zs j) (by refine ⟨?_, ?_, ?_, ?_, ?_, trivial⟩ <;> (first | rfl | (refine Z.lookv rfl ?_; simp; done) | (refine Z.lookv rfl ?_; simp; omega))) ⟨⟨by simp only; omega, (swp_perm (by omega) (by omega)).trans hp, hS.step (by omega) (by omega) (by omega) (by rw [show ((j - 1 : Nat) : Int) = (j : Int) - 1 from by omega]; assumption)⟩, hs⟩ (by simp only; omega)
                    · skip
                      refine Z.ZO.quiet rfl (by rfl) (Z.keepS hs) (by first | exact Z.Yd.load rfl Try.isAgg3 (fun _ => Z.cellB (by first | ((repeat (first | exact List.mem_cons_self | refine List.mem_cons_of_mem _ ?_ | refine List.mem_append_right _ ?_)); done) | fail) rfl) | exact Z.Yd.load rfl Try.isAgg3 (fun hG => Z.cellR (by first | ((repeat (first | exact List.mem_cons_self | refine List.mem_cons_of_mem _ ?_ | refine List.mem_append_right _ ?_)); done) | fail) (Z.ints_at (by first | omega | (have hG' := Z.gh rfl hG; simp at hG'; omega)) (by first | omega | (have hG' := Z.gh rfl hG; simp at hG'; omega)))) | exact Z.Yd.load rfl Try.isAgg3 (fun hG => Z.cellXi (by assumption) (by first | omega | (have hG' := Z.gh rfl hG; simp at hG'; omega)) (by first | omega | (have hG' := Z.gh rfl hG; simp at hG'; omega))) | exact Z.Yd.load rfl Try.isAgg3 (fun hG => Z.cellS (by assumption) rfl (by first | omega | (have hG' := Z.gh rfl hG; simp at hG'; omega)) (by first | omega | (have hG' := Z.gh rfl hG; simp at hG'; omega))) | fail "load 6.13") ?_
                      refine Z.tk (Dn := fun _ => true) (i := 13) (fun _ => ⟨_, hs, by first | (simp; done) | exact fun e he => List.mem_append_right _ he⟩) ?_
                      refine Z.tn 9 rfl rfl (by kernel_rfl) rfl trivial ?_
                      refine Z.ZO.quiet rfl (by rfl) (Z.keepS hs) (by first | exact Z.Yd.load rfl Try.isAgg3 (fun _ => Z.cellB (by first | ((repeat (first | exact List.mem_cons_self | refine List.mem_cons_of_mem _ ?_ | refine List.mem_append_right _ ?_)); done) | fail) rfl) | exact Z.Yd.load rfl Try.isAgg3 (fun hG => Z.cellR (by first | ((repeat (first | exact List.mem_cons_self | refine List.mem_cons_of_mem _ ?_ | refine List.mem_append_right _ ?_)); done) | fail) (Z.ints_at (by first | omega | (have hG' := Z.gh rfl hG; simp at hG'; omega)) (by first | omega | (have hG' := Z.gh rfl hG; simp at hG'; omega)))) | exact Z.Yd.load rfl Try.isAgg3 (fun hG => Z.cellXi (by assumption) (by first | omega | (have hG' := Z.gh rfl hG; simp at hG'; omega)) (by first | omega | (have hG' := Z.gh rfl hG; simp at hG'; omega))) | exact Z.Yd.load rfl Try.isAgg3 (fun hG => Z.cellS (by assumption) rfl (by first | omega | (have hG' := Z.gh rfl hG; simp at hG'; omega)) (by first | omega | (have hG' := Z.gh rfl hG; simp at hG'; omega))) | fail "load 6.9") ?_
                      refine Z.tk (Dn := fun _ => true) (i := 9) (fun _ => ⟨_, hs, by first | (simp; done) | exact fun e he => List.mem_append_right _ he⟩) ?_
                      refine Z.t 14 rfl rfl rfl (by rfl) (by kernel_rfl) ⟨_, hs, by first | (simp; done) | exact fun e he => List.mem_append_right _ he⟩ (Z.Yd.elem rfl rfl Try.underlying38 Try.sizeOf3 (fun hG => ⟨(by first | omega | (have hG' := Z.gh rfl hG; simp at hG'; omega)), (by first | omega | (have hG' := Z.gh rfl hG; simp at hG'; omega))⟩)) ?_
                      refine Z.tn 15 rfl rfl (by kernel_rfl) rfl trivial ?_
                      first | refine Z.ZO.store rfl rfl hs Try.sizeOf3 rfl rfl rfl (by first | exact SX.at0 | exact SX.at1 | exact SX.at2 | exact SX.at3 | exact SX.at4 | exact SX.at5 | exact Z.at6 | exact Z.at7 | exact Z.at8 | exact Z.at9 | exact Z.at10 | exact Z.at11 | exact Z.at12) (by first | (simp; done) | (simp; omega)) ?_ | refine Z.ZO.storeR rfl rfl hs Try.sizeOf3 rfl rfl rfl (by first | exact SX.at0 | exact SX.at1 | exact SX.at2 | exact SX.at3 | exact SX.at4 | exact SX.at5 | exact Z.at6 | exact Z.at7 | exact Z.at8 | exact Z.at9 | exact Z.at10 | exact Z.at11 | exact Z.at12) (by first | omega | (simp [ints_length]; done) | (simp [ints_length]; omega)) ?_
                      clear hs; intro ws hs
                      simp only [Nat.zero_add, Nat.add_zero, Nat.reduceAdd, Int.reduceToNat, Nat.reduceMul, List.set_cons_zero, List.set_cons_succ, List.setIfInBounds_toArray] at hs
                      refine Z.tk (Dn := fun _ => true) (i := 15) (fun _ => ⟨_, hs, by first | (simp; done) | exact fun e he => List.mem_append_right _ he⟩) ?_
                      refine Z.t 16 rfl rfl rfl (by rfl) (by kernel_rfl) ⟨_, hs, by first | (simp; done) | exact fun e he => List.mem_append_right _ he⟩ (Z.Yd.elem rfl rfl Try.underlying38 Try.sizeOf3 (fun hG => ⟨(by first | omega | (have hG' := Z.gh rfl hG; simp at hG'; omega)), (by first | omega | (have hG' := Z.gh rfl hG; simp at hG'; omega))⟩)) ?_
                      refine Z.tn 17 rfl rfl (by kernel_rfl) rfl trivial ?_
                      first | refine Z.ZO.store rfl rfl hs Try.sizeOf3 rfl rfl rfl (by first | exact SX.at0 | exact SX.at1 | exact SX.at2 | exact SX.at3 | exact SX.at4 | exact SX.at5 | exact Z.at6 | exact Z.at7 | exact Z.at8 | exact Z.at9 | exact Z.at10 | exact Z.at11 | exact Z.at12) (by first | (simp; done) | (simp; omega)) ?_ | refine Z.ZO.storeR rfl rfl hs Try.sizeOf3 rfl rfl rfl (by first | exact SX.at0 | exact SX.at1 | exact SX.at2 | exact SX.at3 | exact SX.at4 | exact SX.at5 | exact Z.at6 | exact Z.at7 | exact Z.at8 | exact Z.at9 | exact Z.at10 | exact Z.at11 | exact Z.at12) (by first | omega | (simp [ints_length]; done) | (simp [ints_length]; omega)) ?_
                      clear hs; intro ws hs
                      simp only [Nat.zero_add, Nat.add_zero, Nat.reduceAdd, Int.reduceToNat, Nat.reduceMul, List.set_cons_zero, List.set_cons_succ, List.setIfInBounds_toArray] at hs
                      refine Z.tk (Dn := fun _ => true) (i := 17) (fun _ => ⟨_, hs, by first | (simp; done) | exact fun e he => List.mem_append_right _ he⟩) ?_
                      refine Z.td (by rfl) (by kernel_rfl) ?_
                      refine Z.only [0, 1, 2, 6, 7] rfl ?_
                      refine Z.nblock ?_
                      refine Z.nthen ?_
                      refine Z.region ?_
                      rw [oints_swp (by omega)] at hs
                      refine Z.l rfl rfl (by rfl) (Z.keepS hs) (Z.Yd.pure rfl) ?_
                      refine Z.l rfl rfl (by rfl) (Z.keepS hs) (Z.Yd.sub rfl rfl (fun hG => Z.wi64 (by first | omega | (have hG' := Z.gh rfl hG; simp at hG'; omega)))) ?_
                      refine Z.lb 1 rfl ?_
                      refine Z.lnil ?_
                      refine Z.only [0, 1, 2, 6, 7] rfl ?_
                      refine Z.nthen ?_
                      exact Z.again (j - 1, swp zs j) (by refine ⟨?_, ?_, ?_, ?_, ?_, trivial⟩ <;> (first | rfl | (refine Z.lookv rfl ?_; simp; done) | (refine Z.lookv rfl ?_; simp; omega))) ⟨⟨by simp only; omega, (swp_perm (by omega) (by omega)).trans hp, hS.step (by omega) (by omega) (by omega) (by rw [show ((j - 1 : Nat) : Int) = (j : Int) - 1 from by omega]; assumption)⟩, hs⟩ (by simp only; omega)
                    )
              · first
                  | (exfalso; simp at hc4 <;> omega)
                  | (
                    (try simp at hc4)
                    have hst3 : j = 0 ∨ elt zs ((j - 1 : Nat) : Int) ≤ elt zs (j : Int) := by
                      first
                      | exact hst
                      | (right; rw [show ((j - 1 : Nat) : Int) = (j : Int) - 1 from by omega]; first | exact hc4 | exact Int.not_lt.1 hc4)
                    refine Z.exit ?_
                    refine Z.xthen ?_
                    refine Z.xthen ?_
                    refine Z.xblock ?_
                    refine Z.nblock ?_
                    refine Z.nthen ?_
                    refine Z.region ?_
                    refine Z.lb 1 rfl ?_
                    refine Z.l rfl rfl (by rfl) (Z.keepS hs) (Z.Yd.add rfl rfl (fun hG => Z.wi64 (by first | omega | (have hG' := Z.gh rfl hG; simp at hG'; omega)))) ?_
                    refine Z.lb 1 rfl ?_
                    refine Z.lnil ?_
                    refine Z.only [0, 1, 2, 6] rfl ?_
                    refine Z.nthen ?_
                    exact Z.again (i + 1, zs) (by refine ⟨?_, ?_, ?_, ?_, trivial⟩ <;> (first | rfl | (refine Z.lookv rfl ?_; simp; done) | (refine Z.lookv rfl ?_; simp; omega))) ⟨⟨by simp only; omega, .inl (by simp only; omega), hp, hS.stop hst3⟩, hs⟩ (by simp only; omega)
                    )
              )
        )
  · first
      | (exfalso; simp at hc1 <;> omega)
      | (
        (try simp at hc1)
        refine Z.exit ?_
        refine Z.xthen ?_
        refine Z.xthen ?_
        refine Z.xblock ?_
        -- ret#0
        refine Z.out0n trivial ?_
        exact ⟨_, rfl, rfl, ys, hp, fun p q h1 h2 h3 => hS p q h1 (by omega) (by omega), hs⟩
        )
end Go.Proofs.Ythncbdoiilgnhaa

/- Sorting at most ten integers. -/
namespace Go.Proofs.Ythncbdoiilgnhaa
open Go.RowKit
set_option linter.unusedSimpArgs false
set_option linter.unusedVariables false
--newlaws

theorem bl64_1 (w : World) : Calls Try.prog 67 #[.int .u64 1] w (SX.Ret fun v w' => (∃ z : Int, v = .int .i64 z) ∧ SX.St w [] w' []) := by
  have hs := SX.St.start w
  refine Z.enter Try.func67 rfl Try.ntmps67 rfl rfl ?_
  refine Z.seq ?_
  refine Z.region ?_
  refine Z.lb 1 rfl ?_
  refine Z.lnil ?_
  refine Z.only [0, 2] rfl ?_
  refine Z.nthen ?_
  refine Z.seq ?_
  refine Z.seq ?_
  refine Z.region ?_
  refine Z.lb 2 rfl ?_
  refine Z.lnil ?_
  refine Z.only [0, 2, 4] rfl ?_
  refine Z.nthen ?_
  refine Z.cond rfl (fun h => absurd h (by simp)) (fun hc1 => ?_)
  refine Z.skip ?_
  refine Z.nthen ?_
  refine Z.seq ?_
  refine Z.seq ?_
  refine Z.region ?_
  refine Z.lb 2 rfl ?_
  refine Z.lnil ?_
  refine Z.only [0, 2, 8] rfl ?_
  refine Z.nthen ?_
  refine Z.cond rfl (fun h => absurd h (by simp)) (fun hc4 => ?_)
  refine Z.skip ?_
  refine Z.nthen ?_
  refine Z.seq ?_
  refine Z.seq ?_
  refine Z.region ?_
  refine Z.lb 2 rfl ?_
  refine Z.lnil ?_
  refine Z.only [0, 2, 14] rfl ?_
  refine Z.nthen ?_
  refine Z.cond rfl (fun h => absurd h (by simp)) (fun hc7 => ?_)
  refine Z.skip ?_
  refine Z.nthen ?_
  refine Z.seq ?_
  refine Z.region ?_
  refine Z.lb 2 rfl ?_
  refine Z.l rfl rfl (by rfl) (Z.keepS hs) (Z.Yd.convI rfl ⟨_, Try.underlying98⟩ Try.underlying5 (fun hG => Z.wu8 (by first | omega | (have hG' := Z.gh rfl hG; simp at hG'; omega)))) ?_
  refine Z.l rfl rfl (by rfl) (Z.keepS hs) (Z.Yd.index (v := .int .u8 1) rfl rfl (by intro _ w; kernel_rfl)) ?_
  refine Z.l rfl rfl (by rfl) (Z.keepS hs) (Z.Yd.convI rfl ⟨_, Try.underlying5⟩ Try.underlying3 (fun hG => Z.wi64 (by first | omega | (have hG' := Z.gh rfl hG; simp at hG'; omega)))) ?_
  refine Z.l rfl rfl (by rfl) (Z.keepS hs) (Z.Yd.add rfl rfl (fun hG => Z.wi64 (by first | omega | (have hG' := Z.gh rfl hG; simp at hG'; omega)))) ?_
  refine Z.lb 1 rfl ?_
  refine Z.lnil ?_
  refine Z.only [2] rfl ?_
  refine Z.nthen ?_
  refine Z.ret ?_
  -- ret#0
  refine Z.out1 (by exact ⟨rfl, trivial⟩) ?_
  exact ⟨_, rfl, ⟨_, rfl⟩, hs⟩
theorem bl64_2 (w : World) : Calls Try.prog 67 #[.int .u64 2] w (SX.Ret fun v w' => (∃ z : Int, v = .int .i64 z) ∧ SX.St w [] w' []) := by
  have hs := SX.St.start w
  refine Z.enter Try.func67 rfl Try.ntmps67 rfl rfl ?_
  refine Z.seq ?_
  refine Z.region ?_
  refine Z.lb 1 rfl ?_
  refine Z.lnil ?_
  refine Z.only [0, 2] rfl ?_
  refine Z.nthen ?_
  refine Z.seq ?_
  refine Z.seq ?_
  refine Z.region ?_
  refine Z.lb 2 rfl ?_
  refine Z.lnil ?_
  refine Z.only [0, 2, 4] rfl ?_
  refine Z.nthen ?_
  refine Z.cond rfl (fun h => absurd h (by simp)) (fun hc1 => ?_)
  refine Z.skip ?_
  refine Z.nthen ?_
  refine Z.seq ?_
  refine Z.seq ?_
  refine Z.region ?_
  refine Z.lb 2 rfl ?_
  refine Z.lnil ?_
  refine Z.only [0, 2, 8] rfl ?_
  refine Z.nthen ?_
  refine Z.cond rfl (fun h => absurd h (by simp)) (fun hc4 => ?_)
  refine Z.skip ?_
  refine Z.nthen ?_
  refine Z.seq ?_
  refine Z.seq ?_
  refine Z.region ?_
  refine Z.lb 2 rfl ?_
  refine Z.lnil ?_
  refine Z.only [0, 2, 14] rfl ?_
  refine Z.nthen ?_
  refine Z.cond rfl (fun h => absurd h (by simp)) (fun hc7 => ?_)
  refine Z.skip ?_
  refine Z.nthen ?_
  refine Z.seq ?_
  refine Z.region ?_
  refine Z.lb 2 rfl ?_
  refine Z.l rfl rfl (by rfl) (Z.keepS hs) (Z.Yd.convI rfl ⟨_, Try.underlying98⟩ Try.underlying5 (fun hG => Z.wu8 (by first | omega | (have hG' := Z.gh rfl hG; simp at hG'; omega)))) ?_
  refine Z.l rfl rfl (by rfl) (Z.keepS hs) (Z.Yd.index (v := .int .u8 2) rfl rfl (by intro _ w; kernel_rfl)) ?_
  refine Z.l rfl rfl (by rfl) (Z.keepS hs) (Z.Yd.convI rfl ⟨_, Try.underlying5⟩ Try.underlying3 (fun hG => Z.wi64 (by first | omega | (have hG' := Z.gh rfl hG; simp at hG'; omega)))) ?_
  refine Z.l rfl rfl (by rfl) (Z.keepS hs) (Z.Yd.add rfl rfl (fun hG => Z.wi64 (by first | omega | (have hG' := Z.gh rfl hG; simp at hG'; omega)))) ?_
  refine Z.lb 1 rfl ?_
  refine Z.lnil ?_
  refine Z.only [2] rfl ?_
  refine Z.nthen ?_
  refine Z.ret ?_
  -- ret#0
  refine Z.out1 (by exact ⟨rfl, trivial⟩) ?_
  exact ⟨_, rfl, ⟨_, rfl⟩, hs⟩
theorem bl64_3 (w : World) : Calls Try.prog 67 #[.int .u64 3] w (SX.Ret fun v w' => (∃ z : Int, v = .int .i64 z) ∧ SX.St w [] w' []) := by
  have hs := SX.St.start w
  refine Z.enter Try.func67 rfl Try.ntmps67 rfl rfl ?_
  refine Z.seq ?_
  refine Z.region ?_
  refine Z.lb 1 rfl ?_
  refine Z.lnil ?_
  refine Z.only [0, 2] rfl ?_
  refine Z.nthen ?_
  refine Z.seq ?_
  refine Z.seq ?_
  refine Z.region ?_
  refine Z.lb 2 rfl ?_
  refine Z.lnil ?_
  refine Z.only [0, 2, 4] rfl ?_
  refine Z.nthen ?_
  refine Z.cond rfl (fun h => absurd h (by simp)) (fun hc1 => ?_)
  refine Z.skip ?_
  refine Z.nthen ?_
  refine Z.seq ?_
  refine Z.seq ?_
  refine Z.region ?_
  refine Z.lb 2 rfl ?_
  refine Z.lnil ?_
  refine Z.only [0, 2, 8] rfl ?_
  refine Z.nthen ?_
  refine Z.cond rfl (fun h => absurd h (by simp)) (fun hc4 => ?_)
  refine Z.skip ?_
  refine Z.nthen ?_
  refine Z.seq ?_
  refine Z.seq ?_
  refine Z.region ?_
  refine Z.lb 2 rfl ?_
  refine Z.lnil ?_
  refine Z.only [0, 2, 14] rfl ?_
  refine Z.nthen ?_
  refine Z.cond rfl (fun h => absurd h (by simp)) (fun hc7 => ?_)
  refine Z.skip ?_
  refine Z.nthen ?_
  refine Z.seq ?_
  refine Z.region ?_
  refine Z.lb 2 rfl ?_
  refine Z.l rfl rfl (by rfl) (Z.keepS hs) (Z.Yd.convI rfl ⟨_, Try.underlying98⟩ Try.underlying5 (fun hG => Z.wu8 (by first | omega | (have hG' := Z.gh rfl hG; simp at hG'; omega)))) ?_
  refine Z.l rfl rfl (by rfl) (Z.keepS hs) (Z.Yd.index (v := .int .u8 2) rfl rfl (by intro _ w; kernel_rfl)) ?_
  refine Z.l rfl rfl (by rfl) (Z.keepS hs) (Z.Yd.convI rfl ⟨_, Try.underlying5⟩ Try.underlying3 (fun hG => Z.wi64 (by first | omega | (have hG' := Z.gh rfl hG; simp at hG'; omega)))) ?_
  refine Z.l rfl rfl (by rfl) (Z.keepS hs) (Z.Yd.add rfl rfl (fun hG => Z.wi64 (by first | omega | (have hG' := Z.gh rfl hG; simp at hG'; omega)))) ?_
  refine Z.lb 1 rfl ?_
  refine Z.lnil ?_
  refine Z.only [2] rfl ?_
  refine Z.nthen ?_
  refine Z.ret ?_
  -- ret#0
  refine Z.out1 (by exact ⟨rfl, trivial⟩) ?_
  exact ⟨_, rfl, ⟨_, rfl⟩, hs⟩
theorem bl64_4 (w : World) : Calls Try.prog 67 #[.int .u64 4] w (SX.Ret fun v w' => (∃ z : Int, v = .int .i64 z) ∧ SX.St w [] w' []) := by
  have hs := SX.St.start w
  refine Z.enter Try.func67 rfl Try.ntmps67 rfl rfl ?_
  refine Z.seq ?_
  refine Z.region ?_
  refine Z.lb 1 rfl ?_
  refine Z.lnil ?_
  refine Z.only [0, 2] rfl ?_
  refine Z.nthen ?_
  refine Z.seq ?_
  refine Z.seq ?_
  refine Z.region ?_
  refine Z.lb 2 rfl ?_
  refine Z.lnil ?_
  refine Z.only [0, 2, 4] rfl ?_
  refine Z.nthen ?_
  refine Z.cond rfl (fun h => absurd h (by simp)) (fun hc1 => ?_)
  refine Z.skip ?_
  refine Z.nthen ?_
  refine Z.seq ?_
  refine Z.seq ?_
  refine Z.region ?_
  refine Z.lb 2 rfl ?_
  refine Z.lnil ?_
  refine Z.only [0, 2, 8] rfl ?_
  refine Z.nthen ?_
  refine Z.cond rfl (fun h => absurd h (by simp)) (fun hc4 => ?_)
  refine Z.skip ?_
  refine Z.nthen ?_
  refine Z.seq ?_
  refine Z.seq ?_
  refine Z.region ?_
  refine Z.lb 2 rfl ?_
  refine Z.lnil ?_
  refine Z.only [0, 2, 14] rfl ?_
  refine Z.nthen ?_
  refine Z.cond rfl (fun h => absurd h (by simp)) (fun hc7 => ?_)
  refine Z.skip ?_
  refine Z.nthen ?_
  refine Z.seq ?_
  refine Z.region ?_
  refine Z.lb 2 rfl ?_
  refine Z.l rfl rfl (by rfl) (Z.keepS hs) (Z.Yd.convI rfl ⟨_, Try.underlying98⟩ Try.underlying5 (fun hG => Z.wu8 (by first | omega | (have hG' := Z.gh rfl hG; simp at hG'; omega)))) ?_
  refine Z.l rfl rfl (by rfl) (Z.keepS hs) (Z.Yd.index (v := .int .u8 3) rfl rfl (by intro _ w; kernel_rfl)) ?_
  refine Z.l rfl rfl (by rfl) (Z.keepS hs) (Z.Yd.convI rfl ⟨_, Try.underlying5⟩ Try.underlying3 (fun hG => Z.wi64 (by first | omega | (have hG' := Z.gh rfl hG; simp at hG'; omega)))) ?_
  refine Z.l rfl rfl (by rfl) (Z.keepS hs) (Z.Yd.add rfl rfl (fun hG => Z.wi64 (by first | omega | (have hG' := Z.gh rfl hG; simp at hG'; omega)))) ?_
  refine Z.lb 1 rfl ?_
  refine Z.lnil ?_
  refine Z.only [2] rfl ?_
  refine Z.nthen ?_
  refine Z.ret ?_
  -- ret#0
  refine Z.out1 (by exact ⟨rfl, trivial⟩) ?_
  exact ⟨_, rfl, ⟨_, rfl⟩, hs⟩
theorem bl64_5 (w : World) : Calls Try.prog 67 #[.int .u64 5] w (SX.Ret fun v w' => (∃ z : Int, v = .int .i64 z) ∧ SX.St w [] w' []) := by
  have hs := SX.St.start w
  refine Z.enter Try.func67 rfl Try.ntmps67 rfl rfl ?_
  refine Z.seq ?_
  refine Z.region ?_
  refine Z.lb 1 rfl ?_
  refine Z.lnil ?_
  refine Z.only [0, 2] rfl ?_
  refine Z.nthen ?_
  refine Z.seq ?_
  refine Z.seq ?_
  refine Z.region ?_
  refine Z.lb 2 rfl ?_
  refine Z.lnil ?_
  refine Z.only [0, 2, 4] rfl ?_
  refine Z.nthen ?_
  refine Z.cond rfl (fun h => absurd h (by simp)) (fun hc1 => ?_)
  refine Z.skip ?_
  refine Z.nthen ?_
  refine Z.seq ?_
  refine Z.seq ?_
  refine Z.region ?_
  refine Z.lb 2 rfl ?_
  refine Z.lnil ?_
  refine Z.only [0, 2, 8] rfl ?_
  refine Z.nthen ?_
  refine Z.cond rfl (fun h => absurd h (by simp)) (fun hc4 => ?_)
  refine Z.skip ?_
  refine Z.nthen ?_
  refine Z.seq ?_
  refine Z.seq ?_
  refine Z.region ?_
  refine Z.lb 2 rfl ?_
  refine Z.lnil ?_
  refine Z.only [0, 2, 14] rfl ?_
  refine Z.nthen ?_
  refine Z.cond rfl (fun h => absurd h (by simp)) (fun hc7 => ?_)
  refine Z.skip ?_
  refine Z.nthen ?_
  refine Z.seq ?_
  refine Z.region ?_
  refine Z.lb 2 rfl ?_
  refine Z.l rfl rfl (by rfl) (Z.keepS hs) (Z.Yd.convI rfl ⟨_, Try.underlying98⟩ Try.underlying5 (fun hG => Z.wu8 (by first | omega | (have hG' := Z.gh rfl hG; simp at hG'; omega)))) ?_
  refine Z.l rfl rfl (by rfl) (Z.keepS hs) (Z.Yd.index (v := .int .u8 3) rfl rfl (by intro _ w; kernel_rfl)) ?_
  refine Z.l rfl rfl (by rfl) (Z.keepS hs) (Z.Yd.convI rfl ⟨_, Try.underlying5⟩ Try.underlying3 (fun hG => Z.wi64 (by first | omega | (have hG' := Z.gh rfl hG; simp at hG'; omega)))) ?_
  refine Z.l rfl rfl (by rfl) (Z.keepS hs) (Z.Yd.add rfl rfl (fun hG => Z.wi64 (by first | omega | (have hG' := Z.gh rfl hG; simp at hG'; omega)))) ?_
  refine Z.lb 1 rfl ?_
  refine Z.lnil ?_
  refine Z.only [2] rfl ?_
  refine Z.nthen ?_
  refine Z.ret ?_
  -- ret#0
  refine Z.out1 (by exact ⟨rfl, trivial⟩) ?_
  exact ⟨_, rfl, ⟨_, rfl⟩, hs⟩
theorem bl64_6 (w : World) : Calls Try.prog 67 #[.int .u64 6] w (SX.Ret fun v w' => (∃ z : Int, v = .int .i64 z) ∧ SX.St w [] w' []) := by
  have hs := SX.St.start w
  refine Z.enter Try.func67 rfl Try.ntmps67 rfl rfl ?_
  refine Z.seq ?_
  refine Z.region ?_
  refine Z.lb 1 rfl ?_
  refine Z.lnil ?_
  refine Z.only [0, 2] rfl ?_
  refine Z.nthen ?_
  refine Z.seq ?_
  refine Z.seq ?_
  refine Z.region ?_
  refine Z.lb 2 rfl ?_
  refine Z.lnil ?_
  refine Z.only [0, 2, 4] rfl ?_
  refine Z.nthen ?_
  refine Z.cond rfl (fun h => absurd h (by simp)) (fun hc1 => ?_)
  refine Z.skip ?_
  refine Z.nthen ?_
  refine Z.seq ?_
  refine Z.seq ?_
  refine Z.region ?_
  refine Z.lb 2 rfl ?_
  refine Z.lnil ?_
  refine Z.only [0, 2, 8] rfl ?_
  refine Z.nthen ?_
  refine Z.cond rfl (fun h => absurd h (by simp)) (fun hc4 => ?_)
  refine Z.skip ?_
  refine Z.nthen ?_
  refine Z.seq ?_
  refine Z.seq ?_
  refine Z.region ?_
  refine Z.lb 2 rfl ?_
  refine Z.lnil ?_
  refine Z.only [0, 2, 14] rfl ?_
  refine Z.nthen ?_
  refine Z.cond rfl (fun h => absurd h (by simp)) (fun hc7 => ?_)
  refine Z.skip ?_
  refine Z.nthen ?_
  refine Z.seq ?_
  refine Z.region ?_
  refine Z.lb 2 rfl ?_
  refine Z.l rfl rfl (by rfl) (Z.keepS hs) (Z.Yd.convI rfl ⟨_, Try.underlying98⟩ Try.underlying5 (fun hG => Z.wu8 (by first | omega | (have hG' := Z.gh rfl hG; simp at hG'; omega)))) ?_
  refine Z.l rfl rfl (by rfl) (Z.keepS hs) (Z.Yd.index (v := .int .u8 3) rfl rfl (by intro _ w; kernel_rfl)) ?_
  refine Z.l rfl rfl (by rfl) (Z.keepS hs) (Z.Yd.convI rfl ⟨_, Try.underlying5⟩ Try.underlying3 (fun hG => Z.wi64 (by first | omega | (have hG' := Z.gh rfl hG; simp at hG'; omega)))) ?_
  refine Z.l rfl rfl (by rfl) (Z.keepS hs) (Z.Yd.add rfl rfl (fun hG => Z.wi64 (by first | omega | (have hG' := Z.gh rfl hG; simp at hG'; omega)))) ?_
  refine Z.lb 1 rfl ?_
  refine Z.lnil ?_
  refine Z.only [2] rfl ?_
  refine Z.nthen ?_
  refine Z.ret ?_
  -- ret#0
  refine Z.out1 (by exact ⟨rfl, trivial⟩) ?_
  exact ⟨_, rfl, ⟨_, rfl⟩, hs⟩
theorem bl64_7 (w : World) : Calls Try.prog 67 #[.int .u64 7] w (SX.Ret fun v w' => (∃ z : Int, v = .int .i64 z) ∧ SX.St w [] w' []) := by
  have hs := SX.St.start w
  refine Z.enter Try.func67 rfl Try.ntmps67 rfl rfl ?_
  refine Z.seq ?_
  refine Z.region ?_
  refine Z.lb 1 rfl ?_
  refine Z.lnil ?_
  refine Z.only [0, 2] rfl ?_
  refine Z.nthen ?_
  refine Z.seq ?_
  refine Z.seq ?_
  refine Z.region ?_
  refine Z.lb 2 rfl ?_
  refine Z.lnil ?_
  refine Z.only [0, 2, 4] rfl ?_
  refine Z.nthen ?_
  refine Z.cond rfl (fun h => absurd h (by simp)) (fun hc1 => ?_)
  refine Z.skip ?_
  refine Z.nthen ?_
  refine Z.seq ?_
  refine Z.seq ?_
  refine Z.region ?_
  refine Z.lb 2 rfl ?_
  refine Z.lnil ?_
  refine Z.only [0, 2, 8] rfl ?_
  refine Z.nthen ?_
  refine Z.cond rfl (fun h => absurd h (by simp)) (fun hc4 => ?_)
  refine Z.skip ?_
  refine Z.nthen ?_
  refine Z.seq ?_
  refine Z.seq ?_
  refine Z.region ?_
  refine Z.lb 2 rfl ?_
  refine Z.lnil ?_
  refine Z.only [0, 2, 14] rfl ?_
  refine Z.nthen ?_
  refine Z.cond rfl (fun h => absurd h (by simp)) (fun hc7 => ?_)
  refine Z.skip ?_
  refine Z.nthen ?_
  refine Z.seq ?_
  refine Z.region ?_
  refine Z.lb 2 rfl ?_
  refine Z.l rfl rfl (by rfl) (Z.keepS hs) (Z.Yd.convI rfl ⟨_, Try.underlying98⟩ Try.underlying5 (fun hG => Z.wu8 (by first | omega | (have hG' := Z.gh rfl hG; simp at hG'; omega)))) ?_
  refine Z.l rfl rfl (by rfl) (Z.keepS hs) (Z.Yd.index (v := .int .u8 3) rfl rfl (by intro _ w; kernel_rfl)) ?_
  refine Z.l rfl rfl (by rfl) (Z.keepS hs) (Z.Yd.convI rfl ⟨_, Try.underlying5⟩ Try.underlying3 (fun hG => Z.wi64 (by first | omega | (have hG' := Z.gh rfl hG; simp at hG'; omega)))) ?_
  refine Z.l rfl rfl (by rfl) (Z.keepS hs) (Z.Yd.add rfl rfl (fun hG => Z.wi64 (by first | omega | (have hG' := Z.gh rfl hG; simp at hG'; omega)))) ?_
  refine Z.lb 1 rfl ?_
  refine Z.lnil ?_
  refine Z.only [2] rfl ?_
  refine Z.nthen ?_
  refine Z.ret ?_
  -- ret#0
  refine Z.out1 (by exact ⟨rfl, trivial⟩) ?_
  exact ⟨_, rfl, ⟨_, rfl⟩, hs⟩
theorem bl64_8 (w : World) : Calls Try.prog 67 #[.int .u64 8] w (SX.Ret fun v w' => (∃ z : Int, v = .int .i64 z) ∧ SX.St w [] w' []) := by
  have hs := SX.St.start w
  refine Z.enter Try.func67 rfl Try.ntmps67 rfl rfl ?_
  refine Z.seq ?_
  refine Z.region ?_
  refine Z.lb 1 rfl ?_
  refine Z.lnil ?_
  refine Z.only [0, 2] rfl ?_
  refine Z.nthen ?_
  refine Z.seq ?_
  refine Z.seq ?_
  refine Z.region ?_
  refine Z.lb 2 rfl ?_
  refine Z.lnil ?_
  refine Z.only [0, 2, 4] rfl ?_
  refine Z.nthen ?_
  refine Z.cond rfl (fun h => absurd h (by simp)) (fun hc1 => ?_)
  refine Z.skip ?_
  refine Z.nthen ?_
  refine Z.seq ?_
  refine Z.seq ?_
  refine Z.region ?_
  refine Z.lb 2 rfl ?_
  refine Z.lnil ?_
  refine Z.only [0, 2, 8] rfl ?_
  refine Z.nthen ?_
  refine Z.cond rfl (fun h => absurd h (by simp)) (fun hc4 => ?_)
  refine Z.skip ?_
  refine Z.nthen ?_
  refine Z.seq ?_
  refine Z.seq ?_
  refine Z.region ?_
  refine Z.lb 2 rfl ?_
  refine Z.lnil ?_
  refine Z.only [0, 2, 14] rfl ?_
  refine Z.nthen ?_
  refine Z.cond rfl (fun h => absurd h (by simp)) (fun hc7 => ?_)
  refine Z.skip ?_
  refine Z.nthen ?_
  refine Z.seq ?_
  refine Z.region ?_
  refine Z.lb 2 rfl ?_
  refine Z.l rfl rfl (by rfl) (Z.keepS hs) (Z.Yd.convI rfl ⟨_, Try.underlying98⟩ Try.underlying5 (fun hG => Z.wu8 (by first | omega | (have hG' := Z.gh rfl hG; simp at hG'; omega)))) ?_
  refine Z.l rfl rfl (by rfl) (Z.keepS hs) (Z.Yd.index (v := .int .u8 4) rfl rfl (by intro _ w; kernel_rfl)) ?_
  refine Z.l rfl rfl (by rfl) (Z.keepS hs) (Z.Yd.convI rfl ⟨_, Try.underlying5⟩ Try.underlying3 (fun hG => Z.wi64 (by first | omega | (have hG' := Z.gh rfl hG; simp at hG'; omega)))) ?_
  refine Z.l rfl rfl (by rfl) (Z.keepS hs) (Z.Yd.add rfl rfl (fun hG => Z.wi64 (by first | omega | (have hG' := Z.gh rfl hG; simp at hG'; omega)))) ?_
  refine Z.lb 1 rfl ?_
  refine Z.lnil ?_
  refine Z.only [2] rfl ?_
  refine Z.nthen ?_
  refine Z.ret ?_
  -- ret#0
  refine Z.out1 (by exact ⟨rfl, trivial⟩) ?_
  exact ⟨_, rfl, ⟨_, rfl⟩, hs⟩
theorem bl64_9 (w : World) : Calls Try.prog 67 #[.int .u64 9] w (SX.Ret fun v w' => (∃ z : Int, v = .int .i64 z) ∧ SX.St w [] w' []) := by
  have hs := SX.St.start w
  refine Z.enter Try.func67 rfl Try.ntmps67 rfl rfl ?_
  refine Z.seq ?_
  refine Z.region ?_
  refine Z.lb 1 rfl ?_
  refine Z.lnil ?_
  refine Z.only [0, 2] rfl ?_
  refine Z.nthen ?_
  refine Z.seq ?_
  refine Z.seq ?_
  refine Z.region ?_
  refine Z.lb 2 rfl ?_
  refine Z.lnil ?_
  refine Z.only [0, 2, 4] rfl ?_
  refine Z.nthen ?_
  refine Z.cond rfl (fun h => absurd h (by simp)) (fun hc1 => ?_)
  refine Z.skip ?_
  refine Z.nthen ?_
  refine Z.seq ?_
  refine Z.seq ?_
  refine Z.region ?_
  refine Z.lb 2 rfl ?_
  refine Z.lnil ?_
  refine Z.only [0, 2, 8] rfl ?_
  refine Z.nthen ?_
  refine Z.cond rfl (fun h => absurd h (by simp)) (fun hc4 => ?_)
  refine Z.skip ?_
  refine Z.nthen ?_
  refine Z.seq ?_
  refine Z.seq ?_
  refine Z.region ?_
  refine Z.lb 2 rfl ?_
  refine Z.lnil ?_
  refine Z.only [0, 2, 14] rfl ?_
  refine Z.nthen ?_
  refine Z.cond rfl (fun h => absurd h (by simp)) (fun hc7 => ?_)
  refine Z.skip ?_
  refine Z.nthen ?_
  refine Z.seq ?_
  refine Z.region ?_
  refine Z.lb 2 rfl ?_
  refine Z.l rfl rfl (by rfl) (Z.keepS hs) (Z.Yd.convI rfl ⟨_, Try.underlying98⟩ Try.underlying5 (fun hG => Z.wu8 (by first | omega | (have hG' := Z.gh rfl hG; simp at hG'; omega)))) ?_
  refine Z.l rfl rfl (by rfl) (Z.keepS hs) (Z.Yd.index (v := .int .u8 4) rfl rfl (by intro _ w; kernel_rfl)) ?_
  refine Z.l rfl rfl (by rfl) (Z.keepS hs) (Z.Yd.convI rfl ⟨_, Try.underlying5⟩ Try.underlying3 (fun hG => Z.wi64 (by first | omega | (have hG' := Z.gh rfl hG; simp at hG'; omega)))) ?_
  refine Z.l rfl rfl (by rfl) (Z.keepS hs) (Z.Yd.add rfl rfl (fun hG => Z.wi64 (by first | omega | (have hG' := Z.gh rfl hG; simp at hG'; omega)))) ?_
  refine Z.lb 1 rfl ?_
  refine Z.lnil ?_
  refine Z.only [2] rfl ?_
  refine Z.nthen ?_
  refine Z.ret ?_
  -- ret#0
  refine Z.out1 (by exact ⟨rfl, trivial⟩) ?_
  exact ⟨_, rfl, ⟨_, rfl⟩, hs⟩
theorem bl64_10 (w : World) : Calls Try.prog 67 #[.int .u64 10] w (SX.Ret fun v w' => (∃ z : Int, v = .int .i64 z) ∧ SX.St w [] w' []) := by
  have hs := SX.St.start w
  refine Z.enter Try.func67 rfl Try.ntmps67 rfl rfl ?_
  refine Z.seq ?_
  refine Z.region ?_
  refine Z.lb 1 rfl ?_
  refine Z.lnil ?_
  refine Z.only [0, 2] rfl ?_
  refine Z.nthen ?_
  refine Z.seq ?_
  refine Z.seq ?_
  refine Z.region ?_
  refine Z.lb 2 rfl ?_
  refine Z.lnil ?_
  refine Z.only [0, 2, 4] rfl ?_
  refine Z.nthen ?_
  refine Z.cond rfl (fun h => absurd h (by simp)) (fun hc1 => ?_)
  refine Z.skip ?_
  refine Z.nthen ?_
  refine Z.seq ?_
  refine Z.seq ?_
  refine Z.region ?_
  refine Z.lb 2 rfl ?_
  refine Z.lnil ?_
  refine Z.only [0, 2, 8] rfl ?_
  refine Z.nthen ?_
  refine Z.cond rfl (fun h => absurd h (by simp)) (fun hc4 => ?_)
  refine Z.skip ?_
  refine Z.nthen ?_
  refine Z.seq ?_
  refine Z.seq ?_
  refine Z.region ?_
  refine Z.lb 2 rfl ?_
  refine Z.lnil ?_
  refine Z.only [0, 2, 14] rfl ?_
  refine Z.nthen ?_
  refine Z.cond rfl (fun h => absurd h (by simp)) (fun hc7 => ?_)
  refine Z.skip ?_
  refine Z.nthen ?_
  refine Z.seq ?_
  refine Z.region ?_
  refine Z.lb 2 rfl ?_
  refine Z.l rfl rfl (by rfl) (Z.keepS hs) (Z.Yd.convI rfl ⟨_, Try.underlying98⟩ Try.underlying5 (fun hG => Z.wu8 (by first | omega | (have hG' := Z.gh rfl hG; simp at hG'; omega)))) ?_
  refine Z.l rfl rfl (by rfl) (Z.keepS hs) (Z.Yd.index (v := .int .u8 4) rfl rfl (by intro _ w; kernel_rfl)) ?_
  refine Z.l rfl rfl (by rfl) (Z.keepS hs) (Z.Yd.convI rfl ⟨_, Try.underlying5⟩ Try.underlying3 (fun hG => Z.wi64 (by first | omega | (have hG' := Z.gh rfl hG; simp at hG'; omega)))) ?_
  refine Z.l rfl rfl (by rfl) (Z.keepS hs) (Z.Yd.add rfl rfl (fun hG => Z.wi64 (by first | omega | (have hG' := Z.gh rfl hG; simp at hG'; omega)))) ?_
  refine Z.lb 1 rfl ?_
  refine Z.lnil ?_
  refine Z.only [2] rfl ?_
  refine Z.nthen ?_
  refine Z.ret ?_
  -- ret#0
  refine Z.out1 (by exact ⟨rfl, trivial⟩) ?_
  exact ⟨_, rfl, ⟨_, rfl⟩, hs⟩
theorem bl64 (n : Nat) (w : World) (h1 : 1 ≤ n) (h2 : n ≤ 10) : Calls Try.prog 67 #[.int .u64 (n : Int)] w (SX.Ret fun v w' => (∃ z : Int, v = .int .i64 z) ∧ SX.St w [] w' []) := by
  have h : n = 1 ∨ n = 2 ∨ n = 3 ∨ n = 4 ∨ n = 5 ∨ n = 6 ∨ n = 7 ∨ n = 8 ∨ n = 9 ∨ n = 10 := by omega
  rcases h with rfl | rfl | rfl | rfl | rfl | rfl | rfl | rfl | rfl | rfl
  · exact bl64_1 w
  · exact bl64_2 w
  · exact bl64_3 w
  · exact bl64_4 w
  · exact bl64_5 w
  · exact bl64_6 w
  · exact bl64_7 w
  · exact bl64_8 w
  · exact bl64_9 w
  · exact bl64_10 w
theorem bitslen (n : Nat) (w : World) (h1 : 1 ≤ n) (h2 : n ≤ 10) : Calls Try.prog 54 #[.int .u64 (n : Int)] w (SX.Ret fun v w' => (∃ z : Int, v = .int .i64 z) ∧ SX.St w [] w' []) := by
  have hs := SX.St.start w
  refine Z.enter Try.func54 rfl Try.ntmps54 rfl rfl ?_
  refine Z.seq ?_
  refine Z.region ?_
  refine Z.lb 1 rfl ?_
  refine Z.lnil ?_
  refine Z.only [0] rfl ?_
  refine Z.nthen ?_
  refine Z.seq ?_
  refine Z.cond rfl (fun h => absurd h (by simp)) (fun hc0 => ?_)
  refine Z.skip ?_
  refine Z.nthen ?_
  refine Z.seq ?_
  refine Z.region ?_
  refine Z.lb 1 rfl ?_
  refine Z.le rfl trivial ?_
  refine Z.ZO.call rfl rfl (by rfl) rfl rfl Try.call67 rfl (bl64 n _ h1 h2) ?_
  rintro v2_1 w2_1 ⟨⟨z, rfl⟩, hy⟩
  replace hs := hs.call hy
  clear hy
  try simp only [List.cons_append, List.nil_append, List.append_nil] at hs
  refine Z.lb 1 rfl ?_
  refine Z.lnil ?_
  refine Z.only [2] rfl ?_
  refine Z.nthen ?_
  refine Z.ret ?_
  -- ret#0
  refine Z.out1 (by exact ⟨rfl, trivial⟩) ?_
  exact ⟨_, rfl, ⟨_, rfl⟩, hs⟩
end Go.Proofs.Ythncbdoiilgnhaa

/- slices.Sort on at most ten integers; qam.Levels. -/
namespace Go.Proofs.Ythncbdoiilgnhaa
open Go.RowKit
set_option linter.unusedSimpArgs false
set_option linter.unusedVariables false
--newlaws

theorem pdqord (g n c T : Nat) (z : Int) (xs : List Int) (w : World) (hs : SX.St w (SX.idsOf [SX.Ent.row (.slice (some ⟨g, 0, none⟩) n c) T 1 n (ints .i64 xs)]) w [SX.Ent.row (.slice (some ⟨g, 0, none⟩) n c) T 1 n (ints .i64 xs)])
    (hl : xs.length = n) (hn : n ≤ 10) :
    Calls Try.prog 53 #[.slice (some ⟨g, 0, none⟩) n c, .int .i64 0, .int .i64 (n : Int), .int .i64 z] w (SX.Ret fun v w' => v = .tuple #[] ∧ ∃ ys, ys.Perm xs ∧ Srt (fun x => x) ys n n ∧ SX.St w (SX.idsOf [SX.Ent.row (.slice (some ⟨g, 0, none⟩) n c) T 1 n (ints .i64 xs)]) w' [SX.Ent.row (.slice (some ⟨g, 0, none⟩) n c) T 1 n (ints .i64 ys)]) := by
  have hI := insord g n c T xs w hs hl (by omega)
  generalize hM : SX.idsOf [SX.Ent.row (.slice (some ⟨g, 0, none⟩) n c) T 1 n (ints .i64 xs)] = M at *
  refine Z.enter Try.func53 rfl Try.ntmps53 rfl rfl ?_
  refine Z.seq ?_
  refine Z.region ?_
  refine Z.lb 1 rfl ?_
  refine Z.lnil ?_
  refine Z.only [0, 1, 2, 3, 8] rfl ?_
  refine Z.nthen ?_
  refine Z.seq ?_
  refine Z.region ?_
  refine Z.lb 1 rfl ?_
  refine Z.lnil ?_
  refine Z.only [0, 1, 2, 3, 8, 9] rfl ?_
  refine Z.nthen ?_
  refine Z.block ?_
  refine Z.loopk (ι := Unit) [0] rfl (fun _ => [(1, [], .int .i64 0), (2, [], .int .i64 (n : Int)), (3, [], .int .i64 z), (8, [], .bool true), (9, [], .bool true)]) (fun _ wr => wr = w ∧ SX.St w M wr [SX.Ent.row (.slice (some ⟨g, 0, none⟩) n c) T 1 n (ints .i64 xs)]) (fun _ => 0) () (by refine ⟨?_, ?_, ?_, ?_, ?_, trivial⟩ <;> (first | rfl | (refine Z.lookv rfl ?_; simp; done) | (refine Z.lookv rfl ?_; simp; omega))) ⟨rfl, hs⟩ ?_
  clear hs
  rintro _ w1 ⟨rfl, hs⟩
  refine Z.only [0, 1, 2, 3, 8, 9] rfl ?_
  refine Z.block ?_
  refine Z.seq ?_
  refine Z.region ?_
  refine Z.lb 2 rfl ?_
  refine Z.l rfl rfl (by rfl) (Z.keepS hs) (Z.Yd.sub rfl rfl (fun hG => Z.wi64 (by first | omega | (have hG' := Z.gh rfl hG; simp at hG'; omega)))) ?_
  refine Z.lb 1 rfl ?_
  refine Z.lnil ?_
  refine Z.only [0, 1, 2, 3, 8, 9, 10] rfl ?_
  refine Z.nthen ?_
  refine Z.seq ?_
  refine Z.seq ?_
  refine Z.region ?_
  refine Z.lb 2 rfl ?_
  refine Z.lnil ?_
  refine Z.only [0, 1, 2, 3, 8, 9, 10, 23] rfl ?_
  refine Z.nthen ?_
  refine Z.cond rfl (fun hc3 => ?_) (fun h => absurd h (by simp; omega))
  refine Z.seq ?_
  refine Z.region ?_
  refine Z.lb 3 rfl ?_
  refine Z.le rfl trivial ?_
  refine Z.ZO.call rfl rfl (by rfl) rfl rfl Try.call57 rfl (hI) ?_
  rintro v4_3 w4_3 ⟨rfl, ys, hp, hS, hz⟩
  refine Z.lnil ?_
  refine Z.only [] rfl ?_
  refine Z.nthen ?_
  refine Z.ret ?_
  repeat (first | refine Z.rthen ?_ | refine Z.rblock ?_ | refine Z.rscope ?_)
  -- ret#0
  refine Z.out0 trivial ?_
  exact ⟨_, rfl, rfl, ys, hp, hS, hz⟩
theorem sortord (g n c T : Nat) (xs : List Int) (w : World) (hs : SX.St w (SX.idsOf [SX.Ent.row (.slice (some ⟨g, 0, none⟩) n c) T 1 n (ints .i64 xs)]) w [SX.Ent.row (.slice (some ⟨g, 0, none⟩) n c) T 1 n (ints .i64 xs)])
    (hl : xs.length = n) (h1 : 1 ≤ n) (hn : n ≤ 10) :
    Calls Try.prog 40 #[.slice (some ⟨g, 0, none⟩) n c] w (SX.Ret fun v w' => v = .tuple #[] ∧ ∃ ys, ys.Perm xs ∧ Srt (fun x => x) ys n n ∧ SX.St w (SX.idsOf [SX.Ent.row (.slice (some ⟨g, 0, none⟩) n c) T 1 n (ints .i64 xs)]) w' [SX.Ent.row (.slice (some ⟨g, 0, none⟩) n c) T 1 n (ints .i64 ys)]) := by
  generalize hM : SX.idsOf [SX.Ent.row (.slice (some ⟨g, 0, none⟩) n c) T 1 n (ints .i64 xs)] = M at *
  refine Z.enter Try.func40 rfl Try.ntmps40 rfl rfl ?_
  refine Z.seq ?_
  refine Z.region ?_
  refine Z.lb 1 rfl ?_
  refine Z.l rfl rfl (by rfl) (Z.keepS hs) (Z.Yd.lenS rfl Try.underlying38) ?_
  refine Z.lb 1 rfl ?_
  refine Z.lnil ?_
  refine Z.only [0, 2] rfl ?_
  refine Z.nthen ?_
  refine Z.region ?_
  refine Z.lb 3 rfl ?_
  refine Z.l rfl rfl (by rfl) (Z.keepS hs) (Z.Yd.convI rfl ⟨_, Try.underlying3⟩ Try.underlying81 (fun hG => Z.wu64 (by first | omega | (have hG' := Z.gh rfl hG; simp at hG'; omega)))) ?_
  refine Z.le rfl trivial ?_
  refine Z.ZO.call rfl rfl (by rfl) rfl rfl Try.call54 rfl (bitslen n _ h1 hn) ?_
  rintro v1_4 w1_4 ⟨⟨z, rfl⟩, hy⟩
  replace hs := hs.call hy
  clear hy
  try simp only [List.cons_append, List.nil_append, List.append_nil] at hs
  refine Z.le rfl trivial ?_
  refine Z.ZO.call rfl rfl (by rfl) rfl rfl Try.call53 rfl (pdqord g n c T z xs _ (hs.lend (L2 := [])) hl hn) ?_
  rintro v1_5 w1_5 ⟨rfl, ys, hp, hS, hz⟩
  replace hs := hs.regain (L2 := []) hz
  refine Z.lnil ?_
  refine Z.only [] rfl ?_
  -- ret#0
  refine Z.out0n trivial ?_
  exact ⟨_, rfl, rfl, ys, hp, hS, hs⟩

/-- the levels of n bits -/
def lvls (n : Nat) : List Int := (List.range (2 ^ n)).map fun (i : Nat) => 2 * (i : Int) - ((2 ^ n : Nat) : Int) + 1
/-- the levels in the order of the groups -/
def glv (n : Nat) : List Int := (List.range (2 ^ n)).map fun v => lev (grp n v)
theorem lvls_len (n : Nat) : (lvls n).length = 2 ^ n := by simp [lvls]
theorem glv_len (n : Nat) : (glv n).length = 2 ^ n := by simp [glv]
theorem glv_perm (n : Nat) (h1 : 1 ≤ n) (h3 : n ≤ 3) : (glv n).Perm (lvls n) := by
  have h : n = 1 ∨ n = 2 ∨ n = 3 := by omega
  rcases h with rfl | rfl | rfl <;> decide
theorem lvls_srt (n : Nat) : (lvls n).Pairwise (· ≤ ·) := by
  unfold lvls
  rw [List.pairwise_map]
  exact List.pairwise_lt_range.imp (fun h => by omega)
theorem srt_pw {l : List Int} {n : Nat} (hl : l.length = n) (h : Srt (fun x => x) l n n) : l.Pairwise (· ≤ ·) := by
  rw [List.pairwise_iff_getElem]
  intro i j hi hj hij
  have := h i j hij (by omega) (by omega)
  rwa [elt_get hi, elt_get hj] at this
theorem sorted_lvls {n : Nat} {ys : List Int} (h1 : 1 ≤ n) (h3 : n ≤ 3) (hp : ys.Perm (glv n)) (hS : Srt (fun x => x) ys (2 ^ n) (2 ^ n)) : ys = lvls n :=
  List.Perm.eq_of_pairwise (le := (· ≤ ·)) (fun a b _ _ h h' => Int.le_antisymm h h') (srt_pw (by rw [hp.length_eq, glv_len]) hS) (lvls_srt n) (hp.trans (glv_perm n h1 h3))
end Go.Proofs.Ythncbdoiilgnhaa

/- The document's Soft and Softs. -/
namespace Go.Proofs.Ythncbdoiilgnhaa
open Go.RowKit
set_option linter.unusedSimpArgs false
set_option linter.unusedVariables false

def bst (n : Nat) (y : Int) (k : Nat) (b : Int) (j : Nat) : Int := lst 1152921504606846976 (sqs n y k b (List.range j))
theorem bst_succ (n : Nat) (y : Int) (k : Nat) (b : Int) (j : Nat) : bst n y k b (j + 1) = if (bitOf j k == b) = true then min (bst n y k b j) (sq n y j) else bst n y k b j := by
  unfold bst
  rw [List.range_succ, sqs_snoc]
  split
  · rw [lst_snoc]
  · rfl
theorem lev_grp (n : Nat) (hn : 1 ≤ n) (hn3 : n ≤ 3) (v : Nat) : lev (grp n v) = rlev n (bitOf v 0) (bitOf v 1) (bitOf v 2) := by
  have h : n = 1 ∨ n = 2 ∨ n = 3 := by omega
  rcases h with rfl | rfl | rfl <;> simp [grp, lev, rlev, List.range_succ]
theorem lev_lt (n g : Nat) (hn : 1 ≤ n) (hn3 : n ≤ 3) : -8 < lev (grp n g) ∧ lev (grp n g) < 8 := by
  have hd := lev_bd (grp n g) (grp_bits n g)
  rw [grp_length] at hd
  have : n = 1 ∨ n = 2 ∨ n = 3 := by omega
  rcases this with h | h | h <;> (rw [h] at hd ⊢; simp at hd; omega)
theorem sq_bd (n : Nat) (y : Int) (g : Nat) (hn : 1 ≤ n) (hn3 : n ≤ 3) (hy1 : -1048576 ≤ y) (hy2 : y ≤ 1048576) : 0 ≤ sq n y g ∧ sq n y g ≤ 1048704 * 1048704 := by
  have := lev_lt n g hn hn3
  exact ⟨mul_self_nonneg' _, mul_self_le' (by omega) (by omega)⟩
theorem bst_dst (n : Nat) (y : Int) (k : Nat) (b : Int) (hn : 1 ≤ n) (hn3 : n ≤ 3) (hk : k < n) (hb : b = 0 ∨ b = 1) (hy1 : -1048576 ≤ y) (hy2 : y ≤ 1048576) : bst n y k b (2 ^ n) = dst n y k b := by
  obtain ⟨x, r, h⟩ := sqs_some n y k b hn hn3 hk hb
  have hx : x ≤ 1152921504606846976 := by
    have hm : x ∈ sqs n y k b (List.range (2 ^ n)) := by rw [h]; simp
    simp only [sqs, List.mem_map] at hm
    obtain ⟨g, _, rfl⟩ := hm
    have := sq_bd n y g hn hn3 hy1 hy2
    omega
  unfold bst dst
  rw [h]
  simp only [lst, List.foldl_cons, List.headD_cons, List.tail_cons]
  rw [Int.min_eq_right hx]

theorem bst_bd (n : Nat) (y : Int) (k : Nat) (b : Int) (hn : 1 ≤ n) (hn3 : n ≤ 3) (hy1 : -1048576 ≤ y) (hy2 : y ≤ 1048576) : ∀ j, 0 ≤ bst n y k b j ∧ bst n y k b j ≤ 1152921504606846976
  | 0 => by simp [bst, sqs, lst]
  | j + 1 => by
    have h1 := bst_bd n y k b hn hn3 hy1 hy2 j
    have h2 := sq_bd n y j hn hn3 hy1 hy2
    rw [bst_succ]
    split <;> omega
def bstC (n : Nat) (y : Int) (k j : Nat) : Array Value := #[.int .i64 (bst n y k 0 j), .int .i64 (bst n y k 1 j)]
theorem bstC_get (n : Nat) (y : Int) (k j v : Nat) : Z.nth (bstC n y k j).toList (0 + (bitOf v k).toNat * 1) = some (.int .i64 (bst n y k (bitOf v k) j)) := by
  rcases bitOf_bd v k with h | h <;> rw [h] <;> rfl
@[simp] theorem bstC_size (n : Nat) (y : Int) (k j : Nat) : (bstC n y k j).size = 2 := rfl
theorem bstC_succ (n : Nat) (y : Int) (k j : Nat) : (bstC n y k j).setIfInBounds ((bitOf j k).toNat * 1) (.int .i64 (min (bst n y k (bitOf j k) j) ((y - 16 * lev (grp n j)) * (y - 16 * lev (grp n j))))) = bstC n y k (j + 1) := by
  show (bstC n y k j).setIfInBounds ((bitOf j k).toNat * 1) (.int .i64 (min (bst n y k (bitOf j k) j) (sq n y j))) = bstC n y k (j + 1)
  unfold bstC
  rw [bst_succ, bst_succ]
  rcases bitOf_bd j k with h | h <;> rw [h] <;> simp
theorem shr_bit (v k : Nat) (hk : k ≤ 3) : ((v : Int).fdiv (2 ^ (min (k : Int).toNat IntKind.i64.bits))).tmod 2 = bitOf v k := by
  have e : min (k : Int).toNat IntKind.i64.bits = k := by
    have : IntKind.i64.bits = 64 := rfl
    omega
  rw [e, Int.fdiv_eq_ediv_of_nonneg _ (Int.le_of_lt (Int.pow_pos (by decide)))]
  have e2 : ((v : Int) / 2 ^ k) = ((v / 2 ^ k : Nat) : Int) := by push_cast; rfl
  rw [e2, Z.tmodn (Int.natCast_nonneg _)]
  unfold bitOf
  omega

theorem tdiv64 {x : Int} (h1 : -1152921504606846976 ≤ x) (h2 : x ≤ 1152921504606846976) : IntKind.i64.wrap (x.tdiv 64) = x.tdiv 64 := by
  apply Z.wi64
  rcases Int.le_total 0 x with h | h
  · rw [Int.tdiv_eq_ediv_of_nonneg h]
    omega
  · have e : x.tdiv 64 = -((-x) / 64) := by
      rw [show x = -(-x) from by omega, Int.neg_tdiv, Int.neg_neg, Int.tdiv_eq_ediv_of_nonneg (by omega)]
    rw [e]
    omega
theorem half2 (n : Nat) (hn3 : n ≤ 3) : IntKind.i64.wrap (((2 * n : Nat) : Int).tdiv 2) = (n : Int) := by
  rw [Int.tdiv_eq_ediv_of_nonneg (by omega), show ((2 * n : Nat) : Int) / 2 = (n : Int) from by omega]
  exact Z.wi64 (by omega)
theorem shl_n (n : Nat) (hn : 1 ≤ n) (hn3 : n ≤ 3) : IntKind.i64.wrap (1 * 2 ^ (min (n : Int).toNat IntKind.i64.bits)) = ((2 ^ n : Nat) : Int) := by
  have h : n = 1 ∨ n = 2 ∨ n = 3 := by omega
  rcases h with rfl | rfl | rfl <;> decide

set_option maxRecDepth 100000 in
theorem rsoft_any (n k : Nat) (y : Int) (w : World) (hn : 1 ≤ n) (hn3 : n ≤ 3) (hk : k < n) (hy1 : -1048576 ≤ y) (hy2 : y ≤ 1048576) :
    Calls Try.prog 38 #[.int .i64 ((2 * n : Nat) : Int), .int .i64 y, .int .i64 (k : Int)] w (SX.Ret fun r w' => r = .int .i64 (sfv n y k) ∧ SX.St w [] w' []) := by
  have hs := SX.St.start w
  obtain ⟨N, hN⟩ : ∃ N, N = 2 ^ n := ⟨_, rfl⟩
  have hN8 : 2 ≤ N ∧ N ≤ 8 := by
    have h : n = 1 ∨ n = 2 ∨ n = 3 := by omega
    rcases h with rfl | rfl | rfl <;> rw [hN] <;> decide
  have hsh := shl_n n hn hn3
  rw [← hN] at hsh
  refine Z.enter Try.func38 rfl Try.ntmps38 rfl rfl ?_
  refine Z.seq ?_
  refine Z.region ?_
  refine Z.lb 1 rfl ?_
  refine Z.lnil ?_
  refine Z.only [0, 1, 2] rfl ?_
  refine Z.nthen ?_
  refine Z.seq ?_
  refine Z.region ?_
  refine Z.le rfl trivial ?_
  refine Z.ZO.alloc rfl rfl (by rfl) Try.zeroValue78 rfl hs ?_
  clear hs; intro g7 w7 hs
  refine Z.lnil ?_
  refine Z.only [0, 1, 2, 7] rfl ?_
  refine Z.nthen ?_
  refine Z.seq ?_
  refine Z.region ?_
  refine Z.l rfl rfl (by rfl) (Z.keepS hs) (Z.Yd.elemA rfl rfl Try.underlying78 Try.sizeOf3 (fun hG => ⟨(by first | omega | (have hG' := Z.gh rfl hG; simp at hG'; omega)), (by first | omega | (have hG' := Z.gh rfl hG; simp at hG'; omega))⟩)) ?_
  refine Z.le rfl trivial ?_
  first | refine Z.ZO.store rfl rfl hs Try.sizeOf3 rfl rfl rfl (by first | exact SX.at0 | exact SX.at1 | exact SX.at2 | exact SX.at3 | exact SX.at4 | exact SX.at5 | exact Z.at6 | exact Z.at7 | exact Z.at8 | exact Z.at9 | exact Z.at10 | exact Z.at11 | exact Z.at12) (by first | (simp; done) | (simp; omega)) ?_ | refine Z.ZO.storeR rfl rfl hs Try.sizeOf3 rfl rfl rfl (by first | exact SX.at0 | exact SX.at1 | exact SX.at2 | exact SX.at3 | exact SX.at4 | exact SX.at5 | exact Z.at6 | exact Z.at7 | exact Z.at8 | exact Z.at9 | exact Z.at10 | exact Z.at11 | exact Z.at12) (by first | omega | (simp [ints_length]; done) | (simp [ints_length]; omega)) ?_
  clear hs; intro ws hs
  simp only [Nat.zero_add, Nat.add_zero, Nat.reduceAdd, Int.reduceToNat, Nat.reduceMul, List.set_cons_zero, List.set_cons_succ, List.setIfInBounds_toArray] at hs
  refine Z.l rfl rfl (by rfl) (Z.keepS hs) (Z.Yd.elemA rfl rfl Try.underlying78 Try.sizeOf3 (fun hG => ⟨(by first | omega | (have hG' := Z.gh rfl hG; simp at hG'; omega)), (by first | omega | (have hG' := Z.gh rfl hG; simp at hG'; omega))⟩)) ?_
  refine Z.le rfl trivial ?_
  first | refine Z.ZO.store rfl rfl hs Try.sizeOf3 rfl rfl rfl (by first | exact SX.at0 | exact SX.at1 | exact SX.at2 | exact SX.at3 | exact SX.at4 | exact SX.at5 | exact Z.at6 | exact Z.at7 | exact Z.at8 | exact Z.at9 | exact Z.at10 | exact Z.at11 | exact Z.at12) (by first | (simp; done) | (simp; omega)) ?_ | refine Z.ZO.storeR rfl rfl hs Try.sizeOf3 rfl rfl rfl (by first | exact SX.at0 | exact SX.at1 | exact SX.at2 | exact SX.at3 | exact SX.at4 | exact SX.at5 | exact Z.at6 | exact Z.at7 | exact Z.at8 | exact Z.at9 | exact Z.at10 | exact Z.at11 | exact Z.at12) (by first | omega | (simp [ints_length]; done) | (simp [ints_length]; omega)) ?_
  clear hs; intro ws hs
  simp only [Nat.zero_add, Nat.add_zero, Nat.reduceAdd, Int.reduceToNat, Nat.reduceMul, List.set_cons_zero, List.set_cons_succ, List.setIfInBounds_toArray] at hs
  refine Z.lnil ?_
  refine Z.only [0, 1, 2, 7] rfl ?_
  refine Z.nthen ?_
  refine Z.seq ?_
  refine Z.seq ?_
  refine Z.region ?_
  refine Z.lb 1 rfl ?_
  refine Z.lnil ?_
  refine Z.only [0, 1, 2, 7, 8] rfl ?_
  refine Z.nthen ?_
  refine Z.block ?_
  refine Z.loopk (ι := Nat) [0, 1, 2, 7] rfl (fun j => [(8, [], .int .i64 (j : Int))]) (fun j wr => j ≤ N ∧ SX.St w [] wr [SX.Ent.blk g7 78 (bstC n y k j)]) (fun j => N - j) 0 (by refine ⟨?_, trivial⟩ <;> (first | rfl | (refine Z.lookv rfl ?_; simp; done) | (refine Z.lookv rfl ?_; simp; omega))) ⟨by omega, hs⟩ ?_
  clear hs
  rintro j w1 ⟨hj, hs⟩
  refine Z.only [0, 1, 2, 7, 8] rfl ?_
  refine Z.seq ?_
  refine Z.seq ?_
  refine Z.region ?_
  refine Z.lb 2 rfl ?_
  refine Z.l rfl rfl (by rfl) (Z.keepS hs) (Z.Yd.quo rfl rfl (by intro hG; first | decide | omega) (fun _ => half2 n hn3)) ?_
  refine Z.l rfl rfl (by rfl) (Z.keepS hs) (Z.Yd.shl rfl rfl (by intro hG; first | decide | omega) (fun _ => hsh)) ?_
  refine Z.lb 1 rfl ?_
  refine Z.lnil ?_
  refine Z.only [0, 1, 2, 7, 8, 17] rfl ?_
  refine Z.nthen ?_
  refine Z.cond rfl (fun hc4 => ?_) (fun hc4 => ?_)
  · first
      | (exfalso; simp at hc4 <;> omega)
      | (
        (try simp at hc4)
        have hlv : rlev n ((j : Int) % 2) ((j : Int) / 2 % 2) ((j : Int) / 4 % 2) = lev (grp n j) := by
          rw [lev_grp n hn hn3]
          unfold bitOf
          congr 1 <;> omega
        have hll := lev_lt n j hn hn3
        have hq := sq_bd n y j hn hn3 hy1 hy2
        refine Z.skip ?_
        refine Z.nthen ?_
        refine Z.seq ?_
        refine Z.block ?_
        refine Z.seq ?_
        refine Z.region ?_
        refine Z.lb 3 rfl ?_
        refine Z.l rfl rfl (by rfl) (Z.keepS hs) (Z.Yd.rem rfl rfl (by intro hG; first | decide | omega) (by intro hG; first | exact Z.tmodn (by omega) | exact rfl)) ?_
        refine Z.lb 1 rfl ?_
        refine Z.l rfl rfl (by rfl) (Z.keepS hs) (Z.Yd.quo rfl rfl (by intro hG; first | decide | omega) (by intro hG; first | exact Z.qi64 ⟨by omega, by omega⟩ (by omega) | exact rfl)) ?_
        refine Z.l rfl rfl (by rfl) (Z.keepS hs) (Z.Yd.rem rfl rfl (by intro hG; first | decide | omega) (by intro hG; first | exact Z.tmodn (by omega) | exact rfl)) ?_
        refine Z.lb 1 rfl ?_
        refine Z.l rfl rfl (by rfl) (Z.keepS hs) (Z.Yd.quo rfl rfl (by intro hG; first | decide | omega) (by intro hG; first | exact Z.qi64 ⟨by omega, by omega⟩ (by omega) | exact rfl)) ?_
        refine Z.l rfl rfl (by rfl) (Z.keepS hs) (Z.Yd.rem rfl rfl (by intro hG; first | decide | omega) (by intro hG; first | exact Z.tmodn (by omega) | exact rfl)) ?_
        refine Z.le rfl trivial ?_
        refine Z.ZO.call rfl rfl (by rfl) rfl rfl Try.call31 rfl (rlevel_any n _ _ _ _ hn hn3 (by omega) (by omega) (by omega)) ?_
        rintro v6_10 w6_10 ⟨rfl, hy⟩
        replace hs := hs.call hy
        clear hy
        try simp only [List.cons_append, List.nil_append, List.append_nil] at hs
        rw [hlv]
        refine Z.l rfl rfl (by rfl) (Z.keepS hs) (Z.Yd.mul rfl rfl (fun hG => Z.wi64 (by first | omega | (have hG' := Z.gh rfl hG; simp at hG'; omega)))) ?_
        refine Z.l rfl rfl (by rfl) (Z.keepS hs) (Z.Yd.sub rfl rfl (fun hG => Z.wi64 (by first | omega | (have hG' := Z.gh rfl hG; simp at hG'; omega)))) ?_
        refine Z.lb 1 rfl ?_
        refine Z.lnil ?_
        refine Z.only [0, 1, 2, 7, 8, 9] rfl ?_
        refine Z.nthen ?_
        refine Z.seq ?_
        refine Z.region ?_
        refine Z.lb 2 rfl ?_
        refine Z.l rfl rfl (by rfl) (Z.keepS hs) (Z.Yd.shr rfl rfl (by intro hG; first | decide | omega) (fun _ => rfl)) ?_
        refine Z.l rfl rfl (by rfl) (Z.keepS hs) (Z.Yd.rem rfl rfl (by intro hG; first | decide | omega) (fun _ => shr_bit j k (by omega))) ?_
        refine Z.lb 1 rfl ?_
        refine Z.lnil ?_
        refine Z.only [0, 1, 2, 7, 8, 9, 10] rfl ?_
        refine Z.nthen ?_
        refine Z.region ?_
        refine Z.lb 2 rfl ?_
        have hbk := bitOf_bd j k
        refine Z.l rfl rfl (by rfl) (Z.keepS hs) (Z.Yd.elemA rfl rfl Try.underlying78 Try.sizeOf3 (fun hG => ⟨(by first | omega | (have hG' := Z.gh rfl hG; simp at hG'; omega)), (by first | omega | (have hG' := Z.gh rfl hG; simp at hG'; omega))⟩)) ?_
        refine Z.l rfl rfl (by rfl) (Z.keepS hs) (Z.Yd.load rfl Try.isAgg3 (fun _ => Z.cellB (by first | ((repeat (first | exact List.mem_cons_self | refine List.mem_cons_of_mem _ ?_ | refine List.mem_append_right _ ?_)); done) | fail) (bstC_get n y k j j))) ?_
        refine Z.lb 2 rfl ?_
        refine Z.l rfl rfl (by rfl) (Z.keepS hs) (Z.Yd.mul rfl rfl (fun _ => Z.wi64 (by unfold sq at hq; omega))) ?_
        refine Z.l rfl rfl (by rfl) (Z.keepS hs) (Z.Yd.min rfl rfl) ?_
        refine Z.l rfl rfl (by rfl) (Z.keepS hs) (Z.Yd.elemA rfl rfl Try.underlying78 Try.sizeOf3 (fun hG => ⟨(by first | omega | (have hG' := Z.gh rfl hG; simp at hG'; omega)), (by first | omega | (have hG' := Z.gh rfl hG; simp at hG'; omega))⟩)) ?_
        refine Z.le rfl trivial ?_
        first | refine Z.ZO.store rfl rfl hs Try.sizeOf3 rfl rfl rfl (by first | exact SX.at0 | exact SX.at1 | exact SX.at2 | exact SX.at3 | exact SX.at4 | exact SX.at5 | exact Z.at6 | exact Z.at7 | exact Z.at8 | exact Z.at9 | exact Z.at10 | exact Z.at11 | exact Z.at12) (by first | (simp; done) | (simp; omega)) ?_ | refine Z.ZO.storeR rfl rfl hs Try.sizeOf3 rfl rfl rfl (by first | exact SX.at0 | exact SX.at1 | exact SX.at2 | exact SX.at3 | exact SX.at4 | exact SX.at5 | exact Z.at6 | exact Z.at7 | exact Z.at8 | exact Z.at9 | exact Z.at10 | exact Z.at11 | exact Z.at12) (by first | omega | (simp [ints_length]; done) | (simp [ints_length]; omega)) ?_
        clear hs; intro ws hs
        simp only [Nat.zero_add, Nat.add_zero, Nat.reduceAdd, Int.reduceToNat, Nat.reduceMul, List.set_cons_zero, List.set_cons_succ, List.setIfInBounds_toArray] at hs
        refine Z.lnil ?_
        refine Z.only [0, 1, 2, 7, 8] rfl ?_
        refine Z.nblock ?_
        refine Z.nthen ?_
        refine Z.region ?_
        refine Z.lb 1 rfl ?_
        refine Z.l rfl rfl (by rfl) (Z.keepS hs) (Z.Yd.add rfl rfl (fun hG => Z.wi64 (by first | omega | (have hG' := Z.gh rfl hG; simp at hG'; omega)))) ?_
        refine Z.lb 1 rfl ?_
        refine Z.lnil ?_
        refine Z.only [0, 1, 2, 7, 8] rfl ?_
        refine Z.nthen ?_
        rw [bstC_succ] at hs
        exact Z.again (j + 1) (by refine ⟨?_, ?_, ?_, ?_, ?_, trivial⟩ <;> (first | rfl | (refine Z.lookv rfl ?_; simp; done) | (refine Z.lookv rfl ?_; simp; omega))) ⟨by omega, hs⟩ (by omega)
        )
  · first
      | (exfalso; simp at hc4 <;> omega)
      | (
        (try simp at hc4)
        refine Z.exit ?_
        refine Z.xthen ?_
        refine Z.xthen ?_
        refine Z.xblock ?_
        refine Z.nthen ?_
        refine Z.seq ?_
        refine Z.region ?_
        refine Z.l rfl rfl (by rfl) (Z.keepS hs) (Z.Yd.elemA rfl rfl Try.underlying78 Try.sizeOf3 (fun hG => ⟨(by first | omega | (have hG' := Z.gh rfl hG; simp at hG'; omega)), (by first | omega | (have hG' := Z.gh rfl hG; simp at hG'; omega))⟩)) ?_
        refine Z.l rfl rfl (by rfl) (Z.keepS hs) (Z.Yd.load rfl Try.isAgg3 (fun _ => Z.cellB (by first | ((repeat (first | exact List.mem_cons_self | refine List.mem_cons_of_mem _ ?_ | refine List.mem_append_right _ ?_)); done) | fail) rfl)) ?_
        refine Z.l rfl rfl (by rfl) (Z.keepS hs) (Z.Yd.elemA rfl rfl Try.underlying78 Try.sizeOf3 (fun hG => ⟨(by first | omega | (have hG' := Z.gh rfl hG; simp at hG'; omega)), (by first | omega | (have hG' := Z.gh rfl hG; simp at hG'; omega))⟩)) ?_
        refine Z.l rfl rfl (by rfl) (Z.keepS hs) (Z.Yd.load rfl Try.isAgg3 (fun _ => Z.cellB (by first | ((repeat (first | exact List.mem_cons_self | refine List.mem_cons_of_mem _ ?_ | refine List.mem_append_right _ ?_)); done) | fail) rfl)) ?_
        have hb0 := bst_bd n y k 0 hn hn3 hy1 hy2 j
        have hb1 := bst_bd n y k 1 hn hn3 hy1 hy2 j
        refine Z.l rfl rfl (by rfl) (Z.keepS hs) (Z.Yd.sub rfl rfl (fun hG => Z.wi64 (by first | omega | (have hG' := Z.gh rfl hG; simp at hG'; omega)))) ?_
        refine Z.l rfl rfl (by rfl) (Z.keepS hs) (Z.Yd.quo rfl rfl (by intro hG; first | decide | omega) (fun _ => tdiv64 (by omega) (by omega))) ?_
        refine Z.l rfl rfl (by rfl) (Z.keepS hs) (Z.Yd.min rfl rfl) ?_
        refine Z.l rfl rfl (by rfl) (Z.keepS hs) (Z.Yd.max rfl rfl) ?_
        refine Z.lb 1 rfl ?_
        refine Z.lnil ?_
        refine Z.only [6] rfl ?_
        refine Z.nthen ?_
        refine Z.ret ?_
        -- ret#0
        refine Z.out1 (by exact ⟨rfl, trivial⟩) ?_
        obtain rfl : j = N := by omega
        have e0 := bst_dst n y k 0 hn hn3 hk (.inl rfl) hy1 hy2
        have e1 := bst_dst n y k 1 hn hn3 hk (.inr rfl) hy1 hy2
        rw [← hN] at e0 e1
        rw [e0, e1]
        exact ⟨_, rfl, rfl, hs.sub (List.nil_sublist _)⟩
        )

set_option maxRecDepth 100000 in
theorem rsofts_any (n : Nat) (p : Int × Int) (w : World) (hn : 1 ≤ n) (hn3 : n ≤ 3) (hp : ins p = true) :
    Calls Try.prog 19 #[.int .i64 ((2 * n : Nat) : Int), .agg #[.int .i64 p.1, .int .i64 p.2]] w (SX.Ret fun r w' => SX.St w [] w' [SX.Ent.row r 3 1 (2 * n) (ints .i64 (ilv n p n))]) := by
  have hs := SX.St.start w
  obtain ⟨h1, h2, h3, h4⟩ := ins_bd hp
  refine Z.enter Try.func19 rfl Try.ntmps19 rfl rfl ?_
  refine Z.seq ?_
  refine Z.region ?_
  refine Z.le rfl trivial ?_
  refine Z.ZO.box rfl rfl (by rfl) rfl rfl hs ?_
  clear hs; intro g3 w3 hs
  refine Z.lb 1 rfl ?_
  refine Z.lnil ?_
  refine Z.only [0, 3] rfl ?_
  refine Z.nthen ?_
  refine Z.seq ?_
  refine Z.region ?_
  refine Z.lb 1 rfl ?_
  refine Z.lnil ?_
  refine Z.only [0, 3, 5] rfl ?_
  refine Z.nthen ?_
  refine Z.seq ?_
  refine Z.seq ?_
  refine Z.region ?_
  refine Z.lb 1 rfl ?_
  refine Z.lnil ?_
  refine Z.only [0, 3, 5, 6] rfl ?_
  refine Z.nthen ?_
  refine Z.block ?_
  refine Z.loopk (ι := Nat × Value) [0, 3] rfl (fun k => [(5, [], k.2), (6, [], .int .i64 (k.1 : Int))]) (fun k wr => k.1 ≤ n ∧ SX.St w [] wr [SX.Ent.row k.2 3 1 (2 * k.1) (ints .i64 (ilv n p k.1)), SX.Ent.blk g3 32 #[.int .i64 p.1, .int .i64 p.2]]) (fun k => n - k.1) (0, .slice none 0 0) (by refine ⟨?_, ?_, trivial⟩ <;> (first | rfl | (refine Z.lookv rfl ?_; simp; done) | (refine Z.lookv rfl ?_; simp; omega))) ⟨by omega, hs.nil _ _⟩ ?_
  clear hs
  rintro ⟨k, sv⟩ w1 ⟨hkn, hs⟩
  refine Z.only [0, 3, 5, 6] rfl ?_
  (try dsimp only at hs)
  dsimp only at hkn
  refine Z.seq ?_
  refine Z.seq ?_
  refine Z.region ?_
  refine Z.lb 2 rfl ?_
  refine Z.l rfl rfl (by rfl) (Z.keepS hs) (Z.Yd.quo rfl rfl (by intro hG; first | decide | omega) (fun _ => half2 n hn3)) ?_
  refine Z.lb 1 rfl ?_
  refine Z.lnil ?_
  refine Z.only [0, 3, 5, 6, 10] rfl ?_
  refine Z.nthen ?_
  refine Z.cond rfl (fun hc3 => ?_) (fun hc3 => ?_)
  · first
      | (exfalso; simp at hc3 <;> omega)
      | (
        (try simp at hc3)
        refine Z.skip ?_
        refine Z.nthen ?_
        refine Z.seq ?_
        refine Z.block ?_
        refine Z.drawL [SX.Ent.blk g3 32 #[.int .i64 p.1, .int .i64 p.2]] (fun _ => true) mixed hs ?_
        clear hs; intro wd5 hs
        refine Z.tb [0, 1] (by kernel_rfl) rfl ⟨_, hs, by first | (simp; done) | exact fun e he => List.mem_append_right _ he⟩ rfl ?_
        refine Z.t 2 rfl rfl rfl (by rfl) (by kernel_rfl) ⟨_, hs, by first | (simp; done) | exact fun e he => List.mem_append_right _ he⟩ (Z.Yd.fieldA (m := 0) rfl (by kernel_rfl)) ?_
        refine Z.t 3 rfl rfl rfl (by rfl) (by kernel_rfl) ⟨_, hs, by first | (simp; done) | exact fun e he => List.mem_append_right _ he⟩ (by first | exact Z.Yd.load rfl Try.isAgg3 (fun _ => Z.cellB (by first | ((repeat (first | exact List.mem_cons_self | refine List.mem_cons_of_mem _ ?_ | refine List.mem_append_right _ ?_)); done) | fail) rfl) | exact Z.Yd.load rfl Try.isAgg3 (fun _ => Z.cellO (by assumption) (by simp) (by assumption)) | fail "load 5.3") ?_
        refine Z.tb [4, 6] (by kernel_rfl) rfl ⟨_, hs, by first | (simp; done) | exact fun e he => List.mem_append_right _ he⟩ rfl ?_
        refine Z.t 7 rfl rfl rfl (by rfl) (by kernel_rfl) ⟨_, hs, by first | (simp; done) | exact fun e he => List.mem_append_right _ he⟩ (Z.Yd.fieldA (m := 1) rfl (by kernel_rfl)) ?_
        refine Z.t 8 rfl rfl rfl (by rfl) (by kernel_rfl) ⟨_, hs, by first | (simp; done) | exact fun e he => List.mem_append_right _ he⟩ (by first | exact Z.Yd.load rfl Try.isAgg3 (fun _ => Z.cellB (by first | ((repeat (first | exact List.mem_cons_self | refine List.mem_cons_of_mem _ ?_ | refine List.mem_append_right _ ?_)); done) | fail) rfl) | exact Z.Yd.load rfl Try.isAgg3 (fun _ => Z.cellO (by assumption) (by simp) (by assumption)) | fail "load 5.8") ?_
        refine Z.tb [9] (by kernel_rfl) rfl ⟨_, hs, by first | (simp; done) | exact fun e he => List.mem_append_right _ he⟩ rfl ?_
        refine Z.tn 5 rfl rfl (by kernel_rfl) rfl trivial ?_
        refine Z.ZO.call rfl rfl (by rfl) rfl rfl Try.call38 rfl (rsoft_any n k p.1 _ hn hn3 (by omega) h1 h2) ?_
        rintro v5_5 w5_5 ⟨rfl, hy⟩
        replace hs := hs.call hy
        clear hy
        try simp only [List.cons_append, List.nil_append, List.append_nil] at hs
        refine Z.tk (Dn := fun _ => true) (i := 5) (fun _ => ⟨_, hs, by first | (simp; done) | exact fun e he => List.mem_append_right _ he⟩) ?_
        refine Z.tn 10 rfl rfl (by kernel_rfl) rfl trivial ?_
        refine Z.ZO.call rfl rfl (by rfl) rfl rfl Try.call38 rfl (rsoft_any n k p.2 _ hn hn3 (by omega) h3 h4) ?_
        rintro v5_10 w5_10 ⟨rfl, hy⟩
        replace hs := hs.call hy
        clear hy
        try simp only [List.cons_append, List.nil_append, List.append_nil] at hs
        refine Z.tk (Dn := fun _ => true) (i := 10) (fun _ => ⟨_, hs, by first | (simp; done) | exact fun e he => List.mem_append_right _ he⟩) ?_
        refine Z.tn 11 rfl rfl (by kernel_rfl) rfl trivial ?_
        refine Z.ZO.lit rfl rfl (by rfl) rfl (by intro W; go_simp; exact rfl) hs ?_
        clear hs; intro g24 w24 hs
        refine Z.tk (Dn := fun _ => true) (i := 11) (fun _ => ⟨_, hs, by first | (simp; done) | exact fun e he => List.mem_append_right _ he⟩) ?_
        refine Z.tn 12 rfl rfl (by kernel_rfl) rfl trivial ?_
        refine Z.ZO.append (i0 := Try.t3) (size := 1) (bytes := 8) rfl rfl (by rfl) hs Try.underlying38 (by kernel_rfl) rfl rfl rfl rfl (by decide) rfl rfl (by first | exact SX.at0 | exact SX.at1 | exact SX.at2 | exact SX.at3 | exact SX.at4 | exact SX.at5 | exact Z.at6 | exact Z.at7 | exact Z.at8 | exact Z.at9 | exact Z.at10 | exact Z.at11 | exact Z.at12) (by first | exact SX.at0 | exact SX.at1 | exact SX.at2 | exact SX.at3 | exact SX.at4 | exact SX.at5 | exact Z.at6 | exact Z.at7 | exact Z.at8 | exact Z.at9 | exact Z.at10 | exact Z.at11 | exact Z.at12) (by first | rfl | simp) (by simp [Value.oneCell']) (by decide) (by unfold maxLen; omega) (by omega) ?_
        clear hs; intro g25 cap25 w25 hs
        simp only [List.set_cons_zero, List.set_cons_succ, List.eraseIdx_cons_zero, List.eraseIdx_cons_succ] at hs
        refine Z.tk (Dn := fun _ => true) (i := 12) (fun _ => ⟨_, hs, by first | (simp; done) | exact fun e he => List.mem_append_right _ he⟩) ?_
        refine Z.tb [13] (by kernel_rfl) rfl ⟨_, hs, by first | (simp; done) | exact fun e he => List.mem_append_right _ he⟩ rfl ?_
        refine Z.td (by rfl) (by kernel_rfl) ?_
        refine Z.only [0, 3, 5, 6] rfl ?_
        refine Z.nblock ?_
        refine Z.nthen ?_
        refine Z.region ?_
        refine Z.lb 1 rfl ?_
        refine Z.l rfl rfl (by rfl) (Z.keepS hs) (Z.Yd.add rfl rfl (fun hG => Z.wi64 (by first | omega | (have hG' := Z.gh rfl hG; simp at hG'; omega)))) ?_
        refine Z.lb 1 rfl ?_
        refine Z.lnil ?_
        refine Z.only [0, 3, 5, 6] rfl ?_
        refine Z.nthen ?_
        have e : ints .i64 (ilv n p k) ++ [.int .i64 (sfv n p.1 k), .int .i64 (sfv n p.2 k)] = ints .i64 (ilv n p (k + 1)) := by rw [ilv_succ]; simp [ints]
        rw [e] at hs
        exact Z.again (k + 1, _) (by refine ⟨?_, ?_, ?_, ?_, trivial⟩ <;> (first | rfl | (refine Z.lookv rfl ?_; simp; done) | (refine Z.lookv rfl ?_; simp; omega))) ⟨by simp only; omega, hs⟩ (by simp only; omega)
        )
  · first
      | (exfalso; simp at hc3 <;> omega)
      | (
        (try simp at hc3)
        refine Z.exit ?_
        refine Z.xthen ?_
        refine Z.xthen ?_
        refine Z.xblock ?_
        refine Z.nthen ?_
        refine Z.seq ?_
        refine Z.region ?_
        refine Z.lb 2 rfl ?_
        refine Z.lnil ?_
        refine Z.only [4] rfl ?_
        refine Z.nthen ?_
        refine Z.ret ?_
        -- ret#0
        refine Z.out1 (by exact ⟨rfl, trivial⟩) ?_
        obtain rfl : k = n := by omega
        exact ⟨_, rfl, hs.sub (List.cons_sublist_cons.2 (List.nil_sublist _))⟩
        )
end Go.Proofs.Ythncbdoiilgnhaa

/- qam.Levels; the law QamLevels. -/
namespace Go.Proofs.Ythncbdoiilgnhaa
open Go.RowKit
set_option linter.unusedSimpArgs false
set_option linter.unusedVariables false
--newlaws

theorem levels_bad (m : Int) (w : World) (hb : vm m = false) : Calls Try.prog 22 #[.int .i64 m] w (SX.Ret fun v w' => v = .slice none 0 0 ∧ SX.St w [] w' []) := by
  have hs := SX.St.start w
  refine Z.enterM Try.func22 rfl Try.ntmps22 rfl rfl ?_
  refine Z.seq ?_
  refine Z.region ?_
  refine Z.le rfl trivial ?_
  refine Z.ZO.alloc rfl rfl (by rfl) Try.zeroValue38 rfl hs ?_
  clear hs; intro g2 w2 hs
  refine Z.lnil ?_
  refine Z.only [0, 2] rfl ?_
  refine Z.nthen ?_
  refine Z.seq ?_
  refine Z.seq ?_
  refine Z.region ?_
  refine Z.lb 1 rfl ?_
  refine Z.le rfl trivial ?_
  refine Z.ZO.call rfl rfl (by rfl) rfl rfl Try.call25 rfl (valid_any m _) ?_
  rintro v1_1 w1_1 ⟨rfl, hy⟩
  replace hs := hs.call hy
  clear hy
  try simp only [List.cons_append, List.nil_append, List.append_nil] at hs
  refine Z.lb 1 rfl ?_
  refine Z.lnil ?_
  refine Z.only [0, 2, 6] rfl ?_
  refine Z.nthen ?_
  refine Z.cond rfl (fun hc1 => ?_) (fun h => absurd h (by simp [hb]))
  refine Z.seq ?_
  refine Z.region ?_
  refine Z.le rfl trivial ?_
  first | refine Z.ZO.store rfl rfl hs Try.sizeOf38 rfl rfl rfl (by first | exact SX.at0 | exact SX.at1 | exact SX.at2 | exact SX.at3 | exact SX.at4 | exact SX.at5 | exact Z.at6 | exact Z.at7 | exact Z.at8 | exact Z.at9 | exact Z.at10 | exact Z.at11 | exact Z.at12) (by first | (simp; done) | (simp; omega)) ?_ | refine Z.ZO.storeR rfl rfl hs Try.sizeOf38 rfl rfl rfl (by first | exact SX.at0 | exact SX.at1 | exact SX.at2 | exact SX.at3 | exact SX.at4 | exact SX.at5 | exact Z.at6 | exact Z.at7 | exact Z.at8 | exact Z.at9 | exact Z.at10 | exact Z.at11 | exact Z.at12) (by first | omega | (simp [ints_length]; done) | (simp [ints_length]; omega)) ?_
  clear hs; intro ws hs
  simp only [Nat.zero_add, Nat.add_zero, Nat.reduceAdd, Int.reduceToNat, Nat.reduceMul, List.set_cons_zero, List.set_cons_succ, List.setIfInBounds_toArray] at hs
  refine Z.lnil ?_
  refine Z.only [2] rfl ?_
  refine Z.nthen ?_
  refine Z.ret ?_
  repeat (first | refine Z.rthen ?_ | refine Z.rblock ?_ | refine Z.rscope ?_)
  -- ret#0
  refine Z.outM0 (vs := [_]) (by exact ⟨⟨_, rfl, Z.rvc hs Try.isAgg38 (by first | ((repeat (first | exact List.mem_cons_self | refine List.mem_cons_of_mem _ ?_ | refine List.mem_append_right _ ?_)); done) | fail) rfl⟩, trivial⟩) ?_
  exact ⟨_, rfl, rfl, hs.sub (List.nil_sublist _)⟩
set_option maxHeartbeats 1000000 in
set_option maxRecDepth 100000 in
theorem levels_ok (n : Nat) (w : World) (h1 : 1 ≤ n) (h3 : n ≤ 3) : Calls Try.prog 22 #[.int .i64 ((2 * n : Nat) : Int)] w (SX.Ret fun v w' => SX.St w [] w' [SX.Ent.row v 3 1 (2 ^ n) (ints .i64 (lvls n))]) := by
  have hs := SX.St.start w
  have hv : vm ((2 * n : Nat) : Int) = true := by
    have h : n = 1 ∨ n = 2 ∨ n = 3 := by omega
    rcases h with rfl | rfl | rfl <;> rfl
  obtain ⟨N, hN⟩ : ∃ N : Nat, N = 2 ^ n := ⟨_, rfl⟩
  have hN8 : 2 ≤ N ∧ N ≤ 8 := by
    have h : n = 1 ∨ n = 2 ∨ n = 3 := by omega
    rcases h with rfl | rfl | rfl <;> simp [hN]
  obtain ⟨m, hm⟩ : ∃ m : Int, m = ((2 * n : Nat) : Int) := ⟨_, rfl⟩
  rw [← hm] at hv ⊢
  have h2 : m / 2 = (n : Int) := by omega
  have hgl := glv_len n
  refine Z.enterM Try.func22 rfl Try.ntmps22 rfl rfl ?_
  refine Z.seq ?_
  refine Z.region ?_
  refine Z.le rfl trivial ?_
  refine Z.ZO.alloc rfl rfl (by rfl) Try.zeroValue38 rfl hs ?_
  clear hs; intro g2 w2 hs
  refine Z.lnil ?_
  refine Z.only [0, 2] rfl ?_
  refine Z.nthen ?_
  refine Z.seq ?_
  refine Z.seq ?_
  refine Z.region ?_
  refine Z.lb 1 rfl ?_
  refine Z.le rfl trivial ?_
  refine Z.ZO.call rfl rfl (by rfl) rfl rfl Try.call25 rfl (valid_any _ _) ?_
  rintro v1_1 w1_1 ⟨rfl, hy⟩
  replace hs := hs.call hy
  clear hy
  try simp only [List.cons_append, List.nil_append, List.append_nil] at hs
  refine Z.lb 1 rfl ?_
  refine Z.lnil ?_
  refine Z.only [0, 2, 6] rfl ?_
  refine Z.nthen ?_
  refine Z.cond rfl (fun h => absurd h (by simp [hv])) (fun hc1 => ?_)
  refine Z.skip ?_
  refine Z.nthen ?_
  refine Z.seq ?_
  refine Z.seq ?_
  refine Z.region ?_
  refine Z.lb 1 rfl ?_
  refine Z.l rfl rfl (by rfl) (Z.keepS hs) (Z.Yd.quo rfl rfl (by intro hG; first | decide | omega) (by intro hG; first | exact Z.qi64 ⟨by omega, by omega⟩ (by omega) | exact rfl)) ?_
  rw [h2]
  refine Z.le rfl trivial ?_
  refine Z.ZO.call rfl rfl (by rfl) rfl rfl Try.call39 rfl (groups_any _ _) ?_
  rintro v3_2 w3_2 ⟨gg, rfl, hy⟩
  replace hs := hs.call hy
  clear hy
  try simp only [List.cons_append, List.nil_append, List.append_nil] at hs
  refine Z.lnil ?_
  refine Z.only [2, 9] rfl ?_
  refine Z.nthen ?_
  refine Z.block ?_
  refine Z.rangeFunc (ps := [10]) (L0 := [SX.Ent.row (.slice none 0 0) 3 1 0 (ints .i64 []), SX.Ent.blk g2 38 #[.slice none 0 0]]) (groups_seq n gg h1 h3) rfl Try.call52 ((SX.St.selT (L1 := [_, _, _]) (hs.nil 3 1) [0, 2, 1] (by decide))) trivial (by rintro x args Lx ⟨gb, rfl, rfl⟩; rfl) rfl (fun pre L => ∃ sv, L = [SX.Ent.row sv 3 1 pre.length (ints .i64 (pre.map fun v => lev (grp n v))), SX.Ent.blk g2 38 #[sv]]) (fun _ _ => False) ⟨_, rfl⟩ ?_ ?_ ?_
  · clear hs
    rintro l0 Z0 pre x args W0 L0 Lx ⟨sv, rfl⟩ hpre ⟨gb, rfl, rfl⟩ hs
    refine ⟨_, rfl, ?_⟩
    refine Z.region ?_
    refine Z.lb 1 rfl ?_
    refine Z.lnil ?_
    refine Z.only [2, 3] rfl ?_
    refine Z.nthen ?_
    obtain ⟨A, c, rfl, -, -, -⟩ := SX.row_slv hs (j := 1) rfl
    refine Z.assigned [_, _, _] hs ?_
    clear hs
    intro Wb0 Zb0 hs
    refine Z.block ?_
    refine Z.drawL [SX.Ent.blk g2 38 #[.slice A pre.length c]] (fun j => j != 5) mixed hs ?_
    clear hs; intro wd5 hs
    obtain ⟨hp0, hp⟩ := prefix_range hpre
    have hpl : pre.length = x := by rw [hp0]; simp
    simp only [List.cons_append, List.nil_append] at hs
    refine Z.t 0 rfl rfl rfl (by rfl) (by kernel_rfl) ⟨_, hs, by first | (simp; done) | exact fun e he => List.mem_append_right _ he⟩ (by first | exact Z.Yd.load rfl Try.isAgg38 (fun _ => Z.cellB (by first | ((repeat (first | exact List.mem_cons_self | refine List.mem_cons_of_mem _ ?_ | refine List.mem_append_right _ ?_)); done) | fail) rfl) | exact Z.Yd.load rfl Try.isAgg38 (fun _ => Z.cellO (by assumption) (by simp) (by assumption)) | fail "load 5.0") ?_
    refine Z.tb [1] (by kernel_rfl) rfl ⟨_, hs, by first | (simp; done) | exact fun e he => List.mem_append_right _ he⟩ rfl ?_
    refine Z.tn 2 rfl rfl (by kernel_rfl) rfl trivial ?_
    refine Z.ZO.call rfl rfl (by rfl) rfl rfl Try.call29 rfl (level_any (grp n x) _ _ n _ (SX.row_slB hs (j := 0) rfl) (by simp [grp]) h3 (Nat.le_refl _) (grp_bits n x)) ?_
    rintro v5_2 w5_2 ⟨rfl, hy⟩
    replace hs := hs.call hy
    clear hy
    try simp only [List.cons_append, List.nil_append, List.append_nil] at hs
    refine Z.tk (Dn := fun j => j != 5) (i := 2) (fun _ => ⟨_, hs, by first | (simp; done) | exact fun e he => List.mem_append_right _ he⟩) ?_
    refine Z.tn 3 rfl rfl (by kernel_rfl) rfl trivial ?_
    refine Z.ZO.litL (T' := 3) [(0, 1)] [.int .i64 0] rfl rfl (by rfl) rfl rfl (by intro W; kernel_rfl) hs ?_
    clear hs; intro g14 w14 hs
    refine Z.tk (Dn := fun j => j != 5) (i := 3) (fun _ => ⟨_, hs, by first | (simp; done) | exact fun e he => List.mem_append_right _ he⟩) ?_
    refine Z.tn 4 rfl rfl (by kernel_rfl) rfl trivial ?_
    refine Z.ZO.append (i0 := Try.t3) (size := 1) (bytes := 8) rfl rfl (by rfl) hs Try.underlying38 (by kernel_rfl) rfl rfl rfl rfl (by decide) rfl rfl (by first | exact SX.at0 | exact SX.at1 | exact SX.at2 | exact SX.at3 | exact SX.at4 | exact SX.at5 | exact Z.at6 | exact Z.at7 | exact Z.at8 | exact Z.at9 | exact Z.at10 | exact Z.at11 | exact Z.at12) (by first | exact SX.at0 | exact SX.at1 | exact SX.at2 | exact SX.at3 | exact SX.at4 | exact SX.at5 | exact Z.at6 | exact Z.at7 | exact Z.at8 | exact Z.at9 | exact Z.at10 | exact Z.at11 | exact Z.at12) (by first | rfl | simp) (by simp [Value.oneCell']) (by decide) (by unfold maxLen; omega) (by omega) ?_
    clear hs; intro g15 cap15 w15 hs
    simp only [List.set_cons_zero, List.set_cons_succ, List.eraseIdx_cons_zero, List.eraseIdx_cons_succ] at hs
    refine Z.tk (Dn := fun j => j != 5) (i := 4) (fun _ => ⟨_, hs, by first | (simp; done) | exact fun e he => List.mem_append_right _ he⟩) ?_
    refine Z.tn 5 rfl rfl (by kernel_rfl) rfl trivial ?_
    first | refine Z.ZO.store rfl rfl hs Try.sizeOf38 rfl rfl rfl (by first | exact SX.at0 | exact SX.at1 | exact SX.at2 | exact SX.at3 | exact SX.at4 | exact SX.at5 | exact Z.at6 | exact Z.at7 | exact Z.at8 | exact Z.at9 | exact Z.at10 | exact Z.at11 | exact Z.at12) (by first | (simp; done) | (simp; omega)) ?_ | refine Z.ZO.storeR rfl rfl hs Try.sizeOf38 rfl rfl rfl (by first | exact SX.at0 | exact SX.at1 | exact SX.at2 | exact SX.at3 | exact SX.at4 | exact SX.at5 | exact Z.at6 | exact Z.at7 | exact Z.at8 | exact Z.at9 | exact Z.at10 | exact Z.at11 | exact Z.at12) (by first | omega | (simp [ints_length]; done) | (simp [ints_length]; omega)) ?_
    clear hs; intro ws hs
    simp only [Nat.zero_add, Nat.add_zero, Nat.reduceAdd, Int.reduceToNat, Nat.reduceMul, List.set_cons_zero, List.set_cons_succ, List.setIfInBounds_toArray] at hs
    refine Z.tk (Dn := fun j => j != 5) (i := 5) (fun h => absurd h (by decide)) ?_
    refine Z.td (by rfl) (by kernel_rfl) ?_
    refine Z.only [2] rfl ?_
    refine Z.nblock ?_
    have e : ints .i64 (pre.map fun v => lev (grp n v)) ++ [Value.int .i64 (lev (grp n x))] = ints .i64 ((pre ++ [x]).map fun v => lev (grp n v)) := by simp [ints]
    have e2 : (pre ++ [x]).length = pre.length + 1 := by simp
    rw [e, ← e2] at hs
    exact Z.rnorm [_, _] ⟨_, rfl⟩ (hs.sub (List.sublist_cons_self _ _))
  · clear hs
    rintro Dd W0 L0 hi hs
    obtain ⟨sv, rfl⟩ := hi
    refine Z.nblock ?_
    refine Z.nthen ?_
    refine Z.seq ?_
    refine Z.region ?_
    rw [List.length_range] at hs
    replace hs : SX.St w [] W0 ([SX.Ent.row sv 3 1 (2 ^ n) (ints .i64 (glv n))] ++ [_, _, _]) := hs
    rw [← hN] at hs hgl
    obtain ⟨gs, cs, rfl, -, -⟩ := row_form (j := 0) hs rfl (by omega)
    refine Z.l rfl rfl (by rfl) (Z.keepS hs) (by first | exact Z.Yd.load rfl Try.isAgg38 (fun _ => Z.cellB (by first | ((repeat (first | exact List.mem_cons_self | refine List.mem_cons_of_mem _ ?_ | refine List.mem_append_right _ ?_)); done) | fail) rfl) | exact Z.Yd.load rfl Try.isAgg38 (fun _ => Z.cellO (by assumption) (by simp) (by assumption)) | fail "load 6.0") ?_
    refine Z.le rfl trivial ?_
    refine Z.ZO.call rfl rfl (by rfl) rfl rfl Try.call40 rfl (sortord _ _ _ _ (glv n) _ (hs.lend (L2 := [_, _, _])) hgl (by omega) (by omega)) ?_
    rintro v6_1 w6_1 ⟨rfl, ys, hp, hS, hz⟩
    refine Z.lnil ?_
    refine Z.only [2] rfl ?_
    refine Z.nthen ?_
    refine Z.seq ?_
    refine Z.region ?_
    replace hs := hs.regain (L2 := [_, _, _]) hz
    obtain rfl : ys = lvls n := sorted_lvls h1 h3 hp (by rw [← hN]; exact hS)
    refine Z.l rfl rfl (by rfl) (Z.keepS hs) (by first | exact Z.Yd.load rfl Try.isAgg38 (fun _ => Z.cellB (by first | ((repeat (first | exact List.mem_cons_self | refine List.mem_cons_of_mem _ ?_ | refine List.mem_append_right _ ?_)); done) | fail) rfl) | exact Z.Yd.load rfl Try.isAgg38 (fun _ => Z.cellO (by assumption) (by simp) (by assumption)) | fail "load 7.0") ?_
    refine Z.le rfl trivial ?_
    first | refine Z.ZO.store rfl rfl hs Try.sizeOf38 rfl rfl rfl (by first | exact SX.at0 | exact SX.at1 | exact SX.at2 | exact SX.at3 | exact SX.at4 | exact SX.at5 | exact Z.at6 | exact Z.at7 | exact Z.at8 | exact Z.at9 | exact Z.at10 | exact Z.at11 | exact Z.at12) (by first | (simp; done) | (simp; omega)) ?_ | refine Z.ZO.storeR rfl rfl hs Try.sizeOf38 rfl rfl rfl (by first | exact SX.at0 | exact SX.at1 | exact SX.at2 | exact SX.at3 | exact SX.at4 | exact SX.at5 | exact Z.at6 | exact Z.at7 | exact Z.at8 | exact Z.at9 | exact Z.at10 | exact Z.at11 | exact Z.at12) (by first | omega | (simp [ints_length]; done) | (simp [ints_length]; omega)) ?_
    clear hs; intro ws hs
    simp only [Nat.zero_add, Nat.add_zero, Nat.reduceAdd, Int.reduceToNat, Nat.reduceMul, List.set_cons_zero, List.set_cons_succ, List.setIfInBounds_toArray] at hs
    refine Z.lnil ?_
    refine Z.only [2] rfl ?_
    refine Z.nthen ?_
    refine Z.ret ?_
    -- ret#0
    refine Z.outM1 (vs := [_]) (show SX.St w [] _ ([_, _] ++ SX.Ent.obj Dd (.deferred (some [])) :: [_]) from hs) (fun wr hs => (by exact ⟨⟨_, rfl, Z.rvc hs Try.isAgg38 (by first | ((repeat (first | exact List.mem_cons_self | refine List.mem_cons_of_mem _ ?_ | refine List.mem_append_right _ ?_)); done) | fail) rfl⟩, trivial⟩)) (by exact ⟨⟨_, rfl, Z.rvc hs Try.isAgg38 (by first | ((repeat (first | exact List.mem_cons_self | refine List.mem_cons_of_mem _ ?_ | refine List.mem_append_right _ ?_)); done) | fail) rfl⟩, trivial⟩) ?_
    clear hs
    intro wr hs
    exact ⟨_, rfl, by rw [← hN]; exact hs.sub ((List.nil_sublist _).cons_cons _)⟩
  · clear hs
    rintro Dd c W0 L0 hi hs
    exact hi.elim
end Go.Proofs.Ythncbdoiilgnhaa

/- QamSofts: the walk. -/
namespace Go.Proofs.Ythncbdoiilgnhaa
open Go.RowKit
set_option linter.unusedSimpArgs false
set_option linter.unusedVariables false

theorem softs_long (m : Int) (A : Option Addr) (n c : Nat) (w : World) (hn : 100 < n) :
    Calls Try.prog 6 #[.int .i64 m, .slice A n c] w (SX.Ret fun v w' => v = .bool true ∧ SX.St w [] w' []) := by
  have hs := SX.St.start w
  refine Z.enter Try.func6 rfl Try.ntmps6 rfl rfl ?_
  refine Z.seq ?_
  refine Z.region ?_
  refine Z.lb 1 rfl ?_
  refine Z.lnil ?_
  refine Z.only [0, 1] rfl ?_
  refine Z.nthen ?_
  refine Z.seq ?_
  refine Z.seq ?_
  refine Z.region ?_
  refine Z.lb 1 rfl ?_
  refine Z.l rfl rfl (by rfl) (Z.keepS hs) (Z.Yd.lenS rfl Try.underlying25) ?_
  refine Z.lb 1 rfl ?_
  refine Z.lnil ?_
  refine Z.only [0, 1, 17] rfl ?_
  refine Z.nthen ?_
  refine Z.cond rfl (fun hc1 => ?_) (fun h => absurd h (by simp; omega))
  refine Z.seq ?_
  refine Z.region ?_
  refine Z.le rfl trivial ?_
  refine Z.ZO.call rfl rfl (by rfl) rfl rfl Try.call10 rfl (known_any _) ?_
  rintro v2_0 w2_0 ⟨rfl, hy⟩
  replace hs := hs.call hy
  clear hy
  try simp only [List.cons_append, List.nil_append, List.append_nil] at hs
  refine Z.lb 1 rfl ?_
  refine Z.lnil ?_
  refine Z.only [4] rfl ?_
  refine Z.nthen ?_
  refine Z.ret ?_
  repeat (first | refine Z.rthen ?_ | refine Z.rblock ?_ | refine Z.rscope ?_)
  -- ret#0
  refine Z.out1 (by exact ⟨rfl, trivial⟩) ?_
  first | exact ⟨_, rfl, rfl, hs⟩ | exact ⟨_, rfl, rfl, hs.sub (List.nil_sublist _)⟩
set_option maxRecDepth 100000 in
theorem softs_arg (m : Int) (A : Option Addr) (n c : Nat) (w : World) (hb : vm m = false) (hn : n ≤ 100) :
    Calls Try.prog 6 #[.int .i64 m, .slice A n c] w (SX.Ret fun v w' => v = .bool true ∧ SX.St w [] w' []) := by
  have hs := SX.St.start w
  refine Z.enter Try.func6 rfl Try.ntmps6 rfl rfl ?_
  refine Z.seq ?_
  refine Z.region ?_
  refine Z.lb 1 rfl ?_
  refine Z.lnil ?_
  refine Z.only [0, 1] rfl ?_
  refine Z.nthen ?_
  refine Z.seq ?_
  refine Z.seq ?_
  refine Z.region ?_
  refine Z.lb 1 rfl ?_
  refine Z.l rfl rfl (by rfl) (Z.keepS hs) (Z.Yd.lenS rfl Try.underlying25) ?_
  refine Z.lb 1 rfl ?_
  refine Z.lnil ?_
  refine Z.only [0, 1, 17] rfl ?_
  refine Z.nthen ?_
  refine Z.cond rfl (fun h => absurd h (by simp; omega)) (fun hc1 => ?_)
  refine Z.skip ?_
  refine Z.nthen ?_
  refine Z.seq ?_
  refine Z.region ?_
  refine Z.lb 2 rfl ?_
  refine Z.le rfl trivial ?_
  refine Z.ZO.call rfl rfl (by rfl) rfl rfl Try.call17 rfl (demod_arg A n c m _ hb) ?_
  rintro v3_2 w3_2 ⟨rfl, hy⟩
  replace hs := hs.call hy
  clear hy
  try simp only [List.cons_append, List.nil_append, List.append_nil] at hs
  refine Z.lb 5 rfl ?_
  refine Z.lnil ?_
  refine Z.only [0, 1, 5, 6] rfl ?_
  refine Z.nthen ?_
  refine Z.seq ?_
  refine Z.region ?_
  refine Z.lb 2 rfl ?_
  refine Z.le rfl trivial ?_
  refine Z.ZO.call rfl rfl (by rfl) rfl rfl Try.call18 rfl (decide_bad A n c m 2 _ (by decide) (fun W L hW ↦ demod_arg A n c m W hb)) ?_
  rintro v4_2 w4_2 ⟨rfl, hy⟩
  replace hs := hs.call hy
  clear hy
  try simp only [List.cons_append, List.nil_append, List.append_nil] at hs
  refine Z.lb 5 rfl ?_
  refine Z.lnil ?_
  refine Z.only [0, 1, 5, 6, 7, 8] rfl ?_
  refine Z.nthen ?_
  refine Z.seq ?_
  refine Z.region ?_
  refine Z.lb 1 rfl ?_
  refine Z.lnil ?_
  refine Z.only [0, 1, 5, 6, 7, 8, 9] rfl ?_
  refine Z.nthen ?_
  refine Z.seq ?_
  refine Z.seq ?_
  refine Z.region ?_
  refine Z.lb 1 rfl ?_
  refine Z.le rfl trivial ?_
  refine Z.ZO.call rfl rfl (by rfl) rfl rfl Try.call12 rfl (rvalid_any m _) ?_
  rintro v6_1 w6_1 ⟨rfl, hy⟩
  replace hs := hs.call hy
  clear hy
  try simp only [List.cons_append, List.nil_append, List.append_nil] at hs
  rw [hb]
  refine Z.lb 1 rfl ?_
  refine Z.lnil ?_
  refine Z.only [0, 1, 5, 6, 7, 8, 9, 33] rfl ?_
  refine Z.nthen ?_
  refine Z.cond rfl (fun hc6 => ?_) (fun h => absurd h (by simp))
  refine Z.region ?_
  refine Z.lb 1 rfl ?_
  refine Z.lnil ?_
  refine Z.only [0, 1, 5, 6, 7, 8, 9] rfl ?_
  refine Z.nthen ?_
  refine Z.seq ?_
  refine Z.seq ?_
  refine Z.region ?_
  refine Z.lb 2 rfl ?_
  refine Z.lnil ?_
  refine Z.only [0, 1, 5, 6, 7, 8, 9, 38] rfl ?_
  refine Z.nthen ?_
  refine Z.cond rfl (fun hc10 => ?_) (fun h => absurd h (by simp))
  refine Z.seq ?_
  refine Z.region ?_
  refine Z.lb 4 rfl ?_
  refine Z.yes (s := 42) (b := true) rfl ((by decide)) rfl ?_
  refine Z.lb 1 rfl ?_
  refine Z.l rfl rfl (by rfl) (Z.keepS hs) (Z.Yd.lenS rfl Try.underlying38) ?_
  refine Z.lb 1 rfl ?_
  refine Z.yes (s := 42) (b := true) rfl rfl rfl ?_
  refine Z.l rfl rfl (by rfl) (Z.keepS hs) (Z.Yd.pickT rfl rfl) ?_
  refine Z.lb 1 rfl ?_
  refine Z.yes (s := 47) (b := true) rfl ((by decide)) rfl ?_
  refine Z.lb 3 rfl ?_
  refine Z.yes (s := 47) (b := true) rfl rfl rfl ?_
  refine Z.l rfl rfl (by rfl) (Z.keepS hs) (Z.Yd.pickT rfl rfl) ?_
  refine Z.lb 1 rfl ?_
  refine Z.yes (s := 52) (b := true) rfl ((by decide)) rfl ?_
  refine Z.lb 1 rfl ?_
  refine Z.l rfl rfl (by rfl) (Z.keepS hs) (Z.Yd.lenS rfl Try.underlying23) ?_
  refine Z.lb 1 rfl ?_
  refine Z.yes (s := 52) (b := true) rfl rfl rfl ?_
  refine Z.l rfl rfl (by rfl) (Z.keepS hs) (Z.Yd.pickT rfl rfl) ?_
  refine Z.lb 1 rfl ?_
  refine Z.yes (s := 57) (b := true) rfl ((by decide)) rfl ?_
  refine Z.le rfl (by exact ⟨rfl, trivial⟩) ?_
  refine Z.ZO.call rfl rfl (by rfl) rfl rfl Try.call10 rfl (known_any _) ?_
  rintro v11_19 w11_19 ⟨rfl, hy⟩
  replace hs := hs.call hy
  clear hy
  try simp only [List.cons_append, List.nil_append, List.append_nil] at hs
  refine Z.l rfl rfl (by rfl) (Z.keepS hs) (Z.Yd.pickT rfl rfl) ?_
  refine Z.lb 1 rfl ?_
  refine Z.lnil ?_
  refine Z.only [4] rfl ?_
  refine Z.nthen ?_
  refine Z.ret ?_
  repeat (first | refine Z.rthen ?_ | refine Z.rblock ?_ | refine Z.rscope ?_)
  -- ret#0
  refine Z.out1 (by exact ⟨rfl, trivial⟩) ?_
  first | exact ⟨_, rfl, rfl, hs⟩ | exact ⟨_, rfl, rfl, hs.sub (List.nil_sublist _)⟩
set_option maxRecDepth 100000 in
theorem softs_range (m : Int) (A : Option Addr) (n c : Nat) (ps : List (Int × Int)) (w : World) (hr : Sl w A (pcells ps)) (hl : ps.length = n) (hn : n ≤ 100) (hm : vm m = true) (hb : ps.any (fun p => !ins p) = true) :
    Calls Try.prog 6 #[.int .i64 m, .slice A n c] w (SX.Ret fun v w' => v = .bool true ∧ SX.St w [] w' []) := by
  have hs := SX.St.start w
  have hall : ps.all ins = false := by
    rw [List.all_eq_false]
    obtain ⟨p, hp, h⟩ := List.any_eq_true.1 hb
    exact ⟨p, hp, by simpa using h⟩
  refine Z.enter Try.func6 rfl Try.ntmps6 rfl rfl ?_
  refine Z.seq ?_
  refine Z.region ?_
  refine Z.lb 1 rfl ?_
  refine Z.lnil ?_
  refine Z.only [0, 1] rfl ?_
  refine Z.nthen ?_
  refine Z.seq ?_
  refine Z.seq ?_
  refine Z.region ?_
  refine Z.lb 1 rfl ?_
  refine Z.l rfl rfl (by rfl) (Z.keepS hs) (Z.Yd.lenS rfl Try.underlying25) ?_
  refine Z.lb 1 rfl ?_
  refine Z.lnil ?_
  refine Z.only [0, 1, 17] rfl ?_
  refine Z.nthen ?_
  refine Z.cond rfl (fun h => absurd h (by simp; omega)) (fun hc1 => ?_)
  refine Z.skip ?_
  refine Z.nthen ?_
  refine Z.seq ?_
  refine Z.region ?_
  refine Z.lb 2 rfl ?_
  refine Z.le rfl trivial ?_
  refine Z.ZO.call rfl rfl (by rfl) rfl rfl Try.call17 rfl (demod_range A n c m ps _ (hr.st hs) hl (by omega) hm hb) ?_
  rintro v3_2 w3_2 ⟨rfl, hy⟩
  replace hs := hs.call hy
  clear hy
  try simp only [List.cons_append, List.nil_append, List.append_nil] at hs
  refine Z.lb 5 rfl ?_
  refine Z.lnil ?_
  refine Z.only [0, 1, 5, 6] rfl ?_
  refine Z.nthen ?_
  refine Z.seq ?_
  refine Z.region ?_
  refine Z.lb 2 rfl ?_
  refine Z.le rfl trivial ?_
  refine Z.ZO.call rfl rfl (by rfl) rfl rfl Try.call18 rfl (decide_bad A n c m 6 _ (by decide) (fun W L hW ↦ demod_range A n c m ps W ((hr.st hs).st hW) hl (by omega) hm hb)) ?_
  rintro v4_2 w4_2 ⟨rfl, hy⟩
  replace hs := hs.call hy
  clear hy
  try simp only [List.cons_append, List.nil_append, List.append_nil] at hs
  refine Z.lb 5 rfl ?_
  refine Z.lnil ?_
  refine Z.only [0, 1, 5, 6, 7, 8] rfl ?_
  refine Z.nthen ?_
  refine Z.seq ?_
  refine Z.region ?_
  refine Z.lb 1 rfl ?_
  refine Z.lnil ?_
  refine Z.only [0, 1, 5, 6, 7, 8, 9] rfl ?_
  refine Z.nthen ?_
  refine Z.seq ?_
  refine Z.seq ?_
  refine Z.region ?_
  refine Z.lb 1 rfl ?_
  refine Z.le rfl trivial ?_
  refine Z.ZO.call rfl rfl (by rfl) rfl rfl Try.call12 rfl (rvalid_any m _) ?_
  rintro v6_1 w6_1 ⟨rfl, hy⟩
  replace hs := hs.call hy
  clear hy
  try simp only [List.cons_append, List.nil_append, List.append_nil] at hs
  rw [hm]
  refine Z.lb 1 rfl ?_
  refine Z.lnil ?_
  refine Z.only [0, 1, 5, 6, 7, 8, 9, 33] rfl ?_
  refine Z.nthen ?_
  refine Z.cond rfl (fun h => absurd h (by simp)) (fun hc6 => ?_)
  refine Z.seq ?_
  refine Z.region ?_
  refine Z.lb 1 rfl ?_
  refine Z.le rfl trivial ?_
  refine Z.ZO.call rfl rfl (by rfl) rfl rfl Try.call16 rfl (rinside_any A n c ps _ (hr.st hs) hl (by omega)) ?_
  rintro v8_1 w8_1 ⟨rfl, hy⟩
  replace hs := hs.call hy
  clear hy
  try simp only [List.cons_append, List.nil_append, List.append_nil] at hs
  rw [hall]
  refine Z.lb 1 rfl ?_
  refine Z.lnil ?_
  refine Z.only [0, 1, 5, 6, 7, 8, 9, 36] rfl ?_
  refine Z.nthen ?_
  refine Z.cond rfl (fun hc8 => ?_) (fun h => absurd h (by simp))
  refine Z.region ?_
  refine Z.lb 1 rfl ?_
  refine Z.lnil ?_
  refine Z.only [0, 1, 5, 6, 7, 8, 9] rfl ?_
  refine Z.nthen ?_
  refine Z.seq ?_
  refine Z.seq ?_
  refine Z.region ?_
  refine Z.lb 2 rfl ?_
  refine Z.lnil ?_
  refine Z.only [0, 1, 5, 6, 7, 8, 9, 38] rfl ?_
  refine Z.nthen ?_
  refine Z.cond rfl (fun hc10 => ?_) (fun h => absurd h (by simp))
  refine Z.seq ?_
  refine Z.region ?_
  refine Z.lb 4 rfl ?_
  refine Z.yes (s := 42) (b := true) rfl ((by decide)) rfl ?_
  refine Z.lb 1 rfl ?_
  refine Z.l rfl rfl (by rfl) (Z.keepS hs) (Z.Yd.lenS rfl Try.underlying38) ?_
  refine Z.lb 1 rfl ?_
  refine Z.yes (s := 42) (b := true) rfl rfl rfl ?_
  refine Z.l rfl rfl (by rfl) (Z.keepS hs) (Z.Yd.pickT rfl rfl) ?_
  refine Z.lb 1 rfl ?_
  refine Z.yes (s := 47) (b := true) rfl ((by decide)) rfl ?_
  refine Z.lb 3 rfl ?_
  refine Z.yes (s := 47) (b := true) rfl rfl rfl ?_
  refine Z.l rfl rfl (by rfl) (Z.keepS hs) (Z.Yd.pickT rfl rfl) ?_
  refine Z.lb 1 rfl ?_
  refine Z.yes (s := 52) (b := true) rfl ((by decide)) rfl ?_
  refine Z.lb 1 rfl ?_
  refine Z.l rfl rfl (by rfl) (Z.keepS hs) (Z.Yd.lenS rfl Try.underlying23) ?_
  refine Z.lb 1 rfl ?_
  refine Z.yes (s := 52) (b := true) rfl rfl rfl ?_
  refine Z.l rfl rfl (by rfl) (Z.keepS hs) (Z.Yd.pickT rfl rfl) ?_
  refine Z.lb 1 rfl ?_
  refine Z.yes (s := 57) (b := true) rfl ((by decide)) rfl ?_
  refine Z.le rfl (by exact ⟨rfl, trivial⟩) ?_
  refine Z.ZO.call rfl rfl (by rfl) rfl rfl Try.call10 rfl (known_any _) ?_
  rintro v11_19 w11_19 ⟨rfl, hy⟩
  replace hs := hs.call hy
  clear hy
  try simp only [List.cons_append, List.nil_append, List.append_nil] at hs
  refine Z.l rfl rfl (by rfl) (Z.keepS hs) (Z.Yd.pickT rfl rfl) ?_
  refine Z.lb 1 rfl ?_
  refine Z.lnil ?_
  refine Z.only [4] rfl ?_
  refine Z.nthen ?_
  refine Z.ret ?_
  repeat (first | refine Z.rthen ?_ | refine Z.rblock ?_ | refine Z.rscope ?_)
  -- ret#0
  refine Z.out1 (by exact ⟨rfl, trivial⟩) ?_
  first | exact ⟨_, rfl, rfl, hs⟩ | exact ⟨_, rfl, rfl, hs.sub (List.nil_sublist _)⟩

theorem dml_take {n : Nat} {ps : List (Int × Int)} {i : Nat} (h : i < ps.length) : dml n (ps.take (i + 1)) = dml n (ps.take i) ++ ilv n (ptAt ps (i : Nat)) n := by rw [take_pt h, dml_snoc]
set_option maxRecDepth 100000 in
theorem softs_ok (A : Option Addr) (np c n : Nat) (ps : List (Int × Int)) (w : World) (hr : Sl w A (pcells ps)) (hl : ps.length = np) (hnp : np ≤ 100) (hn : 1 ≤ n) (hn3 : n ≤ 3) (hm : vm ((2 * n : Nat) : Int) = true) (hi : ∀ p ∈ ps, ins p = true) :
    Calls Try.prog 6 #[.int .i64 ((2 * n : Nat) : Int), .slice A np c] w (SX.Ret fun v w' => v = .bool true ∧ SX.St w [] w' []) := by
  have hs := SX.St.start w
  have hall : ps.all ins = true := List.all_eq_true.2 hi
  have hdl := dml_length n ps
  have hb : np * (2 * n) ≤ 100 * 6 := Nat.mul_le_mul hnp (by omega)
  obtain ⟨N, hN⟩ : ∃ N, N = np * (2 * n) := ⟨_, rfl⟩
  rw [hl] at hdl
  refine Z.enter Try.func6 rfl Try.ntmps6 rfl rfl ?_
  refine Z.seq ?_
  refine Z.region ?_
  refine Z.lb 1 rfl ?_
  refine Z.lnil ?_
  refine Z.only [0, 1] rfl ?_
  refine Z.nthen ?_
  refine Z.seq ?_
  refine Z.seq ?_
  refine Z.region ?_
  refine Z.lb 1 rfl ?_
  refine Z.l rfl rfl (by rfl) (Z.keepS hs) (Z.Yd.lenS rfl Try.underlying25) ?_
  refine Z.lb 1 rfl ?_
  refine Z.lnil ?_
  refine Z.only [0, 1, 17] rfl ?_
  refine Z.nthen ?_
  refine Z.cond rfl (fun h => absurd h (by simp; omega)) (fun hc1 => ?_)
  refine Z.skip ?_
  refine Z.nthen ?_
  refine Z.seq ?_
  refine Z.region ?_
  refine Z.lb 2 rfl ?_
  refine Z.le rfl trivial ?_
  refine Z.ZO.call rfl rfl (by rfl) rfl rfl Try.call17 rfl (demod_ok A np c n ps _ (hr.st hs) hl (by omega) hn hn3 hi) ?_
  rintro v3_2 w3_2 ⟨sv, rfl, hy⟩
  replace hs := hs.call hy
  clear hy
  try simp only [List.cons_append, List.nil_append, List.append_nil] at hs
  obtain ⟨Ad, cd, rfl, -, -, -⟩ := SX.row_slv hs (j := 0) rfl
  refine Z.lb 5 rfl ?_
  refine Z.lnil ?_
  refine Z.only [0, 1, 5, 6] rfl ?_
  refine Z.nthen ?_
  refine Z.seq ?_
  refine Z.region ?_
  refine Z.lb 2 rfl ?_
  refine Z.le rfl trivial ?_
  refine Z.ZO.call rfl rfl (by rfl) rfl rfl Try.call18 rfl (decide_ok A np c n ps _ (hr.st (hs.sub (List.nil_sublist _))) hl (by omega) hn hn3 hi) ?_
  rintro v4_2 w4_2 ⟨B, co, rfl, hy⟩
  replace hs := hs.call hy
  clear hy
  try simp only [List.cons_append, List.nil_append, List.append_nil] at hs
  rw [← hN] at hs hdl hb ⊢
  refine Z.lb 5 rfl ?_
  refine Z.lnil ?_
  refine Z.only [0, 1, 5, 6, 7, 8] rfl ?_
  refine Z.nthen ?_
  refine Z.seq ?_
  refine Z.region ?_
  refine Z.lb 1 rfl ?_
  refine Z.lnil ?_
  refine Z.only [0, 1, 5, 6, 7, 8, 9] rfl ?_
  refine Z.nthen ?_
  refine Z.seq ?_
  refine Z.seq ?_
  refine Z.region ?_
  refine Z.lb 1 rfl ?_
  refine Z.le rfl trivial ?_
  refine Z.ZO.call rfl rfl (by rfl) rfl rfl Try.call12 rfl (rvalid_any _ _) ?_
  rintro v6_1 w6_1 ⟨rfl, hy⟩
  replace hs := hs.call hy
  clear hy
  try simp only [List.cons_append, List.nil_append, List.append_nil] at hs
  rw [hm]
  refine Z.lb 1 rfl ?_
  refine Z.lnil ?_
  refine Z.only [0, 1, 5, 6, 7, 8, 9, 33] rfl ?_
  refine Z.nthen ?_
  refine Z.cond rfl (fun h => absurd h (by simp)) (fun hc6 => ?_)
  refine Z.seq ?_
  refine Z.region ?_
  refine Z.lb 1 rfl ?_
  refine Z.le rfl trivial ?_
  refine Z.ZO.call rfl rfl (by rfl) rfl rfl Try.call16 rfl (rinside_any A np c ps _ (hr.st (hs.sub (List.nil_sublist _))) hl (by omega)) ?_
  rintro v8_1 w8_1 ⟨rfl, hy⟩
  replace hs := hs.call hy
  clear hy
  try simp only [List.cons_append, List.nil_append, List.append_nil] at hs
  rw [hall]
  refine Z.lb 1 rfl ?_
  refine Z.lnil ?_
  refine Z.only [0, 1, 5, 6, 7, 8, 9, 36] rfl ?_
  refine Z.nthen ?_
  refine Z.cond rfl (fun h => absurd h (by simp)) (fun hc8 => ?_)
  refine Z.skip ?_
  refine Z.nthen ?_
  refine Z.seq ?_
  refine Z.seq ?_
  refine Z.region ?_
  refine Z.lb 2 rfl ?_
  refine Z.lnil ?_
  refine Z.only [0, 1, 5, 6, 7, 8, 9, 38] rfl ?_
  refine Z.nthen ?_
  refine Z.cond rfl (fun h => absurd h (by simp)) (fun hc10 => ?_)
  refine Z.skip ?_
  refine Z.nthen ?_
  refine Z.seq ?_
  refine Z.region ?_
  refine Z.lb 1 rfl ?_
  refine Z.lnil ?_
  refine Z.only [0, 1, 5, 6, 7, 8, 10] rfl ?_
  refine Z.nthen ?_
  refine Z.seq ?_
  refine Z.region ?_
  refine Z.lb 1 rfl ?_
  refine Z.lnil ?_
  refine Z.only [0, 1, 5, 6, 7, 8, 10, 11] rfl ?_
  replace hs : SX.St w [] _ [SX.Ent.row (.slice B N co) 5 1 N (ints .u8 ((dml n ps).map sgn)), SX.Ent.row (.slice Ad N cd) 3 1 N (ints .i64 (dml n ps))] := hs.sel [0, 1] (by decide)
  replace hs := hs.nil 3 1
  refine Z.nthen ?_
  refine Z.seq ?_
  refine Z.seq ?_
  refine Z.region ?_
  refine Z.lb 1 rfl ?_
  refine Z.lnil ?_
  refine Z.only [0, 1, 5, 6, 7, 8, 10, 11, 12] rfl ?_
  refine Z.nthen ?_
  refine Z.block ?_
  refine Z.loopk (ι := Nat × Value) [0, 1, 5, 6, 7, 8, 11] rfl (fun k => [(10, [], k.2), (12, [], .int .i64 (k.1 : Int))]) (fun k wr => k.1 ≤ np ∧ SX.St w [] wr [SX.Ent.row k.2 3 1 (k.1 * (2 * n)) (ints .i64 (dml n (ps.take k.1))), SX.Ent.row (.slice B N co) 5 1 N (ints .u8 ((dml n ps).map sgn)), SX.Ent.row (.slice Ad N cd) 3 1 N (ints .i64 (dml n ps))]) (fun k => np - k.1) (0, .slice none 0 0) (by refine ⟨?_, ?_, trivial⟩ <;> (first | rfl | (refine Z.lookv rfl ?_; simp; done) | (refine Z.lookv rfl ?_; simp; omega))) ⟨by omega, by simpa [dml, ints] using hs⟩ ?_
  clear hs
  rintro ⟨k, sw⟩ w1 ⟨hkn, hs⟩
  refine Z.only [0, 1, 5, 6, 7, 8, 10, 11, 12] rfl ?_
  (try dsimp only at hs)
  dsimp only at hkn
  refine Z.seq ?_
  refine Z.seq ?_
  refine Z.region ?_
  refine Z.lb 2 rfl ?_
  refine Z.l rfl rfl (by rfl) (Z.keepS hs) (Z.Yd.lenS rfl Try.underlying25) ?_
  refine Z.lb 1 rfl ?_
  refine Z.lnil ?_
  refine Z.only [0, 1, 5, 6, 7, 8, 10, 11, 12, 63] rfl ?_
  refine Z.nthen ?_
  refine Z.cond rfl (fun hc15 => ?_) (fun hc15 => ?_)
  · first
      | (exfalso; simp at hc15 <;> omega)
      | (
        (try simp at hc15)
        have hx := hr.sx
        obtain ⟨b, off, rfl, hx⟩ := hx.some (by rw [pcells_length]; omega)
        have hf : ps[k]? = some (ptAt ps (k : Int)) := by
          rw [List.getElem?_eq_getElem (by omega)]
          simp [ptAt, show k < ps.length by omega]
        have hip := hi _ (List.mem_of_getElem? hf)
        have hil := ilv_length n (ptAt ps (k : Int)) n
        have hkb : k * (2 * n) ≤ 100 * 6 := Nat.mul_le_mul (by omega) (by omega)
        refine Z.skip ?_
        refine Z.nthen ?_
        refine Z.seq ?_
        refine Z.block ?_
        refine Z.region ?_
        refine Z.lb 4 rfl ?_
        refine Z.l rfl rfl (by rfl) (Z.keepS hs) (Z.Yd.elem rfl rfl Try.underlying25 Try.sizeOf32 (fun hG => ⟨(by first | omega | (have hG' := Z.gh rfl hG; simp at hG'; omega)), (by first | omega | (have hG' := Z.gh rfl hG; simp at hG'; omega))⟩)) ?_
        refine Z.l rfl rfl (by rfl) (Z.keepS hs) (Z.Yd.loadA _ rfl Try.isAgg32 (fun _ => Z.cellsX (enc := fun p : Int × Int => [Value.int .i64 p.1, .int .i64 p.2]) (s := 2) [.int .i64 (ptAt ps (k : Int)).1, .int .i64 (ptAt ps (k : Int)).2] hx (fun _ => rfl) hf rfl) (by exact Try.sizeOf32)) ?_
        refine Z.le rfl trivial ?_
        refine Z.ZO.call rfl rfl (by rfl) rfl rfl Try.call19 rfl (rsofts_any n (ptAt ps (k : Int)) _ hn hn3 hip) ?_
        rintro v17_6 w17_6 hy
        replace hs := hs.call hy
        clear hy
        try simp only [List.cons_append, List.nil_append, List.append_nil] at hs
        obtain ⟨As, cs, rfl, -, -, -⟩ := SX.row_slv hs (j := 0) rfl
        refine Z.le rfl trivial ?_
        refine Z.ZO.appendG (i0 := Try.t3) (size := 1) (bytes := 8) rfl rfl (by rfl) hs Try.underlying38 (by kernel_rfl) rfl rfl rfl rfl (by decide) rfl rfl (by first | exact SX.at0 | exact SX.at1 | exact SX.at2 | exact SX.at3 | exact SX.at4 | exact SX.at5 | exact Z.at6 | exact Z.at7 | exact Z.at8 | exact Z.at9 | exact Z.at10 | exact Z.at11 | exact Z.at12) (SX.row_slB hs (j := 0) rfl) (by first | rfl | assumption | (simp [ints_length]; done) | (simp [ints_length]; omega)) (by first | exact Z.ints_one | assumption | simp [Value.oneCell']) (by unfold maxLen; omega) (by omega) ?_
        clear hs; intro v73 w73 hs
        simp only [List.set_cons_zero, List.set_cons_succ] at hs
        refine Z.lb 1 rfl ?_
        refine Z.lnil ?_
        refine Z.only [0, 1, 5, 6, 7, 8, 10, 11, 12] rfl ?_
        refine Z.nblock ?_
        refine Z.nthen ?_
        refine Z.region ?_
        refine Z.lb 1 rfl ?_
        refine Z.l rfl rfl (by rfl) (Z.keepS hs) (Z.Yd.add rfl rfl (fun hG => Z.wi64 (by first | omega | (have hG' := Z.gh rfl hG; simp at hG'; omega)))) ?_
        refine Z.lb 1 rfl ?_
        refine Z.lnil ?_
        refine Z.only [0, 1, 5, 6, 7, 8, 10, 11, 12] rfl ?_
        refine Z.nthen ?_
        have e : ints .i64 (dml n (ps.take k)) ++ ints .i64 (ilv n (ptAt ps (k : Int)) n) = ints .i64 (dml n (ps.take (k + 1))) := by rw [dml_take (by omega)]; simp [ints]
        rw [e, show k * (2 * n) + 2 * n = (k + 1) * (2 * n) from by rw [Nat.add_mul, Nat.one_mul]] at hs
        exact Z.again (k + 1, _) (by refine ⟨?_, ?_, ?_, ?_, ?_, ?_, ?_, ?_, ?_, trivial⟩ <;> (first | rfl | (refine Z.lookv rfl ?_; simp; done) | (refine Z.lookv rfl ?_; simp; omega))) ⟨by simp only; omega, hs.tl⟩ (by simp only; omega)
        )
  · first
      | (exfalso; simp at hc15 <;> omega)
      | (
        (try simp at hc15)
        refine Z.exit ?_
        refine Z.xthen ?_
        refine Z.xthen ?_
        refine Z.xblock ?_
        refine Z.nthen ?_
        refine Z.seq ?_
        refine Z.seq ?_
        refine Z.region ?_
        refine Z.lb 1 rfl ?_
        refine Z.lnil ?_
        refine Z.only [5, 6, 7, 8, 10, 11, 13] rfl ?_
        obtain rfl : k = np := by omega
        rw [List.take_of_length_le (by omega), ← hN] at hs
        obtain ⟨Aw, cw, rfl, -, -, -⟩ := SX.row_slv hs (j := 0) rfl
        replace hs := hs.nil 5 1
        refine Z.nthen ?_
        refine Z.block ?_
        refine Z.loopk (ι := Nat × Value) [5, 6, 7, 8, 10] rfl (fun k => [(11, [], k.2), (13, [], .int .i64 (k.1 : Int))]) (fun k2 wr => k2.1 ≤ N ∧ SX.St w [] wr [SX.Ent.row k2.2 5 1 k2.1 (ints .u8 (((dml n ps).take k2.1).map sgn)), SX.Ent.row (.slice Aw N cw) 3 1 N (ints .i64 (dml n ps)), SX.Ent.row (.slice B N co) 5 1 N (ints .u8 ((dml n ps).map sgn)), SX.Ent.row (.slice Ad N cd) 3 1 N (ints .i64 (dml n ps))]) (fun k2 => N - k2.1) (0, .slice none 0 0) (by refine ⟨?_, ?_, trivial⟩ <;> (first | rfl | (refine Z.lookv rfl ?_; simp; done) | (refine Z.lookv rfl ?_; simp; omega))) ⟨by omega, by simpa [ints] using hs⟩ ?_
        clear hs
        rintro ⟨k2, sh⟩ w2 ⟨hk2, hs⟩
        refine Z.only [5, 6, 7, 8, 10, 11, 13] rfl ?_
        (try dsimp only at hs)
        dsimp only at hk2
        refine Z.seq ?_
        refine Z.seq ?_
        refine Z.region ?_
        refine Z.lb 2 rfl ?_
        refine Z.l rfl rfl (by rfl) (Z.keepS hs) (Z.Yd.lenS rfl Try.underlying38) ?_
        refine Z.lb 1 rfl ?_
        refine Z.lnil ?_
        refine Z.only [5, 6, 7, 8, 10, 11, 13, 77] rfl ?_
        refine Z.nthen ?_
        refine Z.cond rfl (fun hc19 => ?_) (fun hc19 => ?_)
        · first
            | (exfalso; simp at hc19 <;> omega)
            | (
              (try simp at hc19)
              obtain ⟨gw, cw', e0, -, -⟩ := row_form (j := 1) hs rfl (by omega)
              simp only [Value.slice.injEq, true_and] at e0
              obtain ⟨rfl, rfl⟩ := e0
              have hwk : (dml n ps)[k2]? = some (elt (dml n ps) (k2 : Int)) := by
                rw [List.getElem?_eq_getElem (by omega)]
                simp [elt, show k2 < (dml n ps).length by omega]
              refine Z.skip ?_
              refine Z.nthen ?_
              refine Z.seq ?_
              refine Z.block ?_
              refine Z.seq ?_
              refine Z.region ?_
              refine Z.lb 1 rfl ?_
              refine Z.lnil ?_
              refine Z.only [5, 6, 7, 8, 10, 11, 13, 14] rfl ?_
              refine Z.nthen ?_
              refine Z.seq ?_
              refine Z.seq ?_
              refine Z.region ?_
              refine Z.lb 2 rfl ?_
              refine Z.l rfl rfl (by rfl) (Z.keepS hs) (Z.Yd.elem rfl rfl Try.underlying38 Try.sizeOf3 (fun hG => ⟨(by first | omega | (have hG' := Z.gh rfl hG; simp at hG'; omega)), (by first | omega | (have hG' := Z.gh rfl hG; simp at hG'; omega))⟩)) ?_
              refine Z.l rfl rfl (by rfl) (Z.keepS hs) (by first | exact Z.Yd.load rfl Try.isAgg3 (fun hG => Z.cellR (by first | ((repeat (first | exact List.mem_cons_self | refine List.mem_cons_of_mem _ ?_ | refine List.mem_append_right _ ?_)); done) | fail) (Z.ints_at (by first | omega | (have hG' := Z.gh rfl hG; simp at hG'; omega)) (by first | omega | (have hG' := Z.gh rfl hG; simp at hG'; omega)))) | exact Z.Yd.load rfl Try.isAgg3 (fun hG => Z.cellXi (by assumption) (by first | omega | (have hG' := Z.gh rfl hG; simp at hG'; omega)) (by first | omega | (have hG' := Z.gh rfl hG; simp at hG'; omega))) | exact Z.Yd.load rfl Try.isAgg3 (fun hG => Z.cellS (by assumption) rfl (by first | omega | (have hG' := Z.gh rfl hG; simp at hG'; omega)) (by first | omega | (have hG' := Z.gh rfl hG; simp at hG'; omega))) | fail "load 22.3") ?_
              refine Z.lb 1 rfl ?_
              refine Z.lnil ?_
              refine Z.only [5, 6, 7, 8, 10, 11, 13, 14, 84] rfl ?_
              refine Z.nthen ?_
              refine Z.cond rfl (fun hc22 => ?_) (fun hc22 => ?_)
              · first
                  | (exfalso; simp at hc22 <;> omega)
                  | (
                    (try simp at hc22)
                    refine Z.region ?_
                    refine Z.lb 1 rfl ?_
                    refine Z.lnil ?_
                    refine Z.only [5, 6, 7, 8, 10, 11, 13, 14] rfl ?_
                    refine Z.nthen ?_
                    refine Z.region ?_
                    refine Z.lb 2 rfl ?_
                    refine Z.le rfl trivial ?_
                    refine Z.ZO.lit rfl rfl (by rfl) rfl (by intro W; go_simp; exact rfl) hs ?_
                    clear hs; intro g87 w87 hs
                    refine Z.le rfl trivial ?_
                    refine Z.ZO.append (i0 := Try.t5) (size := 1) (bytes := 1) rfl rfl (by rfl) hs Try.underlying23 (by kernel_rfl) rfl rfl rfl rfl (by decide) rfl rfl (by first | exact SX.at0 | exact SX.at1 | exact SX.at2 | exact SX.at3 | exact SX.at4 | exact SX.at5 | exact Z.at6 | exact Z.at7 | exact Z.at8 | exact Z.at9 | exact Z.at10 | exact Z.at11 | exact Z.at12) (by first | exact SX.at0 | exact SX.at1 | exact SX.at2 | exact SX.at3 | exact SX.at4 | exact SX.at5 | exact Z.at6 | exact Z.at7 | exact Z.at8 | exact Z.at9 | exact Z.at10 | exact Z.at11 | exact Z.at12) (by first | rfl | simp) (by simp [Value.oneCell']) (by decide) (by unfold maxLen; omega) (by omega) ?_
                    clear hs; intro g88 cap88 w88 hs
                    simp only [List.set_cons_zero, List.set_cons_succ, List.eraseIdx_cons_zero, List.eraseIdx_cons_succ] at hs
                    refine Z.lb 1 rfl ?_
                    refine Z.lnil ?_
                    refine Z.only [5, 6, 7, 8, 10, 11, 13] rfl ?_
                    refine Z.nblock ?_
                    refine Z.nthen ?_
                    refine Z.region ?_
                    refine Z.lb 1 rfl ?_
                    refine Z.l rfl rfl (by rfl) (Z.keepS hs) (Z.Yd.add rfl rfl (fun hG => Z.wi64 (by first | omega | (have hG' := Z.gh rfl hG; simp at hG'; omega)))) ?_
                    refine Z.lb 1 rfl ?_
                    refine Z.lnil ?_
                    refine Z.only [5, 6, 7, 8, 10, 11, 13] rfl ?_
                    refine Z.nthen ?_
                    have e : ints .u8 (((dml n ps).take k2).map sgn) ++ [.int .u8 (sgn (elt (dml n ps) (k2 : Int)))] = ints .u8 (((dml n ps).take (k2 + 1)).map sgn) := by
                      rw [List.take_add_one, hwk]
                      simp [ints]
                    first
                    | (rw [show sgn (elt (dml n ps) (k2 : Int)) = 1 from by unfold sgn; rw [if_pos (by omega)]] at e
                       rw [e] at hs
                       exact Z.again (k2 + 1, _) (by refine ⟨?_, ?_, ?_, ?_, ?_, ?_, ?_, trivial⟩ <;> (first | rfl | (refine Z.lookv rfl ?_; simp; done) | (refine Z.lookv rfl ?_; simp; omega))) ⟨by simp only; omega, hs⟩ (by simp only; omega))
                    | (rw [show sgn (elt (dml n ps) (k2 : Int)) = 0 from by unfold sgn; rw [if_neg (by omega)]] at e
                       rw [e] at hs
                       exact Z.again (k2 + 1, _) (by refine ⟨?_, ?_, ?_, ?_, ?_, ?_, ?_, trivial⟩ <;> (first | rfl | (refine Z.lookv rfl ?_; simp; done) | (refine Z.lookv rfl ?_; simp; omega))) ⟨by simp only; omega, hs⟩ (by simp only; omega))
                    )
              · first
                  | (exfalso; simp at hc22 <;> omega)
                  | (
                    (try simp at hc22)
                    refine Z.skip ?_
                    refine Z.nthen ?_
                    refine Z.region ?_
                    refine Z.lb 2 rfl ?_
                    refine Z.le rfl trivial ?_
                    refine Z.ZO.lit rfl rfl (by rfl) rfl (by intro W; go_simp; exact rfl) hs ?_
                    clear hs; intro g87 w87 hs
                    refine Z.le rfl trivial ?_
                    refine Z.ZO.append (i0 := Try.t5) (size := 1) (bytes := 1) rfl rfl (by rfl) hs Try.underlying23 (by kernel_rfl) rfl rfl rfl rfl (by decide) rfl rfl (by first | exact SX.at0 | exact SX.at1 | exact SX.at2 | exact SX.at3 | exact SX.at4 | exact SX.at5 | exact Z.at6 | exact Z.at7 | exact Z.at8 | exact Z.at9 | exact Z.at10 | exact Z.at11 | exact Z.at12) (by first | exact SX.at0 | exact SX.at1 | exact SX.at2 | exact SX.at3 | exact SX.at4 | exact SX.at5 | exact Z.at6 | exact Z.at7 | exact Z.at8 | exact Z.at9 | exact Z.at10 | exact Z.at11 | exact Z.at12) (by first | rfl | simp) (by simp [Value.oneCell']) (by decide) (by unfold maxLen; omega) (by omega) ?_
                    clear hs; intro g88 cap88 w88 hs
                    simp only [List.set_cons_zero, List.set_cons_succ, List.eraseIdx_cons_zero, List.eraseIdx_cons_succ] at hs
                    refine Z.lb 1 rfl ?_
                    refine Z.lnil ?_
                    refine Z.only [5, 6, 7, 8, 10, 11, 13] rfl ?_
                    refine Z.nblock ?_
                    refine Z.nthen ?_
                    refine Z.region ?_
                    refine Z.lb 1 rfl ?_
                    refine Z.l rfl rfl (by rfl) (Z.keepS hs) (Z.Yd.add rfl rfl (fun hG => Z.wi64 (by first | omega | (have hG' := Z.gh rfl hG; simp at hG'; omega)))) ?_
                    refine Z.lb 1 rfl ?_
                    refine Z.lnil ?_
                    refine Z.only [5, 6, 7, 8, 10, 11, 13] rfl ?_
                    refine Z.nthen ?_
                    have e : ints .u8 (((dml n ps).take k2).map sgn) ++ [.int .u8 (sgn (elt (dml n ps) (k2 : Int)))] = ints .u8 (((dml n ps).take (k2 + 1)).map sgn) := by
                      rw [List.take_add_one, hwk]
                      simp [ints]
                    first
                    | (rw [show sgn (elt (dml n ps) (k2 : Int)) = 1 from by unfold sgn; rw [if_pos (by omega)]] at e
                       rw [e] at hs
                       exact Z.again (k2 + 1, _) (by refine ⟨?_, ?_, ?_, ?_, ?_, ?_, ?_, trivial⟩ <;> (first | rfl | (refine Z.lookv rfl ?_; simp; done) | (refine Z.lookv rfl ?_; simp; omega))) ⟨by simp only; omega, hs⟩ (by simp only; omega))
                    | (rw [show sgn (elt (dml n ps) (k2 : Int)) = 0 from by unfold sgn; rw [if_neg (by omega)]] at e
                       rw [e] at hs
                       exact Z.again (k2 + 1, _) (by refine ⟨?_, ?_, ?_, ?_, ?_, ?_, ?_, trivial⟩ <;> (first | rfl | (refine Z.lookv rfl ?_; simp; done) | (refine Z.lookv rfl ?_; simp; omega))) ⟨by simp only; omega, hs⟩ (by simp only; omega))
                    )
              )
        · first
            | (exfalso; simp at hc19 <;> omega)
            | (
              (try simp at hc19)
              refine Z.exit ?_
              refine Z.xthen ?_
              refine Z.xthen ?_
              refine Z.xblock ?_
              refine Z.nthen ?_
              refine Z.seq ?_
              refine Z.region ?_
              obtain rfl : k2 = N := by omega
              rw [List.take_of_length_le (by omega)] at hs
              obtain ⟨Ah, ch, rfl, -, -, -⟩ := SX.row_slv hs (j := 0) rfl
              refine Z.l rfl rfl (by rfl) (Z.keepS hs) (Z.Yd.pure rfl) ?_
              refine Z.lb 4 rfl ?_
              refine Z.yes (s := 91) (b := true) rfl ((by decide)) rfl ?_
              refine Z.le rfl (by exact ⟨rfl, trivial⟩) ?_
              refine Z.ZO.call rfl rfl (by rfl) rfl rfl Try.call20 rfl (sameI_any Ad Aw _ _ cd cw (dml n ps) (dml n ps) _ (SX.row_slB hs (j := 3) rfl) (SX.row_slB hs (j := 1) rfl) hdl hdl (by omega) (by omega)) ?_
              rintro v25_5 w25_5 ⟨rfl, hy⟩
              replace hs := hs.call hy
              clear hy
              try simp only [List.cons_append, List.nil_append, List.append_nil] at hs
              refine Z.l rfl rfl (by rfl) (Z.keepS hs) (Z.Yd.pickT rfl rfl) ?_
              refine Z.lb 1 rfl ?_
              refine Z.yes (s := 96) (b := true) rfl ((by simp)) rfl ?_
              refine Z.lb 2 rfl ?_
              refine Z.yes (s := 96) (b := true) rfl rfl rfl ?_
              refine Z.l rfl rfl (by rfl) (Z.keepS hs) (Z.Yd.pickT rfl rfl) ?_
              refine Z.lb 3 rfl ?_
              refine Z.yes (s := 100) (b := true) rfl ((by decide)) rfl ?_
              refine Z.le rfl (by exact ⟨rfl, trivial⟩) ?_
              refine Z.ZO.call rfl rfl (by rfl) rfl rfl Try.call21 rfl (sameB_any B Ah _ _ _ ch ((dml n ps).map sgn) ((dml n ps).map sgn) _ (SX.row_slB hs (j := 2) rfl) (SX.row_slB hs (j := 0) rfl) (by simpa using hdl) (by simpa using hdl) rfl (by omega)) ?_
              rintro v25_14 w25_14 ⟨rfl, hy⟩
              replace hs := hs.call hy
              clear hy
              try simp only [List.cons_append, List.nil_append, List.append_nil] at hs
              refine Z.l rfl rfl (by rfl) (Z.keepS hs) (Z.Yd.pickT rfl rfl) ?_
              refine Z.lb 1 rfl ?_
              refine Z.yes (s := 105) (b := true) rfl ((by decide)) rfl ?_
              refine Z.le rfl (by exact ⟨rfl, trivial⟩) ?_
              refine Z.ZO.call rfl rfl (by rfl) rfl rfl Try.call10 rfl (known_any _) ?_
              rintro v25_17 w25_17 ⟨rfl, hy⟩
              replace hs := hs.call hy
              clear hy
              try simp only [List.cons_append, List.nil_append, List.append_nil] at hs
              refine Z.l rfl rfl (by rfl) (Z.keepS hs) (Z.Yd.pickT rfl rfl) ?_
              refine Z.lb 1 rfl ?_
              refine Z.lnil ?_
              refine Z.only [4] rfl ?_
              refine Z.nthen ?_
              refine Z.ret ?_
              -- ret#0
              refine Z.out1 (by exact ⟨rfl, trivial⟩) ?_
              first | exact ⟨_, rfl, rfl, hs⟩ | exact ⟨_, rfl, rfl, hs.sub (List.nil_sublist _)⟩
              )
        )

theorem rd_points {W : World} {A : Option Addr} {n c : Nat} (z : Rd Try.prog W 25 [.slice A n c]) : ∃ ps : List (Int × Int), ps.length = n ∧ n ≤ maxLen ∧ Sl W A (pcells ps) := by
  have c2 : Try.prog.cellsOf 32 = 2 := by kernel_rfl
  obtain ⟨xs, h1, h2, h3, h4, h5⟩ := Rd.rows (fun p : Int × Int => [Value.int .i64 p.1, .int .i64 p.2]) (fun _ => True) Try.underlying25 (by rw [c2]; decide)
    (fun r hr => by
      obtain ⟨x, y, h, -, -⟩ := rd_point hr
      exact ⟨(x, y), h, trivial⟩) (fun x => c2.symm) z
  exact ⟨xs, h1, Nat.le_trans h2 h3, h5⟩
theorem qamSofts_rd (a0 : Int) (a1 : Option Addr) (len1 cap1 : Nat) (w : World) (z0 : Rd Try.prog w 22 (Value.int .i64 a0).cells.toList) (z1 : Rd Try.prog w 25 (Value.slice a1 len1 cap1).cells.toList) :
    Calls Try.prog 6 #[.int .i64 a0, .slice a1 len1 cap1] w fun e w' => e = .returned (.bool true) ∧ Below w.heap.size w w' := by
  obtain ⟨ps, h1, h2, h3⟩ := rd_points z1
  have key : Calls Try.prog 6 #[.int .i64 a0, .slice a1 len1 cap1] w (SX.Ret fun v w' => v = .bool true ∧ SX.St w [] w' []) := by
    by_cases hl : 100 < len1
    · exact softs_long a0 a1 len1 cap1 w hl
    · by_cases hv : vm a0 = true
      · cases hi : ps.any (fun p => !ins p) with
        | true => exact softs_range a0 a1 len1 cap1 ps w h3 h1 (by omega) hv hi
        | false =>
          have hall : ∀ p ∈ ps, ins p = true := by simpa using hi
          have hm : a0 = 2 ∨ a0 = 4 ∨ a0 = 6 := by simp [vm] at hv; omega
          obtain ⟨n, hn, hn3, rfl⟩ : ∃ n : Nat, 1 ≤ n ∧ n ≤ 3 ∧ a0 = ((2 * n : Nat) : Int) := by
            rcases hm with rfl | rfl | rfl
            · exact ⟨1, by omega, by omega, rfl⟩
            · exact ⟨2, by omega, by omega, rfl⟩
            · exact ⟨3, by omega, by omega, rfl⟩
          exact softs_ok a1 len1 cap1 n ps w h3 h1 (by omega) hn hn3 hv hall
      · exact softs_arg a0 a1 len1 cap1 w (by simpa using hv) (by omega)
  refine key.mono ?_
  rintro e w' ⟨v, rfl, rfl, h⟩
  exact ⟨rfl, h.below⟩
end Go.Proofs.Ythncbdoiilgnhaa

/- Bits come back when the points are changed a little: plain facts. -/
namespace Go.Proofs.Ythncbdoiilgnhaa
open Go.RowKit
set_option linter.unusedSimpArgs false
set_option linter.unusedVariables false

theorem back1 : ∀ g : Fin 2, ∀ t : Fin 31, ∀ i : Fin 1, sgn (sfv 1 (16 * lev (grp 1 g.val) + ((t.val : Int) - 15)) i.val) = bitOf g.val i.val := by decide +kernel
theorem back2 : ∀ g : Fin 4, ∀ t : Fin 31, ∀ i : Fin 2, sgn (sfv 2 (16 * lev (grp 2 g.val) + ((t.val : Int) - 15)) i.val) = bitOf g.val i.val := by decide +kernel
theorem back3 : ∀ g : Fin 8, ∀ t : Fin 31, ∀ i : Fin 3, sgn (sfv 3 (16 * lev (grp 3 g.val) + ((t.val : Int) - 15)) i.val) = bitOf g.val i.val := by decide +kernel
theorem back_grp {k g i : Nat} {d : Int} (hk : 1 ≤ k) (hk3 : k ≤ 3) (hg : g < 2 ^ k) (hi : i < k) (h1 : -16 < d) (h2 : d < 16) : sgn (sfv k (16 * lev (grp k g) + d) i) = bitOf g i := by
  obtain ⟨t, rfl⟩ : ∃ t : Nat, d = (t : Int) - 15 := ⟨(d + 15).toNat, by omega⟩
  have h : k = 1 ∨ k = 2 ∨ k = 3 := by omega
  rcases h with rfl | rfl | rfl
  · exact back1 ⟨g, hg⟩ ⟨t, by omega⟩ ⟨i, hi⟩
  · exact back2 ⟨g, hg⟩ ⟨t, by omega⟩ ⟨i, hi⟩
  · exact back3 ⟨g, hg⟩ ⟨t, by omega⟩ ⟨i, hi⟩
/-- bits are a group -/
theorem evn_grp (bs : List Int) (hb : ∀ b ∈ bs, b = 0 ∨ b = 1) (s k : Nat) (hk : 1 ≤ k) (hk3 : k ≤ 3) : ∃ g, g < 2 ^ k ∧ evn bs s k = grp k g ∧ ∀ i, i < k → bitOf g i = elt bs (s + 2 * i : Nat) := by
  have e0 := elt_bit hb (s : Nat)
  have e1 := elt_bit hb ((s + 2 : Nat) : Int)
  have e2 := elt_bit hb ((s + 4 : Nat) : Int)
  have h : k = 1 ∨ k = 2 ∨ k = 3 := by omega
  have key : ∃ g, g < 2 ^ k ∧ ∀ i, i < k → bitOf g i = elt bs (s + 2 * i : Nat) := by
    have hcase : ∀ i, i < k → i = 0 ∨ i = 1 ∨ i = 2 := fun i hi => by omega
    rcases h with rfl | rfl | rfl
    · refine ⟨(elt bs (s : Nat)).toNat, by rcases e0 with h | h <;> rw [h] <;> decide, fun i hi => ?_⟩
      obtain rfl : i = 0 := by omega
      rcases e0 with h | h <;> simp only [Nat.mul_zero, Nat.add_zero] <;> rw [h] <;> decide
    · refine ⟨(elt bs (s : Nat)).toNat + 2 * (elt bs (s + 2 : Nat)).toNat, by rcases e0 with h | h <;> rcases e1 with h' | h' <;> rw [h, h'] <;> decide, fun i hi => ?_⟩
      have h3 : i = 0 ∨ i = 1 := by omega
      rcases h3 with rfl | rfl <;> rcases e0 with h | h <;> rcases e1 with h' | h' <;> simp only [Nat.mul_zero, Nat.add_zero, Nat.mul_one] <;> rw [h, h'] <;> decide
    · refine ⟨(elt bs (s : Nat)).toNat + 2 * (elt bs (s + 2 : Nat)).toNat + 4 * (elt bs (s + 4 : Nat)).toNat, by rcases e0 with h | h <;> rcases e1 with h' | h' <;> rcases e2 with h'' | h'' <;> rw [h, h', h''] <;> decide, fun i hi => ?_⟩
      have h3 : i = 0 ∨ i = 1 ∨ i = 2 := by omega
      rcases h3 with rfl | rfl | rfl <;> rcases e0 with h | h <;> rcases e1 with h' | h' <;> rcases e2 with h'' | h'' <;> simp only [Nat.mul_zero, Nat.add_zero, Nat.mul_one, Nat.reduceMul] <;> rw [h, h', h''] <;> decide
  obtain ⟨g, hg, hbit⟩ := key
  refine ⟨g, hg, ?_, hbit⟩
  unfold evn grp
  refine List.map_congr_left fun i hi => ?_
  rw [hbit i (by simpa using hi)]

theorem near_bit {k : Nat} {bs : List Int} (hb : ∀ b ∈ bs, b = 0 ∨ b = 1) {s i : Nat} {y : Int} (hk : 1 ≤ k) (hk3 : k ≤ 3) (hi : i < k) (h1 : -16 < y - 16 * lev (evn bs s k)) (h2 : y - 16 * lev (evn bs s k) < 16) : sgn (sfv k y i) = elt bs (s + 2 * i : Nat) := by
  obtain ⟨g, hg, he, hbit⟩ := evn_grp bs hb s k hk hk3
  rw [he] at h1 h2
  rw [← hbit i hi, ← back_grp hk hk3 hg hi h1 h2]
  congr 2
  omega
def Near (k : Nat) (bs : List Int) (j : Nat) (p : Int × Int) : Prop := -16 < p.1 - (mpt k bs j).1 ∧ p.1 - (mpt k bs j).1 < 16 ∧ -16 < p.2 - (mpt k bs j).2 ∧ p.2 - (mpt k bs j).2 < 16
theorem back_all {k q : Nat} {bs : List Int} {qs : List (Int × Int)} (hb : ∀ b ∈ bs, b = 0 ∨ b = 1) (hk : 1 ≤ k) (hk3 : k ≤ 3) (hl : bs.length = q * (2 * k)) (hq : qs.length = q) (hn : ∀ j p, qs[j]? = some p → Near k bs j p) : (dml k qs).map sgn = bs := by
  have hdl := dml_length k qs
  apply List.ext_getElem?
  intro x
  by_cases hx : x < q * (2 * k)
  · obtain ⟨j, r, hr, rfl⟩ : ∃ j r, r < 2 * k ∧ x = j * (2 * k) + r := ⟨x / (2 * k), x % (2 * k), Nat.mod_lt _ (by omega), by rw [Nat.mul_comm]; exact (Nat.div_add_mod _ _).symm⟩
    obtain ⟨i, c, hc, rfl⟩ : ∃ i c, c < 2 ∧ r = i * 2 + c := ⟨r / 2, r % 2, Nat.mod_lt _ (by omega), by omega⟩
    have hi : i < k := by omega
    have hj : j < q := by
      by_cases h : j < q
      · exact h
      · have := Nat.mul_le_mul_right (2 * k) (Nat.not_lt.1 h)
        omega
    have hp : qs[j]? = some (qs[j]'(by omega)) := List.getElem?_eq_getElem (by omega)
    obtain ⟨n1, n2, n3, n4⟩ := hn j _ hp
    have e1 : (dml k qs)[j * (2 * k) + (i * 2 + c)]? = (ilv k (qs[j]'(by omega)) k)[i * 2 + c]? := Z.flat_get (fun p => ilv_length k p k) hp hr
    have e2 : (ilv k (qs[j]'(by omega)) k)[i * 2 + c]? = ([sfv k (qs[j]'(by omega)).1 i, sfv k (qs[j]'(by omega)).2 i] : List Int)[c]? := Z.flat_get (enc := fun i => [sfv k (qs[j]'(by omega)).1 i, sfv k (qs[j]'(by omega)).2 i]) (fun _ => rfl) (List.getElem?_range hi) hc
    rw [List.getElem?_map, e1, e2]
    have hbx : bs[j * (2 * k) + (i * 2 + c)]? = some (elt bs ((j * (2 * k) + (i * 2 + c) : Nat) : Int)) := by
      simp only [elt, List.getD_eq_getElem?_getD, Int.toNat_natCast]
      rw [List.getElem?_eq_getElem (by omega)]
      rfl
    rw [hbx]
    have hc2 : c = 0 ∨ c = 1 := by omega
    rcases hc2 with rfl | rfl
    · have := near_bit hb (s := j * (2 * k)) (i := i) hk hk3 hi n1 n2
      simp only [List.getElem?_cons_zero, Option.map_some, this]
      congr 2
      omega
    · have := near_bit hb (s := j * (2 * k) + 1) (i := i) hk hk3 hi n3 n4
      simp only [List.getElem?_cons_succ, List.getElem?_cons_zero, Option.map_some, this]
      congr 2
      omega
  · rw [hq] at hdl
    rw [List.getElem?_eq_none (by rw [List.length_map]; omega), List.getElem?_eq_none (by omega)]
end Go.Proofs.Ythncbdoiilgnhaa

/- Arguments of bytes and integers, read. -/
namespace Go.Proofs.Ythncbdoiilgnhaa
open Go.RowKit
set_option linter.unusedSimpArgs false
set_option linter.unusedVariables false
namespace Rb
theorem sliceV {P : Program} {W : World} {t e : TypeId} {cs : List Value} (ht : P.underlying t = some (.slice e)) (h : Rd P W t cs) : ∃ A n c, cs = [.slice A n c] := by
  rcases Rd.slice ht h with h1 | ⟨a, len, cap, rows, h1, -⟩
  · exact ⟨none, 0, 0, h1⟩
  · exact ⟨some a, len, cap, h1⟩
theorem flat_ints (k : IntKind) (l : List Int) : l.flatMap (fun x => [Value.int k x]) = ints k l := by
  induction l with
  | nil => rfl
  | cons x l ih => rw [List.flatMap_cons, ih]; rfl
theorem rd_bytes {W : World} {A : Option Addr} {n c : Nat} (z : Rd Try.prog W 23 [.slice A n c]) : ∃ l : List Int, l.length = n ∧ n ≤ c ∧ c ≤ maxLen ∧ (∀ x ∈ l, 0 ≤ x ∧ x < 256) ∧ Sl W A (ints .u8 l) := by
  have c1 : Try.prog.cellsOf 5 = 1 := by kernel_rfl
  obtain ⟨xs, h1, h2, h3, h4, h5⟩ := Rd.rows (fun x : Int => [Value.int .u8 x]) (fun x => 0 ≤ x ∧ x < 256) Try.underlying23 (by rw [c1]; decide)
    (fun r hr => by
      obtain ⟨x, hx, wx⟩ := Rd.int Try.underlying5 hr
      have := wf_u8 wx
      exact ⟨x, hx, this.1, by omega⟩) (fun x => c1.symm) z
  rw [flat_ints] at h5
  exact ⟨xs, h1, h2, h3, h4, h5⟩
theorem rd_ints {W : World} {A : Option Addr} {n c : Nat} (z : Rd Try.prog W 38 [.slice A n c]) : ∃ l : List Int, l.length = n ∧ n ≤ c ∧ c ≤ maxLen ∧ (∀ x ∈ l, -9223372036854775808 ≤ x ∧ x ≤ 9223372036854775807) ∧ Sl W A (ints .i64 l) := by
  have c1 : Try.prog.cellsOf 3 = 1 := by kernel_rfl
  obtain ⟨xs, h1, h2, h3, h4, h5⟩ := Rd.rows (fun x : Int => [Value.int .i64 x]) (fun x => -9223372036854775808 ≤ x ∧ x ≤ 9223372036854775807) Try.underlying38 (by rw [c1]; decide)
    (fun r hr => by
      obtain ⟨x, hx, wx⟩ := Rd.int Try.underlying3 hr
      exact ⟨x, hx, wf_i64 wx⟩) (fun x => c1.symm) z
  rw [flat_ints] at h5
  exact ⟨xs, h1, h2, h3, h4, h5⟩
end Rb
end Go.Proofs.Ythncbdoiilgnhaa

/- QamBack: the walk. -/
namespace Go.Proofs.Ythncbdoiilgnhaa
open Go.RowKit
set_option linter.unusedSimpArgs false
set_option linter.unusedVariables false

def encPt (p : Int × Int) : List Value := [.int .i64 p.1, .int .i64 p.2]
theorem encPt_length (p : Int × Int) : (encPt p).length = 2 := rfl
theorem pcells_enc (l : List (Int × Int)) : pcells l = l.flatMap encPt := rfl
theorem mpt_near {k j : Nat} {bs : List Int} (hb : ∀ b ∈ bs, b = 0 ∨ b = 1) (hk : 1 ≤ k) (hk3 : k ≤ 3) : -128 < (mpt k bs j).1 ∧ (mpt k bs j).1 < 128 ∧ -128 < (mpt k bs j).2 ∧ (mpt k bs j).2 < 128 := by
  obtain ⟨g1, h1, e1, -⟩ := evn_grp bs hb (j * (2 * k)) k hk hk3
  obtain ⟨g2, h2, e2, -⟩ := evn_grp bs hb (j * (2 * k) + 1) k hk hk3
  have b1 := lev_lt k g1 hk hk3
  have b2 := lev_lt k g2 hk hk3
  unfold mpt
  rw [e1, e2]
  simp only
  omega
theorem near_ins {k j : Nat} {bs : List Int} {p : Int × Int} (hb : ∀ b ∈ bs, b = 0 ∨ b = 1) (hk : 1 ≤ k) (hk3 : k ≤ 3) (h : Near k bs j p) : ins p = true := by
  have h1 := mpt_near (j := j) hb hk hk3
  unfold Near at h
  simp only [ins, Bool.and_eq_true, decide_eq_true_eq]
  omega
theorem set_same {α : Type} {l : List α} {i : Nat} {x : α} (h : l[i]? = some x) : l.set i x = l := by
  apply List.ext_getElem?
  intro j
  rw [List.getElem?_set]
  split
  · rename_i e
    subst e
    rw [if_pos (List.getElem?_eq_some_iff.1 h).1, h]
  · rfl
structure BkI (k q : Nat) (bs : List Int) (i : Nat) (qs : List (Int × Int)) : Prop where
  len : qs.length = q
  near : ∀ j p, qs[j]? = some p → Near k bs j p
  same : ∀ j, i ≤ j → j < q → qs[j]? = some (mpt k bs j)
theorem BkI.start {k q : Nat} {bs : List Int} : BkI k q bs 0 ((List.range q).map (mpt k bs)) := by
  refine ⟨by simp, fun j p h => ?_, fun j _ h => ?_⟩
  · rw [List.getElem?_map] at h
    cases hr : (List.range q)[j]? with
    | none => rw [hr] at h; cases h
    | some i =>
      rw [hr] at h
      obtain ⟨hi, rfl⟩ := List.getElem?_eq_some_iff.1 hr
      simp only [List.getElem_range, Option.map_some, Option.some.injEq] at h
      subst h
      unfold Near
      omega
  · rw [List.getElem?_map, List.getElem?_range h]
    rfl
theorem BkI.next {k q i : Nat} {bs : List Int} {qs : List (Int × Int)} (h : BkI k q bs i qs) (hi : i < q) {p : Int × Int} (hp : Near k bs i p) : BkI k q bs (i + 1) (qs.set i p) := by
  refine ⟨by simp [h.len], fun j p' hj => ?_, fun j h1 h2 => ?_⟩
  · rw [List.getElem?_set] at hj
    by_cases e : i = j
    · rw [if_pos e] at hj
      subst e
      rw [if_pos (by rw [h.len]; exact hi)] at hj
      obtain rfl := Option.some.inj hj
      exact hp
    · rw [if_neg e] at hj
      exact h.near j p' hj
  · rw [List.getElem?_set, if_neg (by omega)]
    exact h.same j (by omega) h2

theorem back_long (m : Int) (A B : Option Addr) (n c n2 c2 : Nat) (w : World) (hn : 600 < n) :
    Calls Try.prog 7 #[.int .i64 m, .slice A n c, .slice B n2 c2] w (SX.Ret fun v w' => v = .bool true ∧ SX.St w [] w' []) := by
  have hs := SX.St.start w
  refine Z.enter Try.func7 rfl Try.ntmps7 rfl rfl ?_
  refine Z.seq ?_
  refine Z.region ?_
  refine Z.lb 1 rfl ?_
  refine Z.lnil ?_
  refine Z.only [0, 1, 2] rfl ?_
  refine Z.nthen ?_
  refine Z.seq ?_
  refine Z.seq ?_
  refine Z.region ?_
  refine Z.lb 1 rfl ?_
  refine Z.l rfl rfl (by rfl) (Z.keepS hs) (Z.Yd.lenS rfl Try.underlying23) ?_
  refine Z.lb 1 rfl ?_
  refine Z.lnil ?_
  refine Z.only [0, 1, 2, 14] rfl ?_
  refine Z.nthen ?_
  refine Z.cond rfl (fun hc1 => ?_) (fun h => absurd h (by simp; omega))
  refine Z.seq ?_
  refine Z.region ?_
  refine Z.le rfl trivial ?_
  refine Z.ZO.call rfl rfl (by rfl) rfl rfl Try.call10 rfl (known_any _) ?_
  rintro v2_0 w2_0 ⟨rfl, hy⟩
  replace hs := hs.call hy
  clear hy
  try simp only [List.cons_append, List.nil_append, List.append_nil] at hs
  refine Z.lb 1 rfl ?_
  refine Z.lnil ?_
  refine Z.only [6] rfl ?_
  refine Z.nthen ?_
  refine Z.ret ?_
  repeat (first | refine Z.rthen ?_ | refine Z.rblock ?_ | refine Z.rscope ?_)
  -- ret#0
  refine Z.out1 (by exact ⟨rfl, trivial⟩) ?_
  first | exact ⟨_, rfl, rfl, hs⟩ | exact ⟨_, rfl, rfl, hs.sub (List.nil_sublist _)⟩
theorem back_bad (m e : Int) (A B : Option Addr) (n c n2 c2 : Nat) (w : World) (hn : n ≤ 600) (he : e ≠ 0)
    (h : ∀ W L, SX.St w [] W L → Calls Try.prog 11 #[.int .i64 m, .slice A n c] W (SX.Ret fun v w' => v = .tuple #[.slice none 0 0, .int .i64 e] ∧ SX.St W [] w' [])) :
    Calls Try.prog 7 #[.int .i64 m, .slice A n c, .slice B n2 c2] w (SX.Ret fun v w' => v = .bool true ∧ SX.St w [] w' []) := by
  have hs := SX.St.start w
  refine Z.enter Try.func7 rfl Try.ntmps7 rfl rfl ?_
  refine Z.seq ?_
  refine Z.region ?_
  refine Z.lb 1 rfl ?_
  refine Z.lnil ?_
  refine Z.only [0, 1, 2] rfl ?_
  refine Z.nthen ?_
  refine Z.seq ?_
  refine Z.seq ?_
  refine Z.region ?_
  refine Z.lb 1 rfl ?_
  refine Z.l rfl rfl (by rfl) (Z.keepS hs) (Z.Yd.lenS rfl Try.underlying23) ?_
  refine Z.lb 1 rfl ?_
  refine Z.lnil ?_
  refine Z.only [0, 1, 2, 14] rfl ?_
  refine Z.nthen ?_
  refine Z.cond rfl (fun h => absurd h (by simp; omega)) (fun hc1 => ?_)
  refine Z.skip ?_
  refine Z.nthen ?_
  refine Z.seq ?_
  refine Z.region ?_
  refine Z.lb 2 rfl ?_
  refine Z.le rfl trivial ?_
  refine Z.ZO.call rfl rfl (by rfl) rfl rfl Try.call11 rfl (h _ _ hs) ?_
  rintro v3_2 w3_2 ⟨rfl, hy⟩
  replace hs := hs.call hy
  clear hy
  try simp only [List.cons_append, List.nil_append, List.append_nil] at hs
  refine Z.lb 5 rfl ?_
  refine Z.lnil ?_
  refine Z.only [0, 1, 2, 7, 8] rfl ?_
  refine Z.nthen ?_
  refine Z.seq ?_
  refine Z.seq ?_
  refine Z.region ?_
  refine Z.lb 2 rfl ?_
  refine Z.lnil ?_
  refine Z.only [0, 1, 2, 7, 23] rfl ?_
  refine Z.nthen ?_
  refine Z.cond rfl (fun hc4 => ?_) (fun h => absurd h (by simpa using he))
  refine Z.seq ?_
  refine Z.region ?_
  refine Z.le rfl trivial ?_
  refine Z.ZO.call rfl rfl (by rfl) rfl rfl Try.call10 rfl (known_any _) ?_
  rintro v5_0 w5_0 ⟨rfl, hy⟩
  replace hs := hs.call hy
  clear hy
  try simp only [List.cons_append, List.nil_append, List.append_nil] at hs
  refine Z.lb 1 rfl ?_
  refine Z.lnil ?_
  refine Z.only [6] rfl ?_
  refine Z.nthen ?_
  refine Z.ret ?_
  repeat (first | refine Z.rthen ?_ | refine Z.rblock ?_ | refine Z.rscope ?_)
  -- ret#0
  refine Z.out1 (by exact ⟨rfl, trivial⟩) ?_
  first | exact ⟨_, rfl, rfl, hs⟩ | exact ⟨_, rfl, rfl, hs.sub (List.nil_sublist _)⟩

set_option maxRecDepth 100000 in
theorem back_ok (A B : Option Addr) (n c k q m c2 : Nat) (bs : List Int) (ns : List (Int × Int)) (w : World) (hr : Sl w A (ints .u8 bs)) (hl : bs.length = n) (hn : n = q * (2 * k)) (hk : 1 ≤ k) (hk3 : k ≤ 3) (hn6 : n ≤ 600) (hnc : n ≤ c) (hc : (c : Int) ≤ 9223372036854775807)
    (hb : ∀ b ∈ bs, b = 0 ∨ b = 1) (hrn : Sl w B (pcells ns)) (hln : ns.length = m) (hm : m ≤ 9223372036854775807) :
    Calls Try.prog 7 #[.int .i64 ((2 * k : Nat) : Int), .slice A n c, .slice B m c2] w (SX.Ret fun v w' => v = .bool true ∧ SX.St w [] w' []) := by
  have hs := SX.St.start w
  have hq : q ≤ n := by rw [hn]; exact Nat.le_mul_of_pos_right q (by omega)
  refine Z.enter Try.func7 rfl Try.ntmps7 rfl rfl ?_
  refine Z.seq ?_
  refine Z.region ?_
  refine Z.lb 1 rfl ?_
  refine Z.lnil ?_
  refine Z.only [0, 1, 2] rfl ?_
  refine Z.nthen ?_
  refine Z.seq ?_
  refine Z.seq ?_
  refine Z.region ?_
  refine Z.lb 1 rfl ?_
  refine Z.l rfl rfl (by rfl) (Z.keepS hs) (Z.Yd.lenS rfl Try.underlying23) ?_
  refine Z.lb 1 rfl ?_
  refine Z.lnil ?_
  refine Z.only [0, 1, 2, 14] rfl ?_
  refine Z.nthen ?_
  refine Z.cond rfl (fun h => absurd h (by simp; omega)) (fun hc1 => ?_)
  refine Z.skip ?_
  refine Z.nthen ?_
  refine Z.seq ?_
  refine Z.region ?_
  refine Z.lb 2 rfl ?_
  refine Z.le rfl trivial ?_
  refine Z.ZO.call rfl rfl (by rfl) rfl rfl Try.call11 rfl (modulate_ok A n c k q bs _ (hr.st hs) hl hn hk hk3 hn6 hnc hc hb) ?_
  rintro v3_2 w3_2 ⟨sv, rfl, hy⟩
  replace hs := hs.call hy
  clear hy
  try simp only [List.cons_append, List.nil_append, List.append_nil] at hs
  obtain ⟨Ad, cd, rfl, -, -, -⟩ := SX.row_slv hs (j := 0) rfl
  refine Z.lb 5 rfl ?_
  refine Z.lnil ?_
  refine Z.only [0, 1, 2, 7, 8] rfl ?_
  refine Z.nthen ?_
  refine Z.seq ?_
  refine Z.seq ?_
  refine Z.region ?_
  refine Z.lb 2 rfl ?_
  refine Z.lnil ?_
  refine Z.only [0, 1, 2, 7, 23] rfl ?_
  refine Z.nthen ?_
  refine Z.cond rfl (fun h => absurd h (by simp)) (fun hc4 => ?_)
  refine Z.skip ?_
  refine Z.nthen ?_
  refine Z.seq ?_
  refine Z.seq ?_
  refine Z.region ?_
  refine Z.lb 1 rfl ?_
  refine Z.lnil ?_
  refine Z.only [0, 1, 2, 7, 9] rfl ?_
  refine Z.nthen ?_
  refine Z.block ?_
  refine Z.loopk (ι := Nat × List (Int × Int)) [0, 1, 2, 7] rfl (fun x => [(9, [], .int .i64 (x.1 : Int))]) (fun x wr => (x.1 ≤ q ∧ BkI k q bs x.1 x.2) ∧ SX.St w [] wr [SX.Ent.row (.slice Ad q cd) 32 2 q (pcells x.2)]) (fun x => q - x.1) (0, (List.range q).map (mpt k bs)) (by refine ⟨?_, trivial⟩ <;> (first | rfl | (refine Z.lookv rfl ?_; simp; done) | (refine Z.lookv rfl ?_; simp; omega))) ⟨⟨by omega, BkI.start⟩, by simpa using hs⟩ ?_
  clear hs
  rintro ⟨i, qs⟩ w1 ⟨⟨hiq, hI⟩, hs⟩
  refine Z.only [0, 1, 2, 7, 9] rfl ?_
  (try dsimp only at hs)
  dsimp only at hiq hI
  refine Z.seq ?_
  refine Z.seq ?_
  refine Z.region ?_
  refine Z.lb 2 rfl ?_
  refine Z.l rfl rfl (by rfl) (Z.keepS hs) (Z.Yd.lenS rfl Try.underlying25) ?_
  refine Z.lb 4 rfl ?_
  refine Z.l rfl rfl (by rfl) (Z.keepS hs) (Z.Yd.lenS rfl Try.underlying25) ?_
  refine Z.lb 2 rfl ?_
  refine Z.lnil ?_
  refine Z.only [0, 1, 2, 7, 9, 34] rfl ?_
  refine Z.nthen ?_
  refine Z.cond rfl (fun hc7 => ?_) (fun hc7 => ?_)
  · first
      | (exfalso; simp at hc7 <;> omega)
      | (
        (try simp at hc7)
        obtain ⟨b2, off2, rfl, hx2⟩ := hrn.sx.some (by rw [pcells_length]; omega)
        have hf2 : ns[i]? = some (ptAt ns (i : Int)) := by
          rw [List.getElem?_eq_getElem (by omega)]
          simp [ptAt, show i < ns.length by omega]
        have hpl := pcells_length qs
        have hlen := hI.len
        have hsame := hI.same i (Nat.le_refl i) (by omega)
        have hbd := mpt_near (j := i) hb hk hk3
        obtain ⟨gw, cw', e0, -, -⟩ := row_form (j := 0) hs rfl (by omega)
        simp only [Value.slice.injEq, true_and] at e0
        obtain ⟨rfl, rfl⟩ := e0
        refine Z.skip ?_
        refine Z.nthen ?_
        refine Z.seq ?_
        refine Z.block ?_
        refine Z.seq ?_
        refine Z.seq ?_
        refine Z.region ?_
        refine Z.lb 2 rfl ?_
        refine Z.l rfl rfl (by rfl) (Z.keepS hs) (Z.Yd.elem rfl rfl Try.underlying25 Try.sizeOf32 (fun hG => ⟨(by first | omega | (have hG' := Z.gh rfl hG; simp at hG'; omega)), (by first | omega | (have hG' := Z.gh rfl hG; simp at hG'; omega))⟩)) ?_
        refine Z.l rfl rfl (by rfl) (Z.keepS hs) (Z.Yd.fieldA (m := 0) rfl (by kernel_rfl)) ?_
        refine Z.l rfl rfl (by rfl) (Z.keepS hs) (Z.Yd.load rfl Try.isAgg3 (fun _ => Z.cellXf (enc := encPt) (s := 2) hx2 encPt_length hf2 rfl)) ?_
        refine Z.lb 4 rfl ?_
        refine Z.l rfl rfl (by rfl) (Z.keepS hs) (Z.Yd.elem rfl rfl Try.underlying25 Try.sizeOf32 (fun hG => ⟨(by first | omega | (have hG' := Z.gh rfl hG; simp at hG'; omega)), (by first | omega | (have hG' := Z.gh rfl hG; simp at hG'; omega))⟩)) ?_
        refine Z.l rfl rfl (by rfl) (Z.keepS hs) (Z.Yd.fieldA (m := 0) rfl (by kernel_rfl)) ?_
        refine Z.l rfl rfl (by rfl) (Z.keepS hs) (Z.Yd.load rfl Try.isAgg3 (fun _ => Z.cellXf (enc := encPt) (s := 2) hx2 encPt_length hf2 rfl)) ?_
        refine Z.lb 2 rfl ?_
        refine Z.lnil ?_
        refine Z.only [0, 1, 2, 7, 9, 50] rfl ?_
        refine Z.nthen ?_
        refine Z.cutt (ι := List (Int × Int)) [0, 1, 2, 7, 9] rfl (fun x => []) (fun x wr => (∃ y, x = qs.set i (y, (mpt k bs i).2) ∧ -16 < y - (mpt k bs i).1 ∧ y - (mpt k bs i).1 < 16) ∧ SX.St w [] wr [SX.Ent.row (.slice (some ⟨gw, 0, none⟩) q cd) 32 2 q (pcells x)]) ?_ ?_
        · skip
          refine Z.cond rfl (fun hc9 => ?_) (fun hc9 => ?_)
          · first
              | (exfalso; simp at hc9 <;> omega)
              | (
                (try simp at hc9)
                refine Z.drawK (fun j => j != 13) mixed hs ?_
                clear hs; intro wd10 hs
                refine Z.tb [0, 1] (by kernel_rfl) rfl ⟨_, hs, by first | (simp; done) | exact fun e he => List.mem_append_right _ he⟩ rfl ?_
                refine Z.t 2 rfl rfl rfl (by rfl) (by kernel_rfl) ⟨_, hs, by first | (simp; done) | exact fun e he => List.mem_append_right _ he⟩ (Z.Yd.elem rfl rfl Try.underlying25 Try.sizeOf32 (fun hG => ⟨(by first | omega | (have hG' := Z.gh rfl hG; simp at hG'; omega)), (by first | omega | (have hG' := Z.gh rfl hG; simp at hG'; omega))⟩)) ?_
                refine Z.t 3 rfl rfl rfl (by rfl) (by kernel_rfl) ⟨_, hs, by first | (simp; done) | exact fun e he => List.mem_append_right _ he⟩ (Z.Yd.fieldA (m := 0) rfl (by kernel_rfl)) ?_
                refine Z.t 4 rfl rfl rfl (by rfl) (by kernel_rfl) ⟨_, hs, by first | (simp; done) | exact fun e he => List.mem_append_right _ he⟩ (Z.Yd.load rfl Try.isAgg3 (fun _ => Z.cellR (xs := pcells qs) (by first | ((repeat (first | exact List.mem_cons_self | refine List.mem_cons_of_mem _ ?_ | refine List.mem_append_right _ ?_)); done) | fail) (Z.flat_pos (enc := encPt) encPt_length hsame rfl))) ?_
                refine Z.tb [5, 6] (by kernel_rfl) rfl ⟨_, hs, by first | (simp; done) | exact fun e he => List.mem_append_right _ he⟩ rfl ?_
                refine Z.t 7 rfl rfl rfl (by rfl) (by kernel_rfl) ⟨_, hs, by first | (simp; done) | exact fun e he => List.mem_append_right _ he⟩ (Z.Yd.elem rfl rfl Try.underlying25 Try.sizeOf32 (fun hG => ⟨(by first | omega | (have hG' := Z.gh rfl hG; simp at hG'; omega)), (by first | omega | (have hG' := Z.gh rfl hG; simp at hG'; omega))⟩)) ?_
                refine Z.t 8 rfl rfl rfl (by rfl) (by kernel_rfl) ⟨_, hs, by first | (simp; done) | exact fun e he => List.mem_append_right _ he⟩ (Z.Yd.fieldA (m := 0) rfl (by kernel_rfl)) ?_
                refine Z.t 9 rfl rfl rfl (by rfl) (by kernel_rfl) ⟨_, hs, by first | (simp; done) | exact fun e he => List.mem_append_right _ he⟩ (Z.Yd.load rfl Try.isAgg3 (fun _ => Z.cellXf (enc := encPt) (s := 2) hx2 encPt_length hf2 rfl)) ?_
                refine Z.t 10 rfl rfl rfl (by rfl) (by kernel_rfl) ⟨_, hs, by first | (simp; done) | exact fun e he => List.mem_append_right _ he⟩ (Z.Yd.add rfl rfl (fun hG => Z.wi64 (by first | omega | (have hG' := Z.gh rfl hG; simp at hG'; omega)))) ?_
                refine Z.tn 11 rfl rfl (by kernel_rfl) rfl trivial ?_
                refine Z.ZO.quiet rfl (by rfl) (Z.keepS hs) (Z.Yd.elem rfl rfl Try.underlying25 Try.sizeOf32 (fun hG => ⟨(by first | omega | (have hG' := Z.gh rfl hG; simp at hG'; omega)), (by first | omega | (have hG' := Z.gh rfl hG; simp at hG'; omega))⟩)) ?_
                refine Z.tk (Dn := fun j => j != 13) (i := 11) (fun _ => ⟨_, hs, by first | (simp; done) | exact fun e he => List.mem_append_right _ he⟩) ?_
                refine Z.t 12 rfl rfl rfl (by rfl) (by kernel_rfl) ⟨_, hs, by first | (simp; done) | exact fun e he => List.mem_append_right _ he⟩ (Z.Yd.fieldA (m := 0) rfl (by kernel_rfl)) ?_
                refine Z.tn 13 rfl rfl (by kernel_rfl) rfl trivial ?_
                first | refine Z.ZO.store rfl rfl hs Try.sizeOf3 rfl rfl rfl (by first | exact SX.at0 | exact SX.at1 | exact SX.at2 | exact SX.at3 | exact SX.at4 | exact SX.at5 | exact Z.at6 | exact Z.at7 | exact Z.at8 | exact Z.at9 | exact Z.at10 | exact Z.at11 | exact Z.at12) (by first | (simp; done) | (simp; omega)) ?_ | refine Z.ZO.storeR rfl rfl hs Try.sizeOf3 rfl rfl rfl (by first | exact SX.at0 | exact SX.at1 | exact SX.at2 | exact SX.at3 | exact SX.at4 | exact SX.at5 | exact Z.at6 | exact Z.at7 | exact Z.at8 | exact Z.at9 | exact Z.at10 | exact Z.at11 | exact Z.at12) (by first | omega | (simp [ints_length]; done) | (simp [ints_length]; omega)) ?_
                clear hs; intro ws hs
                simp only [Nat.zero_add, Nat.add_zero, Nat.reduceAdd, Int.reduceToNat, Nat.reduceMul, List.set_cons_zero, List.set_cons_succ, List.setIfInBounds_toArray] at hs
                refine Z.tk (Dn := fun j => j != 13) (i := 13) (fun h => absurd h (by decide)) ?_
                refine Z.td (by rfl) (by kernel_rfl) ?_
                refine Z.only [0, 1, 2, 7, 9] rfl ?_
                refine Z.nthen ?_
                first | exact Z.meet (qs.set i ((mpt k bs i).1 + (ptAt ns (i : Int)).1, (mpt k bs i).2)) (by refine ⟨?_, ?_, ?_, ?_, ?_, trivial⟩ <;> (first | rfl | (refine Z.lookv rfl ?_; simp; done) | (refine Z.lookv rfl ?_; simp; omega))) ⟨⟨_, rfl, by omega, by omega⟩, by have e := Z.flat_set (j := 0) (x' := ((mpt k bs i).1 + (ptAt ns (i : Int)).1, (mpt k bs i).2)) (u := .int .i64 ((mpt k bs i).1 + (ptAt ns (i : Int)).1)) encPt_length hsame (by omega) rfl; rw [← pcells_enc, ← pcells_enc] at e; rw [show (i : Int).toNat * 2 = i * 2 + 0 from by omega, e] at hs; exact hs⟩ | exact Z.meet (qs.set i (mpt k bs i)) (by refine ⟨?_, ?_, ?_, ?_, ?_, trivial⟩ <;> (first | rfl | (refine Z.lookv rfl ?_; simp; done) | (refine Z.lookv rfl ?_; simp; omega))) ⟨⟨(mpt k bs i).1, rfl, by omega, by omega⟩, by rw [set_same hsame]; exact hs⟩
                )
          · first
              | (exfalso; simp at hc9 <;> omega)
              | (
                (try simp at hc9)
                refine Z.skip ?_
                refine Z.nthen ?_
                first | exact Z.meet (qs.set i ((mpt k bs i).1 + (ptAt ns (i : Int)).1, (mpt k bs i).2)) (by refine ⟨?_, ?_, ?_, ?_, ?_, trivial⟩ <;> (first | rfl | (refine Z.lookv rfl ?_; simp; done) | (refine Z.lookv rfl ?_; simp; omega))) ⟨⟨_, rfl, by omega, by omega⟩, by have e := Z.flat_set (j := 0) (x' := ((mpt k bs i).1 + (ptAt ns (i : Int)).1, (mpt k bs i).2)) (u := .int .i64 ((mpt k bs i).1 + (ptAt ns (i : Int)).1)) encPt_length hsame (by omega) rfl; rw [← pcells_enc, ← pcells_enc] at e; rw [show (i : Int).toNat * 2 = i * 2 + 0 from by omega, e] at hs; exact hs⟩ | exact Z.meet (qs.set i (mpt k bs i)) (by refine ⟨?_, ?_, ?_, ?_, ?_, trivial⟩ <;> (first | rfl | (refine Z.lookv rfl ?_; simp; done) | (refine Z.lookv rfl ?_; simp; omega))) ⟨⟨(mpt k bs i).1, rfl, by omega, by omega⟩, by rw [set_same hsame]; exact hs⟩
                )
        · clear hs
          rintro x w2 ⟨⟨y, rfl, hy1, hy2⟩, hs⟩
          refine Z.only [0, 1, 2, 7, 9] rfl ?_
          have hpl2 := pcells_length (qs.set i (y, (mpt k bs i).2))
          rw [List.length_set] at hpl2
          have hs2 : (qs.set i (y, (mpt k bs i).2))[i]? = some (y, (mpt k bs i).2) := List.getElem?_set_self (by have := hI.len; omega)
          refine Z.seq ?_
          refine Z.region ?_
          refine Z.lb 2 rfl ?_
          refine Z.l rfl rfl (by rfl) (Z.keepS hs) (Z.Yd.elem rfl rfl Try.underlying25 Try.sizeOf32 (fun hG => ⟨(by first | omega | (have hG' := Z.gh rfl hG; simp at hG'; omega)), (by first | omega | (have hG' := Z.gh rfl hG; simp at hG'; omega))⟩)) ?_
          refine Z.l rfl rfl (by rfl) (Z.keepS hs) (Z.Yd.fieldA (m := 1) rfl (by kernel_rfl)) ?_
          refine Z.l rfl rfl (by rfl) (Z.keepS hs) (Z.Yd.load rfl Try.isAgg3 (fun _ => Z.cellXf (enc := encPt) (s := 2) hx2 encPt_length hf2 rfl)) ?_
          refine Z.lb 4 rfl ?_
          refine Z.l rfl rfl (by rfl) (Z.keepS hs) (Z.Yd.elem rfl rfl Try.underlying25 Try.sizeOf32 (fun hG => ⟨(by first | omega | (have hG' := Z.gh rfl hG; simp at hG'; omega)), (by first | omega | (have hG' := Z.gh rfl hG; simp at hG'; omega))⟩)) ?_
          refine Z.l rfl rfl (by rfl) (Z.keepS hs) (Z.Yd.fieldA (m := 1) rfl (by kernel_rfl)) ?_
          refine Z.l rfl rfl (by rfl) (Z.keepS hs) (Z.Yd.load rfl Try.isAgg3 (fun _ => Z.cellXf (enc := encPt) (s := 2) hx2 encPt_length hf2 rfl)) ?_
          refine Z.lb 2 rfl ?_
          refine Z.lnil ?_
          refine Z.only [0, 1, 2, 7, 9, 77] rfl ?_
          refine Z.nthen ?_
          refine Z.cond rfl (fun hc11 => ?_) (fun hc11 => ?_)
          · first
              | (exfalso; simp at hc11 <;> omega)
              | (
                (try simp at hc11)
                refine Z.drawK (fun j => j != 13) mixed hs ?_
                clear hs; intro wd12 hs
                refine Z.tb [0, 1] (by kernel_rfl) rfl ⟨_, hs, by first | (simp; done) | exact fun e he => List.mem_append_right _ he⟩ rfl ?_
                refine Z.t 2 rfl rfl rfl (by rfl) (by kernel_rfl) ⟨_, hs, by first | (simp; done) | exact fun e he => List.mem_append_right _ he⟩ (Z.Yd.elem rfl rfl Try.underlying25 Try.sizeOf32 (fun hG => ⟨(by first | omega | (have hG' := Z.gh rfl hG; simp at hG'; omega)), (by first | omega | (have hG' := Z.gh rfl hG; simp at hG'; omega))⟩)) ?_
                refine Z.t 3 rfl rfl rfl (by rfl) (by kernel_rfl) ⟨_, hs, by first | (simp; done) | exact fun e he => List.mem_append_right _ he⟩ (Z.Yd.fieldA (m := 1) rfl (by kernel_rfl)) ?_
                refine Z.t 4 rfl rfl rfl (by rfl) (by kernel_rfl) ⟨_, hs, by first | (simp; done) | exact fun e he => List.mem_append_right _ he⟩ (Z.Yd.load rfl Try.isAgg3 (fun _ => Z.cellR (xs := pcells (qs.set i (y, (mpt k bs i).2))) (by first | ((repeat (first | exact List.mem_cons_self | refine List.mem_cons_of_mem _ ?_ | refine List.mem_append_right _ ?_)); done) | fail) (Z.flat_pos (enc := encPt) encPt_length hs2 rfl))) ?_
                refine Z.tb [5, 6] (by kernel_rfl) rfl ⟨_, hs, by first | (simp; done) | exact fun e he => List.mem_append_right _ he⟩ rfl ?_
                refine Z.t 7 rfl rfl rfl (by rfl) (by kernel_rfl) ⟨_, hs, by first | (simp; done) | exact fun e he => List.mem_append_right _ he⟩ (Z.Yd.elem rfl rfl Try.underlying25 Try.sizeOf32 (fun hG => ⟨(by first | omega | (have hG' := Z.gh rfl hG; simp at hG'; omega)), (by first | omega | (have hG' := Z.gh rfl hG; simp at hG'; omega))⟩)) ?_
                refine Z.t 8 rfl rfl rfl (by rfl) (by kernel_rfl) ⟨_, hs, by first | (simp; done) | exact fun e he => List.mem_append_right _ he⟩ (Z.Yd.fieldA (m := 1) rfl (by kernel_rfl)) ?_
                refine Z.t 9 rfl rfl rfl (by rfl) (by kernel_rfl) ⟨_, hs, by first | (simp; done) | exact fun e he => List.mem_append_right _ he⟩ (Z.Yd.load rfl Try.isAgg3 (fun _ => Z.cellXf (enc := encPt) (s := 2) hx2 encPt_length hf2 rfl)) ?_
                refine Z.t 10 rfl rfl rfl (by rfl) (by kernel_rfl) ⟨_, hs, by first | (simp; done) | exact fun e he => List.mem_append_right _ he⟩ (Z.Yd.add rfl rfl (fun hG => Z.wi64 (by first | omega | (have hG' := Z.gh rfl hG; simp at hG'; omega)))) ?_
                refine Z.tn 11 rfl rfl (by kernel_rfl) rfl trivial ?_
                refine Z.ZO.quiet rfl (by rfl) (Z.keepS hs) (Z.Yd.elem rfl rfl Try.underlying25 Try.sizeOf32 (fun hG => ⟨(by first | omega | (have hG' := Z.gh rfl hG; simp at hG'; omega)), (by first | omega | (have hG' := Z.gh rfl hG; simp at hG'; omega))⟩)) ?_
                refine Z.tk (Dn := fun j => j != 13) (i := 11) (fun _ => ⟨_, hs, by first | (simp; done) | exact fun e he => List.mem_append_right _ he⟩) ?_
                refine Z.t 12 rfl rfl rfl (by rfl) (by kernel_rfl) ⟨_, hs, by first | (simp; done) | exact fun e he => List.mem_append_right _ he⟩ (Z.Yd.fieldA (m := 1) rfl (by kernel_rfl)) ?_
                refine Z.tn 13 rfl rfl (by kernel_rfl) rfl trivial ?_
                first | refine Z.ZO.store rfl rfl hs Try.sizeOf3 rfl rfl rfl (by first | exact SX.at0 | exact SX.at1 | exact SX.at2 | exact SX.at3 | exact SX.at4 | exact SX.at5 | exact Z.at6 | exact Z.at7 | exact Z.at8 | exact Z.at9 | exact Z.at10 | exact Z.at11 | exact Z.at12) (by first | (simp; done) | (simp; omega)) ?_ | refine Z.ZO.storeR rfl rfl hs Try.sizeOf3 rfl rfl rfl (by first | exact SX.at0 | exact SX.at1 | exact SX.at2 | exact SX.at3 | exact SX.at4 | exact SX.at5 | exact Z.at6 | exact Z.at7 | exact Z.at8 | exact Z.at9 | exact Z.at10 | exact Z.at11 | exact Z.at12) (by first | omega | (simp [ints_length]; done) | (simp [ints_length]; omega)) ?_
                clear hs; intro ws hs
                simp only [Nat.zero_add, Nat.add_zero, Nat.reduceAdd, Int.reduceToNat, Nat.reduceMul, List.set_cons_zero, List.set_cons_succ, List.setIfInBounds_toArray] at hs
                refine Z.tk (Dn := fun j => j != 13) (i := 13) (fun h => absurd h (by decide)) ?_
                refine Z.td (by rfl) (by kernel_rfl) ?_
                refine Z.only [0, 1, 2, 7, 9] rfl ?_
                refine Z.nblock ?_
                refine Z.nthen ?_
                refine Z.region ?_
                refine Z.lb 1 rfl ?_
                refine Z.l rfl rfl (by rfl) (Z.keepS hs) (Z.Yd.add rfl rfl (fun hG => Z.wi64 (by first | omega | (have hG' := Z.gh rfl hG; simp at hG'; omega)))) ?_
                refine Z.lb 1 rfl ?_
                refine Z.lnil ?_
                refine Z.only [0, 1, 2, 7, 9] rfl ?_
                refine Z.nthen ?_
                first
                | exact Z.again (i + 1, qs.set i (y, (mpt k bs i).2 + (ptAt ns (i : Int)).2)) (by refine ⟨?_, ?_, ?_, ?_, ?_, trivial⟩ <;> (first | rfl | (refine Z.lookv rfl ?_; simp; done) | (refine Z.lookv rfl ?_; simp; omega))) ⟨⟨by simp only; omega, hI.next (by omega) (by unfold Near; simp only; omega)⟩, by have e := Z.flat_set (j := 1) (x' := (y, (mpt k bs i).2 + (ptAt ns (i : Int)).2)) (u := .int .i64 ((mpt k bs i).2 + (ptAt ns (i : Int)).2)) encPt_length hs2 (by omega) rfl; rw [← pcells_enc, ← pcells_enc] at e; rw [show (i : Int).toNat * 2 + 1 = i * 2 + 1 from by omega, e, List.set_set] at hs; exact hs⟩ (by simp only; omega)
                | exact Z.again (i + 1, qs.set i (y, (mpt k bs i).2)) (by refine ⟨?_, ?_, ?_, ?_, ?_, trivial⟩ <;> (first | rfl | (refine Z.lookv rfl ?_; simp; done) | (refine Z.lookv rfl ?_; simp; omega))) ⟨⟨by simp only; omega, hI.next (by omega) (by unfold Near; simp only; omega)⟩, hs⟩ (by simp only; omega)
                )
          · first
              | (exfalso; simp at hc11 <;> omega)
              | (
                (try simp at hc11)
                refine Z.skip ?_
                refine Z.nblock ?_
                refine Z.nthen ?_
                refine Z.region ?_
                refine Z.lb 1 rfl ?_
                refine Z.l rfl rfl (by rfl) (Z.keepS hs) (Z.Yd.add rfl rfl (fun hG => Z.wi64 (by first | omega | (have hG' := Z.gh rfl hG; simp at hG'; omega)))) ?_
                refine Z.lb 1 rfl ?_
                refine Z.lnil ?_
                refine Z.only [0, 1, 2, 7, 9] rfl ?_
                refine Z.nthen ?_
                first
                | exact Z.again (i + 1, qs.set i (y, (mpt k bs i).2 + (ptAt ns (i : Int)).2)) (by refine ⟨?_, ?_, ?_, ?_, ?_, trivial⟩ <;> (first | rfl | (refine Z.lookv rfl ?_; simp; done) | (refine Z.lookv rfl ?_; simp; omega))) ⟨⟨by simp only; omega, hI.next (by omega) (by unfold Near; simp only; omega)⟩, by have e := Z.flat_set (j := 1) (x' := (y, (mpt k bs i).2 + (ptAt ns (i : Int)).2)) (u := .int .i64 ((mpt k bs i).2 + (ptAt ns (i : Int)).2)) encPt_length hs2 (by omega) rfl; rw [← pcells_enc, ← pcells_enc] at e; rw [show (i : Int).toNat * 2 + 1 = i * 2 + 1 from by omega, e, List.set_set] at hs; exact hs⟩ (by simp only; omega)
                | exact Z.again (i + 1, qs.set i (y, (mpt k bs i).2)) (by refine ⟨?_, ?_, ?_, ?_, ?_, trivial⟩ <;> (first | rfl | (refine Z.lookv rfl ?_; simp; done) | (refine Z.lookv rfl ?_; simp; omega))) ⟨⟨by simp only; omega, hI.next (by omega) (by unfold Near; simp only; omega)⟩, hs⟩ (by simp only; omega)
                )
        )
  · first
      | (exfalso; simp at hc7 <;> omega)
      | (
        (try simp at hc7)
        refine Z.exit ?_
        refine Z.xthen ?_
        refine Z.xthen ?_
        refine Z.xblock ?_
        refine Z.nthen ?_
        refine Z.seq ?_
        refine Z.region ?_
        have hins : ∀ p ∈ qs, ins p = true := fun p hp => by
          obtain ⟨j, hj⟩ := List.getElem?_of_mem hp
          exact near_ins hb hk hk3 (hI.near j p hj)
        have hback := back_all hb hk hk3 (by omega) hI.len hI.near
        refine Z.l rfl rfl (by rfl) (Z.keepS hs) (Z.Yd.pure rfl) ?_
        refine Z.lb 1 rfl ?_
        refine Z.le rfl trivial ?_
        refine Z.ZO.call rfl rfl (by rfl) rfl rfl Try.call18 rfl (decide_ok Ad q cd k qs _ (SX.row_slB hs (j := 0) rfl) hI.len (by omega) hk hk3 hins) ?_
        rintro v13_2 w13_2 ⟨Bd, co, rfl, hy⟩
        replace hs := hs.call hy
        clear hy
        try simp only [List.cons_append, List.nil_append, List.append_nil] at hs
        rw [hback, ← hn] at hs
        rw [← hn]
        refine Z.lb 5 rfl ?_
        refine Z.lnil ?_
        refine Z.only [1, 10, 11] rfl ?_
        refine Z.nthen ?_
        refine Z.seq ?_
        refine Z.region ?_
        refine Z.lb 3 rfl ?_
        refine Z.yes (s := 99) (b := true) rfl ((by decide)) rfl ?_
        refine Z.lb 2 rfl ?_
        have hsB := SX.row_slB hs (j := 0) rfl
        have hsA := hr.st (hs.sub (List.nil_sublist _))
        have hn1 : n ≤ 1000000 := by omega
        have HB := sameB_any Bd A n n n c bs bs _ hsB hsA hl hl rfl hn1
        refine Z.yes (s := 99) (b := true) rfl rfl rfl ?_
        refine Z.le rfl (by exact ⟨rfl, trivial⟩) ?_
        refine Z.ZO.call rfl rfl (by rfl) rfl rfl Try.call21 rfl (HB) ?_
        rintro v14_5 w14_5 ⟨rfl, hy⟩
        replace hs := hs.call hy
        clear hy
        try simp only [List.cons_append, List.nil_append, List.append_nil] at hs
        refine Z.l rfl rfl (by rfl) (Z.keepS hs) (Z.Yd.pickT rfl rfl) ?_
        refine Z.lb 1 rfl ?_
        refine Z.yes (s := 104) (b := true) rfl ((by decide)) rfl ?_
        refine Z.le rfl (by exact ⟨rfl, trivial⟩) ?_
        refine Z.ZO.call rfl rfl (by rfl) rfl rfl Try.call10 rfl (known_any _) ?_
        rintro v14_8 w14_8 ⟨rfl, hy⟩
        replace hs := hs.call hy
        clear hy
        try simp only [List.cons_append, List.nil_append, List.append_nil] at hs
        refine Z.l rfl rfl (by rfl) (Z.keepS hs) (Z.Yd.pickT rfl rfl) ?_
        refine Z.lb 1 rfl ?_
        refine Z.lnil ?_
        refine Z.only [6] rfl ?_
        refine Z.nthen ?_
        refine Z.ret ?_
        -- ret#0
        refine Z.out1 (by exact ⟨rfl, trivial⟩) ?_
        first | exact ⟨_, rfl, rfl, hs⟩ | exact ⟨_, rfl, rfl, hs.sub (List.nil_sublist _)⟩
        )

theorem qamBack_rd (a0 : Int) (a1 : Option Addr) (len1 cap1 : Nat) (a2 : Option Addr) (len2 cap2 : Nat) (w : World) (z0 : Rd Try.prog w 22 (Value.int .i64 a0).cells.toList) (z1 : Rd Try.prog w 23 (Value.slice a1 len1 cap1).cells.toList) (z2 : Rd Try.prog w 25 (Value.slice a2 len2 cap2).cells.toList) :
    Calls Try.prog 7 #[.int .i64 a0, .slice a1 len1 cap1, .slice a2 len2 cap2] w fun e w' => e = .returned (.bool true) ∧ Below w.heap.size w w' := by
  obtain ⟨bs, hl, hnc, hcm, hwf, hs⟩ := Rb.rd_bytes z1
  obtain ⟨ps, h1, h2, h3⟩ := rd_points z2
  have hc : (cap1 : Int) ≤ 9223372036854775807 := by unfold maxLen at hcm; omega
  have hl2 : len2 ≤ 9223372036854775807 := by unfold maxLen at h2; omega
  have key : Calls Try.prog 7 #[.int .i64 a0, .slice a1 len1 cap1, .slice a2 len2 cap2] w (SX.Ret fun v w' => v = .bool true ∧ SX.St w [] w' []) := by
    by_cases h6 : 600 < len1
    · exact back_long a0 a1 a2 len1 cap1 len2 cap2 w (by omega)
    have h6' : len1 ≤ 600 := by omega
    by_cases hv : vm a0 = true
    · have hm : a0 = 2 ∨ a0 = 4 ∨ a0 = 6 := by simp [vm] at hv; omega
      by_cases hr : (len1 : Int).tmod a0 = 0
      · obtain ⟨k, hk, hk3, rfl⟩ : ∃ k : Nat, 1 ≤ k ∧ k ≤ 3 ∧ a0 = ((2 * k : Nat) : Int) := by
          rcases hm with rfl | rfl | rfl
          · exact ⟨1, by omega, by omega, rfl⟩
          · exact ⟨2, by omega, by omega, rfl⟩
          · exact ⟨3, by omega, by omega, rfl⟩
        obtain ⟨q, hq⟩ : ∃ q, len1 = q * (2 * k) := by
          rw [Int.tmod_eq_emod_of_nonneg (by omega)] at hr
          have h1 : len1 % (2 * k) = 0 := by omega
          exact ⟨len1 / (2 * k), (Nat.div_mul_cancel (Nat.dvd_of_mod_eq_zero h1)).symm⟩
        by_cases hb : bs.any (fun x => decide (1 < x)) = true
        · exact back_bad _ 3 a1 a2 len1 cap1 len2 cap2 w h6' (by decide) fun W L hW => modulate_bit a1 len1 cap1 k q bs W (hs.st hW) hl hq hk hk3 h6' hb
        · refine back_ok a1 a2 len1 cap1 k q len2 cap2 bs ps w hs hl hq hk hk3 h6' hnc hc (fun b hbm => ?_) h3 h1 hl2
          have h1 := hwf b hbm
          have h2 : ¬ 1 < b := fun h => hb (List.any_eq_true.2 ⟨b, hbm, by simpa using h⟩)
          omega
      · exact back_bad _ 2 a1 a2 len1 cap1 len2 cap2 w h6' (by decide) fun W L hW => modulate_arg a1 len1 cap1 a0 W (.inr ⟨by omega, hr⟩) h6'
    · exact back_bad _ 2 a1 a2 len1 cap1 len2 cap2 w h6' (by decide) fun W L hW => modulate_arg a1 len1 cap1 a0 W (.inl (by simpa using hv)) h6'
  refine key.mono ?_
  rintro e w' ⟨v, rfl, rfl, h⟩
  exact ⟨rfl, h.below⟩
end Go.Proofs.Ythncbdoiilgnhaa

/- The laws QamLevels and QamOwn. -/
namespace Go.Proofs.Ythncbdoiilgnhaa
open Go.RowKit
set_option linter.unusedSimpArgs false
set_option linter.unusedVariables false
--newlaws

theorem vm_some {a0 : Int} (hv : vm a0 = true) : ∃ n : Nat, 1 ≤ n ∧ n ≤ 3 ∧ a0 = ((2 * n : Nat) : Int) := by
  have hm : a0 = 2 ∨ a0 = 4 ∨ a0 = 6 := by simp [vm] at hv; omega
  rcases hm with rfl | rfl | rfl
  · exact ⟨1, by omega, by omega, rfl⟩
  · exact ⟨2, by omega, by omega, rfl⟩
  · exact ⟨3, by omega, by omega, rfl⟩
theorem qlevels_bad (m : Int) (w : World) (hb : vm m = false) : Calls Try.prog 8 #[.int .i64 m] w (SX.Ret fun v w' => v = .bool true ∧ SX.St w [] w' []) := by
  have hs := SX.St.start w
  have hm : m ≠ 2 ∧ m ≠ 4 ∧ m ≠ 6 := by simpa [vm, and_assoc] using hb
  obtain ⟨e2, e4, e6⟩ := hm
  refine Z.enter Try.func8 rfl Try.ntmps8 rfl rfl ?_
  refine Z.seq ?_
  refine Z.region ?_
  refine Z.lb 1 rfl ?_
  refine Z.lnil ?_
  refine Z.only [0] rfl ?_
  refine Z.nthen ?_
  refine Z.seq ?_
  refine Z.region ?_
  refine Z.lb 1 rfl ?_
  refine Z.le rfl trivial ?_
  refine Z.ZO.call rfl rfl (by rfl) rfl rfl Try.call22 rfl (levels_bad m _ hb) ?_
  rintro v1_1 w1_1 ⟨rfl, hy⟩
  replace hs := hs.call hy
  clear hy
  try simp only [List.cons_append, List.nil_append, List.append_nil] at hs
  refine Z.lb 1 rfl ?_
  refine Z.lnil ?_
  refine Z.only [0, 3] rfl ?_
  refine Z.nthen ?_
  refine Z.seq ?_
  refine Z.seq ?_
  refine Z.region ?_
  refine Z.lb 10 rfl ?_
  refine Z.lnil ?_
  refine Z.only [0, 3, 17] rfl ?_
  refine Z.nthen ?_
  refine Z.cond rfl (fun hc2 => ?_) (fun h => absurd h (by simp [e2, e4, e6]))
  refine Z.seq ?_
  refine Z.region ?_
  refine Z.lb 1 rfl ?_
  refine Z.l rfl rfl (by rfl) (Z.keepS hs) (Z.Yd.lenS rfl Try.underlying38) ?_
  refine Z.lb 2 rfl ?_
  refine Z.yes (s := 21) (b := true) rfl ((by simp)) rfl ?_
  refine Z.le rfl (by exact ⟨rfl, trivial⟩) ?_
  refine Z.ZO.call rfl rfl (by rfl) rfl rfl Try.call10 rfl (known_any _) ?_
  rintro v3_4 w3_4 ⟨rfl, hy⟩
  replace hs := hs.call hy
  clear hy
  try simp only [List.cons_append, List.nil_append, List.append_nil] at hs
  refine Z.l rfl rfl (by rfl) (Z.keepS hs) (Z.Yd.pickT rfl rfl) ?_
  refine Z.lb 1 rfl ?_
  refine Z.lnil ?_
  refine Z.only [2] rfl ?_
  refine Z.nthen ?_
  refine Z.ret ?_
  repeat (first | refine Z.rthen ?_ | refine Z.rblock ?_ | refine Z.rscope ?_)
  -- ret#0
  refine Z.out1 (by exact ⟨rfl, trivial⟩) ?_
  first | exact ⟨_, rfl, rfl, hs⟩ | exact ⟨_, rfl, rfl, hs.sub (List.nil_sublist _)⟩
set_option maxHeartbeats 1000000 in
theorem qlevels_ok (n : Nat) (w : World) (h1 : 1 ≤ n) (h3 : n ≤ 3) : Calls Try.prog 8 #[.int .i64 ((2 * n : Nat) : Int)] w (SX.Ret fun v w' => v = .bool true ∧ SX.St w [] w' []) := by
  have hs := SX.St.start w
  have hsh := shl_n n h1 h3
  have hLv := lvls_len n
  have hget : ∀ i : Nat, i < 2 ^ n → elt (lvls n) (i : Int) = 2 * (i : Int) - ((2 ^ n : Nat) : Int) + 1 := fun i hi => by
    rw [elt_get (by rw [lvls_len]; exact hi)]
    simp [lvls]
  obtain ⟨N, hN⟩ : ∃ N, N = 2 ^ n := ⟨_, rfl⟩
  have hN8 : 2 ≤ N ∧ N ≤ 8 := by
    have h : n = 1 ∨ n = 2 ∨ n = 3 := by omega
    rcases h with rfl | rfl | rfl <;> rw [hN] <;> decide
  rw [← hN] at hsh hLv hget
  have hLL := fun W => levels_ok n W h1 h3
  rw [← hN] at hLL
  obtain ⟨m, hm⟩ : ∃ m : Int, m = ((2 * n : Nat) : Int) := ⟨_, rfl⟩
  rw [← hm] at hLL ⊢
  have h2 : m / 2 = (n : Int) := by omega
  refine Z.enter Try.func8 rfl Try.ntmps8 rfl rfl ?_
  refine Z.seq ?_
  refine Z.region ?_
  refine Z.lb 1 rfl ?_
  refine Z.lnil ?_
  refine Z.only [0] rfl ?_
  refine Z.nthen ?_
  refine Z.seq ?_
  refine Z.region ?_
  refine Z.lb 1 rfl ?_
  refine Z.le rfl trivial ?_
  refine Z.ZO.call rfl rfl (by rfl) rfl rfl Try.call22 rfl (hLL _) ?_
  rintro v1_1 w1_1 hy
  replace hs := hs.call hy
  clear hy
  try simp only [List.cons_append, List.nil_append, List.append_nil] at hs
  obtain ⟨A, c, rfl, -, -, -⟩ := SX.row_slv hs (j := 0) rfl
  refine Z.lb 1 rfl ?_
  refine Z.lnil ?_
  refine Z.only [0, 3] rfl ?_
  refine Z.nthen ?_
  refine Z.seq ?_
  refine Z.seq ?_
  refine Z.region ?_
  refine Z.lb 10 rfl ?_
  refine Z.lnil ?_
  refine Z.only [0, 3, 17] rfl ?_
  refine Z.nthen ?_
  refine Z.cond rfl (fun h => absurd h (by simp; omega)) (fun hc2 => ?_)
  refine Z.skip ?_
  refine Z.nthen ?_
  refine Z.seq ?_
  refine Z.region ?_
  refine Z.lb 1 rfl ?_
  refine Z.l rfl rfl (by rfl) (Z.keepS hs) (Z.Yd.quo rfl rfl (by intro hG; first | decide | omega) (by intro hG; first | exact Z.qi64 ⟨by omega, by omega⟩ (by omega) | exact rfl)) ?_
  rw [h2]
  refine Z.l rfl rfl (by rfl) (Z.keepS hs) (Z.Yd.shl rfl rfl (by intro hG; first | decide | omega) (fun _ => hsh)) ?_
  refine Z.lb 1 rfl ?_
  refine Z.lnil ?_
  refine Z.only [3, 4] rfl ?_
  refine Z.nthen ?_
  refine Z.seq ?_
  refine Z.seq ?_
  refine Z.region ?_
  refine Z.lb 1 rfl ?_
  refine Z.l rfl rfl (by rfl) (Z.keepS hs) (Z.Yd.lenS rfl Try.underlying38) ?_
  refine Z.lb 2 rfl ?_
  refine Z.lnil ?_
  refine Z.only [3, 4, 30] rfl ?_
  refine Z.nthen ?_
  refine Z.cond rfl (fun h => absurd h (by simp)) (fun hc5 => ?_)
  refine Z.skip ?_
  refine Z.nthen ?_
  refine Z.seq ?_
  refine Z.seq ?_
  refine Z.region ?_
  refine Z.lb 1 rfl ?_
  refine Z.lnil ?_
  refine Z.only [3, 4, 5] rfl ?_
  refine Z.nthen ?_
  refine Z.block ?_
  refine Z.loopk (ι := Nat) [3, 4] rfl (fun i => [(5, [], .int .i64 (i : Int))]) (fun i wr => i ≤ N ∧ SX.St w [] wr [SX.Ent.row (.slice A N c) 3 1 N (ints .i64 (lvls n))]) (fun i => N - i) 0 (by refine ⟨?_, trivial⟩ <;> (first | rfl | (refine Z.lookv rfl ?_; simp; done) | (refine Z.lookv rfl ?_; simp; omega))) ⟨by omega, hs⟩ ?_
  clear hs
  rintro i w1 ⟨hi, hs⟩
  refine Z.only [3, 4, 5] rfl ?_
  refine Z.seq ?_
  refine Z.seq ?_
  refine Z.region ?_
  refine Z.lb 3 rfl ?_
  refine Z.lnil ?_
  refine Z.only [3, 4, 5, 33] rfl ?_
  refine Z.nthen ?_
  refine Z.cond rfl (fun hc8 => ?_) (fun hc8 => ?_)
  · first
      | (exfalso; simp at hc8 <;> omega)
      | (
        (try simp at hc8)
        have hg := hget i (by omega)
        obtain ⟨gw, cw', e0, -, -⟩ := row_form (j := 0) hs rfl (by omega)
        simp only [Value.slice.injEq, true_and] at e0
        obtain ⟨rfl, rfl⟩ := e0
        refine Z.skip ?_
        refine Z.nthen ?_
        refine Z.seq ?_
        refine Z.block ?_
        refine Z.seq ?_
        refine Z.region ?_
        refine Z.lb 2 rfl ?_
        refine Z.l rfl rfl (by rfl) (Z.keepS hs) (Z.Yd.elem rfl rfl Try.underlying38 Try.sizeOf3 (fun hG => ⟨(by first | omega | (have hG' := Z.gh rfl hG; simp at hG'; omega)), (by first | omega | (have hG' := Z.gh rfl hG; simp at hG'; omega))⟩)) ?_
        refine Z.l rfl rfl (by rfl) (Z.keepS hs) (by first | exact Z.Yd.load rfl Try.isAgg3 (fun _ => Z.cellB (by first | ((repeat (first | exact List.mem_cons_self | refine List.mem_cons_of_mem _ ?_ | refine List.mem_append_right _ ?_)); done) | fail) rfl) | exact Z.Yd.load rfl Try.isAgg3 (fun hG => Z.cellR (by first | ((repeat (first | exact List.mem_cons_self | refine List.mem_cons_of_mem _ ?_ | refine List.mem_append_right _ ?_)); done) | fail) (Z.ints_at (by first | omega | (have hG' := Z.gh rfl hG; simp at hG'; omega)) (by first | omega | (have hG' := Z.gh rfl hG; simp at hG'; omega)))) | exact Z.Yd.load rfl Try.isAgg3 (fun hG => Z.cellXi (by assumption) (by first | omega | (have hG' := Z.gh rfl hG; simp at hG'; omega)) (by first | omega | (have hG' := Z.gh rfl hG; simp at hG'; omega))) | exact Z.Yd.load rfl Try.isAgg3 (fun hG => Z.cellS (by assumption) rfl (by first | omega | (have hG' := Z.gh rfl hG; simp at hG'; omega)) (by first | omega | (have hG' := Z.gh rfl hG; simp at hG'; omega))) | fail "load 10.3") ?_
        refine Z.lb 1 rfl ?_
        refine Z.l rfl rfl (by rfl) (Z.keepS hs) (Z.Yd.mul rfl rfl (fun hG => Z.wi64 (by first | omega | (have hG' := Z.gh rfl hG; simp at hG'; omega)))) ?_
        refine Z.lb 1 rfl ?_
        refine Z.l rfl rfl (by rfl) (Z.keepS hs) (Z.Yd.sub rfl rfl (fun hG => Z.wi64 (by first | omega | (have hG' := Z.gh rfl hG; simp at hG'; omega)))) ?_
        refine Z.l rfl rfl (by rfl) (Z.keepS hs) (Z.Yd.add rfl rfl (fun hG => Z.wi64 (by first | omega | (have hG' := Z.gh rfl hG; simp at hG'; omega)))) ?_
        refine Z.lb 1 rfl ?_
        refine Z.lnil ?_
        refine Z.only [3, 4, 5, 45] rfl ?_
        refine Z.nthen ?_
        refine Z.cond rfl (fun h => absurd h (by simp; omega)) (fun hc10 => ?_)
        refine Z.skip ?_
        refine Z.nblock ?_
        refine Z.nthen ?_
        refine Z.region ?_
        refine Z.lb 1 rfl ?_
        refine Z.l rfl rfl (by rfl) (Z.keepS hs) (Z.Yd.add rfl rfl (fun hG => Z.wi64 (by first | omega | (have hG' := Z.gh rfl hG; simp at hG'; omega)))) ?_
        refine Z.lb 1 rfl ?_
        refine Z.lnil ?_
        refine Z.only [3, 4, 5] rfl ?_
        refine Z.nthen ?_
        exact Z.again (i + 1) (by refine ⟨?_, ?_, ?_, trivial⟩ <;> (first | rfl | (refine Z.lookv rfl ?_; simp; done) | (refine Z.lookv rfl ?_; simp; omega))) ⟨by omega, hs⟩ (by omega)
        )
  · first
      | (exfalso; simp at hc8 <;> omega)
      | (
        (try simp at hc8)
        refine Z.exit ?_
        refine Z.xthen ?_
        refine Z.xthen ?_
        refine Z.xblock ?_
        refine Z.nthen ?_
        refine Z.seq ?_
        refine Z.region ?_
        refine Z.le rfl trivial ?_
        refine Z.ZO.call rfl rfl (by rfl) rfl rfl Try.call10 rfl (known_any _) ?_
        rintro v12_0 w12_0 ⟨rfl, hy⟩
        replace hs := hs.call hy
        clear hy
        try simp only [List.cons_append, List.nil_append, List.append_nil] at hs
        refine Z.lb 1 rfl ?_
        refine Z.lnil ?_
        refine Z.only [2] rfl ?_
        refine Z.nthen ?_
        refine Z.ret ?_
        -- ret#0
        refine Z.out1 (by exact ⟨rfl, trivial⟩) ?_
        exact ⟨_, rfl, rfl, hs.sub (List.nil_sublist _)⟩
        )
theorem qamLevels_rd (a0 : Int) (w : World) (z0 : Rd Try.prog w 22 (Value.int .i64 a0).cells.toList) :
    Calls Try.prog 8 #[.int .i64 a0] w fun e w' => e = .returned (.bool true) ∧ Below w.heap.size w w' := by
  have key : Calls Try.prog 8 #[.int .i64 a0] w (SX.Ret fun v w' => v = .bool true ∧ SX.St w [] w' []) := by
    by_cases hv : vm a0 = true
    · obtain ⟨n, h1, h3, rfl⟩ := vm_some hv
      exact qlevels_ok n w h1 h3
    · exact qlevels_bad a0 w (by simpa using hv)
  refine key.mono ?_
  rintro e w' ⟨v, rfl, rfl, h⟩
  exact ⟨rfl, h.below⟩
end Go.Proofs.Ythncbdoiilgnhaa

/- The law QamOwn. -/
namespace Go.Proofs.Ythncbdoiilgnhaa
open Go.RowKit
set_option linter.unusedSimpArgs false
set_option linter.unusedVariables false
--newlaws

theorem ownB_any (A : Option Addr) (n c : Nat) (bs : List Int) (w : World) (hx : Sl w A (ints .u8 bs)) (hl : bs.length = n) (hn : n ≤ 600) :
    Calls Try.prog 23 #[.slice A n c] w (SX.Ret fun v w' => SX.St w [] w' [SX.Ent.row v 5 1 n (ints .u8 bs)]) := by
  have hs := SX.St.start w
  refine Z.enter Try.func23 rfl Try.ntmps23 rfl rfl ?_
  refine Z.seq ?_
  refine Z.region ?_
  refine Z.lb 1 rfl ?_
  refine Z.lnil ?_
  refine Z.only [0] rfl ?_
  refine Z.nthen ?_
  refine Z.seq ?_
  refine Z.region ?_
  replace hs := hs.nil 5 1
  refine Z.l rfl rfl (by rfl) (Z.keepS hs) (Z.Yd.pure rfl) ?_
  refine Z.le rfl trivial ?_
  refine Z.ZO.appendG (i0 := Try.t5) (size := 1) (bytes := 1) rfl rfl (by rfl) hs Try.underlying23 (by kernel_rfl) rfl rfl rfl rfl (by decide) rfl rfl (by first | exact SX.at0 | exact SX.at1 | exact SX.at2 | exact SX.at3 | exact SX.at4 | exact SX.at5 | exact Z.at6 | exact Z.at7 | exact Z.at8 | exact Z.at9 | exact Z.at10 | exact Z.at11 | exact Z.at12) (hx.st (hs.sub (List.nil_sublist _))) (by first | rfl | assumption | (simp [ints_length]; done) | (simp [ints_length]; omega)) (by first | exact Z.ints_one | assumption | simp [Value.oneCell']) (by unfold maxLen; omega) (by omega) ?_
  clear hs; intro v4 w4 hs
  simp only [List.set_cons_zero, List.set_cons_succ] at hs
  refine Z.lb 1 rfl ?_
  refine Z.lnil ?_
  refine Z.only [2] rfl ?_
  refine Z.nthen ?_
  refine Z.ret ?_
  -- ret#0
  refine Z.out1 (by exact ⟨rfl, trivial⟩) ?_
  exact ⟨_, rfl, by simpa using hs.sub ((List.nil_sublist _).cons_cons _)⟩
theorem own_long (m : Int) (A : Option Addr) (n c : Nat) (w : World) (hn : 600 < n) :
    Calls Try.prog 9 #[.int .i64 m, .slice A n c] w (SX.Ret fun v w' => v = .bool true ∧ SX.St w [] w' []) := by
  have hs := SX.St.start w
  refine Z.enter Try.func9 rfl Try.ntmps9 rfl rfl ?_
  refine Z.seq ?_
  refine Z.region ?_
  refine Z.lb 1 rfl ?_
  refine Z.lnil ?_
  refine Z.only [0, 1] rfl ?_
  refine Z.nthen ?_
  refine Z.seq ?_
  refine Z.seq ?_
  refine Z.region ?_
  refine Z.lb 1 rfl ?_
  refine Z.l rfl rfl (by rfl) (Z.keepS hs) (Z.Yd.lenS rfl Try.underlying23) ?_
  refine Z.lb 1 rfl ?_
  refine Z.lnil ?_
  refine Z.only [0, 1, 21] rfl ?_
  refine Z.nthen ?_
  refine Z.cond rfl (fun hc1 => ?_) (fun h => absurd h (by simp; omega))
  refine Z.seq ?_
  refine Z.region ?_
  refine Z.le rfl trivial ?_
  refine Z.ZO.call rfl rfl (by rfl) rfl rfl Try.call10 rfl (known_any _) ?_
  rintro v2_0 w2_0 ⟨rfl, hy⟩
  replace hs := hs.call hy
  clear hy
  try simp only [List.cons_append, List.nil_append, List.append_nil] at hs
  refine Z.lb 1 rfl ?_
  refine Z.lnil ?_
  refine Z.only [4] rfl ?_
  refine Z.nthen ?_
  refine Z.ret ?_
  repeat (first | refine Z.rthen ?_ | refine Z.rblock ?_ | refine Z.rscope ?_)
  -- ret#0
  refine Z.out1 (by exact ⟨rfl, trivial⟩) ?_
  first | exact ⟨_, rfl, rfl, hs⟩ | exact ⟨_, rfl, rfl, hs.sub (List.nil_sublist _)⟩
theorem own_bad (m e : Int) (A : Option Addr) (n c : Nat) (bs : List Int) (w : World) (hx : Sl w A (ints .u8 bs)) (hl : bs.length = n) (hn : n ≤ 600) (he : e ≠ 0)
    (h : ∀ A' c' W, n ≤ c' → c' ≤ maxLen → Sl W A' (ints .u8 bs) → Calls Try.prog 11 #[.int .i64 m, .slice A' n c'] W (SX.Ret fun v w' => v = .tuple #[.slice none 0 0, .int .i64 e] ∧ SX.St W [] w' [])) :
    Calls Try.prog 9 #[.int .i64 m, .slice A n c] w (SX.Ret fun v w' => v = .bool true ∧ SX.St w [] w' []) := by
  have hs := SX.St.start w
  refine Z.enter Try.func9 rfl Try.ntmps9 rfl rfl ?_
  refine Z.seq ?_
  refine Z.region ?_
  refine Z.lb 1 rfl ?_
  refine Z.lnil ?_
  refine Z.only [0, 1] rfl ?_
  refine Z.nthen ?_
  refine Z.seq ?_
  refine Z.seq ?_
  refine Z.region ?_
  refine Z.lb 1 rfl ?_
  refine Z.l rfl rfl (by rfl) (Z.keepS hs) (Z.Yd.lenS rfl Try.underlying23) ?_
  refine Z.lb 1 rfl ?_
  refine Z.lnil ?_
  refine Z.only [0, 1, 21] rfl ?_
  refine Z.nthen ?_
  refine Z.cond rfl (fun h => absurd h (by simp; omega)) (fun hc1 => ?_)
  refine Z.skip ?_
  refine Z.nthen ?_
  refine Z.seq ?_
  refine Z.region ?_
  refine Z.lb 1 rfl ?_
  refine Z.le rfl trivial ?_
  refine Z.ZO.call rfl rfl (by rfl) rfl rfl Try.call23 rfl (ownB_any A n c bs _ (hx.st hs) hl hn) ?_
  rintro v3_1 w3_1 hy
  replace hs := hs.call hy
  clear hy
  try simp only [List.cons_append, List.nil_append, List.append_nil] at hs
  obtain ⟨Ao, co, rfl, ho1, ho2, -⟩ := SX.row_slv hs (j := 0) rfl
  refine Z.lb 1 rfl ?_
  refine Z.lnil ?_
  refine Z.only [0, 1, 5] rfl ?_
  refine Z.nthen ?_
  refine Z.seq ?_
  refine Z.region ?_
  refine Z.lb 2 rfl ?_
  refine Z.le rfl trivial ?_
  refine Z.ZO.call rfl rfl (by rfl) rfl rfl Try.call11 rfl (h Ao co _ ho1 ho2 (SX.row_slB hs (j := 0) rfl)) ?_
  rintro v4_2 w4_2 ⟨rfl, hy⟩
  replace hs := hs.call hy
  clear hy
  try simp only [List.cons_append, List.nil_append, List.append_nil] at hs
  refine Z.lb 5 rfl ?_
  refine Z.lnil ?_
  refine Z.only [0, 1, 5, 6, 7] rfl ?_
  refine Z.nthen ?_
  refine Z.seq ?_
  refine Z.seq ?_
  refine Z.region ?_
  refine Z.lb 2 rfl ?_
  refine Z.lnil ?_
  refine Z.only [0, 1, 5, 6, 32] rfl ?_
  refine Z.nthen ?_
  refine Z.cond rfl (fun hc5 => ?_) (fun h => absurd h (by simpa using he))
  refine Z.seq ?_
  refine Z.region ?_
  refine Z.lb 2 rfl ?_
  refine Z.le rfl trivial ?_
  refine Z.ZO.call rfl rfl (by rfl) rfl rfl Try.call21 rfl (sameB_any Ao A n n co c bs bs _ (SX.row_slB hs (j := 0) rfl) (hx.st (hs.sub (List.nil_sublist _))) hl hl rfl (by omega)) ?_
  rintro v6_2 w6_2 ⟨rfl, hy⟩
  replace hs := hs.call hy
  clear hy
  try simp only [List.cons_append, List.nil_append, List.append_nil] at hs
  refine Z.lb 1 rfl ?_
  refine Z.yes (s := 36) (b := true) rfl ((by simp)) rfl ?_
  refine Z.le rfl (by exact ⟨rfl, trivial⟩) ?_
  refine Z.ZO.call rfl rfl (by rfl) rfl rfl Try.call10 rfl (known_any _) ?_
  rintro v6_4 w6_4 ⟨rfl, hy⟩
  replace hs := hs.call hy
  clear hy
  try simp only [List.cons_append, List.nil_append, List.append_nil] at hs
  refine Z.l rfl rfl (by rfl) (Z.keepS hs) (Z.Yd.pickT rfl rfl) ?_
  refine Z.lb 1 rfl ?_
  refine Z.lnil ?_
  refine Z.only [4] rfl ?_
  refine Z.nthen ?_
  refine Z.ret ?_
  repeat (first | refine Z.rthen ?_ | refine Z.rblock ?_ | refine Z.rscope ?_)
  -- ret#0
  refine Z.out1 (by exact ⟨rfl, trivial⟩) ?_
  exact ⟨_, rfl, rfl, hs.sub (List.nil_sublist _)⟩
theorem ints_set (κ : IntKind) (xs : List Int) (i : Nat) (v : Int) : (ints κ xs).set (i * 1) (.int κ v) = ints κ (xs.set i v) := by
  simp [ints, List.map_set]
set_option maxHeartbeats 2000000 in
set_option maxRecDepth 100000 in
theorem own_ok (A : Option Addr) (n c k q : Nat) (bs : List Int) (w : World) (hr : Sl w A (ints .u8 bs)) (hl : bs.length = n) (hn : n = q * (2 * k)) (hk : 1 ≤ k) (hk3 : k ≤ 3) (hn6 : n ≤ 600) (hb : ∀ b ∈ bs, b = 0 ∨ b = 1) :
    Calls Try.prog 9 #[.int .i64 ((2 * k : Nat) : Int), .slice A n c] w (SX.Ret fun v w' => v = .bool true ∧ SX.St w [] w' []) := by
  have hs := SX.St.start w
  have hq : q ≤ n := by rw [hn]; exact Nat.le_mul_of_pos_right q (by omega)
  obtain ⟨ps, hps⟩ : ∃ ps, ps = (List.range q).map (mpt k bs) := ⟨_, rfl⟩
  have hpl : ps.length = q := by rw [hps]; simp
  have hpi : ∀ p ∈ ps, ins p = true := by
    rw [hps]
    intro p hp
    obtain ⟨j, -, rfl⟩ := List.mem_map.1 hp
    have h1 := mpt_near (k := k) (j := j) hb hk hk3
    simp only [ins, Bool.and_eq_true, decide_eq_true_eq]
    omega
  have hdl := dml_length k ps
  rw [hpl, ← hn] at hdl
  have hN8 : (2 : Nat) ^ k ≤ 8 := by
    have h : k = 1 ∨ k = 2 ∨ k = 3 := by omega
    rcases h with rfl | rfl | rfl <;> decide
  have hLl := lvls_len k
  have hM := fun A c W (h : Sl W A (ints .u8 bs)) h1 h2 => modulate_ok A n c k q bs W h hl hn hk hk3 hn6 h1 h2 hb
  have hD := fun A c W (h : Sl W A (pcells ps)) => demod_ok A q c k ps W h hpl (by omega) hk hk3 hpi
  have hE := fun A c W (h : Sl W A (pcells ps)) => decide_ok A q c k ps W h hpl (by omega) hk hk3 hpi
  have hV := fun W => levels_ok k W hk hk3
  rw [← hn] at hD hE
  rw [← hps] at hM
  obtain ⟨K, hK⟩ : ∃ K, K = 2 ^ k := ⟨_, rfl⟩
  rw [← hK] at hN8 hLl hV
  obtain ⟨m, hm⟩ : ∃ m : Int, m = ((2 * k : Nat) : Int) := ⟨_, rfl⟩
  rw [← hm] at hM hD hE hV ⊢
  obtain ⟨dl, hdd⟩ : ∃ dl, dl = dml k ps := ⟨_, rfl⟩
  rw [← hdd] at hdl hD hE
  have hpc : (pcells ps).length = q * 2 := by rw [pcells_length, hpl]
  have hpo : ∀ u ∈ pcells ps, u.oneCell' = true := by
    intro u hu
    obtain ⟨p, -, hp⟩ := List.mem_flatMap.1 hu
    simp only [List.mem_cons, List.mem_nil_iff, or_false] at hp
    rcases hp with rfl | rfl <;> rfl
  refine Z.enter Try.func9 rfl Try.ntmps9 rfl rfl ?_
  refine Z.seq ?_
  refine Z.region ?_
  refine Z.lb 1 rfl ?_
  refine Z.lnil ?_
  refine Z.only [0, 1] rfl ?_
  refine Z.nthen ?_
  refine Z.seq ?_
  refine Z.seq ?_
  refine Z.region ?_
  refine Z.lb 1 rfl ?_
  refine Z.l rfl rfl (by rfl) (Z.keepS hs) (Z.Yd.lenS rfl Try.underlying23) ?_
  refine Z.lb 1 rfl ?_
  refine Z.lnil ?_
  refine Z.only [0, 1, 21] rfl ?_
  refine Z.nthen ?_
  refine Z.cond rfl (fun h => absurd h (by simp; omega)) (fun hc1 => ?_)
  refine Z.skip ?_
  refine Z.nthen ?_
  refine Z.seq ?_
  refine Z.region ?_
  refine Z.lb 1 rfl ?_
  refine Z.le rfl trivial ?_
  refine Z.ZO.call rfl rfl (by rfl) rfl rfl Try.call23 rfl (ownB_any A n c bs _ (hr.st hs) hl hn6) ?_
  rintro v3_1 w3_1 hy
  replace hs := hs.call hy
  clear hy
  try simp only [List.cons_append, List.nil_append, List.append_nil] at hs
  obtain ⟨Ao, co, rfl, ho1, ho2, -⟩ := SX.row_slv hs (j := 0) rfl
  refine Z.lb 1 rfl ?_
  refine Z.lnil ?_
  refine Z.only [0, 1, 5] rfl ?_
  refine Z.nthen ?_
  refine Z.seq ?_
  refine Z.region ?_
  refine Z.lb 2 rfl ?_
  refine Z.le rfl trivial ?_
  refine Z.ZO.call rfl rfl (by rfl) rfl rfl Try.call11 rfl (hM Ao co _ (SX.row_slB hs (j := 0) rfl) ho1 (by unfold maxLen at ho2; omega)) ?_
  rintro v4_2 w4_2 ⟨sl, rfl, hy⟩
  replace hs := hs.call hy
  clear hy
  try simp only [List.cons_append, List.nil_append, List.append_nil] at hs
  obtain ⟨Al, cl, rfl, -, -, -⟩ := SX.row_slv hs (j := 0) rfl
  refine Z.lb 5 rfl ?_
  refine Z.lnil ?_
  refine Z.only [0, 1, 5, 6, 7] rfl ?_
  refine Z.nthen ?_
  refine Z.seq ?_
  refine Z.seq ?_
  refine Z.region ?_
  refine Z.lb 2 rfl ?_
  refine Z.lnil ?_
  refine Z.only [0, 1, 5, 6, 32] rfl ?_
  refine Z.nthen ?_
  refine Z.cond rfl (fun h => absurd h (by simp)) (fun hc5 => ?_)
  refine Z.skip ?_
  refine Z.nthen ?_
  refine Z.seq ?_
  refine Z.region ?_
  replace hs := hs.nil 32 2
  refine Z.l rfl rfl (by rfl) (Z.keepS hs) (Z.Yd.pure rfl) ?_
  refine Z.le rfl trivial ?_
  refine Z.ZO.appendG (i0 := Try.t32) (size := 2) (bytes := 16) rfl rfl (by rfl) hs Try.underlying25 (by kernel_rfl) rfl rfl rfl rfl (by decide) rfl rfl (by first | exact SX.at0 | exact SX.at1 | exact SX.at2 | exact SX.at3 | exact SX.at4 | exact SX.at5 | exact Z.at6 | exact Z.at7 | exact Z.at8 | exact Z.at9 | exact Z.at10 | exact Z.at11 | exact Z.at12) (SX.row_slB hs (j := 1) rfl) (by first | rfl | assumption | (simp [ints_length]; done) | (simp [ints_length]; omega)) (by first | exact Z.ints_one | assumption | simp [Value.oneCell']) (by unfold maxLen; omega) (by omega) ?_
  clear hs; intro v40 w40 hs
  simp only [List.set_cons_zero, List.set_cons_succ] at hs
  refine Z.lb 1 rfl ?_
  refine Z.lnil ?_
  refine Z.only [0, 1, 5, 6, 8] rfl ?_
  refine Z.nthen ?_
  refine Z.seq ?_
  refine Z.region ?_
  refine Z.lb 2 rfl ?_
  refine Z.le rfl trivial ?_
  refine Z.ZO.call rfl rfl (by rfl) rfl rfl Try.call17 rfl (hD Al cl _ (SX.row_slB hs (j := 1) rfl)) ?_
  rintro v8_2 w8_2 ⟨ss, rfl, hy⟩
  replace hs := hs.call hy
  clear hy
  try simp only [List.cons_append, List.nil_append, List.append_nil] at hs
  obtain ⟨As, cs, rfl, -, -, -⟩ := SX.row_slv hs (j := 0) rfl
  refine Z.lb 5 rfl ?_
  refine Z.lnil ?_
  refine Z.only [0, 1, 5, 6, 8, 9, 10] rfl ?_
  refine Z.nthen ?_
  refine Z.seq ?_
  refine Z.region ?_
  refine Z.lb 2 rfl ?_
  refine Z.le rfl trivial ?_
  refine Z.ZO.call rfl rfl (by rfl) rfl rfl Try.call18 rfl (hE Al cl _ (SX.row_slB hs (j := 2) rfl)) ?_
  rintro v9_2 w9_2 ⟨B, cb, rfl, hy⟩
  replace hs := hs.call hy
  clear hy
  try simp only [List.cons_append, List.nil_append, List.append_nil] at hs
  refine Z.lb 5 rfl ?_
  refine Z.lnil ?_
  refine Z.only [0, 1, 5, 6, 8, 9, 10, 11, 12] rfl ?_
  rw [Nat.zero_add] at hs
  have hsl : (dl.map sgn).length = n := by rw [List.length_map, hdl]
  refine Z.nthen ?_
  refine Z.seq ?_
  refine Z.seq ?_
  refine Z.region ?_
  refine Z.lb 1 rfl ?_
  refine Z.lnil ?_
  refine Z.only [0, 1, 5, 6, 8, 9, 10, 11, 12, 13] rfl ?_
  refine Z.nthen ?_
  refine Z.block ?_
  refine Z.loopk (ι := Nat × List Int) [0, 1, 5, 6, 8, 9, 10, 11, 12] rfl (fun x => [(13, [], .int .i64 (x.1 : Int))]) (fun x wr => (x.1 ≤ n ∧ x.2.length = n) ∧ SX.St w [] wr [SX.Ent.row (.slice B n cb) 5 1 n (ints .u8 (dl.map sgn)), SX.Ent.row (.slice As n cs) 3 1 n (ints .i64 x.2), SX.Ent.row v40 32 2 q (pcells ps), SX.Ent.row (.slice Al q cl) 32 2 q (pcells ps), SX.Ent.row (.slice Ao n co) 5 1 n (ints .u8 bs)]) (fun x => n - x.1) (0, dl) (by refine ⟨?_, trivial⟩ <;> (first | rfl | (refine Z.lookv rfl ?_; simp; done) | (refine Z.lookv rfl ?_; simp; omega))) ⟨⟨Nat.zero_le _, hdl⟩, hs⟩ ?_
  clear hs
  rintro ⟨i, xs⟩ w1 ⟨⟨hi, hxl⟩, hs⟩
  refine Z.only [0, 1, 5, 6, 8, 9, 10, 11, 12, 13] rfl ?_
  (try dsimp only at hs)
  dsimp only at hi hxl
  refine Z.seq ?_
  refine Z.seq ?_
  refine Z.region ?_
  refine Z.lb 2 rfl ?_
  refine Z.l rfl rfl (by rfl) (Z.keepS hs) (Z.Yd.lenS rfl Try.underlying38) ?_
  refine Z.lb 1 rfl ?_
  refine Z.lnil ?_
  refine Z.only [0, 1, 5, 6, 8, 9, 10, 11, 12, 13, 56] rfl ?_
  refine Z.nthen ?_
  refine Z.cond rfl (fun hc11 => ?_) (fun hc11 => ?_)
  · first
      | (exfalso; simp at hc11 <;> omega)
      | (
        (try simp at hc11)
        obtain ⟨gw, cw', e0, -, -⟩ := row_form (j := 1) hs rfl (by omega)
        simp only [Value.slice.injEq, true_and] at e0
        obtain ⟨rfl, rfl⟩ := e0
        refine Z.skip ?_
        refine Z.nthen ?_
        refine Z.seq ?_
        refine Z.block ?_
        refine Z.region ?_
        refine Z.lb 2 rfl ?_
        refine Z.l rfl rfl (by rfl) (Z.keepS hs) (Z.Yd.elem rfl rfl Try.underlying38 Try.sizeOf3 (fun hG => ⟨(by first | omega | (have hG' := Z.gh rfl hG; simp at hG'; omega)), (by first | omega | (have hG' := Z.gh rfl hG; simp at hG'; omega))⟩)) ?_
        refine Z.le rfl trivial ?_
        first | refine Z.ZO.store rfl rfl hs Try.sizeOf3 rfl rfl rfl (by first | exact SX.at0 | exact SX.at1 | exact SX.at2 | exact SX.at3 | exact SX.at4 | exact SX.at5 | exact Z.at6 | exact Z.at7 | exact Z.at8 | exact Z.at9 | exact Z.at10 | exact Z.at11 | exact Z.at12) (by first | (simp; done) | (simp; omega)) ?_ | refine Z.ZO.storeR rfl rfl hs Try.sizeOf3 rfl rfl rfl (by first | exact SX.at0 | exact SX.at1 | exact SX.at2 | exact SX.at3 | exact SX.at4 | exact SX.at5 | exact Z.at6 | exact Z.at7 | exact Z.at8 | exact Z.at9 | exact Z.at10 | exact Z.at11 | exact Z.at12) (by first | omega | (simp [ints_length]; done) | (simp [ints_length]; omega)) ?_
        clear hs; intro ws hs
        simp only [Nat.zero_add, Nat.add_zero, Nat.reduceAdd, Int.reduceToNat, Nat.reduceMul, List.set_cons_zero, List.set_cons_succ, List.setIfInBounds_toArray] at hs
        refine Z.lnil ?_
        refine Z.only [0, 1, 5, 6, 8, 9, 10, 11, 12, 13] rfl ?_
        refine Z.nblock ?_
        refine Z.nthen ?_
        refine Z.region ?_
        refine Z.lb 1 rfl ?_
        refine Z.l rfl rfl (by rfl) (Z.keepS hs) (Z.Yd.add rfl rfl (fun hG => Z.wi64 (by first | omega | (have hG' := Z.gh rfl hG; simp at hG'; omega)))) ?_
        refine Z.lb 1 rfl ?_
        refine Z.lnil ?_
        refine Z.only [0, 1, 5, 6, 8, 9, 10, 11, 12, 13] rfl ?_
        refine Z.nthen ?_
        rw [show (i : Int).toNat * 1 = i * 1 from rfl, ints_set] at hs
        exact Z.again (i + 1, xs.set i 99) (by refine ⟨?_, ?_, ?_, ?_, ?_, ?_, ?_, ?_, ?_, ?_, trivial⟩ <;> (first | rfl | (refine Z.lookv rfl ?_; simp; done) | (refine Z.lookv rfl ?_; simp; omega))) ⟨⟨by simp only; omega, by simp only [List.length_set]; omega⟩, hs⟩ (by simp only; omega)
        )
  · first
      | (exfalso; simp at hc11 <;> omega)
      | (
        (try simp at hc11)
        refine Z.exit ?_
        refine Z.xthen ?_
        refine Z.xthen ?_
        refine Z.xblock ?_
        refine Z.nthen ?_
        refine Z.seq ?_
        refine Z.seq ?_
        refine Z.region ?_
        refine Z.lb 1 rfl ?_
        refine Z.lnil ?_
        refine Z.only [0, 1, 5, 6, 8, 10, 11, 12, 14] rfl ?_
        refine Z.nthen ?_
        refine Z.block ?_
        refine Z.loopk (ι := Nat × List Int) [0, 1, 5, 6, 8, 10, 11, 12] rfl (fun x => [(14, [], .int .i64 (x.1 : Int))]) (fun x wr => (x.1 ≤ n ∧ x.2.length = n) ∧ SX.St w [] wr [SX.Ent.row (.slice B n cb) 5 1 n (ints .u8 x.2), SX.Ent.row (.slice As n cs) 3 1 n (ints .i64 xs), SX.Ent.row v40 32 2 q (pcells ps), SX.Ent.row (.slice Al q cl) 32 2 q (pcells ps), SX.Ent.row (.slice Ao n co) 5 1 n (ints .u8 bs)]) (fun x => n - x.1) (0, dl.map sgn) (by refine ⟨?_, trivial⟩ <;> (first | rfl | (refine Z.lookv rfl ?_; simp; done) | (refine Z.lookv rfl ?_; simp; omega))) ⟨⟨Nat.zero_le _, hsl⟩, hs⟩ ?_
        clear hs
        rintro ⟨j, ys⟩ w2 ⟨⟨hj, hyl⟩, hs⟩
        refine Z.only [0, 1, 5, 6, 8, 10, 11, 12, 14] rfl ?_
        (try dsimp only at hs)
        dsimp only at hj hyl
        refine Z.seq ?_
        refine Z.seq ?_
        refine Z.region ?_
        refine Z.lb 2 rfl ?_
        refine Z.l rfl rfl (by rfl) (Z.keepS hs) (Z.Yd.lenS rfl Try.underlying23) ?_
        refine Z.lb 1 rfl ?_
        refine Z.lnil ?_
        refine Z.only [0, 1, 5, 6, 8, 10, 11, 12, 14, 65] rfl ?_
        refine Z.nthen ?_
        refine Z.cond rfl (fun hc15 => ?_) (fun hc15 => ?_)
        · first
            | (exfalso; simp at hc15 <;> omega)
            | (
              (try simp at hc15)
              obtain ⟨gw, cw', e0, -, -⟩ := row_form (j := 0) hs rfl (by omega)
              simp only [Value.slice.injEq, true_and] at e0
              obtain ⟨rfl, rfl⟩ := e0
              refine Z.skip ?_
              refine Z.nthen ?_
              refine Z.seq ?_
              refine Z.block ?_
              refine Z.region ?_
              refine Z.lb 2 rfl ?_
              refine Z.l rfl rfl (by rfl) (Z.keepS hs) (Z.Yd.elem rfl rfl Try.underlying23 Try.sizeOf5 (fun hG => ⟨(by first | omega | (have hG' := Z.gh rfl hG; simp at hG'; omega)), (by first | omega | (have hG' := Z.gh rfl hG; simp at hG'; omega))⟩)) ?_
              refine Z.le rfl trivial ?_
              first | refine Z.ZO.store rfl rfl hs Try.sizeOf5 rfl rfl rfl (by first | exact SX.at0 | exact SX.at1 | exact SX.at2 | exact SX.at3 | exact SX.at4 | exact SX.at5 | exact Z.at6 | exact Z.at7 | exact Z.at8 | exact Z.at9 | exact Z.at10 | exact Z.at11 | exact Z.at12) (by first | (simp; done) | (simp; omega)) ?_ | refine Z.ZO.storeR rfl rfl hs Try.sizeOf5 rfl rfl rfl (by first | exact SX.at0 | exact SX.at1 | exact SX.at2 | exact SX.at3 | exact SX.at4 | exact SX.at5 | exact Z.at6 | exact Z.at7 | exact Z.at8 | exact Z.at9 | exact Z.at10 | exact Z.at11 | exact Z.at12) (by first | omega | (simp [ints_length]; done) | (simp [ints_length]; omega)) ?_
              clear hs; intro ws hs
              simp only [Nat.zero_add, Nat.add_zero, Nat.reduceAdd, Int.reduceToNat, Nat.reduceMul, List.set_cons_zero, List.set_cons_succ, List.setIfInBounds_toArray] at hs
              refine Z.lnil ?_
              refine Z.only [0, 1, 5, 6, 8, 10, 11, 12, 14] rfl ?_
              refine Z.nblock ?_
              refine Z.nthen ?_
              refine Z.region ?_
              refine Z.lb 1 rfl ?_
              refine Z.l rfl rfl (by rfl) (Z.keepS hs) (Z.Yd.add rfl rfl (fun hG => Z.wi64 (by first | omega | (have hG' := Z.gh rfl hG; simp at hG'; omega)))) ?_
              refine Z.lb 1 rfl ?_
              refine Z.lnil ?_
              refine Z.only [0, 1, 5, 6, 8, 10, 11, 12, 14] rfl ?_
              refine Z.nthen ?_
              rw [show (j : Int).toNat * 1 = j * 1 from rfl, ints_set] at hs
              exact Z.again (j + 1, ys.set j 9) (by refine ⟨?_, ?_, ?_, ?_, ?_, ?_, ?_, ?_, ?_, trivial⟩ <;> (first | rfl | (refine Z.lookv rfl ?_; simp; done) | (refine Z.lookv rfl ?_; simp; omega))) ⟨⟨by simp only; omega, by simp only [List.length_set]; omega⟩, hs⟩ (by simp only; omega)
              )
        · first
            | (exfalso; simp at hc15 <;> omega)
            | (
              (try simp at hc15)
              refine Z.exit ?_
              refine Z.xthen ?_
              refine Z.xthen ?_
              refine Z.xblock ?_
              refine Z.nthen ?_
              refine Z.seq ?_
              refine Z.region ?_
              refine Z.lb 1 rfl ?_
              refine Z.le rfl trivial ?_
              refine Z.ZO.call rfl rfl (by rfl) rfl rfl Try.call22 rfl (hV _) ?_
              rintro v18_1 w18_1 hy
              replace hs := hs.call hy
              clear hy
              try simp only [List.cons_append, List.nil_append, List.append_nil] at hs
              obtain ⟨Av, cv, rfl, -, -, -⟩ := SX.row_slv hs (j := 0) rfl
              refine Z.lb 1 rfl ?_
              refine Z.lnil ?_
              refine Z.only [0, 1, 5, 6, 8, 10, 12, 15] rfl ?_
              refine Z.nthen ?_
              refine Z.seq ?_
              refine Z.seq ?_
              refine Z.region ?_
              refine Z.lb 1 rfl ?_
              refine Z.lnil ?_
              refine Z.only [0, 1, 5, 6, 8, 10, 12, 15, 16] rfl ?_
              refine Z.nthen ?_
              refine Z.block ?_
              refine Z.loopk (ι := Nat × List Int) [0, 1, 5, 6, 8, 10, 12, 15] rfl (fun x => [(16, [], .int .i64 (x.1 : Int))]) (fun x wr => (x.1 ≤ K ∧ x.2.length = K) ∧ SX.St w [] wr [SX.Ent.row (.slice Av K cv) 3 1 K (ints .i64 x.2), SX.Ent.row v40 32 2 q (pcells ps), SX.Ent.row (.slice Al q cl) 32 2 q (pcells ps), SX.Ent.row (.slice Ao n co) 5 1 n (ints .u8 bs)]) (fun x => K - x.1) (0, lvls k) (by refine ⟨?_, trivial⟩ <;> (first | rfl | (refine Z.lookv rfl ?_; simp; done) | (refine Z.lookv rfl ?_; simp; omega))) ⟨⟨Nat.zero_le _, hLl⟩, hs.sel [0, 3, 4, 5] (by decide)⟩ ?_
              clear hs
              rintro ⟨u, zs⟩ w3 ⟨⟨hu, hzl⟩, hs⟩
              refine Z.only [0, 1, 5, 6, 8, 10, 12, 15, 16] rfl ?_
              (try dsimp only at hs)
              dsimp only at hu hzl
              refine Z.seq ?_
              refine Z.seq ?_
              refine Z.region ?_
              refine Z.lb 2 rfl ?_
              refine Z.l rfl rfl (by rfl) (Z.keepS hs) (Z.Yd.lenS rfl Try.underlying38) ?_
              refine Z.lb 1 rfl ?_
              refine Z.lnil ?_
              refine Z.only [0, 1, 5, 6, 8, 10, 12, 15, 16, 76] rfl ?_
              refine Z.nthen ?_
              refine Z.cond rfl (fun hc20 => ?_) (fun hc20 => ?_)
              · first
                  | (exfalso; simp at hc20 <;> omega)
                  | (
                    (try simp at hc20)
                    obtain ⟨gw, cw', e0, -, -⟩ := row_form (j := 0) hs rfl (by omega)
                    simp only [Value.slice.injEq, true_and] at e0
                    obtain ⟨rfl, rfl⟩ := e0
                    refine Z.skip ?_
                    refine Z.nthen ?_
                    refine Z.seq ?_
                    refine Z.block ?_
                    refine Z.region ?_
                    refine Z.lb 2 rfl ?_
                    refine Z.l rfl rfl (by rfl) (Z.keepS hs) (Z.Yd.elem rfl rfl Try.underlying38 Try.sizeOf3 (fun hG => ⟨(by first | omega | (have hG' := Z.gh rfl hG; simp at hG'; omega)), (by first | omega | (have hG' := Z.gh rfl hG; simp at hG'; omega))⟩)) ?_
                    refine Z.le rfl trivial ?_
                    first | refine Z.ZO.store rfl rfl hs Try.sizeOf3 rfl rfl rfl (by first | exact SX.at0 | exact SX.at1 | exact SX.at2 | exact SX.at3 | exact SX.at4 | exact SX.at5 | exact Z.at6 | exact Z.at7 | exact Z.at8 | exact Z.at9 | exact Z.at10 | exact Z.at11 | exact Z.at12) (by first | (simp; done) | (simp; omega)) ?_ | refine Z.ZO.storeR rfl rfl hs Try.sizeOf3 rfl rfl rfl (by first | exact SX.at0 | exact SX.at1 | exact SX.at2 | exact SX.at3 | exact SX.at4 | exact SX.at5 | exact Z.at6 | exact Z.at7 | exact Z.at8 | exact Z.at9 | exact Z.at10 | exact Z.at11 | exact Z.at12) (by first | omega | (simp [ints_length]; done) | (simp [ints_length]; omega)) ?_
                    clear hs; intro ws hs
                    simp only [Nat.zero_add, Nat.add_zero, Nat.reduceAdd, Int.reduceToNat, Nat.reduceMul, List.set_cons_zero, List.set_cons_succ, List.setIfInBounds_toArray] at hs
                    refine Z.lnil ?_
                    refine Z.only [0, 1, 5, 6, 8, 10, 12, 15, 16] rfl ?_
                    refine Z.nblock ?_
                    refine Z.nthen ?_
                    refine Z.region ?_
                    refine Z.lb 1 rfl ?_
                    refine Z.l rfl rfl (by rfl) (Z.keepS hs) (Z.Yd.add rfl rfl (fun hG => Z.wi64 (by first | omega | (have hG' := Z.gh rfl hG; simp at hG'; omega)))) ?_
                    refine Z.lb 1 rfl ?_
                    refine Z.lnil ?_
                    refine Z.only [0, 1, 5, 6, 8, 10, 12, 15, 16] rfl ?_
                    refine Z.nthen ?_
                    rw [show (u : Int).toNat * 1 = u * 1 from rfl, ints_set] at hs
                    exact Z.again (u + 1, zs.set u 77) (by refine ⟨?_, ?_, ?_, ?_, ?_, ?_, ?_, ?_, ?_, trivial⟩ <;> (first | rfl | (refine Z.lookv rfl ?_; simp; done) | (refine Z.lookv rfl ?_; simp; omega))) ⟨⟨by simp only; omega, by simp only [List.length_set]; omega⟩, hs⟩ (by simp only; omega)
                    )
              · first
                  | (exfalso; simp at hc20 <;> omega)
                  | (
                    (try simp at hc20)
                    refine Z.exit ?_
                    refine Z.xthen ?_
                    refine Z.xthen ?_
                    refine Z.xblock ?_
                    refine Z.nthen ?_
                    refine Z.seq ?_
                    refine Z.region ?_
                    refine Z.lb 2 rfl ?_
                    refine Z.le rfl trivial ?_
                    refine Z.ZO.call rfl rfl (by rfl) rfl rfl Try.call17 rfl (hD Al cl _ (SX.row_slB hs (j := 2) rfl)) ?_
                    rintro v23_2 w23_2 ⟨st, rfl, hy⟩
                    replace hs := hs.call hy
                    clear hy
                    try simp only [List.cons_append, List.nil_append, List.append_nil] at hs
                    obtain ⟨At, ct, rfl, -, -, -⟩ := SX.row_slv hs (j := 0) rfl
                    obtain ⟨Ak, ck, rfl, -, -, -⟩ := SX.row_slv hs (j := 2) rfl
                    refine Z.lb 5 rfl ?_
                    refine Z.lnil ?_
                    refine Z.only [1, 5, 6, 8, 10, 12, 17, 18] rfl ?_
                    refine Z.nthen ?_
                    refine Z.seq ?_
                    refine Z.region ?_
                    refine Z.lb 3 rfl ?_
                    refine Z.yes (s := 90) (b := true) rfl ((by simp)) rfl ?_
                    refine Z.lb 2 rfl ?_
                    refine Z.yes (s := 90) (b := true) rfl rfl rfl ?_
                    refine Z.l rfl rfl (by rfl) (Z.keepS hs) (Z.Yd.pickT rfl rfl) ?_
                    refine Z.lb 1 rfl ?_
                    refine Z.yes (s := 94) (b := true) rfl ((by simp)) rfl ?_
                    refine Z.lb 2 rfl ?_
                    refine Z.yes (s := 94) (b := true) rfl rfl rfl ?_
                    refine Z.l rfl rfl (by rfl) (Z.keepS hs) (Z.Yd.pickT rfl rfl) ?_
                    refine Z.lb 1 rfl ?_
                    refine Z.yes (s := 98) (b := true) rfl ((by simp)) rfl ?_
                    refine Z.lb 1 rfl ?_
                    refine Z.l rfl rfl (by rfl) (Z.keepS hs) (Z.Yd.lenS rfl Try.underlying38) ?_
                    refine Z.lb 1 rfl ?_
                    refine Z.l rfl rfl (by rfl) (Z.keepS hs) (Z.Yd.lenS rfl Try.underlying23) ?_
                    refine Z.lb 1 rfl ?_
                    refine Z.yes (s := 98) (b := true) rfl rfl rfl ?_
                    refine Z.l rfl rfl (by rfl) (Z.keepS hs) (Z.Yd.pickT rfl rfl) ?_
                    refine Z.lb 1 rfl ?_
                    refine Z.yes (s := 105) (b := true) rfl ((by simp)) rfl ?_
                    refine Z.lb 2 rfl ?_
                    refine Z.yes (s := 105) (b := true) rfl rfl rfl ?_
                    refine Z.le rfl (by exact ⟨rfl, trivial⟩) ?_
                    refine Z.ZO.call rfl rfl (by rfl) rfl rfl Try.call15 rfl (sameP_any Al Ak q q cl ck ps ps _ (SX.row_slB hs (j := 3) rfl) (SX.row_slB hs (j := 2) rfl) hpl hpl (by omega) (by omega)) ?_
                    rintro v24_20 w24_20 ⟨rfl, hy⟩
                    replace hs := hs.call hy
                    clear hy
                    try simp only [List.cons_append, List.nil_append, List.append_nil] at hs
                    refine Z.l rfl rfl (by rfl) (Z.keepS hs) (Z.Yd.pickT rfl rfl) ?_
                    refine Z.lb 1 rfl ?_
                    refine Z.yes (s := 110) (b := true) rfl ((by simp)) rfl ?_
                    refine Z.lb 2 rfl ?_
                    refine Z.yes (s := 110) (b := true) rfl rfl rfl ?_
                    refine Z.le rfl (by exact ⟨rfl, trivial⟩) ?_
                    refine Z.ZO.call rfl rfl (by rfl) rfl rfl Try.call21 rfl (sameB_any Ao A n n co c bs bs _ (SX.row_slB hs (j := 4) rfl) (hr.st (hs.sub (List.nil_sublist _))) hl hl rfl (by omega)) ?_
                    rintro v24_25 w24_25 ⟨rfl, hy⟩
                    replace hs := hs.call hy
                    clear hy
                    try simp only [List.cons_append, List.nil_append, List.append_nil] at hs
                    refine Z.l rfl rfl (by rfl) (Z.keepS hs) (Z.Yd.pickT rfl rfl) ?_
                    refine Z.lb 1 rfl ?_
                    refine Z.yes (s := 115) (b := true) rfl ((by simp)) rfl ?_
                    refine Z.le rfl (by exact ⟨rfl, trivial⟩) ?_
                    refine Z.ZO.call rfl rfl (by rfl) rfl rfl Try.call10 rfl (known_any _) ?_
                    rintro v24_28 w24_28 ⟨rfl, hy⟩
                    replace hs := hs.call hy
                    clear hy
                    try simp only [List.cons_append, List.nil_append, List.append_nil] at hs
                    refine Z.l rfl rfl (by rfl) (Z.keepS hs) (Z.Yd.pickT rfl rfl) ?_
                    refine Z.lb 1 rfl ?_
                    refine Z.lnil ?_
                    refine Z.only [4] rfl ?_
                    refine Z.nthen ?_
                    refine Z.ret ?_
                    -- ret#0
                    refine Z.out1 (by exact ⟨rfl, trivial⟩) ?_
                    exact ⟨_, rfl, rfl, hs.sub (List.nil_sublist _)⟩
                    )
              )
        )
theorem qamOwn_rd (a0 : Int) (a1 : Option Addr) (len1 cap1 : Nat) (w : World) (z0 : Rd Try.prog w 22 (Value.int .i64 a0).cells.toList) (z1 : Rd Try.prog w 23 (Value.slice a1 len1 cap1).cells.toList) :
    Calls Try.prog 9 #[.int .i64 a0, .slice a1 len1 cap1] w fun e w' => e = .returned (.bool true) ∧ Below w.heap.size w w' := by
  obtain ⟨bs, hl, hnc, hcm, hwf, hs⟩ := Rb.rd_bytes z1
  have key : Calls Try.prog 9 #[.int .i64 a0, .slice a1 len1 cap1] w (SX.Ret fun v w' => v = .bool true ∧ SX.St w [] w' []) := by
    by_cases h6 : 600 < len1
    · exact own_long a0 a1 len1 cap1 w (by omega)
    have h6' : len1 ≤ 600 := by omega
    by_cases hv : vm a0 = true
    · have hm : a0 = 2 ∨ a0 = 4 ∨ a0 = 6 := by simp [vm] at hv; omega
      by_cases hr : (len1 : Int).tmod a0 = 0
      · obtain ⟨k, hk, hk3, rfl⟩ := vm_some hv
        obtain ⟨q, hq⟩ : ∃ q, len1 = q * (2 * k) := by
          rw [Int.tmod_eq_emod_of_nonneg (by omega)] at hr
          have h1 : len1 % (2 * k) = 0 := by omega
          exact ⟨len1 / (2 * k), (Nat.div_mul_cancel (Nat.dvd_of_mod_eq_zero h1)).symm⟩
        by_cases hb : bs.any (fun x => decide (1 < x)) = true
        · exact own_bad _ 3 a1 len1 cap1 bs w hs hl h6' (by decide) fun A' c' W h1 h2 hW => modulate_bit A' len1 c' k q bs W hW hl hq hk hk3 h6' hb
        · refine own_ok a1 len1 cap1 k q bs w hs hl hq hk hk3 h6' (fun b hbm => ?_)
          have h1 := hwf b hbm
          have h2 : ¬ 1 < b := fun h => hb (List.any_eq_true.2 ⟨b, hbm, by simpa using h⟩)
          omega
      · exact own_bad _ 2 a1 len1 cap1 bs w hs hl h6' (by decide) fun A' c' W h1 h2 hW => modulate_arg A' len1 c' a0 W (.inr ⟨by omega, hr⟩) h6'
    · exact own_bad _ 2 a1 len1 cap1 bs w hs hl h6' (by decide) fun A' c' W h1 h2 hW => modulate_arg A' len1 c' a0 W (.inl (by simpa using hv)) h6'
  refine key.mono ?_
  rintro e w' ⟨v, rfl, rfl, h⟩
  exact ⟨rfl, h.below⟩
end Go.Proofs.Ythncbdoiilgnhaa

/- What every row needs. -/
namespace Go.Proofs.Ythncbdoiilgnhaa
open Go.ChangeShapes Go.WideShapes Go.ChangeAt Go.RowKit
theorem pown : ownKnob Try.prog.godebug = none := by kernel_rfl
theorem plaidOut : laidOutB Try.prog = true := by kernel_rfl
end Go.Proofs.Ythncbdoiilgnhaa
