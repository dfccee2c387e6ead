/- Part 4 of the proofs that lead to the statement. -/
import Derived.Test.YthdhobnkclddhaaY3
import Derived.Test.YthdhobnkclddhaaRows
/- Insertion sort, plainly and in the program. -/
namespace Go.Proofs.Ythdhobnkclddhaa
open Go.RowKit
set_option linter.unusedSimpArgs false
set_option linter.unusedVariables false
--newlaws

/-- two neighbours change places -/
def swp (l : List Int) (j : Nat) : List Int := (l.set j (elt l ((j : Int) - 1))).set (j - 1) (elt l (j : Int))
theorem swp_len (l : List Int) (j : Nat) : (swp l j).length = l.length := by simp [swp]
theorem elt_get {l : List Int} {i : Nat} (h : i < l.length) : elt l (i : Int) = l[i] := by simp [elt, h]
theorem elt_swp {l : List Int} {j : Nat} (hj : 0 < j) (hl : j < l.length) (q : Nat) (hq : q < l.length) : elt (swp l j) (q : Int) = if q = j then elt l ((j - 1 : Nat) : Int) else if q = j - 1 then elt l (j : Int) else elt l (q : Int) := by
  have e1 : elt l ((j : Int) - 1) = elt l ((j - 1 : Nat) : Int) := by congr 1; omega
  rw [elt_get (by rw [swp_len]; exact hq)]
  simp only [swp, e1, List.getElem_set]
  by_cases h1 : q = j
  · subst h1
    rw [if_pos rfl, if_neg (by omega), if_pos rfl]
  · rw [if_neg h1]
    by_cases h2 : q = j - 1
    · rw [if_pos h2, if_pos h2.symm]
    · rw [if_neg h2, if_neg (fun h => h2 h.symm), if_neg (fun h => h1 h.symm), elt_get hq]
theorem swp_perm {l : List Int} {j : Nat} (hj : 0 < j) (hl : j < l.length) : (swp l j).Perm l := by
  obtain ⟨k, rfl⟩ : ∃ k, j = k + 1 := ⟨j - 1, by omega⟩
  have h1 : l = l.take k ++ l[k] :: l[k + 1] :: l.drop (k + 2) := by
    rw [List.getElem_cons_drop, List.getElem_cons_drop, List.take_append_drop]
  have h2 : swp l (k + 1) = l.take k ++ l[k + 1] :: l[k] :: l.drop (k + 2) := by
    refine List.ext_getElem ?_ fun i hi hi2 => ?_
    · rw [swp_len]; simp; omega
    · have hi3 : i < l.length := by rw [swp_len] at hi; exact hi
      have := elt_swp (l := l) (j := k + 1) (by omega) hl i hi3
      rw [elt_get hi] at this
      rw [this]
      by_cases c1 : i = k + 1
      · subst c1
        rw [if_pos rfl, elt_get (by omega)]
        rw [List.getElem_append_right (by simp; omega)]
        simp [show min k l.length = k from by omega, show k + 1 - k = 1 from by omega]
      · rw [if_neg c1]
        by_cases c2 : i = k
        · subst c2
          rw [if_pos (by omega), elt_get (by omega)]
          rw [List.getElem_append_right (by simp; omega)]
          simp [show min i l.length = i from by omega]
        · rw [if_neg (by omega), elt_get hi3]
          by_cases c3 : i < k
          · rw [List.getElem_append_left (by simp; omega)]
            simp
          · rw [List.getElem_append_right (by simp; omega)]
            have : i - min k l.length = (i - (k + 2)) + 2 := by omega
            simp only [List.length_take, this, List.getElem_cons_succ, List.getElem_drop]
            congr 1
            omega
  rw [h2]
  conv => rhs; rw [h1]
  exact List.Perm.append_left _ (List.Perm.swap _ _ _)
/-- in order but for the place j -/
def Srt (κ : Int → Int) (l : List Int) (i j : Nat) : Prop := ∀ p q : Nat, p < q → q < i → q ≠ j → κ (elt l (p : Int)) ≤ κ (elt l (q : Int))
theorem Srt.step {κ : Int → Int} {l : List Int} {i j : Nat} (h : Srt κ l i j) (hj : 0 < j) (hi : j < i) (hl : i ≤ l.length) (hlt : κ (elt l (j : Int)) < κ (elt l ((j - 1 : Nat) : Int))) : Srt κ (swp l j) i (j - 1) := by
  intro p q hpq hq hqj
  rw [elt_swp hj (by omega) p (by omega), elt_swp hj (by omega) q (by omega)]
  by_cases q1 : q = j
  · subst q1
    rw [if_pos rfl, if_neg (show ¬ p = q by omega)]
    by_cases p1 : p = q - 1
    · rw [if_pos p1]; omega
    · rw [if_neg p1]; exact h p (q - 1) (by omega) (by omega) (by omega)
  · rw [if_neg q1, if_neg hqj]
    by_cases p1 : p = j
    · rw [if_pos p1]; exact h (j - 1) q (by omega) hq q1
    · rw [if_neg p1]
      by_cases p2 : p = j - 1
      · rw [if_pos p2]; exact h j q (by omega) hq q1
      · rw [if_neg p2]; exact h p q hpq hq q1
theorem Srt.stop {κ : Int → Int} {l : List Int} {i j : Nat} (h : Srt κ l i j) (hj : j = 0 ∨ κ (elt l ((j - 1 : Nat) : Int)) ≤ κ (elt l (j : Int))) : Srt κ l i i := by
  intro p q hpq hq _
  by_cases q1 : q = j
  · subst q1
    rcases hj with h0 | h0
    · omega
    · by_cases p1 : p = q - 1
      · subst p1; exact h0
      · exact Int.le_trans (h p (q - 1) (by omega) (by omega) (by omega)) h0
  · exact h p q hpq hq q1
theorem Srt.next {κ : Int → Int} {l : List Int} {i : Nat} (h : Srt κ l i i) : Srt κ l (i + 1) i := fun p q hpq hq hqi => h p q hpq (by omega) hqi
end Go.Proofs.Ythdhobnkclddhaa

/- Insertion sort in the program. -/
namespace Go.Proofs.Ythdhobnkclddhaa
open Go.RowKit
set_option linter.unusedSimpArgs false
set_option linter.unusedVariables false
--newlaws

theorem mixed : Try.prog.follows .mixedOrders = true := by kernel_rfl
theorem ints_swp {l : List Int} {j : Nat} (hj : 0 < j) : ((ints .i64 l).set ((j : Int).toNat * 1) (.int .i64 (elt l ((j : Int) - 1)))).set (((j : Int) - 1).toNat * 1) (.int .i64 (elt l (j : Int))) = ints .i64 (swp l j) := by
  rw [show (j : Int).toNat * 1 = j from by omega, show ((j : Int) - 1).toNat * 1 = j - 1 from by omega]
  simp [ints, swp, List.map_set]
/-- a comparison that reads what is of others, on the elements of xs: its sign is that of the keys -/
def Cmps (w : World) (M : List Nat) (k : Nat) (cap : Array Value) (κ : Int → Int) (xs : List Int) : Prop :=
  ∀ x ∈ xs, ∀ y ∈ xs, ∀ W L, SX.St w M W L → Calls Try.prog k (Value.int .i64 x :: .int .i64 y :: cap.toList).toArray W (SX.Ret fun v w' => (∃ z : Int, v = .int .i64 z ∧ (z < 0 ↔ κ x < κ y)) ∧ SX.St W [] w' [])
set_option maxHeartbeats 1000000 in
set_option maxRecDepth 100000 in
theorem inssort (g n c T k : Nat) (cap : Array Value) (κ : Int → Int) (xs : List Int) (w : World) (hs : SX.St w (SX.idsOf [SX.Ent.row (.slice (some ⟨g, 0, none⟩) n c) T 1 n (ints .i64 xs)]) w [SX.Ent.row (.slice (some ⟨g, 0, none⟩) n c) T 1 n (ints .i64 xs)])
    (hl : xs.length = n) (hn : n ≤ 12) (hk : ∀ args w, (callFunc k args).run Try.prog w = .ok (.enter k args) w) (hc : Cmps w (SX.idsOf [SX.Ent.row (.slice (some ⟨g, 0, none⟩) n c) T 1 n (ints .i64 xs)]) k cap κ xs) :
    Calls Try.prog 53 #[.slice (some ⟨g, 0, none⟩) n c, .int .i64 0, .int .i64 (n : Int), .func (.func k) #[] cap] w (SX.Ret fun v w' => v = .tuple #[] ∧ ∃ ys, ys.Perm xs ∧ Srt κ ys n n ∧ SX.St w (SX.idsOf [SX.Ent.row (.slice (some ⟨g, 0, none⟩) n c) T 1 n (ints .i64 xs)]) w' [SX.Ent.row (.slice (some ⟨g, 0, none⟩) n c) T 1 n (ints .i64 ys)]) := by
  generalize hM : SX.idsOf [SX.Ent.row (.slice (some ⟨g, 0, none⟩) n c) T 1 n (ints .i64 xs)] = M at *
  refine Z.enter Try.func53 rfl Try.ntmps53 rfl rfl ?_
  refine Z.seq ?_
  refine Z.region ?_
  refine Z.lb 1 rfl ?_
  refine Z.l rfl rfl (by rfl) (Z.keepS hs) (Z.Yd.add rfl rfl (fun hG => Z.wi64 (by first | omega | (have hG' := Z.gh rfl hG; simp at hG'; omega)))) ?_
  refine Z.lb 1 rfl ?_
  refine Z.lnil ?_
  refine Z.only [0, 1, 2, 3, 8] rfl ?_
  refine Z.nthen ?_
  refine Z.block ?_
  refine Z.loopk (ι := Nat × List Int) [0, 1, 2, 3] rfl (fun x => [(8, [], .int .i64 (x.1 : Int))]) (fun x wr => (1 ≤ x.1 ∧ (x.1 ≤ n ∨ x.1 = 1) ∧ x.2.Perm xs ∧ Srt κ x.2 x.1 x.1) ∧ SX.St w M wr [SX.Ent.row (.slice (some ⟨g, 0, none⟩) n c) T 1 n (ints .i64 x.2)]) (fun x => 13 - x.1) (1, xs) (by refine ⟨?_, trivial⟩ <;> (first | rfl | (refine Z.lookv rfl ?_; simp; done) | (refine Z.lookv rfl ?_; simp; omega))) ⟨⟨by simp, .inr rfl, List.Perm.refl _, fun p q h1 h2 _ => by simp only at h2; omega⟩, hs⟩ ?_
  clear hs
  rintro ⟨i, ys⟩ w1 ⟨⟨hi1, hi, hp, hS⟩, hs⟩
  refine Z.only [0, 1, 2, 3, 8] rfl ?_
  (try dsimp only at hs)
  dsimp only at hi1 hi hp hS hs
  refine Z.seq ?_
  refine Z.seq ?_
  refine Z.region ?_
  refine Z.lb 3 rfl ?_
  refine Z.lnil ?_
  refine Z.only [0, 1, 2, 3, 8, 14] rfl ?_
  refine Z.nthen ?_
  refine Z.cond rfl (fun hc1 => ?_) (fun hc1 => ?_)
  · first
      | (exfalso; simp at hc1 <;> omega)
      | (
        (try simp at hc1)
        have hin : i < n := by omega
        refine Z.skip ?_
        refine Z.nthen ?_
        refine Z.seq ?_
        refine Z.block ?_
        refine Z.seq ?_
        refine Z.region ?_
        refine Z.lb 2 rfl ?_
        refine Z.lnil ?_
        refine Z.only [0, 1, 2, 3, 8, 9] rfl ?_
        refine Z.nthen ?_
        refine Z.block ?_
        refine Z.loopk (ι := Nat × List Int) [0, 1, 2, 3, 8] rfl (fun x => [(9, [], .int .i64 (x.1 : Int))]) (fun x wr => (x.1 ≤ i ∧ x.2.Perm xs ∧ Srt κ x.2 (i + 1) x.1) ∧ SX.St w M wr [SX.Ent.row (.slice (some ⟨g, 0, none⟩) n c) T 1 n (ints .i64 x.2)]) (fun x => x.1) (i, ys) (by refine ⟨?_, trivial⟩ <;> (first | rfl | (refine Z.lookv rfl ?_; simp; done) | (refine Z.lookv rfl ?_; simp; omega))) ⟨⟨Nat.le_refl _, hp, hS.next⟩, hs⟩ ?_
        clear hs
        rintro ⟨j, zs⟩ w4 ⟨⟨hj, hp, hS⟩, hs⟩
        refine Z.only [0, 1, 2, 3, 8, 9] rfl ?_
        (try dsimp only at hs)
        dsimp only at hj hp hS hs
        have hzl : zs.length = n := by rw [hp.length_eq, hl]
        refine Z.seq ?_
        refine Z.seq ?_
        refine Z.drawK (fun _ => true) mixed hs ?_
        clear hs; intro wd4 hs
        refine Z.tb [0, 1, 2, 3] (by kernel_rfl) rfl ⟨_, hs, by first | (simp; done) | exact fun e he => List.mem_append_right _ he⟩ rfl ?_
        refine Z.split (s := 21) rfl (fun hsp21 => ?_) (fun hsp21 => ?_)
        · first
            | (exfalso; simp at hsp21 <;> omega)
            | (
              refine Z.yes (s := 21) (b := true) rfl hsp21 rfl ?_
              (try simp at hsp21)
              have hx1 : elt zs (j : Int) ∈ xs := hp.subset (by rw [elt_get (by omega)]; exact List.getElem_mem _)
              have hx2 : elt zs ((j : Int) - 1) ∈ xs := hp.subset (by rw [show (j : Int) - 1 = ((j - 1 : Nat) : Int) from by omega, elt_get (by omega)]; exact List.getElem_mem _)
              refine Z.tb [4, 5, 6] (by kernel_rfl) rfl ⟨_, hs, by first | (simp; done) | exact fun e he => List.mem_append_right _ he⟩ rfl ?_
              refine Z.t 7 rfl rfl rfl (by rfl) (by kernel_rfl) ⟨_, hs, by first | (simp; done) | exact fun e he => List.mem_append_right _ he⟩ (Z.Yd.elem rfl rfl Try.underlying28 Try.sizeOf3 (fun hG => ⟨(by first | omega | (have hG' := Z.gh rfl hG; simp at hG'; omega)), (by first | omega | (have hG' := Z.gh rfl hG; simp at hG'; omega))⟩)) ?_
              refine Z.t 8 rfl rfl rfl (by rfl) (by kernel_rfl) ⟨_, hs, by first | (simp; done) | exact fun e he => List.mem_append_right _ he⟩ (by first | exact Z.Yd.load rfl Try.isAgg3 (fun _ => Z.cellB (by first | ((repeat (first | exact List.mem_cons_self | refine List.mem_cons_of_mem _ ?_ | refine List.mem_append_right _ ?_)); done) | fail) rfl) | exact Z.Yd.load rfl Try.isAgg3 (fun hG => Z.cellR (by first | ((repeat (first | exact List.mem_cons_self | refine List.mem_cons_of_mem _ ?_ | refine List.mem_append_right _ ?_)); done) | fail) (Z.ints_at (by first | omega | (have hG' := Z.gh rfl hG; simp at hG'; omega)) (by first | omega | (have hG' := Z.gh rfl hG; simp at hG'; omega)))) | exact Z.Yd.load rfl Try.isAgg3 (fun hG => Z.cellXi (by assumption) (by first | omega | (have hG' := Z.gh rfl hG; simp at hG'; omega)) (by first | omega | (have hG' := Z.gh rfl hG; simp at hG'; omega))) | exact Z.Yd.load rfl Try.isAgg3 (fun hG => Z.cellS (by assumption) rfl (by first | omega | (have hG' := Z.gh rfl hG; simp at hG'; omega)) (by first | omega | (have hG' := Z.gh rfl hG; simp at hG'; omega))) | fail "load 4.8") ?_
              refine Z.tb [9, 10] (by kernel_rfl) rfl ⟨_, hs, by first | (simp; done) | exact fun e he => List.mem_append_right _ he⟩ rfl ?_
              refine Z.t 11 rfl rfl rfl (by rfl) (by kernel_rfl) ⟨_, hs, by first | (simp; done) | exact fun e he => List.mem_append_right _ he⟩ (Z.Yd.sub rfl rfl (fun hG => Z.wi64 (by first | omega | (have hG' := Z.gh rfl hG; simp at hG'; omega)))) ?_
              refine Z.t 12 rfl rfl rfl (by rfl) (by kernel_rfl) ⟨_, hs, by first | (simp; done) | exact fun e he => List.mem_append_right _ he⟩ (Z.Yd.elem rfl rfl Try.underlying28 Try.sizeOf3 (fun hG => ⟨(by first | omega | (have hG' := Z.gh rfl hG; simp at hG'; omega)), (by first | omega | (have hG' := Z.gh rfl hG; simp at hG'; omega))⟩)) ?_
              refine Z.t 13 rfl rfl rfl (by rfl) (by kernel_rfl) ⟨_, hs, by first | (simp; done) | exact fun e he => List.mem_append_right _ he⟩ (by first | exact Z.Yd.load rfl Try.isAgg3 (fun _ => Z.cellB (by first | ((repeat (first | exact List.mem_cons_self | refine List.mem_cons_of_mem _ ?_ | refine List.mem_append_right _ ?_)); done) | fail) rfl) | exact Z.Yd.load rfl Try.isAgg3 (fun hG => Z.cellR (by first | ((repeat (first | exact List.mem_cons_self | refine List.mem_cons_of_mem _ ?_ | refine List.mem_append_right _ ?_)); done) | fail) (Z.ints_at (by first | omega | (have hG' := Z.gh rfl hG; simp at hG'; omega)) (by first | omega | (have hG' := Z.gh rfl hG; simp at hG'; omega)))) | exact Z.Yd.load rfl Try.isAgg3 (fun hG => Z.cellXi (by assumption) (by first | omega | (have hG' := Z.gh rfl hG; simp at hG'; omega)) (by first | omega | (have hG' := Z.gh rfl hG; simp at hG'; omega))) | exact Z.Yd.load rfl Try.isAgg3 (fun hG => Z.cellS (by assumption) rfl (by first | omega | (have hG' := Z.gh rfl hG; simp at hG'; omega)) (by first | omega | (have hG' := Z.gh rfl hG; simp at hG'; omega))) | fail "load 4.13") ?_
              refine Z.yes (s := 21) (b := true) rfl rfl rfl ?_
              refine Z.tn 14 rfl rfl (by kernel_rfl) rfl (by exact ⟨rfl, trivial⟩) ?_
              refine Z.ZO.call rfl rfl (by rfl) rfl rfl hk (by first | rfl | simp) (hc _ hx1 _ hx2 _ _ hs) ?_
              rintro v4_14 w4_14 ⟨⟨z, rfl, hz⟩, hy⟩
              replace hs := hs.call hy
              clear hy
              try simp only [List.cons_append, List.nil_append, List.append_nil] at hs
              refine Z.tk (Dn := fun _ => true) (i := 14) (fun _ => ⟨_, hs, by first | (simp; done) | exact fun e he => List.mem_append_right _ he⟩) ?_
              refine Z.tb [15] (by kernel_rfl) rfl ⟨_, hs, by first | (simp; done) | exact fun e he => List.mem_append_right _ he⟩ rfl ?_
              refine Z.yes (s := 21) (b := true) rfl rfl rfl ?_
              refine Z.t 16 rfl rfl rfl (by rfl) (by kernel_rfl) ⟨_, hs, by first | (simp; done) | exact fun e he => List.mem_append_right _ he⟩ (Z.Yd.pickT rfl rfl) ?_
              refine Z.td (by rfl) (by kernel_rfl) ?_
              refine Z.only [0, 1, 2, 3, 8, 9, 34] rfl ?_
              refine Z.nthen ?_
              refine Z.cond rfl (fun hc4 => ?_) (fun hc4 => ?_)
              · first
                  | (exfalso; simp at hc4 <;> omega)
                  | (
                    (try simp at hc4)
                    refine Z.skip ?_
                    refine Z.nthen ?_
                    refine Z.seq ?_
                    refine Z.block ?_
                    refine Z.drawL [] (fun _ => true) mixed hs ?_
                    clear hs; intro wd6 hs
                    refine Z.tb [0, 1, 2, 3] (by kernel_rfl) rfl ⟨_, hs, by first | (simp; done) | exact fun e he => List.mem_append_right _ he⟩ rfl ?_
                    refine Z.t 4 rfl rfl rfl (by rfl) (by kernel_rfl) ⟨_, hs, by first | (simp; done) | exact fun e he => List.mem_append_right _ he⟩ (Z.Yd.sub rfl rfl (fun hG => Z.wi64 (by first | omega | (have hG' := Z.gh rfl hG; simp at hG'; omega)))) ?_
                    refine Z.tb [5, 6] (by kernel_rfl) rfl ⟨_, hs, by first | (simp; done) | exact fun e he => List.mem_append_right _ he⟩ rfl ?_
                    refine Z.t 7 rfl rfl rfl (by rfl) (by kernel_rfl) ⟨_, hs, by first | (simp; done) | exact fun e he => List.mem_append_right _ he⟩ (Z.Yd.sub rfl rfl (fun hG => Z.wi64 (by first | omega | (have hG' := Z.gh rfl hG; simp at hG'; omega)))) ?_
                    refine Z.t 8 rfl rfl rfl (by rfl) (by kernel_rfl) ⟨_, hs, by first | (simp; done) | exact fun e he => List.mem_append_right _ he⟩ (Z.Yd.elem rfl rfl Try.underlying28 Try.sizeOf3 (fun hG => ⟨(by first | omega | (have hG' := Z.gh rfl hG; simp at hG'; omega)), (by first | omega | (have hG' := Z.gh rfl hG; simp at hG'; omega))⟩)) ?_
                    refine Z.tb [10, 11] (by kernel_rfl) rfl ⟨_, hs, by first | (simp; done) | exact fun e he => List.mem_append_right _ he⟩ rfl ?_
                    refine Z.t 12 rfl rfl rfl (by rfl) (by kernel_rfl) ⟨_, hs, by first | (simp; done) | exact fun e he => List.mem_append_right _ he⟩ (Z.Yd.elem rfl rfl Try.underlying28 Try.sizeOf3 (fun hG => ⟨(by first | omega | (have hG' := Z.gh rfl hG; simp at hG'; omega)), (by first | omega | (have hG' := Z.gh rfl hG; simp at hG'; omega))⟩)) ?_
                    refine Z.fork2 9 13 rfl rfl rfl (by kernel_rfl) rfl rfl trivial trivial ?_ ?_
                    · skip
                      refine Z.ZO.quiet rfl (by rfl) (Z.keepS hs) (by first | exact Z.Yd.load rfl Try.isAgg3 (fun _ => Z.cellB (by first | ((repeat (first | exact List.mem_cons_self | refine List.mem_cons_of_mem _ ?_ | refine List.mem_append_right _ ?_)); done) | fail) rfl) | exact Z.Yd.load rfl Try.isAgg3 (fun hG => Z.cellR (by first | ((repeat (first | exact List.mem_cons_self | refine List.mem_cons_of_mem _ ?_ | refine List.mem_append_right _ ?_)); done) | fail) (Z.ints_at (by first | omega | (have hG' := Z.gh rfl hG; simp at hG'; omega)) (by first | omega | (have hG' := Z.gh rfl hG; simp at hG'; omega)))) | exact Z.Yd.load rfl Try.isAgg3 (fun hG => Z.cellXi (by assumption) (by first | omega | (have hG' := Z.gh rfl hG; simp at hG'; omega)) (by first | omega | (have hG' := Z.gh rfl hG; simp at hG'; omega))) | exact Z.Yd.load rfl Try.isAgg3 (fun hG => Z.cellS (by assumption) rfl (by first | omega | (have hG' := Z.gh rfl hG; simp at hG'; omega)) (by first | omega | (have hG' := Z.gh rfl hG; simp at hG'; omega))) | fail "load 6.9") ?_
                      refine Z.tk (Dn := fun _ => true) (i := 9) (fun _ => ⟨_, hs, by first | (simp; done) | exact fun e he => List.mem_append_right _ he⟩) ?_
                      refine Z.tn 13 rfl rfl (by kernel_rfl) rfl trivial ?_
                      refine Z.ZO.quiet rfl (by rfl) (Z.keepS hs) (by first | exact Z.Yd.load rfl Try.isAgg3 (fun _ => Z.cellB (by first | ((repeat (first | exact List.mem_cons_self | refine List.mem_cons_of_mem _ ?_ | refine List.mem_append_right _ ?_)); done) | fail) rfl) | exact Z.Yd.load rfl Try.isAgg3 (fun hG => Z.cellR (by first | ((repeat (first | exact List.mem_cons_self | refine List.mem_cons_of_mem _ ?_ | refine List.mem_append_right _ ?_)); done) | fail) (Z.ints_at (by first | omega | (have hG' := Z.gh rfl hG; simp at hG'; omega)) (by first | omega | (have hG' := Z.gh rfl hG; simp at hG'; omega)))) | exact Z.Yd.load rfl Try.isAgg3 (fun hG => Z.cellXi (by assumption) (by first | omega | (have hG' := Z.gh rfl hG; simp at hG'; omega)) (by first | omega | (have hG' := Z.gh rfl hG; simp at hG'; omega))) | exact Z.Yd.load rfl Try.isAgg3 (fun hG => Z.cellS (by assumption) rfl (by first | omega | (have hG' := Z.gh rfl hG; simp at hG'; omega)) (by first | omega | (have hG' := Z.gh rfl hG; simp at hG'; omega))) | fail "load 6.13") ?_
                      refine Z.tk (Dn := fun _ => true) (i := 13) (fun _ => ⟨_, hs, by first | (simp; done) | exact fun e he => List.mem_append_right _ he⟩) ?_
                      refine Z.t 14 rfl rfl rfl (by rfl) (by kernel_rfl) ⟨_, hs, by first | (simp; done) | exact fun e he => List.mem_append_right _ he⟩ (Z.Yd.elem rfl rfl Try.underlying28 Try.sizeOf3 (fun hG => ⟨(by first | omega | (have hG' := Z.gh rfl hG; simp at hG'; omega)), (by first | omega | (have hG' := Z.gh rfl hG; simp at hG'; omega))⟩)) ?_
                      refine Z.tn 15 rfl rfl (by kernel_rfl) rfl trivial ?_
                      first | refine Z.ZO.store rfl rfl hs Try.sizeOf3 rfl rfl rfl (by first | exact SX.at0 | exact SX.at1 | exact SX.at2 | exact SX.at3 | exact SX.at4 | exact SX.at5 | exact Z.at6 | exact Z.at7 | exact Z.at8 | exact Z.at9 | exact Z.at10 | exact Z.at11 | exact Z.at12) (by first | (simp; done) | (simp; omega)) ?_ | refine Z.ZO.storeR rfl rfl hs Try.sizeOf3 rfl rfl rfl (by first | exact SX.at0 | exact SX.at1 | exact SX.at2 | exact SX.at3 | exact SX.at4 | exact SX.at5 | exact Z.at6 | exact Z.at7 | exact Z.at8 | exact Z.at9 | exact Z.at10 | exact Z.at11 | exact Z.at12) (by first | omega | (simp [ints_length]; done) | (simp [ints_length]; omega)) ?_
                      clear hs; intro ws hs
                      simp only [Nat.zero_add, Nat.add_zero, Nat.reduceAdd, Int.reduceToNat, Nat.reduceMul, List.set_cons_zero, List.set_cons_succ, List.setIfInBounds_toArray] at hs
                      refine Z.tk (Dn := fun _ => true) (i := 15) (fun _ => ⟨_, hs, by first | (simp; done) | exact fun e he => List.mem_append_right _ he⟩) ?_
                      refine Z.t 16 rfl rfl rfl (by rfl) (by kernel_rfl) ⟨_, hs, by first | (simp; done) | exact fun e he => List.mem_append_right _ he⟩ (Z.Yd.elem rfl rfl Try.underlying28 Try.sizeOf3 (fun hG => ⟨(by first | omega | (have hG' := Z.gh rfl hG; simp at hG'; omega)), (by first | omega | (have hG' := Z.gh rfl hG; simp at hG'; omega))⟩)) ?_
                      refine Z.tn 17 rfl rfl (by kernel_rfl) rfl trivial ?_
                      first | refine Z.ZO.store rfl rfl hs Try.sizeOf3 rfl rfl rfl (by first | exact SX.at0 | exact SX.at1 | exact SX.at2 | exact SX.at3 | exact SX.at4 | exact SX.at5 | exact Z.at6 | exact Z.at7 | exact Z.at8 | exact Z.at9 | exact Z.at10 | exact Z.at11 | exact Z.at12) (by first | (simp; done) | (simp; omega)) ?_ | refine Z.ZO.storeR rfl rfl hs Try.sizeOf3 rfl rfl rfl (by first | exact SX.at0 | exact SX.at1 | exact SX.at2 | exact SX.at3 | exact SX.at4 | exact SX.at5 | exact Z.at6 | exact Z.at7 | exact Z.at8 | exact Z.at9 | exact Z.at10 | exact Z.at11 | exact Z.at12) (by first | omega | (simp [ints_length]; done) | (simp [ints_length]; omega)) ?_
                      clear hs; intro ws hs
                      simp only [Nat.zero_add, Nat.add_zero, Nat.reduceAdd, Int.reduceToNat, Nat.reduceMul, List.set_cons_zero, List.set_cons_succ, List.setIfInBounds_toArray] at hs
                      refine Z.tk (Dn := fun _ => true) (i := 17) (fun _ => ⟨_, hs, by first | (simp; done) | exact fun e he => List.mem_append_right _ he⟩) ?_
                      refine Z.td (by rfl) (by kernel_rfl) ?_
                      refine Z.only [0, 1, 2, 3, 8, 9] rfl ?_
                      refine Z.nblock ?_
                      refine Z.nthen ?_
                      refine Z.region ?_
                      rw [ints_swp (by omega)] at hs
                      refine Z.l rfl rfl (by rfl) (Z.keepS hs) (Z.Yd.pure rfl) ?_
                      refine Z.l rfl rfl (by rfl) (Z.keepS hs) (Z.Yd.sub rfl rfl (fun hG => Z.wi64 (by first | omega | (have hG' := Z.gh rfl hG; simp at hG'; omega)))) ?_
                      refine Z.lb 1 rfl ?_
                      refine Z.lnil ?_
                      refine Z.only [0, 1, 2, 3, 8, 9] rfl ?_
                      refine Z.nthen ?_
                      exact Z.again (j - 1, swp zs j) (by refine ⟨?_, ?_, ?_, ?_, ?_, ?_, trivial⟩ <;> (first | rfl | (refine Z.lookv rfl ?_; simp; done) | (refine Z.lookv rfl ?_; simp; omega))) ⟨⟨by simp only; omega, (swp_perm (by omega) (by omega)).trans hp, hS.step (by omega) (by omega) (by omega) (by rw [show ((j - 1 : Nat) : Int) = (j : Int) - 1 from by omega]; exact hz.1 (by assumption))⟩, hs⟩ (by simp only; omega)
                    · skip
                      refine Z.ZO.quiet rfl (by rfl) (Z.keepS hs) (by first | exact Z.Yd.load rfl Try.isAgg3 (fun _ => Z.cellB (by first | ((repeat (first | exact List.mem_cons_self | refine List.mem_cons_of_mem _ ?_ | refine List.mem_append_right _ ?_)); done) | fail) rfl) | exact Z.Yd.load rfl Try.isAgg3 (fun hG => Z.cellR (by first | ((repeat (first | exact List.mem_cons_self | refine List.mem_cons_of_mem _ ?_ | refine List.mem_append_right _ ?_)); done) | fail) (Z.ints_at (by first | omega | (have hG' := Z.gh rfl hG; simp at hG'; omega)) (by first | omega | (have hG' := Z.gh rfl hG; simp at hG'; omega)))) | exact Z.Yd.load rfl Try.isAgg3 (fun hG => Z.cellXi (by assumption) (by first | omega | (have hG' := Z.gh rfl hG; simp at hG'; omega)) (by first | omega | (have hG' := Z.gh rfl hG; simp at hG'; omega))) | exact Z.Yd.load rfl Try.isAgg3 (fun hG => Z.cellS (by assumption) rfl (by first | omega | (have hG' := Z.gh rfl hG; simp at hG'; omega)) (by first | omega | (have hG' := Z.gh rfl hG; simp at hG'; omega))) | fail "load 6.13") ?_
                      refine Z.tk (Dn := fun _ => true) (i := 13) (fun _ => ⟨_, hs, by first | (simp; done) | exact fun e he => List.mem_append_right _ he⟩) ?_
                      refine Z.tn 9 rfl rfl (by kernel_rfl) rfl trivial ?_
                      refine Z.ZO.quiet rfl (by rfl) (Z.keepS hs) (by first | exact Z.Yd.load rfl Try.isAgg3 (fun _ => Z.cellB (by first | ((repeat (first | exact List.mem_cons_self | refine List.mem_cons_of_mem _ ?_ | refine List.mem_append_right _ ?_)); done) | fail) rfl) | exact Z.Yd.load rfl Try.isAgg3 (fun hG => Z.cellR (by first | ((repeat (first | exact List.mem_cons_self | refine List.mem_cons_of_mem _ ?_ | refine List.mem_append_right _ ?_)); done) | fail) (Z.ints_at (by first | omega | (have hG' := Z.gh rfl hG; simp at hG'; omega)) (by first | omega | (have hG' := Z.gh rfl hG; simp at hG'; omega)))) | exact Z.Yd.load rfl Try.isAgg3 (fun hG => Z.cellXi (by assumption) (by first | omega | (have hG' := Z.gh rfl hG; simp at hG'; omega)) (by first | omega | (have hG' := Z.gh rfl hG; simp at hG'; omega))) | exact Z.Yd.load rfl Try.isAgg3 (fun hG => Z.cellS (by assumption) rfl (by first | omega | (have hG' := Z.gh rfl hG; simp at hG'; omega)) (by first | omega | (have hG' := Z.gh rfl hG; simp at hG'; omega))) | fail "load 6.9") ?_
                      refine Z.tk (Dn := fun _ => true) (i := 9) (fun _ => ⟨_, hs, by first | (simp; done) | exact fun e he => List.mem_append_right _ he⟩) ?_
                      refine Z.t 14 rfl rfl rfl (by rfl) (by kernel_rfl) ⟨_, hs, by first | (simp; done) | exact fun e he => List.mem_append_right _ he⟩ (Z.Yd.elem rfl rfl Try.underlying28 Try.sizeOf3 (fun hG => ⟨(by first | omega | (have hG' := Z.gh rfl hG; simp at hG'; omega)), (by first | omega | (have hG' := Z.gh rfl hG; simp at hG'; omega))⟩)) ?_
                      refine Z.tn 15 rfl rfl (by kernel_rfl) rfl trivial ?_
                      first | refine Z.ZO.store rfl rfl hs Try.sizeOf3 rfl rfl rfl (by first | exact SX.at0 | exact SX.at1 | exact SX.at2 | exact SX.at3 | exact SX.at4 | exact SX.at5 | exact Z.at6 | exact Z.at7 | exact Z.at8 | exact Z.at9 | exact Z.at10 | exact Z.at11 | exact Z.at12) (by first | (simp; done) | (simp; omega)) ?_ | refine Z.ZO.storeR rfl rfl hs Try.sizeOf3 rfl rfl rfl (by first | exact SX.at0 | exact SX.at1 | exact SX.at2 | exact SX.at3 | exact SX.at4 | exact SX.at5 | exact Z.at6 | exact Z.at7 | exact Z.at8 | exact Z.at9 | exact Z.at10 | exact Z.at11 | exact Z.at12) (by first | omega | (simp [ints_length]; done) | (simp [ints_length]; omega)) ?_
                      clear hs; intro ws hs
                      simp only [Nat.zero_add, Nat.add_zero, Nat.reduceAdd, Int.reduceToNat, Nat.reduceMul, List.set_cons_zero, List.set_cons_succ, List.setIfInBounds_toArray] at hs
                      refine Z.tk (Dn := fun _ => true) (i := 15) (fun _ => ⟨_, hs, by first | (simp; done) | exact fun e he => List.mem_append_right _ he⟩) ?_
                      refine Z.t 16 rfl rfl rfl (by rfl) (by kernel_rfl) ⟨_, hs, by first | (simp; done) | exact fun e he => List.mem_append_right _ he⟩ (Z.Yd.elem rfl rfl Try.underlying28 Try.sizeOf3 (fun hG => ⟨(by first | omega | (have hG' := Z.gh rfl hG; simp at hG'; omega)), (by first | omega | (have hG' := Z.gh rfl hG; simp at hG'; omega))⟩)) ?_
                      refine Z.tn 17 rfl rfl (by kernel_rfl) rfl trivial ?_
                      first | refine Z.ZO.store rfl rfl hs Try.sizeOf3 rfl rfl rfl (by first | exact SX.at0 | exact SX.at1 | exact SX.at2 | exact SX.at3 | exact SX.at4 | exact SX.at5 | exact Z.at6 | exact Z.at7 | exact Z.at8 | exact Z.at9 | exact Z.at10 | exact Z.at11 | exact Z.at12) (by first | (simp; done) | (simp; omega)) ?_ | refine Z.ZO.storeR rfl rfl hs Try.sizeOf3 rfl rfl rfl (by first | exact SX.at0 | exact SX.at1 | exact SX.at2 | exact SX.at3 | exact SX.at4 | exact SX.at5 | exact Z.at6 | exact Z.at7 | exact Z.at8 | exact Z.at9 | exact Z.at10 | exact Z.at11 | exact Z.at12) (by first | omega | (simp [ints_length]; done) | (simp [ints_length]; omega)) ?_
                      clear hs; intro ws hs
                      simp only [Nat.zero_add, Nat.add_zero, Nat.reduceAdd, Int.reduceToNat, Nat.reduceMul, List.set_cons_zero, List.set_cons_succ, List.setIfInBounds_toArray] at hs
                      refine Z.tk (Dn := fun _ => true) (i := 17) (fun _ => ⟨_, hs, by first | (simp; done) | exact fun e he => List.mem_append_right _ he⟩) ?_
                      refine Z.td (by rfl) (by kernel_rfl) ?_
                      refine Z.only [0, 1, 2, 3, 8, 9] rfl ?_
                      refine Z.nblock ?_
                      refine Z.nthen ?_
                      refine Z.region ?_
                      rw [ints_swp (by omega)] at hs
                      refine Z.l rfl rfl (by rfl) (Z.keepS hs) (Z.Yd.pure rfl) ?_
                      refine Z.l rfl rfl (by rfl) (Z.keepS hs) (Z.Yd.sub rfl rfl (fun hG => Z.wi64 (by first | omega | (have hG' := Z.gh rfl hG; simp at hG'; omega)))) ?_
                      refine Z.lb 1 rfl ?_
                      refine Z.lnil ?_
                      refine Z.only [0, 1, 2, 3, 8, 9] rfl ?_
                      refine Z.nthen ?_
                      exact Z.again (j - 1, swp zs j) (by refine ⟨?_, ?_, ?_, ?_, ?_, ?_, trivial⟩ <;> (first | rfl | (refine Z.lookv rfl ?_; simp; done) | (refine Z.lookv rfl ?_; simp; omega))) ⟨⟨by simp only; omega, (swp_perm (by omega) (by omega)).trans hp, hS.step (by omega) (by omega) (by omega) (by rw [show ((j - 1 : Nat) : Int) = (j : Int) - 1 from by omega]; exact hz.1 (by assumption))⟩, hs⟩ (by simp only; omega)
                    )
              · first
                  | (exfalso; simp at hc4 <;> omega)
                  | (
                    (try simp at hc4)
                    have hst3 : j = 0 ∨ κ (elt zs ((j - 1 : Nat) : Int)) ≤ κ (elt zs (j : Int)) := by
                      first
                      | exact hst
                      | (right; rw [show ((j - 1 : Nat) : Int) = (j : Int) - 1 from by omega]; exact Int.not_lt.1 fun h => absurd (hz.2 h) (by omega))
                    refine Z.exit ?_
                    refine Z.xthen ?_
                    refine Z.xthen ?_
                    refine Z.xblock ?_
                    refine Z.nblock ?_
                    refine Z.nthen ?_
                    refine Z.region ?_
                    refine Z.lb 1 rfl ?_
                    refine Z.l rfl rfl (by rfl) (Z.keepS hs) (Z.Yd.add rfl rfl (fun hG => Z.wi64 (by first | omega | (have hG' := Z.gh rfl hG; simp at hG'; omega)))) ?_
                    refine Z.lb 1 rfl ?_
                    refine Z.lnil ?_
                    refine Z.only [0, 1, 2, 3, 8] rfl ?_
                    refine Z.nthen ?_
                    exact Z.again (i + 1, zs) (by refine ⟨?_, ?_, ?_, ?_, ?_, trivial⟩ <;> (first | rfl | (refine Z.lookv rfl ?_; simp; done) | (refine Z.lookv rfl ?_; simp; omega))) ⟨⟨by simp only; omega, .inl (by simp only; omega), hp, hS.stop hst3⟩, hs⟩ (by simp only; omega)
                    )
              )
        · first
            | (exfalso; simp at hsp21 <;> omega)
            | (
              refine Z.yes (s := 21) (b := false) rfl hsp21 rfl ?_
              (try simp at hsp21)
              have hst : j = 0 ∨ κ (elt zs ((j - 1 : Nat) : Int)) ≤ κ (elt zs (j : Int)) := .inl (by omega)
              refine Z.t 4 rfl rfl rfl (by rfl) (by kernel_rfl) ⟨_, hs, by first | (simp; done) | exact fun e he => List.mem_append_right _ he⟩ (Z.Yd.off (v := undef) 21 true rfl (by first | (simp; done) | (simp_all; done)) (by intro c h; cases h)) ?_
              refine Z.t 5 rfl rfl rfl (by rfl) (by kernel_rfl) ⟨_, hs, by first | (simp; done) | exact fun e he => List.mem_append_right _ he⟩ (Z.Yd.off (v := undef) 21 true rfl (by first | (simp; done) | (simp_all; done)) (by intro c h; cases h)) ?_
              refine Z.t 6 rfl rfl rfl (by rfl) (by kernel_rfl) ⟨_, hs, by first | (simp; done) | exact fun e he => List.mem_append_right _ he⟩ (Z.Yd.off (v := undef) 21 true rfl (by first | (simp; done) | (simp_all; done)) (by intro c h; cases h)) ?_
              refine Z.t 7 rfl rfl rfl (by rfl) (by kernel_rfl) ⟨_, hs, by first | (simp; done) | exact fun e he => List.mem_append_right _ he⟩ (Z.Yd.off (v := undef) 21 true rfl (by first | (simp; done) | (simp_all; done)) (by intro c h; cases h)) ?_
              refine Z.t 8 rfl rfl rfl (by rfl) (by kernel_rfl) ⟨_, hs, by first | (simp; done) | exact fun e he => List.mem_append_right _ he⟩ (Z.Yd.off (v := undef) 21 true rfl (by first | (simp; done) | (simp_all; done)) (by intro c h; cases h)) ?_
              refine Z.t 9 rfl rfl rfl (by rfl) (by kernel_rfl) ⟨_, hs, by first | (simp; done) | exact fun e he => List.mem_append_right _ he⟩ (Z.Yd.off (v := undef) 21 true rfl (by first | (simp; done) | (simp_all; done)) (by intro c h; cases h)) ?_
              refine Z.t 10 rfl rfl rfl (by rfl) (by kernel_rfl) ⟨_, hs, by first | (simp; done) | exact fun e he => List.mem_append_right _ he⟩ (Z.Yd.off (v := undef) 21 true rfl (by first | (simp; done) | (simp_all; done)) (by intro c h; cases h)) ?_
              refine Z.t 11 rfl rfl rfl (by rfl) (by kernel_rfl) ⟨_, hs, by first | (simp; done) | exact fun e he => List.mem_append_right _ he⟩ (Z.Yd.off (v := undef) 21 true rfl (by first | (simp; done) | (simp_all; done)) (by intro c h; cases h)) ?_
              refine Z.t 12 rfl rfl rfl (by rfl) (by kernel_rfl) ⟨_, hs, by first | (simp; done) | exact fun e he => List.mem_append_right _ he⟩ (Z.Yd.off (v := undef) 21 true rfl (by first | (simp; done) | (simp_all; done)) (by intro c h; cases h)) ?_
              refine Z.t 13 rfl rfl rfl (by rfl) (by kernel_rfl) ⟨_, hs, by first | (simp; done) | exact fun e he => List.mem_append_right _ he⟩ (Z.Yd.off (v := undef) 21 true rfl (by first | (simp; done) | (simp_all; done)) (by intro c h; cases h)) ?_
              refine Z.yes (s := 21) (b := false) rfl rfl rfl ?_
              refine Z.tnS 21 true 14 rfl rfl (by kernel_rfl) rfl rfl (by simp) rfl (by rfl) (fun _ => ⟨_, hs, by first | (simp; done) | exact fun e he => List.mem_append_right _ he⟩) ?_
              refine Z.t 15 rfl rfl rfl (by rfl) (by kernel_rfl) ⟨_, hs, by first | (simp; done) | exact fun e he => List.mem_append_right _ he⟩ (Z.Yd.off (v := undef) 21 true rfl (by first | (simp; done) | (simp_all; done)) (by intro c h; cases h)) ?_
              refine Z.yes (s := 21) (b := false) rfl rfl rfl ?_
              refine Z.t 16 rfl rfl rfl (by rfl) (by kernel_rfl) ⟨_, hs, by first | (simp; done) | exact fun e he => List.mem_append_right _ he⟩ (Z.Yd.pickF rfl rfl) ?_
              refine Z.td (by rfl) (by kernel_rfl) ?_
              refine Z.only [0, 1, 2, 3, 8, 9, 34] rfl ?_
              refine Z.nthen ?_
              refine Z.cond rfl (fun hc4 => ?_) (fun hc4 => ?_)
              · first
                  | (exfalso; simp at hc4 <;> omega)
                  | (
                    (try simp at hc4)
                    refine Z.skip ?_
                    refine Z.nthen ?_
                    refine Z.seq ?_
                    refine Z.block ?_
                    refine Z.drawL [] (fun _ => true) mixed hs ?_
                    clear hs; intro wd6 hs
                    refine Z.tb [0, 1, 2, 3] (by kernel_rfl) rfl ⟨_, hs, by first | (simp; done) | exact fun e he => List.mem_append_right _ he⟩ rfl ?_
                    refine Z.t 4 rfl rfl rfl (by rfl) (by kernel_rfl) ⟨_, hs, by first | (simp; done) | exact fun e he => List.mem_append_right _ he⟩ (Z.Yd.sub rfl rfl (fun hG => Z.wi64 (by first | omega | (have hG' := Z.gh rfl hG; simp at hG'; omega)))) ?_
                    refine Z.tb [5, 6] (by kernel_rfl) rfl ⟨_, hs, by first | (simp; done) | exact fun e he => List.mem_append_right _ he⟩ rfl ?_
                    refine Z.t 7 rfl rfl rfl (by rfl) (by kernel_rfl) ⟨_, hs, by first | (simp; done) | exact fun e he => List.mem_append_right _ he⟩ (Z.Yd.sub rfl rfl (fun hG => Z.wi64 (by first | omega | (have hG' := Z.gh rfl hG; simp at hG'; omega)))) ?_
                    refine Z.t 8 rfl rfl rfl (by rfl) (by kernel_rfl) ⟨_, hs, by first | (simp; done) | exact fun e he => List.mem_append_right _ he⟩ (Z.Yd.elem rfl rfl Try.underlying28 Try.sizeOf3 (fun hG => ⟨(by first | omega | (have hG' := Z.gh rfl hG; simp at hG'; omega)), (by first | omega | (have hG' := Z.gh rfl hG; simp at hG'; omega))⟩)) ?_
                    refine Z.tb [10, 11] (by kernel_rfl) rfl ⟨_, hs, by first | (simp; done) | exact fun e he => List.mem_append_right _ he⟩ rfl ?_
                    refine Z.t 12 rfl rfl rfl (by rfl) (by kernel_rfl) ⟨_, hs, by first | (simp; done) | exact fun e he => List.mem_append_right _ he⟩ (Z.Yd.elem rfl rfl Try.underlying28 Try.sizeOf3 (fun hG => ⟨(by first | omega | (have hG' := Z.gh rfl hG; simp at hG'; omega)), (by first | omega | (have hG' := Z.gh rfl hG; simp at hG'; omega))⟩)) ?_
                    refine Z.fork2 9 13 rfl rfl rfl (by kernel_rfl) rfl rfl trivial trivial ?_ ?_
                    · skip
                      refine Z.ZO.quiet rfl (by rfl) (Z.keepS hs) (by first | exact Z.Yd.load rfl Try.isAgg3 (fun _ => Z.cellB (by first | ((repeat (first | exact List.mem_cons_self | refine List.mem_cons_of_mem _ ?_ | refine List.mem_append_right _ ?_)); done) | fail) rfl) | exact Z.Yd.load rfl Try.isAgg3 (fun hG => Z.cellR (by first | ((repeat (first | exact List.mem_cons_self | refine List.mem_cons_of_mem _ ?_ | refine List.mem_append_right _ ?_)); done) | fail) (Z.ints_at (by first | omega | (have hG' := Z.gh rfl hG; simp at hG'; omega)) (by first | omega | (have hG' := Z.gh rfl hG; simp at hG'; omega)))) | exact Z.Yd.load rfl Try.isAgg3 (fun hG => Z.cellXi (by assumption) (by first | omega | (have hG' := Z.gh rfl hG; simp at hG'; omega)) (by first | omega | (have hG' := Z.gh rfl hG; simp at hG'; omega))) | exact Z.Yd.load rfl Try.isAgg3 (fun hG => Z.cellS (by assumption) rfl (by first | omega | (have hG' := Z.gh rfl hG; simp at hG'; omega)) (by first | omega | (have hG' := Z.gh rfl hG; simp at hG'; omega))) | fail "load 6.9") ?_
                      refine Z.tk (Dn := fun _ => true) (i := 9) (fun _ => ⟨_, hs, by first | (simp; done) | exact fun e he => List.mem_append_right _ he⟩) ?_
                      refine Z.tn 13 rfl rfl (by kernel_rfl) rfl trivial ?_
                      refine Z.ZO.quiet rfl (by rfl) (Z.keepS hs) (by first | exact Z.Yd.load rfl Try.isAgg3 (fun _ => Z.cellB (by first | ((repeat (first | exact List.mem_cons_self | refine List.mem_cons_of_mem _ ?_ | refine List.mem_append_right _ ?_)); done) | fail) rfl) | exact Z.Yd.load rfl Try.isAgg3 (fun hG => Z.cellR (by first | ((repeat (first | exact List.mem_cons_self | refine List.mem_cons_of_mem _ ?_ | refine List.mem_append_right _ ?_)); done) | fail) (Z.ints_at (by first | omega | (have hG' := Z.gh rfl hG; simp at hG'; omega)) (by first | omega | (have hG' := Z.gh rfl hG; simp at hG'; omega)))) | exact Z.Yd.load rfl Try.isAgg3 (fun hG => Z.cellXi (by assumption) (by first | omega | (have hG' := Z.gh rfl hG; simp at hG'; omega)) (by first | omega | (have hG' := Z.gh rfl hG; simp at hG'; omega))) | exact Z.Yd.load rfl Try.isAgg3 (fun hG => Z.cellS (by assumption) rfl (by first | omega | (have hG' := Z.gh rfl hG; simp at hG'; omega)) (by first | omega | (have hG' := Z.gh rfl hG; simp at hG'; omega))) | fail "load 6.13") ?_
                      refine Z.tk (Dn := fun _ => true) (i := 13) (fun _ => ⟨_, hs, by first | (simp; done) | exact fun e he => List.mem_append_right _ he⟩) ?_
                      refine Z.t 14 rfl rfl rfl (by rfl) (by kernel_rfl) ⟨_, hs, by first | (simp; done) | exact fun e he => List.mem_append_right _ he⟩ (Z.Yd.elem rfl rfl Try.underlying28 Try.sizeOf3 (fun hG => ⟨(by first | omega | (have hG' := Z.gh rfl hG; simp at hG'; omega)), (by first | omega | (have hG' := Z.gh rfl hG; simp at hG'; omega))⟩)) ?_
                      refine Z.tn 15 rfl rfl (by kernel_rfl) rfl trivial ?_
                      first | refine Z.ZO.store rfl rfl hs Try.sizeOf3 rfl rfl rfl (by first | exact SX.at0 | exact SX.at1 | exact SX.at2 | exact SX.at3 | exact SX.at4 | exact SX.at5 | exact Z.at6 | exact Z.at7 | exact Z.at8 | exact Z.at9 | exact Z.at10 | exact Z.at11 | exact Z.at12) (by first | (simp; done) | (simp; omega)) ?_ | refine Z.ZO.storeR rfl rfl hs Try.sizeOf3 rfl rfl rfl (by first | exact SX.at0 | exact SX.at1 | exact SX.at2 | exact SX.at3 | exact SX.at4 | exact SX.at5 | exact Z.at6 | exact Z.at7 | exact Z.at8 | exact Z.at9 | exact Z.at10 | exact Z.at11 | exact Z.at12) (by first | omega | (simp [ints_length]; done) | (simp [ints_length]; omega)) ?_
                      clear hs; intro ws hs
                      simp only [Nat.zero_add, Nat.add_zero, Nat.reduceAdd, Int.reduceToNat, Nat.reduceMul, List.set_cons_zero, List.set_cons_succ, List.setIfInBounds_toArray] at hs
                      refine Z.tk (Dn := fun _ => true) (i := 15) (fun _ => ⟨_, hs, by first | (simp; done) | exact fun e he => List.mem_append_right _ he⟩) ?_
                      refine Z.t 16 rfl rfl rfl (by rfl) (by kernel_rfl) ⟨_, hs, by first | (simp; done) | exact fun e he => List.mem_append_right _ he⟩ (Z.Yd.elem rfl rfl Try.underlying28 Try.sizeOf3 (fun hG => ⟨(by first | omega | (have hG' := Z.gh rfl hG; simp at hG'; omega)), (by first | omega | (have hG' := Z.gh rfl hG; simp at hG'; omega))⟩)) ?_
                      refine Z.tn 17 rfl rfl (by kernel_rfl) rfl trivial ?_
                      first | refine Z.ZO.store rfl rfl hs Try.sizeOf3 rfl rfl rfl (by first | exact SX.at0 | exact SX.at1 | exact SX.at2 | exact SX.at3 | exact SX.at4 | exact SX.at5 | exact Z.at6 | exact Z.at7 | exact Z.at8 | exact Z.at9 | exact Z.at10 | exact Z.at11 | exact Z.at12) (by first | (simp; done) | (simp; omega)) ?_ | refine Z.ZO.storeR rfl rfl hs Try.sizeOf3 rfl rfl rfl (by first | exact SX.at0 | exact SX.at1 | exact SX.at2 | exact SX.at3 | exact SX.at4 | exact SX.at5 | exact Z.at6 | exact Z.at7 | exact Z.at8 | exact Z.at9 | exact Z.at10 | exact Z.at11 | exact Z.at12) (by first | omega | (simp [ints_length]; done) | (simp [ints_length]; omega)) ?_
                      clear hs; intro ws hs
                      simp only [Nat.zero_add, Nat.add_zero, Nat.reduceAdd, Int.reduceToNat, Nat.reduceMul, List.set_cons_zero, List.set_cons_succ, List.setIfInBounds_toArray] at hs
                      refine Z.tk (Dn := fun _ => true) (i := 17) (fun _ => ⟨_, hs, by first | (simp; done) | exact fun e he => List.mem_append_right _ he⟩) ?_
                      refine Z.td (by rfl) (by kernel_rfl) ?_
                      refine Z.only [0, 1, 2, 3, 8, 9] rfl ?_
                      refine Z.nblock ?_
                      refine Z.nthen ?_
                      refine Z.region ?_
                      rw [ints_swp (by omega)] at hs
                      refine Z.l rfl rfl (by rfl) (Z.keepS hs) (Z.Yd.pure rfl) ?_
                      refine Z.l rfl rfl (by rfl) (Z.keepS hs) (Z.Yd.sub rfl rfl (fun hG => Z.wi64 (by first | omega | (have hG' := Z.gh rfl hG; simp at hG'; omega)))) ?_
                      refine Z.lb 1 rfl ?_
                      refine Z.lnil ?_
                      refine Z.only [0, 1, 2, 3, 8, 9] rfl ?_
                      refine Z.nthen ?_
                      exact Z.again (j - 1, swp zs j) (by refine ⟨?_, ?_, ?_, ?_, ?_, ?_, trivial⟩ <;> (first | rfl | (refine Z.lookv rfl ?_; simp; done) | (refine Z.lookv rfl ?_; simp; omega))) ⟨⟨by simp only; omega, (swp_perm (by omega) (by omega)).trans hp, hS.step (by omega) (by omega) (by omega) (by rw [show ((j - 1 : Nat) : Int) = (j : Int) - 1 from by omega]; exact hz.1 (by assumption))⟩, hs⟩ (by simp only; omega)
                    · skip
                      refine Z.ZO.quiet rfl (by rfl) (Z.keepS hs) (by first | exact Z.Yd.load rfl Try.isAgg3 (fun _ => Z.cellB (by first | ((repeat (first | exact List.mem_cons_self | refine List.mem_cons_of_mem _ ?_ | refine List.mem_append_right _ ?_)); done) | fail) rfl) | exact Z.Yd.load rfl Try.isAgg3 (fun hG => Z.cellR (by first | ((repeat (first | exact List.mem_cons_self | refine List.mem_cons_of_mem _ ?_ | refine List.mem_append_right _ ?_)); done) | fail) (Z.ints_at (by first | omega | (have hG' := Z.gh rfl hG; simp at hG'; omega)) (by first | omega | (have hG' := Z.gh rfl hG; simp at hG'; omega)))) | exact Z.Yd.load rfl Try.isAgg3 (fun hG => Z.cellXi (by assumption) (by first | omega | (have hG' := Z.gh rfl hG; simp at hG'; omega)) (by first | omega | (have hG' := Z.gh rfl hG; simp at hG'; omega))) | exact Z.Yd.load rfl Try.isAgg3 (fun hG => Z.cellS (by assumption) rfl (by first | omega | (have hG' := Z.gh rfl hG; simp at hG'; omega)) (by first | omega | (have hG' := Z.gh rfl hG; simp at hG'; omega))) | fail "load 6.13") ?_
                      refine Z.tk (Dn := fun _ => true) (i := 13) (fun _ => ⟨_, hs, by first | (simp; done) | exact fun e he => List.mem_append_right _ he⟩) ?_
                      refine Z.tn 9 rfl rfl (by kernel_rfl) rfl trivial ?_
                      refine Z.ZO.quiet rfl (by rfl) (Z.keepS hs) (by first | exact Z.Yd.load rfl Try.isAgg3 (fun _ => Z.cellB (by first | ((repeat (first | exact List.mem_cons_self | refine List.mem_cons_of_mem _ ?_ | refine List.mem_append_right _ ?_)); done) | fail) rfl) | exact Z.Yd.load rfl Try.isAgg3 (fun hG => Z.cellR (by first | ((repeat (first | exact List.mem_cons_self | refine List.mem_cons_of_mem _ ?_ | refine List.mem_append_right _ ?_)); done) | fail) (Z.ints_at (by first | omega | (have hG' := Z.gh rfl hG; simp at hG'; omega)) (by first | omega | (have hG' := Z.gh rfl hG; simp at hG'; omega)))) | exact Z.Yd.load rfl Try.isAgg3 (fun hG => Z.cellXi (by assumption) (by first | omega | (have hG' := Z.gh rfl hG; simp at hG'; omega)) (by first | omega | (have hG' := Z.gh rfl hG; simp at hG'; omega))) | exact Z.Yd.load rfl Try.isAgg3 (fun hG => Z.cellS (by assumption) rfl (by first | omega | (have hG' := Z.gh rfl hG; simp at hG'; omega)) (by first | omega | (have hG' := Z.gh rfl hG; simp at hG'; omega))) | fail "load 6.9") ?_
                      refine Z.tk (Dn := fun _ => true) (i := 9) (fun _ => ⟨_, hs, by first | (simp; done) | exact fun e he => List.mem_append_right _ he⟩) ?_
                      refine Z.t 14 rfl rfl rfl (by rfl) (by kernel_rfl) ⟨_, hs, by first | (simp; done) | exact fun e he => List.mem_append_right _ he⟩ (Z.Yd.elem rfl rfl Try.underlying28 Try.sizeOf3 (fun hG => ⟨(by first | omega | (have hG' := Z.gh rfl hG; simp at hG'; omega)), (by first | omega | (have hG' := Z.gh rfl hG; simp at hG'; omega))⟩)) ?_
                      refine Z.tn 15 rfl rfl (by kernel_rfl) rfl trivial ?_
                      first | refine Z.ZO.store rfl rfl hs Try.sizeOf3 rfl rfl rfl (by first | exact SX.at0 | exact SX.at1 | exact SX.at2 | exact SX.at3 | exact SX.at4 | exact SX.at5 | exact Z.at6 | exact Z.at7 | exact Z.at8 | exact Z.at9 | exact Z.at10 | exact Z.at11 | exact Z.at12) (by first | (simp; done) | (simp; omega)) ?_ | refine Z.ZO.storeR rfl rfl hs Try.sizeOf3 rfl rfl rfl (by first | exact SX.at0 | exact SX.at1 | exact SX.at2 | exact SX.at3 | exact SX.at4 | exact SX.at5 | exact Z.at6 | exact Z.at7 | exact Z.at8 | exact Z.at9 | exact Z.at10 | exact Z.at11 | exact Z.at12) (by first | omega | (simp [ints_length]; done) | (simp [ints_length]; omega)) ?_
                      clear hs; intro ws hs
                      simp only [Nat.zero_add, Nat.add_zero, Nat.reduceAdd, Int.reduceToNat, Nat.reduceMul, List.set_cons_zero, List.set_cons_succ, List.setIfInBounds_toArray] at hs
                      refine Z.tk (Dn := fun _ => true) (i := 15) (fun _ => ⟨_, hs, by first | (simp; done) | exact fun e he => List.mem_append_right _ he⟩) ?_
                      refine Z.t 16 rfl rfl rfl (by rfl) (by kernel_rfl) ⟨_, hs, by first | (simp; done) | exact fun e he => List.mem_append_right _ he⟩ (Z.Yd.elem rfl rfl Try.underlying28 Try.sizeOf3 (fun hG => ⟨(by first | omega | (have hG' := Z.gh rfl hG; simp at hG'; omega)), (by first | omega | (have hG' := Z.gh rfl hG; simp at hG'; omega))⟩)) ?_
                      refine Z.tn 17 rfl rfl (by kernel_rfl) rfl trivial ?_
                      first | refine Z.ZO.store rfl rfl hs Try.sizeOf3 rfl rfl rfl (by first | exact SX.at0 | exact SX.at1 | exact SX.at2 | exact SX.at3 | exact SX.at4 | exact SX.at5 | exact Z.at6 | exact Z.at7 | exact Z.at8 | exact Z.at9 | exact Z.at10 | exact Z.at11 | exact Z.at12) (by first | (simp; done) | (simp; omega)) ?_ | refine Z.ZO.storeR rfl rfl hs Try.sizeOf3 rfl rfl rfl (by first | exact SX.at0 | exact SX.at1 | exact SX.at2 | exact SX.at3 | exact SX.at4 | exact SX.at5 | exact Z.at6 | exact Z.at7 | exact Z.at8 | exact Z.at9 | exact Z.at10 | exact Z.at11 | exact Z.at12) (by first | omega | (simp [ints_length]; done) | (simp [ints_length]; omega)) ?_
                      clear hs; intro ws hs
                      simp only [Nat.zero_add, Nat.add_zero, Nat.reduceAdd, Int.reduceToNat, Nat.reduceMul, List.set_cons_zero, List.set_cons_succ, List.setIfInBounds_toArray] at hs
                      refine Z.tk (Dn := fun _ => true) (i := 17) (fun _ => ⟨_, hs, by first | (simp; done) | exact fun e he => List.mem_append_right _ he⟩) ?_
                      refine Z.td (by rfl) (by kernel_rfl) ?_
                      refine Z.only [0, 1, 2, 3, 8, 9] rfl ?_
                      refine Z.nblock ?_
                      refine Z.nthen ?_
                      refine Z.region ?_
                      rw [ints_swp (by omega)] at hs
                      refine Z.l rfl rfl (by rfl) (Z.keepS hs) (Z.Yd.pure rfl) ?_
                      refine Z.l rfl rfl (by rfl) (Z.keepS hs) (Z.Yd.sub rfl rfl (fun hG => Z.wi64 (by first | omega | (have hG' := Z.gh rfl hG; simp at hG'; omega)))) ?_
                      refine Z.lb 1 rfl ?_
                      refine Z.lnil ?_
                      refine Z.only [0, 1, 2, 3, 8, 9] rfl ?_
                      refine Z.nthen ?_
                      exact Z.again (j - 1, swp zs j) (by refine ⟨?_, ?_, ?_, ?_, ?_, ?_, trivial⟩ <;> (first | rfl | (refine Z.lookv rfl ?_; simp; done) | (refine Z.lookv rfl ?_; simp; omega))) ⟨⟨by simp only; omega, (swp_perm (by omega) (by omega)).trans hp, hS.step (by omega) (by omega) (by omega) (by rw [show ((j - 1 : Nat) : Int) = (j : Int) - 1 from by omega]; exact hz.1 (by assumption))⟩, hs⟩ (by simp only; omega)
                    )
              · first
                  | (exfalso; simp at hc4 <;> omega)
                  | (
                    (try simp at hc4)
                    have hst3 : j = 0 ∨ κ (elt zs ((j - 1 : Nat) : Int)) ≤ κ (elt zs (j : Int)) := by
                      first
                      | exact hst
                      | (right; rw [show ((j - 1 : Nat) : Int) = (j : Int) - 1 from by omega]; exact Int.not_lt.1 fun h => absurd (hz.2 h) (by omega))
                    refine Z.exit ?_
                    refine Z.xthen ?_
                    refine Z.xthen ?_
                    refine Z.xblock ?_
                    refine Z.nblock ?_
                    refine Z.nthen ?_
                    refine Z.region ?_
                    refine Z.lb 1 rfl ?_
                    refine Z.l rfl rfl (by rfl) (Z.keepS hs) (Z.Yd.add rfl rfl (fun hG => Z.wi64 (by first | omega | (have hG' := Z.gh rfl hG; simp at hG'; omega)))) ?_
                    refine Z.lb 1 rfl ?_
                    refine Z.lnil ?_
                    refine Z.only [0, 1, 2, 3, 8] rfl ?_
                    refine Z.nthen ?_
                    exact Z.again (i + 1, zs) (by refine ⟨?_, ?_, ?_, ?_, ?_, trivial⟩ <;> (first | rfl | (refine Z.lookv rfl ?_; simp; done) | (refine Z.lookv rfl ?_; simp; omega))) ⟨⟨by simp only; omega, .inl (by simp only; omega), hp, hS.stop hst3⟩, hs⟩ (by simp only; omega)
                    )
              )
        )
  · first
      | (exfalso; simp at hc1 <;> omega)
      | (
        (try simp at hc1)
        refine Z.exit ?_
        refine Z.xthen ?_
        refine Z.xthen ?_
        refine Z.xblock ?_
        -- ret#0
        refine Z.out0n trivial ?_
        exact ⟨_, rfl, rfl, ys, hp, fun p q h1 h2 h3 => hS p q h1 (by omega) (by omega), hs⟩
        )
end Go.Proofs.Ythdhobnkclddhaa

/- Sorting at most ten integers. -/
namespace Go.Proofs.Ythdhobnkclddhaa
open Go.RowKit
set_option linter.unusedSimpArgs false
set_option linter.unusedVariables false
--newlaws

theorem bl64_1 (w : World) : Calls Try.prog 62 #[.int .u64 1] w (SX.Ret fun v w' => (∃ z : Int, v = .int .i64 z) ∧ SX.St w [] w' []) := by
  have hs := SX.St.start w
  refine Z.enter Try.func62 rfl Try.ntmps62 rfl rfl ?_
  refine Z.seq ?_
  refine Z.region ?_
  refine Z.lb 1 rfl ?_
  refine Z.lnil ?_
  refine Z.only [0, 2] rfl ?_
  refine Z.nthen ?_
  refine Z.seq ?_
  refine Z.seq ?_
  refine Z.region ?_
  refine Z.lb 2 rfl ?_
  refine Z.lnil ?_
  refine Z.only [0, 2, 4] rfl ?_
  refine Z.nthen ?_
  refine Z.cond rfl (fun h => absurd h (by simp)) (fun hc1 => ?_)
  refine Z.skip ?_
  refine Z.nthen ?_
  refine Z.seq ?_
  refine Z.seq ?_
  refine Z.region ?_
  refine Z.lb 2 rfl ?_
  refine Z.lnil ?_
  refine Z.only [0, 2, 8] rfl ?_
  refine Z.nthen ?_
  refine Z.cond rfl (fun h => absurd h (by simp)) (fun hc4 => ?_)
  refine Z.skip ?_
  refine Z.nthen ?_
  refine Z.seq ?_
  refine Z.seq ?_
  refine Z.region ?_
  refine Z.lb 2 rfl ?_
  refine Z.lnil ?_
  refine Z.only [0, 2, 14] rfl ?_
  refine Z.nthen ?_
  refine Z.cond rfl (fun h => absurd h (by simp)) (fun hc7 => ?_)
  refine Z.skip ?_
  refine Z.nthen ?_
  refine Z.seq ?_
  refine Z.region ?_
  refine Z.lb 2 rfl ?_
  refine Z.l rfl rfl (by rfl) (Z.keepS hs) (Z.Yd.convI rfl ⟨_, Try.underlying102⟩ Try.underlying5 (fun hG => Z.wu8 (by first | omega | (have hG' := Z.gh rfl hG; simp at hG'; omega)))) ?_
  refine Z.l rfl rfl (by rfl) (Z.keepS hs) (Z.Yd.index (v := .int .u8 1) rfl rfl (by intro _ w; kernel_rfl)) ?_
  refine Z.l rfl rfl (by rfl) (Z.keepS hs) (Z.Yd.convI rfl ⟨_, Try.underlying5⟩ Try.underlying3 (fun hG => Z.wi64 (by first | omega | (have hG' := Z.gh rfl hG; simp at hG'; omega)))) ?_
  refine Z.l rfl rfl (by rfl) (Z.keepS hs) (Z.Yd.add rfl rfl (fun hG => Z.wi64 (by first | omega | (have hG' := Z.gh rfl hG; simp at hG'; omega)))) ?_
  refine Z.lb 1 rfl ?_
  refine Z.lnil ?_
  refine Z.only [2] rfl ?_
  refine Z.nthen ?_
  refine Z.ret ?_
  -- ret#0
  refine Z.out1 (by exact ⟨rfl, trivial⟩) ?_
  exact ⟨_, rfl, ⟨_, rfl⟩, hs⟩
theorem bl64_2 (w : World) : Calls Try.prog 62 #[.int .u64 2] w (SX.Ret fun v w' => (∃ z : Int, v = .int .i64 z) ∧ SX.St w [] w' []) := by
  have hs := SX.St.start w
  refine Z.enter Try.func62 rfl Try.ntmps62 rfl rfl ?_
  refine Z.seq ?_
  refine Z.region ?_
  refine Z.lb 1 rfl ?_
  refine Z.lnil ?_
  refine Z.only [0, 2] rfl ?_
  refine Z.nthen ?_
  refine Z.seq ?_
  refine Z.seq ?_
  refine Z.region ?_
  refine Z.lb 2 rfl ?_
  refine Z.lnil ?_
  refine Z.only [0, 2, 4] rfl ?_
  refine Z.nthen ?_
  refine Z.cond rfl (fun h => absurd h (by simp)) (fun hc1 => ?_)
  refine Z.skip ?_
  refine Z.nthen ?_
  refine Z.seq ?_
  refine Z.seq ?_
  refine Z.region ?_
  refine Z.lb 2 rfl ?_
  refine Z.lnil ?_
  refine Z.only [0, 2, 8] rfl ?_
  refine Z.nthen ?_
  refine Z.cond rfl (fun h => absurd h (by simp)) (fun hc4 => ?_)
  refine Z.skip ?_
  refine Z.nthen ?_
  refine Z.seq ?_
  refine Z.seq ?_
  refine Z.region ?_
  refine Z.lb 2 rfl ?_
  refine Z.lnil ?_
  refine Z.only [0, 2, 14] rfl ?_
  refine Z.nthen ?_
  refine Z.cond rfl (fun h => absurd h (by simp)) (fun hc7 => ?_)
  refine Z.skip ?_
  refine Z.nthen ?_
  refine Z.seq ?_
  refine Z.region ?_
  refine Z.lb 2 rfl ?_
  refine Z.l rfl rfl (by rfl) (Z.keepS hs) (Z.Yd.convI rfl ⟨_, Try.underlying102⟩ Try.underlying5 (fun hG => Z.wu8 (by first | omega | (have hG' := Z.gh rfl hG; simp at hG'; omega)))) ?_
  refine Z.l rfl rfl (by rfl) (Z.keepS hs) (Z.Yd.index (v := .int .u8 2) rfl rfl (by intro _ w; kernel_rfl)) ?_
  refine Z.l rfl rfl (by rfl) (Z.keepS hs) (Z.Yd.convI rfl ⟨_, Try.underlying5⟩ Try.underlying3 (fun hG => Z.wi64 (by first | omega | (have hG' := Z.gh rfl hG; simp at hG'; omega)))) ?_
  refine Z.l rfl rfl (by rfl) (Z.keepS hs) (Z.Yd.add rfl rfl (fun hG => Z.wi64 (by first | omega | (have hG' := Z.gh rfl hG; simp at hG'; omega)))) ?_
  refine Z.lb 1 rfl ?_
  refine Z.lnil ?_
  refine Z.only [2] rfl ?_
  refine Z.nthen ?_
  refine Z.ret ?_
  -- ret#0
  refine Z.out1 (by exact ⟨rfl, trivial⟩) ?_
  exact ⟨_, rfl, ⟨_, rfl⟩, hs⟩
theorem bl64_3 (w : World) : Calls Try.prog 62 #[.int .u64 3] w (SX.Ret fun v w' => (∃ z : Int, v = .int .i64 z) ∧ SX.St w [] w' []) := by
  have hs := SX.St.start w
  refine Z.enter Try.func62 rfl Try.ntmps62 rfl rfl ?_
  refine Z.seq ?_
  refine Z.region ?_
  refine Z.lb 1 rfl ?_
  refine Z.lnil ?_
  refine Z.only [0, 2] rfl ?_
  refine Z.nthen ?_
  refine Z.seq ?_
  refine Z.seq ?_
  refine Z.region ?_
  refine Z.lb 2 rfl ?_
  refine Z.lnil ?_
  refine Z.only [0, 2, 4] rfl ?_
  refine Z.nthen ?_
  refine Z.cond rfl (fun h => absurd h (by simp)) (fun hc1 => ?_)
  refine Z.skip ?_
  refine Z.nthen ?_
  refine Z.seq ?_
  refine Z.seq ?_
  refine Z.region ?_
  refine Z.lb 2 rfl ?_
  refine Z.lnil ?_
  refine Z.only [0, 2, 8] rfl ?_
  refine Z.nthen ?_
  refine Z.cond rfl (fun h => absurd h (by simp)) (fun hc4 => ?_)
  refine Z.skip ?_
  refine Z.nthen ?_
  refine Z.seq ?_
  refine Z.seq ?_
  refine Z.region ?_
  refine Z.lb 2 rfl ?_
  refine Z.lnil ?_
  refine Z.only [0, 2, 14] rfl ?_
  refine Z.nthen ?_
  refine Z.cond rfl (fun h => absurd h (by simp)) (fun hc7 => ?_)
  refine Z.skip ?_
  refine Z.nthen ?_
  refine Z.seq ?_
  refine Z.region ?_
  refine Z.lb 2 rfl ?_
  refine Z.l rfl rfl (by rfl) (Z.keepS hs) (Z.Yd.convI rfl ⟨_, Try.underlying102⟩ Try.underlying5 (fun hG => Z.wu8 (by first | omega | (have hG' := Z.gh rfl hG; simp at hG'; omega)))) ?_
  refine Z.l rfl rfl (by rfl) (Z.keepS hs) (Z.Yd.index (v := .int .u8 2) rfl rfl (by intro _ w; kernel_rfl)) ?_
  refine Z.l rfl rfl (by rfl) (Z.keepS hs) (Z.Yd.convI rfl ⟨_, Try.underlying5⟩ Try.underlying3 (fun hG => Z.wi64 (by first | omega | (have hG' := Z.gh rfl hG; simp at hG'; omega)))) ?_
  refine Z.l rfl rfl (by rfl) (Z.keepS hs) (Z.Yd.add rfl rfl (fun hG => Z.wi64 (by first | omega | (have hG' := Z.gh rfl hG; simp at hG'; omega)))) ?_
  refine Z.lb 1 rfl ?_
  refine Z.lnil ?_
  refine Z.only [2] rfl ?_
  refine Z.nthen ?_
  refine Z.ret ?_
  -- ret#0
  refine Z.out1 (by exact ⟨rfl, trivial⟩) ?_
  exact ⟨_, rfl, ⟨_, rfl⟩, hs⟩
theorem bl64_4 (w : World) : Calls Try.prog 62 #[.int .u64 4] w (SX.Ret fun v w' => (∃ z : Int, v = .int .i64 z) ∧ SX.St w [] w' []) := by
  have hs := SX.St.start w
  refine Z.enter Try.func62 rfl Try.ntmps62 rfl rfl ?_
  refine Z.seq ?_
  refine Z.region ?_
  refine Z.lb 1 rfl ?_
  refine Z.lnil ?_
  refine Z.only [0, 2] rfl ?_
  refine Z.nthen ?_
  refine Z.seq ?_
  refine Z.seq ?_
  refine Z.region ?_
  refine Z.lb 2 rfl ?_
  refine Z.lnil ?_
  refine Z.only [0, 2, 4] rfl ?_
  refine Z.nthen ?_
  refine Z.cond rfl (fun h => absurd h (by simp)) (fun hc1 => ?_)
  refine Z.skip ?_
  refine Z.nthen ?_
  refine Z.seq ?_
  refine Z.seq ?_
  refine Z.region ?_
  refine Z.lb 2 rfl ?_
  refine Z.lnil ?_
  refine Z.only [0, 2, 8] rfl ?_
  refine Z.nthen ?_
  refine Z.cond rfl (fun h => absurd h (by simp)) (fun hc4 => ?_)
  refine Z.skip ?_
  refine Z.nthen ?_
  refine Z.seq ?_
  refine Z.seq ?_
  refine Z.region ?_
  refine Z.lb 2 rfl ?_
  refine Z.lnil ?_
  refine Z.only [0, 2, 14] rfl ?_
  refine Z.nthen ?_
  refine Z.cond rfl (fun h => absurd h (by simp)) (fun hc7 => ?_)
  refine Z.skip ?_
  refine Z.nthen ?_
  refine Z.seq ?_
  refine Z.region ?_
  refine Z.lb 2 rfl ?_
  refine Z.l rfl rfl (by rfl) (Z.keepS hs) (Z.Yd.convI rfl ⟨_, Try.underlying102⟩ Try.underlying5 (fun hG => Z.wu8 (by first | omega | (have hG' := Z.gh rfl hG; simp at hG'; omega)))) ?_
  refine Z.l rfl rfl (by rfl) (Z.keepS hs) (Z.Yd.index (v := .int .u8 3) rfl rfl (by intro _ w; kernel_rfl)) ?_
  refine Z.l rfl rfl (by rfl) (Z.keepS hs) (Z.Yd.convI rfl ⟨_, Try.underlying5⟩ Try.underlying3 (fun hG => Z.wi64 (by first | omega | (have hG' := Z.gh rfl hG; simp at hG'; omega)))) ?_
  refine Z.l rfl rfl (by rfl) (Z.keepS hs) (Z.Yd.add rfl rfl (fun hG => Z.wi64 (by first | omega | (have hG' := Z.gh rfl hG; simp at hG'; omega)))) ?_
  refine Z.lb 1 rfl ?_
  refine Z.lnil ?_
  refine Z.only [2] rfl ?_
  refine Z.nthen ?_
  refine Z.ret ?_
  -- ret#0
  refine Z.out1 (by exact ⟨rfl, trivial⟩) ?_
  exact ⟨_, rfl, ⟨_, rfl⟩, hs⟩
theorem bl64_5 (w : World) : Calls Try.prog 62 #[.int .u64 5] w (SX.Ret fun v w' => (∃ z : Int, v = .int .i64 z) ∧ SX.St w [] w' []) := by
  have hs := SX.St.start w
  refine Z.enter Try.func62 rfl Try.ntmps62 rfl rfl ?_
  refine Z.seq ?_
  refine Z.region ?_
  refine Z.lb 1 rfl ?_
  refine Z.lnil ?_
  refine Z.only [0, 2] rfl ?_
  refine Z.nthen ?_
  refine Z.seq ?_
  refine Z.seq ?_
  refine Z.region ?_
  refine Z.lb 2 rfl ?_
  refine Z.lnil ?_
  refine Z.only [0, 2, 4] rfl ?_
  refine Z.nthen ?_
  refine Z.cond rfl (fun h => absurd h (by simp)) (fun hc1 => ?_)
  refine Z.skip ?_
  refine Z.nthen ?_
  refine Z.seq ?_
  refine Z.seq ?_
  refine Z.region ?_
  refine Z.lb 2 rfl ?_
  refine Z.lnil ?_
  refine Z.only [0, 2, 8] rfl ?_
  refine Z.nthen ?_
  refine Z.cond rfl (fun h => absurd h (by simp)) (fun hc4 => ?_)
  refine Z.skip ?_
  refine Z.nthen ?_
  refine Z.seq ?_
  refine Z.seq ?_
  refine Z.region ?_
  refine Z.lb 2 rfl ?_
  refine Z.lnil ?_
  refine Z.only [0, 2, 14] rfl ?_
  refine Z.nthen ?_
  refine Z.cond rfl (fun h => absurd h (by simp)) (fun hc7 => ?_)
  refine Z.skip ?_
  refine Z.nthen ?_
  refine Z.seq ?_
  refine Z.region ?_
  refine Z.lb 2 rfl ?_
  refine Z.l rfl rfl (by rfl) (Z.keepS hs) (Z.Yd.convI rfl ⟨_, Try.underlying102⟩ Try.underlying5 (fun hG => Z.wu8 (by first | omega | (have hG' := Z.gh rfl hG; simp at hG'; omega)))) ?_
  refine Z.l rfl rfl (by rfl) (Z.keepS hs) (Z.Yd.index (v := .int .u8 3) rfl rfl (by intro _ w; kernel_rfl)) ?_
  refine Z.l rfl rfl (by rfl) (Z.keepS hs) (Z.Yd.convI rfl ⟨_, Try.underlying5⟩ Try.underlying3 (fun hG => Z.wi64 (by first | omega | (have hG' := Z.gh rfl hG; simp at hG'; omega)))) ?_
  refine Z.l rfl rfl (by rfl) (Z.keepS hs) (Z.Yd.add rfl rfl (fun hG => Z.wi64 (by first | omega | (have hG' := Z.gh rfl hG; simp at hG'; omega)))) ?_
  refine Z.lb 1 rfl ?_
  refine Z.lnil ?_
  refine Z.only [2] rfl ?_
  refine Z.nthen ?_
  refine Z.ret ?_
  -- ret#0
  refine Z.out1 (by exact ⟨rfl, trivial⟩) ?_
  exact ⟨_, rfl, ⟨_, rfl⟩, hs⟩
theorem bl64_6 (w : World) : Calls Try.prog 62 #[.int .u64 6] w (SX.Ret fun v w' => (∃ z : Int, v = .int .i64 z) ∧ SX.St w [] w' []) := by
  have hs := SX.St.start w
  refine Z.enter Try.func62 rfl Try.ntmps62 rfl rfl ?_
  refine Z.seq ?_
  refine Z.region ?_
  refine Z.lb 1 rfl ?_
  refine Z.lnil ?_
  refine Z.only [0, 2] rfl ?_
  refine Z.nthen ?_
  refine Z.seq ?_
  refine Z.seq ?_
  refine Z.region ?_
  refine Z.lb 2 rfl ?_
  refine Z.lnil ?_
  refine Z.only [0, 2, 4] rfl ?_
  refine Z.nthen ?_
  refine Z.cond rfl (fun h => absurd h (by simp)) (fun hc1 => ?_)
  refine Z.skip ?_
  refine Z.nthen ?_
  refine Z.seq ?_
  refine Z.seq ?_
  refine Z.region ?_
  refine Z.lb 2 rfl ?_
  refine Z.lnil ?_
  refine Z.only [0, 2, 8] rfl ?_
  refine Z.nthen ?_
  refine Z.cond rfl (fun h => absurd h (by simp)) (fun hc4 => ?_)
  refine Z.skip ?_
  refine Z.nthen ?_
  refine Z.seq ?_
  refine Z.seq ?_
  refine Z.region ?_
  refine Z.lb 2 rfl ?_
  refine Z.lnil ?_
  refine Z.only [0, 2, 14] rfl ?_
  refine Z.nthen ?_
  refine Z.cond rfl (fun h => absurd h (by simp)) (fun hc7 => ?_)
  refine Z.skip ?_
  refine Z.nthen ?_
  refine Z.seq ?_
  refine Z.region ?_
  refine Z.lb 2 rfl ?_
  refine Z.l rfl rfl (by rfl) (Z.keepS hs) (Z.Yd.convI rfl ⟨_, Try.underlying102⟩ Try.underlying5 (fun hG => Z.wu8 (by first | omega | (have hG' := Z.gh rfl hG; simp at hG'; omega)))) ?_
  refine Z.l rfl rfl (by rfl) (Z.keepS hs) (Z.Yd.index (v := .int .u8 3) rfl rfl (by intro _ w; kernel_rfl)) ?_
  refine Z.l rfl rfl (by rfl) (Z.keepS hs) (Z.Yd.convI rfl ⟨_, Try.underlying5⟩ Try.underlying3 (fun hG => Z.wi64 (by first | omega | (have hG' := Z.gh rfl hG; simp at hG'; omega)))) ?_
  refine Z.l rfl rfl (by rfl) (Z.keepS hs) (Z.Yd.add rfl rfl (fun hG => Z.wi64 (by first | omega | (have hG' := Z.gh rfl hG; simp at hG'; omega)))) ?_
  refine Z.lb 1 rfl ?_
  refine Z.lnil ?_
  refine Z.only [2] rfl ?_
  refine Z.nthen ?_
  refine Z.ret ?_
  -- ret#0
  refine Z.out1 (by exact ⟨rfl, trivial⟩) ?_
  exact ⟨_, rfl, ⟨_, rfl⟩, hs⟩
theorem bl64_7 (w : World) : Calls Try.prog 62 #[.int .u64 7] w (SX.Ret fun v w' => (∃ z : Int, v = .int .i64 z) ∧ SX.St w [] w' []) := by
  have hs := SX.St.start w
  refine Z.enter Try.func62 rfl Try.ntmps62 rfl rfl ?_
  refine Z.seq ?_
  refine Z.region ?_
  refine Z.lb 1 rfl ?_
  refine Z.lnil ?_
  refine Z.only [0, 2] rfl ?_
  refine Z.nthen ?_
  refine Z.seq ?_
  refine Z.seq ?_
  refine Z.region ?_
  refine Z.lb 2 rfl ?_
  refine Z.lnil ?_
  refine Z.only [0, 2, 4] rfl ?_
  refine Z.nthen ?_
  refine Z.cond rfl (fun h => absurd h (by simp)) (fun hc1 => ?_)
  refine Z.skip ?_
  refine Z.nthen ?_
  refine Z.seq ?_
  refine Z.seq ?_
  refine Z.region ?_
  refine Z.lb 2 rfl ?_
  refine Z.lnil ?_
  refine Z.only [0, 2, 8] rfl ?_
  refine Z.nthen ?_
  refine Z.cond rfl (fun h => absurd h (by simp)) (fun hc4 => ?_)
  refine Z.skip ?_
  refine Z.nthen ?_
  refine Z.seq ?_
  refine Z.seq ?_
  refine Z.region ?_
  refine Z.lb 2 rfl ?_
  refine Z.lnil ?_
  refine Z.only [0, 2, 14] rfl ?_
  refine Z.nthen ?_
  refine Z.cond rfl (fun h => absurd h (by simp)) (fun hc7 => ?_)
  refine Z.skip ?_
  refine Z.nthen ?_
  refine Z.seq ?_
  refine Z.region ?_
  refine Z.lb 2 rfl ?_
  refine Z.l rfl rfl (by rfl) (Z.keepS hs) (Z.Yd.convI rfl ⟨_, Try.underlying102⟩ Try.underlying5 (fun hG => Z.wu8 (by first | omega | (have hG' := Z.gh rfl hG; simp at hG'; omega)))) ?_
  refine Z.l rfl rfl (by rfl) (Z.keepS hs) (Z.Yd.index (v := .int .u8 3) rfl rfl (by intro _ w; kernel_rfl)) ?_
  refine Z.l rfl rfl (by rfl) (Z.keepS hs) (Z.Yd.convI rfl ⟨_, Try.underlying5⟩ Try.underlying3 (fun hG => Z.wi64 (by first | omega | (have hG' := Z.gh rfl hG; simp at hG'; omega)))) ?_
  refine Z.l rfl rfl (by rfl) (Z.keepS hs) (Z.Yd.add rfl rfl (fun hG => Z.wi64 (by first | omega | (have hG' := Z.gh rfl hG; simp at hG'; omega)))) ?_
  refine Z.lb 1 rfl ?_
  refine Z.lnil ?_
  refine Z.only [2] rfl ?_
  refine Z.nthen ?_
  refine Z.ret ?_
  -- ret#0
  refine Z.out1 (by exact ⟨rfl, trivial⟩) ?_
  exact ⟨_, rfl, ⟨_, rfl⟩, hs⟩
theorem bl64_8 (w : World) : Calls Try.prog 62 #[.int .u64 8] w (SX.Ret fun v w' => (∃ z : Int, v = .int .i64 z) ∧ SX.St w [] w' []) := by
  have hs := SX.St.start w
  refine Z.enter Try.func62 rfl Try.ntmps62 rfl rfl ?_
  refine Z.seq ?_
  refine Z.region ?_
  refine Z.lb 1 rfl ?_
  refine Z.lnil ?_
  refine Z.only [0, 2] rfl ?_
  refine Z.nthen ?_
  refine Z.seq ?_
  refine Z.seq ?_
  refine Z.region ?_
  refine Z.lb 2 rfl ?_
  refine Z.lnil ?_
  refine Z.only [0, 2, 4] rfl ?_
  refine Z.nthen ?_
  refine Z.cond rfl (fun h => absurd h (by simp)) (fun hc1 => ?_)
  refine Z.skip ?_
  refine Z.nthen ?_
  refine Z.seq ?_
  refine Z.seq ?_
  refine Z.region ?_
  refine Z.lb 2 rfl ?_
  refine Z.lnil ?_
  refine Z.only [0, 2, 8] rfl ?_
  refine Z.nthen ?_
  refine Z.cond rfl (fun h => absurd h (by simp)) (fun hc4 => ?_)
  refine Z.skip ?_
  refine Z.nthen ?_
  refine Z.seq ?_
  refine Z.seq ?_
  refine Z.region ?_
  refine Z.lb 2 rfl ?_
  refine Z.lnil ?_
  refine Z.only [0, 2, 14] rfl ?_
  refine Z.nthen ?_
  refine Z.cond rfl (fun h => absurd h (by simp)) (fun hc7 => ?_)
  refine Z.skip ?_
  refine Z.nthen ?_
  refine Z.seq ?_
  refine Z.region ?_
  refine Z.lb 2 rfl ?_
  refine Z.l rfl rfl (by rfl) (Z.keepS hs) (Z.Yd.convI rfl ⟨_, Try.underlying102⟩ Try.underlying5 (fun hG => Z.wu8 (by first | omega | (have hG' := Z.gh rfl hG; simp at hG'; omega)))) ?_
  refine Z.l rfl rfl (by rfl) (Z.keepS hs) (Z.Yd.index (v := .int .u8 4) rfl rfl (by intro _ w; kernel_rfl)) ?_
  refine Z.l rfl rfl (by rfl) (Z.keepS hs) (Z.Yd.convI rfl ⟨_, Try.underlying5⟩ Try.underlying3 (fun hG => Z.wi64 (by first | omega | (have hG' := Z.gh rfl hG; simp at hG'; omega)))) ?_
  refine Z.l rfl rfl (by rfl) (Z.keepS hs) (Z.Yd.add rfl rfl (fun hG => Z.wi64 (by first | omega | (have hG' := Z.gh rfl hG; simp at hG'; omega)))) ?_
  refine Z.lb 1 rfl ?_
  refine Z.lnil ?_
  refine Z.only [2] rfl ?_
  refine Z.nthen ?_
  refine Z.ret ?_
  -- ret#0
  refine Z.out1 (by exact ⟨rfl, trivial⟩) ?_
  exact ⟨_, rfl, ⟨_, rfl⟩, hs⟩
theorem bl64_9 (w : World) : Calls Try.prog 62 #[.int .u64 9] w (SX.Ret fun v w' => (∃ z : Int, v = .int .i64 z) ∧ SX.St w [] w' []) := by
  have hs := SX.St.start w
  refine Z.enter Try.func62 rfl Try.ntmps62 rfl rfl ?_
  refine Z.seq ?_
  refine Z.region ?_
  refine Z.lb 1 rfl ?_
  refine Z.lnil ?_
  refine Z.only [0, 2] rfl ?_
  refine Z.nthen ?_
  refine Z.seq ?_
  refine Z.seq ?_
  refine Z.region ?_
  refine Z.lb 2 rfl ?_
  refine Z.lnil ?_
  refine Z.only [0, 2, 4] rfl ?_
  refine Z.nthen ?_
  refine Z.cond rfl (fun h => absurd h (by simp)) (fun hc1 => ?_)
  refine Z.skip ?_
  refine Z.nthen ?_
  refine Z.seq ?_
  refine Z.seq ?_
  refine Z.region ?_
  refine Z.lb 2 rfl ?_
  refine Z.lnil ?_
  refine Z.only [0, 2, 8] rfl ?_
  refine Z.nthen ?_
  refine Z.cond rfl (fun h => absurd h (by simp)) (fun hc4 => ?_)
  refine Z.skip ?_
  refine Z.nthen ?_
  refine Z.seq ?_
  refine Z.seq ?_
  refine Z.region ?_
  refine Z.lb 2 rfl ?_
  refine Z.lnil ?_
  refine Z.only [0, 2, 14] rfl ?_
  refine Z.nthen ?_
  refine Z.cond rfl (fun h => absurd h (by simp)) (fun hc7 => ?_)
  refine Z.skip ?_
  refine Z.nthen ?_
  refine Z.seq ?_
  refine Z.region ?_
  refine Z.lb 2 rfl ?_
  refine Z.l rfl rfl (by rfl) (Z.keepS hs) (Z.Yd.convI rfl ⟨_, Try.underlying102⟩ Try.underlying5 (fun hG => Z.wu8 (by first | omega | (have hG' := Z.gh rfl hG; simp at hG'; omega)))) ?_
  refine Z.l rfl rfl (by rfl) (Z.keepS hs) (Z.Yd.index (v := .int .u8 4) rfl rfl (by intro _ w; kernel_rfl)) ?_
  refine Z.l rfl rfl (by rfl) (Z.keepS hs) (Z.Yd.convI rfl ⟨_, Try.underlying5⟩ Try.underlying3 (fun hG => Z.wi64 (by first | omega | (have hG' := Z.gh rfl hG; simp at hG'; omega)))) ?_
  refine Z.l rfl rfl (by rfl) (Z.keepS hs) (Z.Yd.add rfl rfl (fun hG => Z.wi64 (by first | omega | (have hG' := Z.gh rfl hG; simp at hG'; omega)))) ?_
  refine Z.lb 1 rfl ?_
  refine Z.lnil ?_
  refine Z.only [2] rfl ?_
  refine Z.nthen ?_
  refine Z.ret ?_
  -- ret#0
  refine Z.out1 (by exact ⟨rfl, trivial⟩) ?_
  exact ⟨_, rfl, ⟨_, rfl⟩, hs⟩
theorem bl64_10 (w : World) : Calls Try.prog 62 #[.int .u64 10] w (SX.Ret fun v w' => (∃ z : Int, v = .int .i64 z) ∧ SX.St w [] w' []) := by
  have hs := SX.St.start w
  refine Z.enter Try.func62 rfl Try.ntmps62 rfl rfl ?_
  refine Z.seq ?_
  refine Z.region ?_
  refine Z.lb 1 rfl ?_
  refine Z.lnil ?_
  refine Z.only [0, 2] rfl ?_
  refine Z.nthen ?_
  refine Z.seq ?_
  refine Z.seq ?_
  refine Z.region ?_
  refine Z.lb 2 rfl ?_
  refine Z.lnil ?_
  refine Z.only [0, 2, 4] rfl ?_
  refine Z.nthen ?_
  refine Z.cond rfl (fun h => absurd h (by simp)) (fun hc1 => ?_)
  refine Z.skip ?_
  refine Z.nthen ?_
  refine Z.seq ?_
  refine Z.seq ?_
  refine Z.region ?_
  refine Z.lb 2 rfl ?_
  refine Z.lnil ?_
  refine Z.only [0, 2, 8] rfl ?_
  refine Z.nthen ?_
  refine Z.cond rfl (fun h => absurd h (by simp)) (fun hc4 => ?_)
  refine Z.skip ?_
  refine Z.nthen ?_
  refine Z.seq ?_
  refine Z.seq ?_
  refine Z.region ?_
  refine Z.lb 2 rfl ?_
  refine Z.lnil ?_
  refine Z.only [0, 2, 14] rfl ?_
  refine Z.nthen ?_
  refine Z.cond rfl (fun h => absurd h (by simp)) (fun hc7 => ?_)
  refine Z.skip ?_
  refine Z.nthen ?_
  refine Z.seq ?_
  refine Z.region ?_
  refine Z.lb 2 rfl ?_
  refine Z.l rfl rfl (by rfl) (Z.keepS hs) (Z.Yd.convI rfl ⟨_, Try.underlying102⟩ Try.underlying5 (fun hG => Z.wu8 (by first | omega | (have hG' := Z.gh rfl hG; simp at hG'; omega)))) ?_
  refine Z.l rfl rfl (by rfl) (Z.keepS hs) (Z.Yd.index (v := .int .u8 4) rfl rfl (by intro _ w; kernel_rfl)) ?_
  refine Z.l rfl rfl (by rfl) (Z.keepS hs) (Z.Yd.convI rfl ⟨_, Try.underlying5⟩ Try.underlying3 (fun hG => Z.wi64 (by first | omega | (have hG' := Z.gh rfl hG; simp at hG'; omega)))) ?_
  refine Z.l rfl rfl (by rfl) (Z.keepS hs) (Z.Yd.add rfl rfl (fun hG => Z.wi64 (by first | omega | (have hG' := Z.gh rfl hG; simp at hG'; omega)))) ?_
  refine Z.lb 1 rfl ?_
  refine Z.lnil ?_
  refine Z.only [2] rfl ?_
  refine Z.nthen ?_
  refine Z.ret ?_
  -- ret#0
  refine Z.out1 (by exact ⟨rfl, trivial⟩) ?_
  exact ⟨_, rfl, ⟨_, rfl⟩, hs⟩
theorem bl64 (n : Nat) (w : World) (h1 : 1 ≤ n) (h2 : n ≤ 10) : Calls Try.prog 62 #[.int .u64 (n : Int)] w (SX.Ret fun v w' => (∃ z : Int, v = .int .i64 z) ∧ SX.St w [] w' []) := by
  have h : n = 1 ∨ n = 2 ∨ n = 3 ∨ n = 4 ∨ n = 5 ∨ n = 6 ∨ n = 7 ∨ n = 8 ∨ n = 9 ∨ n = 10 := by omega
  rcases h with rfl | rfl | rfl | rfl | rfl | rfl | rfl | rfl | rfl | rfl
  · exact bl64_1 w
  · exact bl64_2 w
  · exact bl64_3 w
  · exact bl64_4 w
  · exact bl64_5 w
  · exact bl64_6 w
  · exact bl64_7 w
  · exact bl64_8 w
  · exact bl64_9 w
  · exact bl64_10 w
theorem bitslen (n : Nat) (w : World) (h1 : 1 ≤ n) (h2 : n ≤ 10) : Calls Try.prog 50 #[.int .u64 (n : Int)] w (SX.Ret fun v w' => (∃ z : Int, v = .int .i64 z) ∧ SX.St w [] w' []) := by
  have hs := SX.St.start w
  refine Z.enter Try.func50 rfl Try.ntmps50 rfl rfl ?_
  refine Z.seq ?_
  refine Z.region ?_
  refine Z.lb 1 rfl ?_
  refine Z.lnil ?_
  refine Z.only [0] rfl ?_
  refine Z.nthen ?_
  refine Z.seq ?_
  refine Z.cond rfl (fun h => absurd h (by simp)) (fun hc0 => ?_)
  refine Z.skip ?_
  refine Z.nthen ?_
  refine Z.seq ?_
  refine Z.region ?_
  refine Z.lb 1 rfl ?_
  refine Z.le rfl trivial ?_
  refine Z.ZO.call rfl rfl (by rfl) rfl rfl Try.call62 rfl (bl64 n _ h1 h2) ?_
  rintro v2_1 w2_1 ⟨⟨z, rfl⟩, hy⟩
  replace hs := hs.call hy
  clear hy
  try simp only [List.cons_append, List.nil_append, List.append_nil] at hs
  refine Z.lb 1 rfl ?_
  refine Z.lnil ?_
  refine Z.only [2] rfl ?_
  refine Z.nthen ?_
  refine Z.ret ?_
  -- ret#0
  refine Z.out1 (by exact ⟨rfl, trivial⟩) ?_
  exact ⟨_, rfl, ⟨_, rfl⟩, hs⟩
end Go.Proofs.Ythdhobnkclddhaa

/- slices.SortFunc on at most ten integers. -/
namespace Go.Proofs.Ythdhobnkclddhaa
open Go.RowKit
set_option linter.unusedSimpArgs false
set_option linter.unusedVariables false
--newlaws

theorem pdqsort (g n c T k : Nat) (z : Int) (cap : Array Value) (κ : Int → Int) (xs : List Int) (w : World) (hs : SX.St w (SX.idsOf [SX.Ent.row (.slice (some ⟨g, 0, none⟩) n c) T 1 n (ints .i64 xs)]) w [SX.Ent.row (.slice (some ⟨g, 0, none⟩) n c) T 1 n (ints .i64 xs)])
    (hl : xs.length = n) (hn : n ≤ 10) (hk : ∀ args w, (callFunc k args).run Try.prog w = .ok (.enter k args) w) (hc : Cmps w (SX.idsOf [SX.Ent.row (.slice (some ⟨g, 0, none⟩) n c) T 1 n (ints .i64 xs)]) k cap κ xs) :
    Calls Try.prog 49 #[.slice (some ⟨g, 0, none⟩) n c, .int .i64 0, .int .i64 (n : Int), .int .i64 z, .func (.func k) #[] cap] w (SX.Ret fun v w' => v = .tuple #[] ∧ ∃ ys, ys.Perm xs ∧ Srt κ ys n n ∧ SX.St w (SX.idsOf [SX.Ent.row (.slice (some ⟨g, 0, none⟩) n c) T 1 n (ints .i64 xs)]) w' [SX.Ent.row (.slice (some ⟨g, 0, none⟩) n c) T 1 n (ints .i64 ys)]) := by
  have hI := inssort g n c T k cap κ xs w hs hl (by omega) hk hc
  generalize hM : SX.idsOf [SX.Ent.row (.slice (some ⟨g, 0, none⟩) n c) T 1 n (ints .i64 xs)] = M at *
  refine Z.enter Try.func49 rfl Try.ntmps49 rfl rfl ?_
  refine Z.seq ?_
  refine Z.region ?_
  refine Z.lb 1 rfl ?_
  refine Z.lnil ?_
  refine Z.only [0, 1, 2, 3, 4, 10] rfl ?_
  refine Z.nthen ?_
  refine Z.seq ?_
  refine Z.region ?_
  refine Z.lb 1 rfl ?_
  refine Z.lnil ?_
  refine Z.only [0, 1, 2, 3, 4, 10, 11] rfl ?_
  refine Z.nthen ?_
  refine Z.block ?_
  refine Z.loopk (ι := Unit) [0, 4] rfl (fun _ => [(1, [], .int .i64 0), (2, [], .int .i64 (n : Int)), (3, [], .int .i64 z), (10, [], .bool true), (11, [], .bool true)]) (fun _ wr => wr = w ∧ SX.St w M wr [SX.Ent.row (.slice (some ⟨g, 0, none⟩) n c) T 1 n (ints .i64 xs)]) (fun _ => 0) () (by refine ⟨?_, ?_, ?_, ?_, ?_, trivial⟩ <;> (first | rfl | (refine Z.lookv rfl ?_; simp; done) | (refine Z.lookv rfl ?_; simp; omega))) ⟨rfl, hs⟩ ?_
  clear hs
  rintro _ w1 ⟨rfl, hs⟩
  refine Z.only [0, 1, 2, 3, 4, 10, 11] rfl ?_
  refine Z.block ?_
  refine Z.seq ?_
  refine Z.region ?_
  refine Z.lb 2 rfl ?_
  refine Z.l rfl rfl (by rfl) (Z.keepS hs) (Z.Yd.sub rfl rfl (fun hG => Z.wi64 (by first | omega | (have hG' := Z.gh rfl hG; simp at hG'; omega)))) ?_
  refine Z.lb 1 rfl ?_
  refine Z.lnil ?_
  refine Z.only [0, 1, 2, 3, 4, 10, 11, 12] rfl ?_
  refine Z.nthen ?_
  refine Z.seq ?_
  refine Z.seq ?_
  refine Z.region ?_
  refine Z.lb 2 rfl ?_
  refine Z.lnil ?_
  refine Z.only [0, 1, 2, 3, 4, 10, 11, 12, 25] rfl ?_
  refine Z.nthen ?_
  refine Z.cond rfl (fun hc3 => ?_) (fun h => absurd h (by simp; omega))
  refine Z.seq ?_
  refine Z.region ?_
  refine Z.lb 4 rfl ?_
  refine Z.le rfl trivial ?_
  refine Z.ZO.call rfl rfl (by rfl) rfl rfl Try.call53 rfl (hI) ?_
  rintro v4_4 w4_4 ⟨rfl, ys, hp, hS, hz⟩
  refine Z.lnil ?_
  refine Z.only [] rfl ?_
  refine Z.nthen ?_
  refine Z.ret ?_
  repeat (first | refine Z.rthen ?_ | refine Z.rblock ?_ | refine Z.rscope ?_)
  -- ret#0
  refine Z.out0 trivial ?_
  exact ⟨_, rfl, rfl, ys, hp, hS, hz⟩
theorem sortfunc (g n c T k : Nat) (cap : Array Value) (κ : Int → Int) (xs : List Int) (w : World) (hs : SX.St w (SX.idsOf [SX.Ent.row (.slice (some ⟨g, 0, none⟩) n c) T 1 n (ints .i64 xs)]) w [SX.Ent.row (.slice (some ⟨g, 0, none⟩) n c) T 1 n (ints .i64 xs)])
    (hl : xs.length = n) (h1 : 1 ≤ n) (hn : n ≤ 10) (hk : ∀ args w, (callFunc k args).run Try.prog w = .ok (.enter k args) w) (hc : Cmps w (SX.idsOf [SX.Ent.row (.slice (some ⟨g, 0, none⟩) n c) T 1 n (ints .i64 xs)]) k cap κ xs) :
    Calls Try.prog 32 #[.slice (some ⟨g, 0, none⟩) n c, .func (.func k) #[] cap] w (SX.Ret fun v w' => v = .tuple #[] ∧ ∃ ys, ys.Perm xs ∧ Srt κ ys n n ∧ SX.St w (SX.idsOf [SX.Ent.row (.slice (some ⟨g, 0, none⟩) n c) T 1 n (ints .i64 xs)]) w' [SX.Ent.row (.slice (some ⟨g, 0, none⟩) n c) T 1 n (ints .i64 ys)]) := by
  generalize hM : SX.idsOf [SX.Ent.row (.slice (some ⟨g, 0, none⟩) n c) T 1 n (ints .i64 xs)] = M at *
  refine Z.enter Try.func32 rfl Try.ntmps32 rfl rfl ?_
  refine Z.seq ?_
  refine Z.region ?_
  refine Z.lb 1 rfl ?_
  refine Z.l rfl rfl (by rfl) (Z.keepS hs) (Z.Yd.lenS rfl Try.underlying28) ?_
  refine Z.lb 1 rfl ?_
  refine Z.lnil ?_
  refine Z.only [0, 1, 4] rfl ?_
  refine Z.nthen ?_
  refine Z.region ?_
  refine Z.lb 3 rfl ?_
  refine Z.l rfl rfl (by rfl) (Z.keepS hs) (Z.Yd.convI rfl ⟨_, Try.underlying3⟩ Try.underlying91 (fun hG => Z.wu64 (by first | omega | (have hG' := Z.gh rfl hG; simp at hG'; omega)))) ?_
  refine Z.le rfl trivial ?_
  refine Z.ZO.call rfl rfl (by rfl) rfl rfl Try.call50 rfl (bitslen n _ h1 hn) ?_
  rintro v1_4 w1_4 ⟨⟨z, rfl⟩, hy⟩
  replace hs := hs.call hy
  clear hy
  try simp only [List.cons_append, List.nil_append, List.append_nil] at hs
  refine Z.lb 1 rfl ?_
  refine Z.le rfl trivial ?_
  refine Z.ZO.call rfl rfl (by rfl) rfl rfl Try.call49 rfl (pdqsort g n c T k z cap κ xs _ (hs.lend (L2 := [])) hl hn hk (fun x hx y hy' W L hW ↦ hc x hx y hy' W L (by have h0 := SX.St.regain (L2 := []) hs hW; rw [List.append_nil] at h0; exact h0))) ?_
  rintro v1_6 w1_6 ⟨rfl, ys, hp, hS, hz⟩
  replace hs := hs.regain (L2 := []) hz
  refine Z.lnil ?_
  refine Z.only [] rfl ?_
  -- ret#0
  refine Z.out0n trivial ?_
  exact ⟨_, rfl, rfl, ys, hp, hS, hs⟩
end Go.Proofs.Ythdhobnkclddhaa

/- Buckets: the state and the steps, plainly; the order of service. -/
namespace Go.Proofs.Ythdhobnkclddhaa
open Go.RowKit
set_option linter.unusedSimpArgs false
set_option linter.unusedVariables false
--newlaws

structure LgV where
  id : Int
  pr : Int
  rt : Int
  dp : Int
  gr : Int
deriving DecidableEq, Inhabited
def LgV.cells (x : LgV) : List Value := [.int .i64 x.id, .int .i64 x.pr, .int .i64 x.rt, .int .i64 x.dp, .int .i64 x.gr]
/-- a channel with its bucket -/
def chC : LgV × Int → List Value
  | (x, b) => [.int .i64 x.id, .int .i64 x.pr, .int .i64 x.rt, .int .i64 x.dp, .int .i64 x.gr, .int .i64 b]
theorem lg_len (x : LgV) : x.cells.length = 5 := rfl
theorem ch_len (x : LgV × Int) : (chC x).length = 6 := rfl
theorem lg_one (x : LgV) : ∀ u ∈ x.cells, u.oneCell' = true := by simp [LgV.cells, Value.oneCell']
theorem ch_one (x : LgV × Int) : ∀ u ∈ chC x, u.oneCell' = true := by simp [chC, Value.oneCell']
theorem flat_len {α β : Type} {enc : α → List β} {s : Nat} (hs : ∀ x, (enc x).length = s) (l : List α) : (l.flatMap enc).length = l.length * s := by
  induction l with
  | nil => simp
  | cons x l ih => rw [List.flatMap_cons, List.length_append, ih, hs, List.length_cons, Nat.succ_mul]; omega
def okLg (x : LgV) : Prop := (1 ≤ x.id ∧ x.id ≤ 10) ∧ (1 ≤ x.pr ∧ x.pr ≤ 16) ∧ (0 ≤ x.rt ∧ x.rt ≤ 1048576) ∧ (0 ≤ x.dp ∧ x.dp ≤ 16777216) ∧ 0 ≤ x.gr ∧ x.gr ≤ 3
instance (x : LgV) : Decidable (okLg x) := by unfold okLg; infer_instance
/-- no two channels have the same number -/
def ids (l : List LgV) : Prop := l.Pairwise fun x y => x.id ≠ y.id
instance (l : List LgV) : Decidable (ids l) := by unfold ids; infer_instance
def okSet (l : List LgV) : Prop := (1 ≤ l.length ∧ l.length ≤ 10) ∧ (∀ x ∈ l, okLg x) ∧ ids l
instance (l : List LgV) : Decidable (okSet l) := by unfold okSet; infer_instance
/-- the key of the order of service -/
def key (l : List LgV) (i : Int) : Int := l[i.toNat]!.pr * 11 + l[i.toNat]!.id
structure BkV where
  l : List LgV
  b : List Int
  now : Int
deriving DecidableEq
def BkV.chs (m : BkV) : List (LgV × Int) := m.l.zip m.b
structure BkV.ok (m : BkV) : Prop where
  set : okSet m.l
  len : m.b.length = m.l.length
  bd : ∀ i : Nat, i < m.l.length → 0 ≤ elt m.b (i : Int) ∧ elt m.b (i : Int) ≤ m.l[i]!.dp
  now : 0 ≤ m.now ∧ m.now < 1073741824
theorem BkV.ok.chl {m : BkV} (h : m.ok) : m.chs.length = m.l.length := by simp [BkV.chs, h.len]
theorem BkV.ok.chg {m : BkV} (h : m.ok) {i : Nat} (hi : i < m.l.length) : m.chs[i]? = some (m.l[i]!, elt m.b (i : Int)) := by
  have hb : i < m.b.length := by rw [h.len]; exact hi
  rw [List.getElem?_eq_getElem (by rw [h.chl]; exact hi), elt_get hb, getElem!_pos m.l i hi]
  simp [BkV.chs]
theorem okSet.lg {l : List LgV} (h : okSet l) {i : Nat} (hi : i < l.length) : okLg l[i]! := h.2.1 _ (by rw [getElem!_pos l i hi]; exact List.getElem_mem _)
theorem okSet.idne {l : List LgV} (h : okSet l) {i j : Nat} (hi : i < l.length) (hj : j < l.length) (hij : i ≠ j) : l[i]!.id ≠ l[j]!.id := by
  have := List.pairwise_iff_getElem.1 h.2.2
  rw [getElem!_pos l i hi, getElem!_pos l j hj]
  rcases Nat.lt_or_gt_of_ne hij with h1 | h1
  · exact this i j hi hj h1
  · exact fun e => this j i hj hi h1 e.symm
theorem okSet.keyinj {l : List LgV} (h : okSet l) {i j : Nat} (hi : i < l.length) (hj : j < l.length) (he : key l (i : Int) = key l (j : Int)) : i = j := by
  refine Decidable.byContradiction fun hne => h.idne hi hj hne ?_
  have h1 := (h.lg hi).1
  have h2 := (h.lg hj).1
  simp only [key, Int.toNat_natCast] at he
  omega
/-- the document's order -/
def ordP (l : List LgV) (p : Int) (d : Int) : List Nat := (List.range l.length).filter fun i => decide (l[i]!.pr = p ∧ l[i]!.id = d)
def ordQ (l : List LgV) (p : Int) : List Nat := (List.range 10).flatMap fun (d : Nat) => ordP l p ((d : Int) + 1)
def ordL (l : List LgV) : List Nat := (List.range 16).flatMap fun (p : Nat) => ordQ l ((p : Int) + 1)
theorem mem_ordP {l : List LgV} {p d : Int} {i : Nat} : i ∈ ordP l p d ↔ i < l.length ∧ l[i]!.pr = p ∧ l[i]!.id = d := by simp [ordP]
theorem mem_ordQ {l : List LgV} (h : okSet l) {p : Int} {i : Nat} : i ∈ ordQ l p ↔ i < l.length ∧ l[i]!.pr = p := by
  simp only [ordQ, List.mem_flatMap, List.mem_range, mem_ordP]
  constructor
  · rintro ⟨d, -, h1, h2, -⟩; exact ⟨h1, h2⟩
  · rintro ⟨h1, h2⟩
    have h3 := (h.lg h1).1
    exact ⟨(l[i]!.id - 1).toNat, by omega, h1, h2, by omega⟩
theorem mem_ordL {l : List LgV} (h : okSet l) {i : Nat} : i ∈ ordL l ↔ i < l.length := by
  simp only [ordL, List.mem_flatMap, List.mem_range, mem_ordQ h]
  constructor
  · rintro ⟨p, -, h1, -⟩; exact h1
  · intro h1
    have h3 := (h.lg h1).2.1
    exact ⟨(l[i]!.pr - 1).toNat, by omega, h1, by omega⟩
theorem pw_flat {α β : Type} {R : β → β → Prop} {f : α → List β} {l : List α} (h1 : ∀ x ∈ l, (f x).Pairwise R) (h2 : l.Pairwise fun x y => ∀ a ∈ f x, ∀ b ∈ f y, R a b) : (l.flatMap f).Pairwise R := List.pairwise_flatMap.2 ⟨h1, h2⟩
theorem ordP_short {l : List LgV} (h : okSet l) (p d : Int) : (ordP l p d).Pairwise fun (i j : Nat) => key l (i : Int) < key l (j : Int) := by
  have h1 : (ordP l p d).Pairwise (· < ·) := List.Pairwise.sublist List.filter_sublist List.pairwise_lt_range
  refine List.Pairwise.imp_of_mem ?_ h1
  intro i j hi hj hlt
  have a := mem_ordP.1 hi
  have b := mem_ordP.1 hj
  exact absurd (a.2.2.trans b.2.2.symm) (h.idne a.1 b.1 (by omega))
theorem ordQ_key {l : List LgV} (h : okSet l) (p : Int) : (ordQ l p).Pairwise fun (i j : Nat) => key l (i : Int) < key l (j : Int) := by
  refine pw_flat (fun d _ => ordP_short h _ _) ?_
  refine List.Pairwise.imp ?_ List.pairwise_lt_range
  intro d e hde i hi j hj
  obtain ⟨-, a1, a2⟩ := mem_ordP.1 hi
  obtain ⟨-, b1, b2⟩ := mem_ordP.1 hj
  simp only [key, Int.toNat_natCast]
  omega
theorem ordL_key {l : List LgV} (h : okSet l) : (ordL l).Pairwise fun (i j : Nat) => key l (i : Int) < key l (j : Int) := by
  refine pw_flat (fun d _ => ordQ_key h _) ?_
  refine List.Pairwise.imp ?_ List.pairwise_lt_range
  intro d e hde i hi j hj
  obtain ⟨a0, a1⟩ := (mem_ordQ h).1 hi
  obtain ⟨b0, b1⟩ := (mem_ordQ h).1 hj
  have c1 := (h.lg a0).1
  have c2 := (h.lg b0).1
  simp only [key, Int.toNat_natCast]
  omega
theorem ordL_nodup {l : List LgV} (h : okSet l) : (ordL l).Nodup := List.Pairwise.imp (fun {i j} hlt he => by subst he; omega) (ordL_key h)
theorem ordL_perm {l : List LgV} (h : okSet l) : (ordL l).Perm (List.range l.length) := (List.perm_ext_iff_of_nodup (ordL_nodup h) List.nodup_range).2 fun i => by rw [mem_ordL h, List.mem_range]
theorem ordL_len {l : List LgV} (h : okSet l) : (ordL l).length = l.length := by rw [(ordL_perm h).length_eq, List.length_range]
def natI (l : List Nat) : List Int := l.map fun (i : Nat) => (i : Int)
/-- what is sorted by the key is the document's order -/
theorem ord_unique {l : List LgV} (h : okSet l) {ys : List Int} (hp : ys.Perm (natI (List.range l.length))) (hS : Srt (key l) ys l.length l.length) : ys = natI (ordL l) := by
  have hl : ys.length = l.length := by rw [hp.length_eq]; simp [natI]
  have hmem : ∀ y ∈ ys, ∃ i : Nat, i < l.length ∧ y = (i : Int) := fun y hy => by
    have := hp.subset hy
    simp only [natI, List.mem_map, List.mem_range] at this
    obtain ⟨i, hi, rfl⟩ := this
    exact ⟨i, hi, rfl⟩
  refine List.Perm.eq_of_pairwise (le := fun x y => key l x ≤ key l y) ?_ ?_ ?_ ?_
  · intro a b ha hb h1 h2
    obtain ⟨i, hi, rfl⟩ := hmem a ha
    simp only [natI, List.mem_map] at hb
    obtain ⟨j, hj, rfl⟩ := hb
    have hj' := (mem_ordL h).1 hj
    rw [h.keyinj hi hj' (by omega)]
  · rw [List.pairwise_iff_getElem]
    intro i j hi hj hij
    have := hS i j hij (by omega) (by omega)
    rwa [elt_get hi, elt_get hj] at this
  · simp only [natI, List.pairwise_map]
    exact (ordL_key h).imp fun hlt => by omega
  · exact hp.trans ((ordL_perm h).symm.map _)
end Go.Proofs.Ythdhobnkclddhaa

/- Buckets: between, valid, every; the searches. -/
namespace Go.Proofs.Ythdhobnkclddhaa
open Go.RowKit
set_option linter.unusedSimpArgs false
set_option linter.unusedVariables false
--newlaws

/-- the first place where p is true, or -1 -/
def idxG {α : Type} (p : α → Bool) (l : List α) : Int := match l.findIdx? p with | some i => (i : Int) | none => -1
theorem idxG_some {α : Type} {p : α → Bool} {l : List α} {k : Nat} (h0 : ∀ x ∈ l.take k, p x = false) (hk : k < l.length) (h1 : p l[k] = true) : idxG p l = (k : Int) := by
  have : l.findIdx? p = some k := by
    rw [List.findIdx?_eq_some_iff_getElem]
    refine ⟨hk, h1, fun j hj => ?_⟩
    have := h0 l[j] (List.mem_take_iff_getElem.2 ⟨j, by omega, rfl⟩)
    simp [this]
  unfold idxG
  rw [this]
theorem idxG_none {α : Type} {p : α → Bool} {l : List α} (h0 : ∀ x ∈ l, p x = false) : idxG p l = -1 := by
  have : l.findIdx? p = none := by
    rw [List.findIdx?_eq_none_iff]
    exact h0
  unfold idxG
  rw [this]
theorem idxG_any {α : Type} (p : α → Bool) (l : List α) : decide (0 ≤ idxG p l) = l.any p := by
  unfold idxG
  cases h : l.findIdx? p with
  | some i =>
    obtain ⟨h1, h2, -⟩ := List.findIdx?_eq_some_iff_getElem.1 h
    rw [List.any_eq_true.2 ⟨l[i], List.getElem_mem _, h2⟩]
    simp
  | none =>
    have h2 := List.findIdx?_eq_none_iff.1 h
    symm
    show l.any p = false
    rw [List.any_eq_false]
    intro x hx
    simpa using h2 x hx
theorem bk_indexI (A : Option Addr) (n c : Nat) (l : List Int) (k : Nat) (cap : Array Value) (p : Int → Bool) (w : World) (hx : Sl w A (ints .i64 l)) (hl : l.length = n) (hn : n ≤ 1000)
    (hk : ∀ args w, (callFunc k args).run Try.prog w = .ok (.enter k args) w) (hp : ∀ x W, SX.St w [] W [] → Calls Try.prog k (Value.int .i64 x :: cap.toList).toArray W (SX.Ret fun v w' => v = .bool (p x) ∧ SX.St W [] w' [])) :
    Calls Try.prog 63 #[.slice A n c, .func (.func k) #[] cap] w (SX.Ret fun v w' => v = .int .i64 (idxG p l) ∧ SX.St w [] w' []) := by
  have hs := SX.St.start w
  refine Z.enter Try.func63 rfl Try.ntmps63 rfl rfl ?_
  refine Z.seq ?_
  refine Z.region ?_
  refine Z.lb 1 rfl ?_
  refine Z.lnil ?_
  refine Z.only [0, 1] rfl ?_
  refine Z.nthen ?_
  refine Z.seq ?_
  refine Z.seq ?_
  refine Z.region ?_
  refine Z.lb 1 rfl ?_
  refine Z.l rfl rfl (by rfl) (Z.keepS hs) (Z.Yd.lenS rfl Try.underlying28) ?_
  refine Z.lb 1 rfl ?_
  refine Z.lnil ?_
  refine Z.only [0, 1, 7, 8] rfl ?_
  refine Z.nthen ?_
  refine Z.block ?_
  refine Z.loopk (ι := Nat) [0, 1, 7] rfl (fun k => [(8, [], .int .i64 (k : Int))]) (fun k wr => (k ≤ n ∧ ∀ x ∈ l.take k, p x = false) ∧ SX.St w [] wr []) (fun k => n - k) 0 (by refine ⟨?_, trivial⟩ <;> (first | rfl | (refine Z.lookv rfl ?_; simp; done) | (refine Z.lookv rfl ?_; simp; omega))) ⟨⟨by omega, by simp⟩, hs⟩ ?_
  clear hs
  rintro i w1 ⟨⟨hi, hj⟩, hs⟩
  refine Z.only [0, 1, 7, 8] rfl ?_
  refine Z.seq ?_
  refine Z.region ?_
  refine Z.lb 1 rfl ?_
  refine Z.lnil ?_
  refine Z.only [0, 1, 7, 8, 9] rfl ?_
  refine Z.nthen ?_
  refine Z.seq ?_
  refine Z.cond rfl (fun hc2 => ?_) (fun hc2 => ?_)
  · first
      | (exfalso; simp at hc2 <;> omega)
      | (
        (try simp at hc2)
        have hlt : i < l.length := by omega
        have hel : elt l (i : Int) = l[i] := by simp [elt, hlt]
        obtain ⟨b, off, rfl, hb0, hx2⟩ := Z.Sl.some hx (by simp [ints]; omega)
        refine Z.skip ?_
        refine Z.nthen ?_
        refine Z.seq ?_
        refine Z.block ?_
        refine Z.seq ?_
        refine Z.region ?_
        refine Z.lb 2 rfl ?_
        refine Z.lnil ?_
        refine Z.only [0, 1, 5, 7, 8] rfl ?_
        refine Z.nthen ?_
        refine Z.seq ?_
        refine Z.region ?_
        refine Z.lb 3 rfl ?_
        refine Z.l rfl rfl (by rfl) (Z.keepS hs) (Z.Yd.elem rfl rfl Try.underlying28 Try.sizeOf3 (fun hG => ⟨(by first | omega | (have hG' := Z.gh rfl hG; simp at hG'; omega)), (by first | omega | (have hG' := Z.gh rfl hG; simp at hG'; omega))⟩)) ?_
        refine Z.l rfl rfl (by rfl) (Z.keepS hs) (Z.Yd.load rfl Try.isAgg3 (fun hG => Z.cellS hx2 rfl (by first | omega | (have hG' := Z.gh rfl hG; simp at hG'; omega)) (by first | omega | (have hG' := Z.gh rfl hG; simp at hG'; omega)))) ?_
        refine Z.le rfl trivial ?_
        refine Z.ZO.call rfl rfl (by rfl) rfl rfl hk (by first | rfl | simp) (hp (elt l (i : Int)) _ hs) ?_
        rintro v4_5 w4_5 ⟨rfl, hy⟩
        replace hs := hs.call hy
        clear hy
        try simp only [List.cons_append, List.nil_append, List.append_nil] at hs
        refine Z.lnil ?_
        refine Z.only [0, 1, 5, 7, 8, 16] rfl ?_
        refine Z.nthen ?_
        refine Z.cond rfl (fun hc4 => ?_) (fun hc4 => ?_)
        · first
            | (exfalso; simp at hc4 <;> omega)
            | (
              (try simp at hc4)
              refine Z.seq ?_
              refine Z.region ?_
              refine Z.lb 2 rfl ?_
              refine Z.lnil ?_
              refine Z.only [4] rfl ?_
              refine Z.nthen ?_
              refine Z.ret ?_
              repeat (first | refine Z.rthen ?_ | refine Z.rblock ?_ | refine Z.rscope ?_)
              -- ret#0
              refine Z.out1 (by exact ⟨rfl, trivial⟩) ?_
              refine ⟨_, rfl, ?_, hs⟩
              rw [idxG_some hj hlt (by rw [← hel]; assumption)]
              )
        · first
            | (exfalso; simp at hc4 <;> omega)
            | (
              (try simp at hc4)
              refine Z.skip ?_
              refine Z.nblock ?_
              refine Z.nthen ?_
              refine Z.region ?_
              refine Z.l rfl rfl (by rfl) (Z.keepS hs) (Z.Yd.add rfl rfl (fun hG => Z.wi64 (by first | omega | (have hG' := Z.gh rfl hG; simp at hG'; omega)))) ?_
              refine Z.lb 1 rfl ?_
              refine Z.lnil ?_
              refine Z.only [0, 1, 7, 8] rfl ?_
              refine Z.nthen ?_
              refine Z.again (i + 1) (by refine ⟨?_, ?_, ?_, ?_, trivial⟩ <;> (first | rfl | (refine Z.lookv rfl ?_; simp; done) | (refine Z.lookv rfl ?_; simp; omega))) ⟨⟨by omega, fun x hm => ?_⟩, hs⟩ (by omega)
              rw [List.take_add_one, List.getElem?_eq_getElem hlt] at hm
              rcases List.mem_append.1 hm with hm | hm
              · exact hj x hm
              · obtain rfl : x = l[i] := by simpa using hm
                rw [← hel]; assumption
              )
        )
  · first
      | (exfalso; simp at hc2 <;> omega)
      | (
        (try simp at hc2)
        refine Z.exit ?_
        refine Z.xthen ?_
        refine Z.xthen ?_
        refine Z.xblock ?_
        refine Z.nthen ?_
        refine Z.seq ?_
        refine Z.region ?_
        refine Z.lb 1 rfl ?_
        refine Z.lnil ?_
        refine Z.only [4] rfl ?_
        refine Z.nthen ?_
        refine Z.ret ?_
        -- ret#1
        refine Z.out1 (by exact ⟨rfl, trivial⟩) ?_
        rw [List.take_of_length_le (by omega)] at hj
        refine ⟨_, rfl, ?_, hs⟩
        rw [idxG_none hj]
        )
theorem bk_containsI (A : Option Addr) (n c : Nat) (l : List Int) (k : Nat) (cap : Array Value) (p : Int → Bool) (w : World) (hx : Sl w A (ints .i64 l)) (hl : l.length = n) (hn : n ≤ 1000)
    (hk : ∀ args w, (callFunc k args).run Try.prog w = .ok (.enter k args) w) (hp : ∀ x W, SX.St w [] W [] → Calls Try.prog k (Value.int .i64 x :: cap.toList).toArray W (SX.Ret fun v w' => v = .bool (p x) ∧ SX.St W [] w' [])) :
    Calls Try.prog 51 #[.slice A n c, .func (.func k) #[] cap] w (SX.Ret fun v w' => v = .bool (l.any p) ∧ SX.St w [] w' []) := by
  have hs := SX.St.start w
  refine Z.enter Try.func51 rfl Try.ntmps51 rfl rfl ?_
  refine Z.seq ?_
  refine Z.region ?_
  refine Z.lb 1 rfl ?_
  refine Z.lnil ?_
  refine Z.only [0, 1] rfl ?_
  refine Z.nthen ?_
  refine Z.seq ?_
  refine Z.region ?_
  refine Z.lb 2 rfl ?_
  refine Z.le rfl trivial ?_
  refine Z.ZO.call rfl rfl (by rfl) rfl rfl Try.call63 rfl (bk_indexI A n c l k cap p _ hx hl hn hk hp) ?_
  rintro v1_2 w1_2 ⟨rfl, hy⟩
  replace hs := hs.call hy
  clear hy
  try simp only [List.cons_append, List.nil_append, List.append_nil] at hs
  refine Z.lb 2 rfl ?_
  refine Z.lnil ?_
  refine Z.only [4] rfl ?_
  refine Z.nthen ?_
  refine Z.ret ?_
  -- ret#0
  refine Z.out1 (by exact ⟨rfl, trivial⟩) ?_
  exact ⟨_, rfl, by rw [← idxG_any], hs⟩
theorem bk_indexL (A : Option Addr) (n c : Nat) (l : List LgV) (k : Nat) (cap : Array Value) (p : LgV → Bool) (w : World) (hx : Sl w A (l.flatMap LgV.cells)) (hl : l.length = n) (hn : n ≤ 1000)
    (hk : ∀ args w, (callFunc k args).run Try.prog w = .ok (.enter k args) w) (hp : ∀ x W, SX.St w [] W [] → Calls Try.prog k (Value.agg (LgV.cells x).toArray :: cap.toList).toArray W (SX.Ret fun v w' => v = .bool (p x) ∧ SX.St W [] w' [])) :
    Calls Try.prog 48 #[.slice A n c, .func (.func k) #[] cap] w (SX.Ret fun v w' => v = .int .i64 (idxG p l) ∧ SX.St w [] w' []) := by
  have hs := SX.St.start w
  refine Z.enter Try.func48 rfl Try.ntmps48 rfl rfl ?_
  refine Z.seq ?_
  refine Z.region ?_
  refine Z.lb 1 rfl ?_
  refine Z.lnil ?_
  refine Z.only [0, 1] rfl ?_
  refine Z.nthen ?_
  refine Z.seq ?_
  refine Z.seq ?_
  refine Z.region ?_
  refine Z.lb 1 rfl ?_
  refine Z.l rfl rfl (by rfl) (Z.keepS hs) (Z.Yd.lenS rfl Try.underlying22) ?_
  refine Z.lb 1 rfl ?_
  refine Z.lnil ?_
  refine Z.only [0, 1, 7, 8] rfl ?_
  refine Z.nthen ?_
  refine Z.block ?_
  refine Z.loopk (ι := Nat) [0, 1, 7] rfl (fun k => [(8, [], .int .i64 (k : Int))]) (fun k wr => (k ≤ n ∧ ∀ x ∈ l.take k, p x = false) ∧ SX.St w [] wr []) (fun k => n - k) 0 (by refine ⟨?_, trivial⟩ <;> (first | rfl | (refine Z.lookv rfl ?_; simp; done) | (refine Z.lookv rfl ?_; simp; omega))) ⟨⟨by omega, by simp⟩, hs⟩ ?_
  clear hs
  rintro i w1 ⟨⟨hi, hj⟩, hs⟩
  refine Z.only [0, 1, 7, 8] rfl ?_
  refine Z.seq ?_
  refine Z.region ?_
  refine Z.lb 1 rfl ?_
  refine Z.lnil ?_
  refine Z.only [0, 1, 7, 8, 9] rfl ?_
  refine Z.nthen ?_
  refine Z.seq ?_
  refine Z.cond rfl (fun hc2 => ?_) (fun hc2 => ?_)
  · first
      | (exfalso; simp at hc2 <;> omega)
      | (
        (try simp at hc2)
        have hlt : i < l.length := by omega
        have hel : l[i]? = some l[i] := List.getElem?_eq_getElem hlt
        obtain ⟨b, off, rfl, hb0, hx2⟩ := Z.Sl.some hx (by rw [flat_len lg_len]; omega)
        refine Z.skip ?_
        refine Z.nthen ?_
        refine Z.seq ?_
        refine Z.block ?_
        refine Z.seq ?_
        refine Z.region ?_
        refine Z.lb 2 rfl ?_
        refine Z.lnil ?_
        refine Z.only [0, 1, 5, 7, 8] rfl ?_
        refine Z.nthen ?_
        refine Z.seq ?_
        refine Z.region ?_
        refine Z.lb 3 rfl ?_
        refine Z.l rfl rfl (by rfl) (Z.keepS hs) (Z.Yd.elem rfl rfl Try.underlying22 Try.sizeOf38 (fun hG => ⟨(by first | omega | (have hG' := Z.gh rfl hG; simp at hG'; omega)), (by first | omega | (have hG' := Z.gh rfl hG; simp at hG'; omega))⟩)) ?_
        refine Z.l rfl rfl (by rfl) (Z.keepS hs) (Z.Yd.loadA _ rfl Try.isAgg38 (fun _ W hK j u hu => Z.cellXq (enc := LgV.cells) hx2.sx lg_len hel hu W hK) (by exact Try.sizeOf38)) ?_
        refine Z.le rfl trivial ?_
        refine Z.ZO.call rfl rfl (by rfl) rfl rfl hk (by first | rfl | simp) (hp l[i] _ hs) ?_
        rintro v4_5 w4_5 ⟨rfl, hy⟩
        replace hs := hs.call hy
        clear hy
        try simp only [List.cons_append, List.nil_append, List.append_nil] at hs
        refine Z.lnil ?_
        refine Z.only [0, 1, 5, 7, 8, 16] rfl ?_
        refine Z.nthen ?_
        refine Z.cond rfl (fun hc4 => ?_) (fun hc4 => ?_)
        · first
            | (exfalso; simp at hc4 <;> omega)
            | (
              (try simp at hc4)
              refine Z.seq ?_
              refine Z.region ?_
              refine Z.lb 2 rfl ?_
              refine Z.lnil ?_
              refine Z.only [4] rfl ?_
              refine Z.nthen ?_
              refine Z.ret ?_
              repeat (first | refine Z.rthen ?_ | refine Z.rblock ?_ | refine Z.rscope ?_)
              -- ret#0
              refine Z.out1 (by exact ⟨rfl, trivial⟩) ?_
              refine ⟨_, rfl, ?_, hs⟩
              rw [idxG_some hj hlt (by assumption)]
              )
        · first
            | (exfalso; simp at hc4 <;> omega)
            | (
              (try simp at hc4)
              refine Z.skip ?_
              refine Z.nblock ?_
              refine Z.nthen ?_
              refine Z.region ?_
              refine Z.l rfl rfl (by rfl) (Z.keepS hs) (Z.Yd.add rfl rfl (fun hG => Z.wi64 (by first | omega | (have hG' := Z.gh rfl hG; simp at hG'; omega)))) ?_
              refine Z.lb 1 rfl ?_
              refine Z.lnil ?_
              refine Z.only [0, 1, 7, 8] rfl ?_
              refine Z.nthen ?_
              refine Z.again (i + 1) (by refine ⟨?_, ?_, ?_, ?_, trivial⟩ <;> (first | rfl | (refine Z.lookv rfl ?_; simp; done) | (refine Z.lookv rfl ?_; simp; omega))) ⟨⟨by omega, fun x hm => ?_⟩, hs⟩ (by omega)
              rw [List.take_add_one, hel] at hm
              rcases List.mem_append.1 hm with hm | hm
              · exact hj x hm
              · obtain rfl : x = l[i] := by simpa using hm
                assumption
              )
        )
  · first
      | (exfalso; simp at hc2 <;> omega)
      | (
        (try simp at hc2)
        refine Z.exit ?_
        refine Z.xthen ?_
        refine Z.xthen ?_
        refine Z.xblock ?_
        refine Z.nthen ?_
        refine Z.seq ?_
        refine Z.region ?_
        refine Z.lb 1 rfl ?_
        refine Z.lnil ?_
        refine Z.only [4] rfl ?_
        refine Z.nthen ?_
        refine Z.ret ?_
        -- ret#1
        refine Z.out1 (by exact ⟨rfl, trivial⟩) ?_
        rw [List.take_of_length_le (by omega)] at hj
        refine ⟨_, rfl, ?_, hs⟩
        rw [idxG_none hj]
        )
theorem bk_containsL (A : Option Addr) (n c : Nat) (l : List LgV) (k : Nat) (cap : Array Value) (p : LgV → Bool) (w : World) (hx : Sl w A (l.flatMap LgV.cells)) (hl : l.length = n) (hn : n ≤ 1000)
    (hk : ∀ args w, (callFunc k args).run Try.prog w = .ok (.enter k args) w) (hp : ∀ x W, SX.St w [] W [] → Calls Try.prog k (Value.agg (LgV.cells x).toArray :: cap.toList).toArray W (SX.Ret fun v w' => v = .bool (p x) ∧ SX.St W [] w' [])) :
    Calls Try.prog 30 #[.slice A n c, .func (.func k) #[] cap] w (SX.Ret fun v w' => v = .bool (l.any p) ∧ SX.St w [] w' []) := by
  have hs := SX.St.start w
  refine Z.enter Try.func30 rfl Try.ntmps30 rfl rfl ?_
  refine Z.seq ?_
  refine Z.region ?_
  refine Z.lb 1 rfl ?_
  refine Z.lnil ?_
  refine Z.only [0, 1] rfl ?_
  refine Z.nthen ?_
  refine Z.seq ?_
  refine Z.region ?_
  refine Z.lb 2 rfl ?_
  refine Z.le rfl trivial ?_
  refine Z.ZO.call rfl rfl (by rfl) rfl rfl Try.call48 rfl (bk_indexL A n c l k cap p _ hx hl hn hk hp) ?_
  rintro v1_2 w1_2 ⟨rfl, hy⟩
  replace hs := hs.call hy
  clear hy
  try simp only [List.cons_append, List.nil_append, List.append_nil] at hs
  refine Z.lb 2 rfl ?_
  refine Z.lnil ?_
  refine Z.only [4] rfl ?_
  refine Z.nthen ?_
  refine Z.ret ?_
  -- ret#0
  refine Z.out1 (by exact ⟨rfl, trivial⟩) ?_
  exact ⟨_, rfl, by rw [← idxG_any], hs⟩
theorem bk_between (x a b : Int) (w : World) : Calls Try.prog 27 #[.int .i64 x, .int .i64 a, .int .i64 b] w (SX.Ret fun v w' => v = .bool (decide (a ≤ x ∧ x ≤ b)) ∧ SX.St w [] w' []) := by
  have hs := SX.St.start w
  refine Z.enter Try.func27 rfl Try.ntmps27 rfl rfl ?_
  refine Z.seq ?_
  refine Z.region ?_
  refine Z.lb 1 rfl ?_
  refine Z.lnil ?_
  refine Z.only [0, 1, 2] rfl ?_
  refine Z.nthen ?_
  refine Z.seq ?_
  refine Z.region ?_
  refine Z.lb 9 rfl ?_
  refine Z.lnil ?_
  refine Z.only [6] rfl ?_
  refine Z.nthen ?_
  refine Z.ret ?_
  -- ret#0
  refine Z.out1 (by exact ⟨rfl, trivial⟩) ?_
  exact ⟨_, rfl, by congr 1; simp, hs⟩
theorem bk_valid (x : LgV) (w : World) : Calls Try.prog 29 #[.agg x.cells.toArray] w (SX.Ret fun v w' => v = .bool (decide (okLg x)) ∧ SX.St w [] w' []) := by
  have hs := SX.St.start w
  show Calls Try.prog 29 #[.agg #[.int .i64 x.id, .int .i64 x.pr, .int .i64 x.rt, .int .i64 x.dp, .int .i64 x.gr]] w _
  have e : ∀ u : Bool, u = decide (okLg x) → ∀ w', SX.St w [] w' [] → ∃ v, Ending.returned (.bool u) = .returned v ∧ v = .bool (decide (okLg x)) ∧ SX.St w [] w' [] := fun u hx w' hw => ⟨_, rfl, by rw [hx], hw⟩
  refine Z.enter Try.func29 rfl Try.ntmps29 rfl rfl ?_
  refine Z.seq ?_
  refine Z.region ?_
  refine Z.le rfl trivial ?_
  refine Z.ZO.box rfl rfl (by rfl) rfl rfl hs ?_
  clear hs; intro g1 w1 hs
  refine Z.lb 1 rfl ?_
  refine Z.lnil ?_
  refine Z.only [1] rfl ?_
  refine Z.nthen ?_
  refine Z.seq ?_
  refine Z.region ?_
  refine Z.l rfl rfl (by rfl) (Z.keepS hs) (Z.Yd.fieldA (m := 0) rfl (by kernel_rfl)) ?_
  refine Z.l rfl rfl (by rfl) (Z.keepS hs) (by first | exact Z.Yd.load rfl Try.isAgg3 (fun _ => Z.cellB (by first | ((repeat (first | exact List.mem_cons_self | refine List.mem_cons_of_mem _ ?_ | refine List.mem_append_right _ ?_)); done) | fail) rfl) | exact Z.Yd.load rfl Try.isAgg3 (fun _ => Z.cellO (by assumption) (by simp) (by assumption)) | fail "load 1.1") ?_
  refine Z.le rfl trivial ?_
  refine Z.ZO.call rfl rfl (by rfl) rfl rfl Try.call27 rfl (bk_between x.id 1 10 _) ?_
  rintro v1_2 w1_2 ⟨rfl, hy⟩
  replace hs := hs.call hy
  clear hy
  try simp only [List.cons_append, List.nil_append, List.append_nil] at hs
  refine Z.lb 1 rfl ?_
  refine Z.split (s := 6) rfl (fun hsp6 => ?_) (fun hsp6 => ?_)
  · first
      | (exfalso; simp at hsp6 <;> omega)
      | (
        refine Z.yes (s := 6) (b := true) rfl hsp6 rfl ?_
        (try simp at hsp6)
        refine Z.l rfl rfl (by rfl) (Z.keepS hs) (Z.Yd.fieldA (m := 1) rfl (by kernel_rfl)) ?_
        refine Z.l rfl rfl (by rfl) (Z.keepS hs) (by first | exact Z.Yd.load rfl Try.isAgg3 (fun _ => Z.cellB (by first | ((repeat (first | exact List.mem_cons_self | refine List.mem_cons_of_mem _ ?_ | refine List.mem_append_right _ ?_)); done) | fail) rfl) | exact Z.Yd.load rfl Try.isAgg3 (fun _ => Z.cellO (by assumption) (by simp) (by assumption)) | fail "load 1.5") ?_
        refine Z.yes (s := 6) (b := true) rfl rfl rfl ?_
        refine Z.le rfl (by exact ⟨rfl, trivial⟩) ?_
        refine Z.ZO.call rfl rfl (by rfl) rfl rfl Try.call27 rfl (bk_between x.pr 1 16 _) ?_
        rintro v1_6 w1_6 ⟨rfl, hy⟩
        replace hs := hs.call hy
        clear hy
        try simp only [List.cons_append, List.nil_append, List.append_nil] at hs
        refine Z.l rfl rfl (by rfl) (Z.keepS hs) (Z.Yd.pickT rfl rfl) ?_
        refine Z.lb 1 rfl ?_
        refine Z.split (s := 11) rfl (fun hsp11 => ?_) (fun hsp11 => ?_)
        · first
            | (exfalso; simp at hsp11 <;> omega)
            | (
              refine Z.yes (s := 11) (b := true) rfl hsp11 rfl ?_
              (try simp at hsp11)
              refine Z.l rfl rfl (by rfl) (Z.keepS hs) (Z.Yd.fieldA (m := 2) rfl (by kernel_rfl)) ?_
              refine Z.l rfl rfl (by rfl) (Z.keepS hs) (by first | exact Z.Yd.load rfl Try.isAgg3 (fun _ => Z.cellB (by first | ((repeat (first | exact List.mem_cons_self | refine List.mem_cons_of_mem _ ?_ | refine List.mem_append_right _ ?_)); done) | fail) rfl) | exact Z.Yd.load rfl Try.isAgg3 (fun _ => Z.cellO (by assumption) (by simp) (by assumption)) | fail "load 1.10") ?_
              refine Z.yes (s := 11) (b := true) rfl rfl rfl ?_
              refine Z.le rfl (by exact ⟨rfl, trivial⟩) ?_
              refine Z.ZO.call rfl rfl (by rfl) rfl rfl Try.call27 rfl (bk_between x.rt 0 1048576 _) ?_
              rintro v1_11 w1_11 ⟨rfl, hy⟩
              replace hs := hs.call hy
              clear hy
              try simp only [List.cons_append, List.nil_append, List.append_nil] at hs
              refine Z.l rfl rfl (by rfl) (Z.keepS hs) (Z.Yd.pickT rfl rfl) ?_
              refine Z.lb 1 rfl ?_
              refine Z.split (s := 16) rfl (fun hsp16 => ?_) (fun hsp16 => ?_)
              · first
                  | (exfalso; simp at hsp16 <;> omega)
                  | (
                    refine Z.yes (s := 16) (b := true) rfl hsp16 rfl ?_
                    (try simp at hsp16)
                    refine Z.l rfl rfl (by rfl) (Z.keepS hs) (Z.Yd.fieldA (m := 3) rfl (by kernel_rfl)) ?_
                    refine Z.l rfl rfl (by rfl) (Z.keepS hs) (by first | exact Z.Yd.load rfl Try.isAgg3 (fun _ => Z.cellB (by first | ((repeat (first | exact List.mem_cons_self | refine List.mem_cons_of_mem _ ?_ | refine List.mem_append_right _ ?_)); done) | fail) rfl) | exact Z.Yd.load rfl Try.isAgg3 (fun _ => Z.cellO (by assumption) (by simp) (by assumption)) | fail "load 1.15") ?_
                    refine Z.yes (s := 16) (b := true) rfl rfl rfl ?_
                    refine Z.le rfl (by exact ⟨rfl, trivial⟩) ?_
                    refine Z.ZO.call rfl rfl (by rfl) rfl rfl Try.call27 rfl (bk_between x.dp 0 16777216 _) ?_
                    rintro v1_16 w1_16 ⟨rfl, hy⟩
                    replace hs := hs.call hy
                    clear hy
                    try simp only [List.cons_append, List.nil_append, List.append_nil] at hs
                    refine Z.l rfl rfl (by rfl) (Z.keepS hs) (Z.Yd.pickT rfl rfl) ?_
                    refine Z.lb 1 rfl ?_
                    refine Z.split (s := 21) rfl (fun hsp21 => ?_) (fun hsp21 => ?_)
                    · first
                        | (exfalso; simp at hsp21 <;> omega)
                        | (
                          refine Z.yes (s := 21) (b := true) rfl hsp21 rfl ?_
                          (try simp at hsp21)
                          refine Z.l rfl rfl (by rfl) (Z.keepS hs) (Z.Yd.fieldA (m := 4) rfl (by kernel_rfl)) ?_
                          refine Z.l rfl rfl (by rfl) (Z.keepS hs) (by first | exact Z.Yd.load rfl Try.isAgg3 (fun _ => Z.cellB (by first | ((repeat (first | exact List.mem_cons_self | refine List.mem_cons_of_mem _ ?_ | refine List.mem_append_right _ ?_)); done) | fail) rfl) | exact Z.Yd.load rfl Try.isAgg3 (fun _ => Z.cellO (by assumption) (by simp) (by assumption)) | fail "load 1.20") ?_
                          refine Z.yes (s := 21) (b := true) rfl rfl rfl ?_
                          refine Z.le rfl (by exact ⟨rfl, trivial⟩) ?_
                          refine Z.ZO.call rfl rfl (by rfl) rfl rfl Try.call27 rfl (bk_between x.gr 0 3 _) ?_
                          rintro v1_21 w1_21 ⟨rfl, hy⟩
                          replace hs := hs.call hy
                          clear hy
                          try simp only [List.cons_append, List.nil_append, List.append_nil] at hs
                          refine Z.l rfl rfl (by rfl) (Z.keepS hs) (Z.Yd.pickT rfl rfl) ?_
                          refine Z.lb 1 rfl ?_
                          refine Z.lnil ?_
                          refine Z.only [2] rfl ?_
                          refine Z.nthen ?_
                          refine Z.ret ?_
                          -- ret#0
                          refine Z.out1 (by exact ⟨rfl, trivial⟩) ?_
                          refine e _ ?_ _ (hs.sub (List.nil_sublist _))
                          rw [Bool.eq_iff_iff]
                          simp only [decide_eq_true_eq]
                          unfold okLg
                          simp_all
                          try omega
                          )
                    · first
                        | (exfalso; simp at hsp21 <;> omega)
                        | (
                          refine Z.yes (s := 21) (b := false) rfl hsp21 rfl ?_
                          (try simp at hsp21)
                          refine Z.ls rfl rfl rfl (by rfl) ?_
                          refine Z.ls rfl rfl rfl (by rfl) ?_
                          refine Z.ls rfl rfl rfl (by rfl) ?_
                          refine Z.l rfl rfl (by rfl) (Z.keepS hs) (Z.Yd.pickF rfl rfl) ?_
                          refine Z.lb 1 rfl ?_
                          refine Z.lnil ?_
                          refine Z.only [2] rfl ?_
                          refine Z.nthen ?_
                          refine Z.ret ?_
                          -- ret#1
                          refine Z.out1 (by exact ⟨rfl, trivial⟩) ?_
                          refine e _ ?_ _ (hs.sub (List.nil_sublist _))
                          rw [Bool.eq_iff_iff]
                          simp only [decide_eq_true_eq]
                          unfold okLg
                          simp_all
                          try omega
                          )
                    )
              · first
                  | (exfalso; simp at hsp16 <;> omega)
                  | (
                    refine Z.yes (s := 16) (b := false) rfl hsp16 rfl ?_
                    (try simp at hsp16)
                    refine Z.ls rfl rfl rfl (by rfl) ?_
                    refine Z.ls rfl rfl rfl (by rfl) ?_
                    refine Z.ls rfl rfl rfl (by rfl) ?_
                    refine Z.l rfl rfl (by rfl) (Z.keepS hs) (Z.Yd.pickF rfl rfl) ?_
                    refine Z.lb 1 rfl ?_
                    refine Z.split (s := 21) rfl (fun hsp21 => ?_) (fun hsp21 => ?_)
                    · first
                        | (exfalso; simp at hsp21 <;> omega)
                        | (
                          refine Z.yes (s := 21) (b := true) rfl hsp21 rfl ?_
                          (try simp at hsp21)
                          refine Z.l rfl rfl (by rfl) (Z.keepS hs) (Z.Yd.fieldA (m := 4) rfl (by kernel_rfl)) ?_
                          refine Z.l rfl rfl (by rfl) (Z.keepS hs) (by first | exact Z.Yd.load rfl Try.isAgg3 (fun _ => Z.cellB (by first | ((repeat (first | exact List.mem_cons_self | refine List.mem_cons_of_mem _ ?_ | refine List.mem_append_right _ ?_)); done) | fail) rfl) | exact Z.Yd.load rfl Try.isAgg3 (fun _ => Z.cellO (by assumption) (by simp) (by assumption)) | fail "load 1.20") ?_
                          refine Z.yes (s := 21) (b := true) rfl rfl rfl ?_
                          refine Z.le rfl (by exact ⟨rfl, trivial⟩) ?_
                          refine Z.ZO.call rfl rfl (by rfl) rfl rfl Try.call27 rfl (bk_between x.gr 0 3 _) ?_
                          rintro v1_21 w1_21 ⟨rfl, hy⟩
                          replace hs := hs.call hy
                          clear hy
                          try simp only [List.cons_append, List.nil_append, List.append_nil] at hs
                          refine Z.l rfl rfl (by rfl) (Z.keepS hs) (Z.Yd.pickT rfl rfl) ?_
                          refine Z.lb 1 rfl ?_
                          refine Z.lnil ?_
                          refine Z.only [2] rfl ?_
                          refine Z.nthen ?_
                          refine Z.ret ?_
                          -- ret#2
                          refine Z.out1 (by exact ⟨rfl, trivial⟩) ?_
                          refine e _ ?_ _ (hs.sub (List.nil_sublist _))
                          rw [Bool.eq_iff_iff]
                          simp only [decide_eq_true_eq]
                          unfold okLg
                          simp_all
                          try omega
                          )
                    · first
                        | (exfalso; simp at hsp21 <;> omega)
                        | (
                          refine Z.yes (s := 21) (b := false) rfl hsp21 rfl ?_
                          (try simp at hsp21)
                          refine Z.ls rfl rfl rfl (by rfl) ?_
                          refine Z.ls rfl rfl rfl (by rfl) ?_
                          refine Z.ls rfl rfl rfl (by rfl) ?_
                          refine Z.l rfl rfl (by rfl) (Z.keepS hs) (Z.Yd.pickF rfl rfl) ?_
                          refine Z.lb 1 rfl ?_
                          refine Z.lnil ?_
                          refine Z.only [2] rfl ?_
                          refine Z.nthen ?_
                          refine Z.ret ?_
                          -- ret#3
                          refine Z.out1 (by exact ⟨rfl, trivial⟩) ?_
                          refine e _ ?_ _ (hs.sub (List.nil_sublist _))
                          rw [Bool.eq_iff_iff]
                          simp only [decide_eq_true_eq]
                          unfold okLg
                          simp_all
                          try omega
                          )
                    )
              )
        · first
            | (exfalso; simp at hsp11 <;> omega)
            | (
              refine Z.yes (s := 11) (b := false) rfl hsp11 rfl ?_
              (try simp at hsp11)
              refine Z.ls rfl rfl rfl (by rfl) ?_
              refine Z.ls rfl rfl rfl (by rfl) ?_
              refine Z.ls rfl rfl rfl (by rfl) ?_
              refine Z.l rfl rfl (by rfl) (Z.keepS hs) (Z.Yd.pickF rfl rfl) ?_
              refine Z.lb 1 rfl ?_
              refine Z.split (s := 16) rfl (fun hsp16 => ?_) (fun hsp16 => ?_)
              · first
                  | (exfalso; simp at hsp16 <;> omega)
                  | (
                    refine Z.yes (s := 16) (b := true) rfl hsp16 rfl ?_
                    (try simp at hsp16)
                    refine Z.l rfl rfl (by rfl) (Z.keepS hs) (Z.Yd.fieldA (m := 3) rfl (by kernel_rfl)) ?_
                    refine Z.l rfl rfl (by rfl) (Z.keepS hs) (by first | exact Z.Yd.load rfl Try.isAgg3 (fun _ => Z.cellB (by first | ((repeat (first | exact List.mem_cons_self | refine List.mem_cons_of_mem _ ?_ | refine List.mem_append_right _ ?_)); done) | fail) rfl) | exact Z.Yd.load rfl Try.isAgg3 (fun _ => Z.cellO (by assumption) (by simp) (by assumption)) | fail "load 1.15") ?_
                    refine Z.yes (s := 16) (b := true) rfl rfl rfl ?_
                    refine Z.le rfl (by exact ⟨rfl, trivial⟩) ?_
                    refine Z.ZO.call rfl rfl (by rfl) rfl rfl Try.call27 rfl (bk_between x.dp 0 16777216 _) ?_
                    rintro v1_16 w1_16 ⟨rfl, hy⟩
                    replace hs := hs.call hy
                    clear hy
                    try simp only [List.cons_append, List.nil_append, List.append_nil] at hs
                    refine Z.l rfl rfl (by rfl) (Z.keepS hs) (Z.Yd.pickT rfl rfl) ?_
                    refine Z.lb 1 rfl ?_
                    refine Z.split (s := 21) rfl (fun hsp21 => ?_) (fun hsp21 => ?_)
                    · first
                        | (exfalso; simp at hsp21 <;> omega)
                        | (
                          refine Z.yes (s := 21) (b := true) rfl hsp21 rfl ?_
                          (try simp at hsp21)
                          refine Z.l rfl rfl (by rfl) (Z.keepS hs) (Z.Yd.fieldA (m := 4) rfl (by kernel_rfl)) ?_
                          refine Z.l rfl rfl (by rfl) (Z.keepS hs) (by first | exact Z.Yd.load rfl Try.isAgg3 (fun _ => Z.cellB (by first | ((repeat (first | exact List.mem_cons_self | refine List.mem_cons_of_mem _ ?_ | refine List.mem_append_right _ ?_)); done) | fail) rfl) | exact Z.Yd.load rfl Try.isAgg3 (fun _ => Z.cellO (by assumption) (by simp) (by assumption)) | fail "load 1.20") ?_
                          refine Z.yes (s := 21) (b := true) rfl rfl rfl ?_
                          refine Z.le rfl (by exact ⟨rfl, trivial⟩) ?_
                          refine Z.ZO.call rfl rfl (by rfl) rfl rfl Try.call27 rfl (bk_between x.gr 0 3 _) ?_
                          rintro v1_21 w1_21 ⟨rfl, hy⟩
                          replace hs := hs.call hy
                          clear hy
                          try simp only [List.cons_append, List.nil_append, List.append_nil] at hs
                          refine Z.l rfl rfl (by rfl) (Z.keepS hs) (Z.Yd.pickT rfl rfl) ?_
                          refine Z.lb 1 rfl ?_
                          refine Z.lnil ?_
                          refine Z.only [2] rfl ?_
                          refine Z.nthen ?_
                          refine Z.ret ?_
                          -- ret#4
                          refine Z.out1 (by exact ⟨rfl, trivial⟩) ?_
                          refine e _ ?_ _ (hs.sub (List.nil_sublist _))
                          rw [Bool.eq_iff_iff]
                          simp only [decide_eq_true_eq]
                          unfold okLg
                          simp_all
                          try omega
                          )
                    · first
                        | (exfalso; simp at hsp21 <;> omega)
                        | (
                          refine Z.yes (s := 21) (b := false) rfl hsp21 rfl ?_
                          (try simp at hsp21)
                          refine Z.ls rfl rfl rfl (by rfl) ?_
                          refine Z.ls rfl rfl rfl (by rfl) ?_
                          refine Z.ls rfl rfl rfl (by rfl) ?_
                          refine Z.l rfl rfl (by rfl) (Z.keepS hs) (Z.Yd.pickF rfl rfl) ?_
                          refine Z.lb 1 rfl ?_
                          refine Z.lnil ?_
                          refine Z.only [2] rfl ?_
                          refine Z.nthen ?_
                          refine Z.ret ?_
                          -- ret#5
                          refine Z.out1 (by exact ⟨rfl, trivial⟩) ?_
                          refine e _ ?_ _ (hs.sub (List.nil_sublist _))
                          rw [Bool.eq_iff_iff]
                          simp only [decide_eq_true_eq]
                          unfold okLg
                          simp_all
                          try omega
                          )
                    )
              · first
                  | (exfalso; simp at hsp16 <;> omega)
                  | (
                    refine Z.yes (s := 16) (b := false) rfl hsp16 rfl ?_
                    (try simp at hsp16)
                    refine Z.ls rfl rfl rfl (by rfl) ?_
                    refine Z.ls rfl rfl rfl (by rfl) ?_
                    refine Z.ls rfl rfl rfl (by rfl) ?_
                    refine Z.l rfl rfl (by rfl) (Z.keepS hs) (Z.Yd.pickF rfl rfl) ?_
                    refine Z.lb 1 rfl ?_
                    refine Z.split (s := 21) rfl (fun hsp21 => ?_) (fun hsp21 => ?_)
                    · first
                        | (exfalso; simp at hsp21 <;> omega)
                        | (
                          refine Z.yes (s := 21) (b := true) rfl hsp21 rfl ?_
                          (try simp at hsp21)
                          refine Z.l rfl rfl (by rfl) (Z.keepS hs) (Z.Yd.fieldA (m := 4) rfl (by kernel_rfl)) ?_
                          refine Z.l rfl rfl (by rfl) (Z.keepS hs) (by first | exact Z.Yd.load rfl Try.isAgg3 (fun _ => Z.cellB (by first | ((repeat (first | exact List.mem_cons_self | refine List.mem_cons_of_mem _ ?_ | refine List.mem_append_right _ ?_)); done) | fail) rfl) | exact Z.Yd.load rfl Try.isAgg3 (fun _ => Z.cellO (by assumption) (by simp) (by assumption)) | fail "load 1.20") ?_
                          refine Z.yes (s := 21) (b := true) rfl rfl rfl ?_
                          refine Z.le rfl (by exact ⟨rfl, trivial⟩) ?_
                          refine Z.ZO.call rfl rfl (by rfl) rfl rfl Try.call27 rfl (bk_between x.gr 0 3 _) ?_
                          rintro v1_21 w1_21 ⟨rfl, hy⟩
                          replace hs := hs.call hy
                          clear hy
                          try simp only [List.cons_append, List.nil_append, List.append_nil] at hs
                          refine Z.l rfl rfl (by rfl) (Z.keepS hs) (Z.Yd.pickT rfl rfl) ?_
                          refine Z.lb 1 rfl ?_
                          refine Z.lnil ?_
                          refine Z.only [2] rfl ?_
                          refine Z.nthen ?_
                          refine Z.ret ?_
                          -- ret#6
                          refine Z.out1 (by exact ⟨rfl, trivial⟩) ?_
                          refine e _ ?_ _ (hs.sub (List.nil_sublist _))
                          rw [Bool.eq_iff_iff]
                          simp only [decide_eq_true_eq]
                          unfold okLg
                          simp_all
                          try omega
                          )
                    · first
                        | (exfalso; simp at hsp21 <;> omega)
                        | (
                          refine Z.yes (s := 21) (b := false) rfl hsp21 rfl ?_
                          (try simp at hsp21)
                          refine Z.ls rfl rfl rfl (by rfl) ?_
                          refine Z.ls rfl rfl rfl (by rfl) ?_
                          refine Z.ls rfl rfl rfl (by rfl) ?_
                          refine Z.l rfl rfl (by rfl) (Z.keepS hs) (Z.Yd.pickF rfl rfl) ?_
                          refine Z.lb 1 rfl ?_
                          refine Z.lnil ?_
                          refine Z.only [2] rfl ?_
                          refine Z.nthen ?_
                          refine Z.ret ?_
                          -- ret#7
                          refine Z.out1 (by exact ⟨rfl, trivial⟩) ?_
                          refine e _ ?_ _ (hs.sub (List.nil_sublist _))
                          rw [Bool.eq_iff_iff]
                          simp only [decide_eq_true_eq]
                          unfold okLg
                          simp_all
                          try omega
                          )
                    )
              )
        )
  · first
      | (exfalso; simp at hsp6 <;> omega)
      | (
        refine Z.yes (s := 6) (b := false) rfl hsp6 rfl ?_
        (try simp at hsp6)
        refine Z.ls rfl rfl rfl (by rfl) ?_
        refine Z.ls rfl rfl rfl (by rfl) ?_
        refine Z.ls rfl rfl rfl (by rfl) ?_
        refine Z.l rfl rfl (by rfl) (Z.keepS hs) (Z.Yd.pickF rfl rfl) ?_
        refine Z.lb 1 rfl ?_
        refine Z.split (s := 11) rfl (fun hsp11 => ?_) (fun hsp11 => ?_)
        · first
            | (exfalso; simp at hsp11 <;> omega)
            | (
              refine Z.yes (s := 11) (b := true) rfl hsp11 rfl ?_
              (try simp at hsp11)
              refine Z.l rfl rfl (by rfl) (Z.keepS hs) (Z.Yd.fieldA (m := 2) rfl (by kernel_rfl)) ?_
              refine Z.l rfl rfl (by rfl) (Z.keepS hs) (by first | exact Z.Yd.load rfl Try.isAgg3 (fun _ => Z.cellB (by first | ((repeat (first | exact List.mem_cons_self | refine List.mem_cons_of_mem _ ?_ | refine List.mem_append_right _ ?_)); done) | fail) rfl) | exact Z.Yd.load rfl Try.isAgg3 (fun _ => Z.cellO (by assumption) (by simp) (by assumption)) | fail "load 1.10") ?_
              refine Z.yes (s := 11) (b := true) rfl rfl rfl ?_
              refine Z.le rfl (by exact ⟨rfl, trivial⟩) ?_
              refine Z.ZO.call rfl rfl (by rfl) rfl rfl Try.call27 rfl (bk_between x.rt 0 1048576 _) ?_
              rintro v1_11 w1_11 ⟨rfl, hy⟩
              replace hs := hs.call hy
              clear hy
              try simp only [List.cons_append, List.nil_append, List.append_nil] at hs
              refine Z.l rfl rfl (by rfl) (Z.keepS hs) (Z.Yd.pickT rfl rfl) ?_
              refine Z.lb 1 rfl ?_
              refine Z.split (s := 16) rfl (fun hsp16 => ?_) (fun hsp16 => ?_)
              · first
                  | (exfalso; simp at hsp16 <;> omega)
                  | (
                    refine Z.yes (s := 16) (b := true) rfl hsp16 rfl ?_
                    (try simp at hsp16)
                    refine Z.l rfl rfl (by rfl) (Z.keepS hs) (Z.Yd.fieldA (m := 3) rfl (by kernel_rfl)) ?_
                    refine Z.l rfl rfl (by rfl) (Z.keepS hs) (by first | exact Z.Yd.load rfl Try.isAgg3 (fun _ => Z.cellB (by first | ((repeat (first | exact List.mem_cons_self | refine List.mem_cons_of_mem _ ?_ | refine List.mem_append_right _ ?_)); done) | fail) rfl) | exact Z.Yd.load rfl Try.isAgg3 (fun _ => Z.cellO (by assumption) (by simp) (by assumption)) | fail "load 1.15") ?_
                    refine Z.yes (s := 16) (b := true) rfl rfl rfl ?_
                    refine Z.le rfl (by exact ⟨rfl, trivial⟩) ?_
                    refine Z.ZO.call rfl rfl (by rfl) rfl rfl Try.call27 rfl (bk_between x.dp 0 16777216 _) ?_
                    rintro v1_16 w1_16 ⟨rfl, hy⟩
                    replace hs := hs.call hy
                    clear hy
                    try simp only [List.cons_append, List.nil_append, List.append_nil] at hs
                    refine Z.l rfl rfl (by rfl) (Z.keepS hs) (Z.Yd.pickT rfl rfl) ?_
                    refine Z.lb 1 rfl ?_
                    refine Z.split (s := 21) rfl (fun hsp21 => ?_) (fun hsp21 => ?_)
                    · first
                        | (exfalso; simp at hsp21 <;> omega)
                        | (
                          refine Z.yes (s := 21) (b := true) rfl hsp21 rfl ?_
                          (try simp at hsp21)
                          refine Z.l rfl rfl (by rfl) (Z.keepS hs) (Z.Yd.fieldA (m := 4) rfl (by kernel_rfl)) ?_
                          refine Z.l rfl rfl (by rfl) (Z.keepS hs) (by first | exact Z.Yd.load rfl Try.isAgg3 (fun _ => Z.cellB (by first | ((repeat (first | exact List.mem_cons_self | refine List.mem_cons_of_mem _ ?_ | refine List.mem_append_right _ ?_)); done) | fail) rfl) | exact Z.Yd.load rfl Try.isAgg3 (fun _ => Z.cellO (by assumption) (by simp) (by assumption)) | fail "load 1.20") ?_
                          refine Z.yes (s := 21) (b := true) rfl rfl rfl ?_
                          refine Z.le rfl (by exact ⟨rfl, trivial⟩) ?_
                          refine Z.ZO.call rfl rfl (by rfl) rfl rfl Try.call27 rfl (bk_between x.gr 0 3 _) ?_
                          rintro v1_21 w1_21 ⟨rfl, hy⟩
                          replace hs := hs.call hy
                          clear hy
                          try simp only [List.cons_append, List.nil_append, List.append_nil] at hs
                          refine Z.l rfl rfl (by rfl) (Z.keepS hs) (Z.Yd.pickT rfl rfl) ?_
                          refine Z.lb 1 rfl ?_
                          refine Z.lnil ?_
                          refine Z.only [2] rfl ?_
                          refine Z.nthen ?_
                          refine Z.ret ?_
                          -- ret#8
                          refine Z.out1 (by exact ⟨rfl, trivial⟩) ?_
                          refine e _ ?_ _ (hs.sub (List.nil_sublist _))
                          rw [Bool.eq_iff_iff]
                          simp only [decide_eq_true_eq]
                          unfold okLg
                          simp_all
                          try omega
                          )
                    · first
                        | (exfalso; simp at hsp21 <;> omega)
                        | (
                          refine Z.yes (s := 21) (b := false) rfl hsp21 rfl ?_
                          (try simp at hsp21)
                          refine Z.ls rfl rfl rfl (by rfl) ?_
                          refine Z.ls rfl rfl rfl (by rfl) ?_
                          refine Z.ls rfl rfl rfl (by rfl) ?_
                          refine Z.l rfl rfl (by rfl) (Z.keepS hs) (Z.Yd.pickF rfl rfl) ?_
                          refine Z.lb 1 rfl ?_
                          refine Z.lnil ?_
                          refine Z.only [2] rfl ?_
                          refine Z.nthen ?_
                          refine Z.ret ?_
                          -- ret#9
                          refine Z.out1 (by exact ⟨rfl, trivial⟩) ?_
                          refine e _ ?_ _ (hs.sub (List.nil_sublist _))
                          rw [Bool.eq_iff_iff]
                          simp only [decide_eq_true_eq]
                          unfold okLg
                          simp_all
                          try omega
                          )
                    )
              · first
                  | (exfalso; simp at hsp16 <;> omega)
                  | (
                    refine Z.yes (s := 16) (b := false) rfl hsp16 rfl ?_
                    (try simp at hsp16)
                    refine Z.ls rfl rfl rfl (by rfl) ?_
                    refine Z.ls rfl rfl rfl (by rfl) ?_
                    refine Z.ls rfl rfl rfl (by rfl) ?_
                    refine Z.l rfl rfl (by rfl) (Z.keepS hs) (Z.Yd.pickF rfl rfl) ?_
                    refine Z.lb 1 rfl ?_
                    refine Z.split (s := 21) rfl (fun hsp21 => ?_) (fun hsp21 => ?_)
                    · first
                        | (exfalso; simp at hsp21 <;> omega)
                        | (
                          refine Z.yes (s := 21) (b := true) rfl hsp21 rfl ?_
                          (try simp at hsp21)
                          refine Z.l rfl rfl (by rfl) (Z.keepS hs) (Z.Yd.fieldA (m := 4) rfl (by kernel_rfl)) ?_
                          refine Z.l rfl rfl (by rfl) (Z.keepS hs) (by first | exact Z.Yd.load rfl Try.isAgg3 (fun _ => Z.cellB (by first | ((repeat (first | exact List.mem_cons_self | refine List.mem_cons_of_mem _ ?_ | refine List.mem_append_right _ ?_)); done) | fail) rfl) | exact Z.Yd.load rfl Try.isAgg3 (fun _ => Z.cellO (by assumption) (by simp) (by assumption)) | fail "load 1.20") ?_
                          refine Z.yes (s := 21) (b := true) rfl rfl rfl ?_
                          refine Z.le rfl (by exact ⟨rfl, trivial⟩) ?_
                          refine Z.ZO.call rfl rfl (by rfl) rfl rfl Try.call27 rfl (bk_between x.gr 0 3 _) ?_
                          rintro v1_21 w1_21 ⟨rfl, hy⟩
                          replace hs := hs.call hy
                          clear hy
                          try simp only [List.cons_append, List.nil_append, List.append_nil] at hs
                          refine Z.l rfl rfl (by rfl) (Z.keepS hs) (Z.Yd.pickT rfl rfl) ?_
                          refine Z.lb 1 rfl ?_
                          refine Z.lnil ?_
                          refine Z.only [2] rfl ?_
                          refine Z.nthen ?_
                          refine Z.ret ?_
                          -- ret#10
                          refine Z.out1 (by exact ⟨rfl, trivial⟩) ?_
                          refine e _ ?_ _ (hs.sub (List.nil_sublist _))
                          rw [Bool.eq_iff_iff]
                          simp only [decide_eq_true_eq]
                          unfold okLg
                          simp_all
                          try omega
                          )
                    · first
                        | (exfalso; simp at hsp21 <;> omega)
                        | (
                          refine Z.yes (s := 21) (b := false) rfl hsp21 rfl ?_
                          (try simp at hsp21)
                          refine Z.ls rfl rfl rfl (by rfl) ?_
                          refine Z.ls rfl rfl rfl (by rfl) ?_
                          refine Z.ls rfl rfl rfl (by rfl) ?_
                          refine Z.l rfl rfl (by rfl) (Z.keepS hs) (Z.Yd.pickF rfl rfl) ?_
                          refine Z.lb 1 rfl ?_
                          refine Z.lnil ?_
                          refine Z.only [2] rfl ?_
                          refine Z.nthen ?_
                          refine Z.ret ?_
                          -- ret#11
                          refine Z.out1 (by exact ⟨rfl, trivial⟩) ?_
                          refine e _ ?_ _ (hs.sub (List.nil_sublist _))
                          rw [Bool.eq_iff_iff]
                          simp only [decide_eq_true_eq]
                          unfold okLg
                          simp_all
                          try omega
                          )
                    )
              )
        · first
            | (exfalso; simp at hsp11 <;> omega)
            | (
              refine Z.yes (s := 11) (b := false) rfl hsp11 rfl ?_
              (try simp at hsp11)
              refine Z.ls rfl rfl rfl (by rfl) ?_
              refine Z.ls rfl rfl rfl (by rfl) ?_
              refine Z.ls rfl rfl rfl (by rfl) ?_
              refine Z.l rfl rfl (by rfl) (Z.keepS hs) (Z.Yd.pickF rfl rfl) ?_
              refine Z.lb 1 rfl ?_
              refine Z.split (s := 16) rfl (fun hsp16 => ?_) (fun hsp16 => ?_)
              · first
                  | (exfalso; simp at hsp16 <;> omega)
                  | (
                    refine Z.yes (s := 16) (b := true) rfl hsp16 rfl ?_
                    (try simp at hsp16)
                    refine Z.l rfl rfl (by rfl) (Z.keepS hs) (Z.Yd.fieldA (m := 3) rfl (by kernel_rfl)) ?_
                    refine Z.l rfl rfl (by rfl) (Z.keepS hs) (by first | exact Z.Yd.load rfl Try.isAgg3 (fun _ => Z.cellB (by first | ((repeat (first | exact List.mem_cons_self | refine List.mem_cons_of_mem _ ?_ | refine List.mem_append_right _ ?_)); done) | fail) rfl) | exact Z.Yd.load rfl Try.isAgg3 (fun _ => Z.cellO (by assumption) (by simp) (by assumption)) | fail "load 1.15") ?_
                    refine Z.yes (s := 16) (b := true) rfl rfl rfl ?_
                    refine Z.le rfl (by exact ⟨rfl, trivial⟩) ?_
                    refine Z.ZO.call rfl rfl (by rfl) rfl rfl Try.call27 rfl (bk_between x.dp 0 16777216 _) ?_
                    rintro v1_16 w1_16 ⟨rfl, hy⟩
                    replace hs := hs.call hy
                    clear hy
                    try simp only [List.cons_append, List.nil_append, List.append_nil] at hs
                    refine Z.l rfl rfl (by rfl) (Z.keepS hs) (Z.Yd.pickT rfl rfl) ?_
                    refine Z.lb 1 rfl ?_
                    refine Z.split (s := 21) rfl (fun hsp21 => ?_) (fun hsp21 => ?_)
                    · first
                        | (exfalso; simp at hsp21 <;> omega)
                        | (
                          refine Z.yes (s := 21) (b := true) rfl hsp21 rfl ?_
                          (try simp at hsp21)
                          refine Z.l rfl rfl (by rfl) (Z.keepS hs) (Z.Yd.fieldA (m := 4) rfl (by kernel_rfl)) ?_
                          refine Z.l rfl rfl (by rfl) (Z.keepS hs) (by first | exact Z.Yd.load rfl Try.isAgg3 (fun _ => Z.cellB (by first | ((repeat (first | exact List.mem_cons_self | refine List.mem_cons_of_mem _ ?_ | refine List.mem_append_right _ ?_)); done) | fail) rfl) | exact Z.Yd.load rfl Try.isAgg3 (fun _ => Z.cellO (by assumption) (by simp) (by assumption)) | fail "load 1.20") ?_
                          refine Z.yes (s := 21) (b := true) rfl rfl rfl ?_
                          refine Z.le rfl (by exact ⟨rfl, trivial⟩) ?_
                          refine Z.ZO.call rfl rfl (by rfl) rfl rfl Try.call27 rfl (bk_between x.gr 0 3 _) ?_
                          rintro v1_21 w1_21 ⟨rfl, hy⟩
                          replace hs := hs.call hy
                          clear hy
                          try simp only [List.cons_append, List.nil_append, List.append_nil] at hs
                          refine Z.l rfl rfl (by rfl) (Z.keepS hs) (Z.Yd.pickT rfl rfl) ?_
                          refine Z.lb 1 rfl ?_
                          refine Z.lnil ?_
                          refine Z.only [2] rfl ?_
                          refine Z.nthen ?_
                          refine Z.ret ?_
                          -- ret#12
                          refine Z.out1 (by exact ⟨rfl, trivial⟩) ?_
                          refine e _ ?_ _ (hs.sub (List.nil_sublist _))
                          rw [Bool.eq_iff_iff]
                          simp only [decide_eq_true_eq]
                          unfold okLg
                          simp_all
                          try omega
                          )
                    · first
                        | (exfalso; simp at hsp21 <;> omega)
                        | (
                          refine Z.yes (s := 21) (b := false) rfl hsp21 rfl ?_
                          (try simp at hsp21)
                          refine Z.ls rfl rfl rfl (by rfl) ?_
                          refine Z.ls rfl rfl rfl (by rfl) ?_
                          refine Z.ls rfl rfl rfl (by rfl) ?_
                          refine Z.l rfl rfl (by rfl) (Z.keepS hs) (Z.Yd.pickF rfl rfl) ?_
                          refine Z.lb 1 rfl ?_
                          refine Z.lnil ?_
                          refine Z.only [2] rfl ?_
                          refine Z.nthen ?_
                          refine Z.ret ?_
                          -- ret#13
                          refine Z.out1 (by exact ⟨rfl, trivial⟩) ?_
                          refine e _ ?_ _ (hs.sub (List.nil_sublist _))
                          rw [Bool.eq_iff_iff]
                          simp only [decide_eq_true_eq]
                          unfold okLg
                          simp_all
                          try omega
                          )
                    )
              · first
                  | (exfalso; simp at hsp16 <;> omega)
                  | (
                    refine Z.yes (s := 16) (b := false) rfl hsp16 rfl ?_
                    (try simp at hsp16)
                    refine Z.ls rfl rfl rfl (by rfl) ?_
                    refine Z.ls rfl rfl rfl (by rfl) ?_
                    refine Z.ls rfl rfl rfl (by rfl) ?_
                    refine Z.l rfl rfl (by rfl) (Z.keepS hs) (Z.Yd.pickF rfl rfl) ?_
                    refine Z.lb 1 rfl ?_
                    refine Z.split (s := 21) rfl (fun hsp21 => ?_) (fun hsp21 => ?_)
                    · first
                        | (exfalso; simp at hsp21 <;> omega)
                        | (
                          refine Z.yes (s := 21) (b := true) rfl hsp21 rfl ?_
                          (try simp at hsp21)
                          refine Z.l rfl rfl (by rfl) (Z.keepS hs) (Z.Yd.fieldA (m := 4) rfl (by kernel_rfl)) ?_
                          refine Z.l rfl rfl (by rfl) (Z.keepS hs) (by first | exact Z.Yd.load rfl Try.isAgg3 (fun _ => Z.cellB (by first | ((repeat (first | exact List.mem_cons_self | refine List.mem_cons_of_mem _ ?_ | refine List.mem_append_right _ ?_)); done) | fail) rfl) | exact Z.Yd.load rfl Try.isAgg3 (fun _ => Z.cellO (by assumption) (by simp) (by assumption)) | fail "load 1.20") ?_
                          refine Z.yes (s := 21) (b := true) rfl rfl rfl ?_
                          refine Z.le rfl (by exact ⟨rfl, trivial⟩) ?_
                          refine Z.ZO.call rfl rfl (by rfl) rfl rfl Try.call27 rfl (bk_between x.gr 0 3 _) ?_
                          rintro v1_21 w1_21 ⟨rfl, hy⟩
                          replace hs := hs.call hy
                          clear hy
                          try simp only [List.cons_append, List.nil_append, List.append_nil] at hs
                          refine Z.l rfl rfl (by rfl) (Z.keepS hs) (Z.Yd.pickT rfl rfl) ?_
                          refine Z.lb 1 rfl ?_
                          refine Z.lnil ?_
                          refine Z.only [2] rfl ?_
                          refine Z.nthen ?_
                          refine Z.ret ?_
                          -- ret#14
                          refine Z.out1 (by exact ⟨rfl, trivial⟩) ?_
                          refine e _ ?_ _ (hs.sub (List.nil_sublist _))
                          rw [Bool.eq_iff_iff]
                          simp only [decide_eq_true_eq]
                          unfold okLg
                          simp_all
                          try omega
                          )
                    · first
                        | (exfalso; simp at hsp21 <;> omega)
                        | (
                          refine Z.yes (s := 21) (b := false) rfl hsp21 rfl ?_
                          (try simp at hsp21)
                          refine Z.ls rfl rfl rfl (by rfl) ?_
                          refine Z.ls rfl rfl rfl (by rfl) ?_
                          refine Z.ls rfl rfl rfl (by rfl) ?_
                          refine Z.l rfl rfl (by rfl) (Z.keepS hs) (Z.Yd.pickF rfl rfl) ?_
                          refine Z.lb 1 rfl ?_
                          refine Z.lnil ?_
                          refine Z.only [2] rfl ?_
                          refine Z.nthen ?_
                          refine Z.ret ?_
                          -- ret#15
                          refine Z.out1 (by exact ⟨rfl, trivial⟩) ?_
                          refine e _ ?_ _ (hs.sub (List.nil_sublist _))
                          rw [Bool.eq_iff_iff]
                          simp only [decide_eq_true_eq]
                          unfold okLg
                          simp_all
                          try omega
                          )
                    )
              )
        )
theorem bk_everyL1 (g k : Nat) (cap : Array Value) (p : LgV → Bool) (x : LgV) (w : World) (hc : Cel w g [.func (.func k) #[] cap])
    (hk : ∀ args w, (callFunc k args).run Try.prog w = .ok (.enter k args) w) (hp : ∀ x W, SX.St w [] W [] → Calls Try.prog k (Value.agg (LgV.cells x).toArray :: cap.toList).toArray W (SX.Ret fun v w' => v = .bool (p x) ∧ SX.St W [] w' [])) :
    Calls Try.prog 47 #[.agg x.cells.toArray, .pointer (some ⟨g, 0, none⟩)] w (SX.Ret fun v w' => v = .bool (!p x) ∧ SX.St w [] w' []) := by
  have hs := SX.St.start w
  refine Z.enter Try.func47 rfl Try.ntmps47 rfl rfl ?_
  refine Z.seq ?_
  refine Z.region ?_
  refine Z.le rfl trivial ?_
  refine Z.ZO.box rfl rfl (by rfl) rfl rfl hs ?_
  clear hs; intro g2 w2 hs
  refine Z.lb 1 rfl ?_
  refine Z.lnil ?_
  refine Z.only [1, 2] rfl ?_
  refine Z.nthen ?_
  refine Z.seq ?_
  refine Z.region ?_
  refine Z.l rfl rfl (by rfl) (Z.keepS hs) (Z.Yd.load rfl Try.isAgg70 (fun _ => Z.cellO hc.1 (by simp) (hc.2 0 _ rfl))) ?_
  refine Z.l rfl rfl (by rfl) (Z.keepS hs) (Z.Yd.loadA _ rfl Try.isAgg38 (fun _ => Z.cellsB (cs := LgV.cells x) (by first | ((repeat (first | exact List.mem_cons_self | refine List.mem_cons_of_mem _ ?_ | refine List.mem_append_right _ ?_)); done) | fail)) (by exact Try.sizeOf38)) ?_
  refine Z.le rfl trivial ?_
  refine Z.ZO.call rfl rfl (by rfl) rfl rfl hk (by first | rfl | simp) (hp x _ (hs.sub (List.nil_sublist _))) ?_
  rintro v1_2 w1_2 ⟨rfl, hy⟩
  replace hs := hs.call hy
  clear hy
  try simp only [List.cons_append, List.nil_append, List.append_nil] at hs
  refine Z.lb 2 rfl ?_
  refine Z.lnil ?_
  refine Z.only [3] rfl ?_
  refine Z.nthen ?_
  refine Z.ret ?_
  -- ret#0
  refine Z.out1 (by exact ⟨rfl, trivial⟩) ?_
  exact ⟨_, rfl, rfl, hs.sub (List.nil_sublist _)⟩
theorem bk_everyL (A : Option Addr) (n c : Nat) (l : List LgV) (k : Nat) (cap : Array Value) (p : LgV → Bool) (w : World) (hx : Sl w A (l.flatMap LgV.cells)) (hl : l.length = n) (hn : n ≤ 1000)
    (hk : ∀ args w, (callFunc k args).run Try.prog w = .ok (.enter k args) w) (hp : ∀ x W, SX.St w [] W [] → Calls Try.prog k (Value.agg (LgV.cells x).toArray :: cap.toList).toArray W (SX.Ret fun v w' => v = .bool (p x) ∧ SX.St W [] w' [])) :
    Calls Try.prog 28 #[.slice A n c, .func (.func k) #[] cap] w (SX.Ret fun v w' => v = .bool (l.all p) ∧ SX.St w [] w' []) := by
  have hs := SX.St.start w
  refine Z.enter Try.func28 rfl Try.ntmps28 rfl rfl ?_
  refine Z.seq ?_
  refine Z.region ?_
  refine Z.le rfl trivial ?_
  refine Z.ZO.box rfl rfl (by rfl) rfl rfl hs ?_
  clear hs; intro g3 w3 hs
  refine Z.lb 1 rfl ?_
  refine Z.lnil ?_
  refine Z.only [0, 3] rfl ?_
  refine Z.nthen ?_
  refine Z.seq ?_
  refine Z.region ?_
  refine Z.lb 2 rfl ?_
  refine Z.le rfl trivial ?_
  refine Z.ZO.call rfl rfl (by rfl) rfl rfl Try.call30 rfl (bk_containsL A n c l 47 _ (fun x ↦ !p x) _ (hx.st (hs.sub (List.nil_sublist _))) hl hn Try.call47 (fun x W hW ↦ bk_everyL1 g3 k cap p x W (Cel.st (hs.celOf (by first | ((repeat (first | exact List.mem_cons_self | refine List.mem_cons_of_mem _ ?_ | refine List.mem_append_right _ ?_)); done) | fail)) hW) hk (fun y V hV ↦ hp y V (SX.St.sub (hs.call (hW.call hV)) (List.nil_sublist _))))) ?_
  rintro v1_2 w1_2 ⟨rfl, hy⟩
  replace hs := hs.call hy
  clear hy
  try simp only [List.cons_append, List.nil_append, List.append_nil] at hs
  refine Z.lb 2 rfl ?_
  refine Z.lnil ?_
  refine Z.only [4] rfl ?_
  refine Z.nthen ?_
  refine Z.ret ?_
  -- ret#0
  refine Z.out1 (by exact ⟨rfl, trivial⟩) ?_
  exact ⟨_, rfl, by congr 1; rw [Bool.eq_iff_iff]; simp, hs.sub (List.nil_sublist _)⟩
theorem bk_everyI1 (g k : Nat) (cap : Array Value) (p : Int → Bool) (x : Int) (w : World) (hc : Cel w g [.func (.func k) #[] cap])
    (hk : ∀ args w, (callFunc k args).run Try.prog w = .ok (.enter k args) w) (hp : ∀ x W, SX.St w [] W [] → Calls Try.prog k (Value.int .i64 x :: cap.toList).toArray W (SX.Ret fun v w' => v = .bool (p x) ∧ SX.St W [] w' [])) :
    Calls Try.prog 52 #[.int .i64 x, .pointer (some ⟨g, 0, none⟩)] w (SX.Ret fun v w' => v = .bool (!p x) ∧ SX.St w [] w' []) := by
  have hs := SX.St.start w
  refine Z.enter Try.func52 rfl Try.ntmps52 rfl rfl ?_
  refine Z.seq ?_
  refine Z.region ?_
  refine Z.lb 1 rfl ?_
  refine Z.lnil ?_
  refine Z.only [0, 1] rfl ?_
  refine Z.nthen ?_
  refine Z.seq ?_
  refine Z.region ?_
  refine Z.l rfl rfl (by rfl) (Z.keepS hs) (Z.Yd.load rfl Try.isAgg80 (fun _ => Z.cellO hc.1 (by simp) (hc.2 0 _ rfl))) ?_
  refine Z.lb 1 rfl ?_
  refine Z.le rfl trivial ?_
  refine Z.ZO.call rfl rfl (by rfl) rfl rfl hk (by first | rfl | simp) (hp x _ hs) ?_
  rintro v1_2 w1_2 ⟨rfl, hy⟩
  replace hs := hs.call hy
  clear hy
  try simp only [List.cons_append, List.nil_append, List.append_nil] at hs
  refine Z.lb 2 rfl ?_
  refine Z.lnil ?_
  refine Z.only [3] rfl ?_
  refine Z.nthen ?_
  refine Z.ret ?_
  -- ret#0
  refine Z.out1 (by exact ⟨rfl, trivial⟩) ?_
  first | exact ⟨_, rfl, rfl, hs⟩ | exact ⟨_, rfl, rfl, hs.sub (List.nil_sublist _)⟩
theorem bk_everyI (A : Option Addr) (n c : Nat) (l : List Int) (k : Nat) (cap : Array Value) (p : Int → Bool) (w : World) (hx : Sl w A (ints .i64 l)) (hl : l.length = n) (hn : n ≤ 1000)
    (hk : ∀ args w, (callFunc k args).run Try.prog w = .ok (.enter k args) w) (hp : ∀ x W, SX.St w [] W [] → Calls Try.prog k (Value.int .i64 x :: cap.toList).toArray W (SX.Ret fun v w' => v = .bool (p x) ∧ SX.St W [] w' [])) :
    Calls Try.prog 38 #[.slice A n c, .func (.func k) #[] cap] w (SX.Ret fun v w' => v = .bool (l.all p) ∧ SX.St w [] w' []) := by
  have hs := SX.St.start w
  refine Z.enter Try.func38 rfl Try.ntmps38 rfl rfl ?_
  refine Z.seq ?_
  refine Z.region ?_
  refine Z.le rfl trivial ?_
  refine Z.ZO.box rfl rfl (by rfl) rfl rfl hs ?_
  clear hs; intro g3 w3 hs
  refine Z.lb 1 rfl ?_
  refine Z.lnil ?_
  refine Z.only [0, 3] rfl ?_
  refine Z.nthen ?_
  refine Z.seq ?_
  refine Z.region ?_
  refine Z.lb 2 rfl ?_
  refine Z.le rfl trivial ?_
  refine Z.ZO.call rfl rfl (by rfl) rfl rfl Try.call51 rfl (bk_containsI A n c l 52 _ (fun x ↦ !p x) _ (hx.st (hs.sub (List.nil_sublist _))) hl hn Try.call52 (fun x W hW ↦ bk_everyI1 g3 k cap p x W (Cel.st (hs.celOf (by first | ((repeat (first | exact List.mem_cons_self | refine List.mem_cons_of_mem _ ?_ | refine List.mem_append_right _ ?_)); done) | fail)) hW) hk (fun y V hV ↦ hp y V (SX.St.sub (hs.call (hW.call hV)) (List.nil_sublist _))))) ?_
  rintro v1_2 w1_2 ⟨rfl, hy⟩
  replace hs := hs.call hy
  clear hy
  try simp only [List.cons_append, List.nil_append, List.append_nil] at hs
  refine Z.lb 2 rfl ?_
  refine Z.lnil ?_
  refine Z.only [4] rfl ?_
  refine Z.nthen ?_
  refine Z.ret ?_
  -- ret#0
  refine Z.out1 (by exact ⟨rfl, trivial⟩) ?_
  exact ⟨_, rfl, by congr 1; rw [Bool.eq_iff_iff]; simp, hs.sub (List.nil_sublist _)⟩
end Go.Proofs.Ythdhobnkclddhaa

/- Drawn regions where what is leant on hangs on the operation behind which one stands. -/
namespace Go.Proofs.Ythdhobnkclddhaa
open Go.RowKit
set_option linter.unusedVariables false
set_option linter.unusedSimpArgs false
namespace SX
section
variable {F : Fence} {n : Nat} {P : Program} {ops : Array Oper} {Q : Exit → Act → World → Prop} {md : Region.Mode} {C : Nat → World → Prop} {S : World → Prop}
/-- Whatever order is picked from here on; C i holds behind operation i. -/
def wpAnyC (F : Fence) (n : Nat) (P : Program) (md : Region.Mode) (ops : Array Oper) (Q : Exit → Act → World → Prop) (C : Nat → World → Prop) : Nat → Array Bool → Act → World → Prop
  | 0, listed, a, w => Region.ready md ops listed = [] ∧ Q .normal a w
  | fuel + 1, listed, a, w =>
    (Region.ready md ops listed = [] → Q .normal a w) ∧
    ∀ i ∈ Region.ready md ops listed, wpOpIn F n P ops Q i (fun a' w' => C i w' ∧ wpAnyC F n P md ops Q C fuel (listed.setIfInBounds i true) a' w') a w
theorem wpAnyIn_of_C : ∀ (fuel : Nat) (listed : Array Bool) (a : Act) (w : World), wpAnyC F n P md ops Q C fuel listed a w → wpAnyIn F n P md ops Q fuel listed a w
  | 0, _, _, _, h => h
  | fuel + 1, _, _, _, h => ⟨h.1, fun i hi => wpOpIn_mono (fun a' w' h' => wpAnyIn_of_C fuel _ a' w' h'.2) (h.2 i hi)⟩
theorem wpAnyC_mono {C' : Nat → World → Prop} (hC : ∀ j w, C' j w → C j w) : ∀ (fuel : Nat) (listed : Array Bool) (a : Act) (w : World), wpAnyC F n P md ops Q C' fuel listed a w → wpAnyC F n P md ops Q C fuel listed a w
  | 0, _, _, _, h => h
  | fuel + 1, _, _, _, h => ⟨h.1, fun i hi => wpOpIn_mono (fun a' w' h' => ⟨hC _ _ h'.1, wpAnyC_mono hC fuel _ a' w' h'.2⟩) (h.2 i hi)⟩
/-- asz `wpAnyS_firstT` -/
theorem wpAnyC_first {i : Nat} {oi : Oper} {v : Value} (T : Nat → Bool) (hTi : T i = true) (hF : ∀ f, F.fn f) (hi : ops[i]? = some oi) (hsel : ∀ (j : Nat) (o : Oper) cs b, ops[j]? = some o → o.op ≠ .select cs b)
    (hdef : ∀ (j : Nat) (o : Oper) c, ops[j]? = some o → o.op ≠ .defer c)
    (hT : ∀ (j : Nat) (oj : Oper), ops[j]? = some oj → T j = true → j ≠ i → ∃ e ∈ oj.after, Region.binds md e = true ∧ T e.on = true)
    (hC : ∀ (j : Nat), T j = false → ∀ w, C j w → S w)
    (hQ : ∀ c a w, Q (.panic c) (a.put oi.dst v) w → Q (.panic c) a w) :
    ∀ (fuel : Nat) (listed : Array Bool) (a : Act) (w : World),
      (∀ j, T j = true → listed[j]? = some false) →
      (∀ j oj, ops[j]? = some oj → T j = false → listed.getD j true = false → oi.apart ops oj = true) →
      i ∈ Region.ready md ops listed → YieldsS P ops S oi v a → S w → (∀ w, S w → C i w) →
      wpAnyC F n P md ops Q C fuel (listed.setIfInBounds i true) (a.put oi.dst v) w → wpAnyC F n P md ops Q C (fuel + 1) listed a w := by
  intro fuel
  induction fuel with
  | zero =>
    intro listed a w _ _ hr hy hS hSC H
    refine ⟨fun h => (by rw [h] at hr; cases hr), fun j hj => ?_⟩
    by_cases hji : j = i
    · subst hji; exact hy.wpOpIn hF hi (fun c => hdef _ _ c hi) hS ⟨hSC _ hS, H⟩
    · have := ready_mono hj hji
      rw [H.1] at this
      cases this
  | succ fuel ih =>
    intro listed a w hun hfree hr hy hS hSC H
    refine ⟨fun h => (by rw [h] at hr; cases hr), fun j hj => ?_⟩
    by_cases hji : j = i
    · subst hji; exact hy.wpOpIn hF hi (fun c => hdef _ _ c hi) hS ⟨hSC _ hS, H⟩
    · have h1 := H.2 j (ready_mono hj hji)
      obtain ⟨hjun, oj, hoj, hall⟩ := mem_ready.1 hj
      have hTj : T j = false := by
        cases hb : T j with
        | false => rfl
        | true =>
          obtain ⟨e, he, hbd, hTe⟩ := hT j oj hoj hb hji
          have h2 := hall e he hbd
          have h3 := hun _ hTe
          rw [Array.getD_eq_getD_getElem?, h3] at h2
          cases h2
      have h2 := wpOpIn_putS hF hoj (hfree j oj hoj hTj hjun) (fun cs b => hsel i oi cs b hi) (fun cs b => hsel j oj cs b hoj) (fun c => hdef j oj c hoj) hQ hy h1
      have hun' : ∀ k, T k = true → (listed.setIfInBounds j true)[k]? = some false := fun k hk => by
        rw [Array.getElem?_setIfInBounds_ne (fun e => by rw [e, hk] at hTj; cases hTj)]
        exact hun k hk
      have hfree' : ∀ k ok, ops[k]? = some ok → T k = false → (listed.setIfInBounds j true).getD k true = false → oi.apart ops ok = true := fun k ok hk hki hun => by
        refine hfree k ok hk hki ?_
        by_cases hjk : j = k
        · subst hjk; exact hjun
        · rw [getD_set_ne true hjk] at hun; exact hun
      refine wpOpIn_mono (fun a' w' h3 => ⟨h3.2.1, ih (listed.setIfInBounds j true) a' w' hun' hfree' (ready_mono hr (Ne.symm hji)) h3.1 (hC j hTj _ h3.2.1) hSC ?_⟩) h2
      rw [Array.setIfInBounds_comm _ _ hji]
      exact h3.2.2
end
end SX
namespace Z
variable {N : Nat} {E E' : Env} {D : List Deferred} {a : Act} {G : Guards} {F : Fence} {n : Nat} {P : Program} {S S1 S2 : World → Prop} {ops : Array Oper} {o : Oper} {v : Value} {d : Nat}
variable {K : Act → World → Prop} {Q : Exit → Act → World → Prop} {w w' w0 : World} {M : List Nat} {L : List SX.Ent} {B : List Nat}
/-- S1 holds throughout, S2 but behind the operations of B -/
def lv2 (S1 S2 : World → Prop) (B : List Nat) (i : Nat) (w : World) : Prop := S1 w ∧ (B.contains i = false → S2 w)
def wpC (F : Fence) (n : Nat) (P : Program) (ops : Array Oper) (Q : Exit → Act → World → Prop) (C : Nat → World → Prop) (done : List Nat) : Act → World → Prop :=
  SX.wpAnyC F n P .any ops (SX.NP Q) C (ops.size - done.length) (flags ops.size done)
theorem drawC {id : Nat} (L1 : List SX.Ent) (hm : P.follows .mixedOrders = true) (hs : SX.St w0 M w L)
    (h : ∀ w', SX.St w0 M w' L → Z N E D (wpC F n P ops Q (fun _ => SX.Keep w0 M L1) []) w') : Z N E D ((Code.region id ops true).wpIn F n P Q) w :=
  fun a ha => Go.wpIn_mono (wpIn_region_any hm (SX.wpAnyIn_of_C _ _ _ _ (h _ hs.drew a ha))) fun e a w h => SX.NP.out h
/-- from here on more is leant on -/
theorem twoC {done : List Nat} {L1 : List SX.Ent} (L2 : List SX.Ent) (B : List Nat) (h : Z N E D (wpC F n P ops Q (lv2 (SX.Keep w0 M L1) (SX.Keep w0 M L2) B) done) w) : Z N E D (wpC F n P ops Q (fun _ => SX.Keep w0 M L1) done) w :=
  fun a ha => SX.wpAnyC_mono (fun _ _ h => h.1) _ _ _ _ (h a ha)
theorem tCgen [Wide F] {C : Nat → World → Prop} {done : List Nat} (i : Nat) (T : List Nat) (hi : ops[i]? = some o) (hG : effG ops E o = some G) (hd : o.dst = some d) (hc : chk N d E G = true) (hm : (left ops done && SX.mayTakeT .any ops (fun _ => true) (flags ops.size done) i T) = true)
    (hC : ∀ (j : Nat), T.contains j = false → ∀ w, C j w → S w) (hSC : ∀ w, S w → C i w)
    (hS : S w) (y : Yd P N D S E G o.op v) (h : Z N ((d, G, v) :: E) D (wpC F n P ops Q C (i :: done)) w) : Z N E D (wpC F n P ops Q C done) w := by
  classical
  simp only [Bool.and_eq_true] at hm
  intro a ha
  obtain ⟨h1, h2, h3⟩ := chk_spec hc
  have hw := wanted_of (ops := ops) (o := o) ha hG
  unfold wpC
  rw [fuel_eq (i := i) hm.1]
  have hmt := hm.2
  obtain ⟨q1, -, q3, q4⟩ := SX.mayTakeT_spec hmt hi
  have hmt' := hmt
  simp only [SX.mayTakeT, Bool.and_eq_true] at hmt'
  obtain ⟨⟨⟨⟨⟨⟨⟨k1, k2⟩, k3⟩, -⟩, -⟩, -⟩, -⟩, k8⟩ := hmt'
  have hQ : ∀ u : Value, ∀ c a w, SX.NP Q (.panic c) (a.put o.dst u) w → SX.NP Q (.panic c) a w := fun u c a w h => h.elim
  by_cases hg : gholds a G
  · exact SX.wpAnyC_first (fun j => T.contains j) k3 (fun f => Wide.fn f) hi (Region.noSelect_spec k1) (SX.noDefer_spec k2) q1 hC (hQ v) _ _ a w q3 q4 (by simpa using k8) (.inl ⟨hw.2 hg, fun w hS => y.2 a ha hg o rfl w hS⟩) hS hSC (by
      rw [hd]
      exact h _ (ha.put h1 h2 h3 (by rw [if_pos hg])))
  · exact SX.wpAnyC_first (fun j => T.contains j) k3 (fun f => Wide.fn f) hi (Region.noSelect_spec k1) (SX.noDefer_spec k2) q1 hC (hQ undef) _ _ a w q3 q4 (by simpa using k8) (.inr ⟨(by
      cases hb : Region.wanted o (yielded ops a.tmps) with
      | false => rfl
      | true => exact absurd (hw.1 hb) hg), rfl⟩) hS hSC (by
      rw [hd]
      exact h _ (ha.put h1 h2 h3 (by rw [if_neg hg])))
/-- taken early; S2 is leant on: what comes before it is not in B -/
theorem tC2 [Wide F] {done : List Nat} (i : Nat) (T : List Nat) (hi : ops[i]? = some o) (hG : effG ops E o = some G) (hd : o.dst = some d) (hc : chk N d E G = true) (hm : (left ops done && SX.mayTakeT .any ops (fun _ => true) (flags ops.size done) i T) = true)
    (hB : (B.all fun j => T.contains j) = true) (hS : S1 w) (hS2 : S2 w) (y : Yd P N D (fun w => S1 w ∧ S2 w) E G o.op v) (h : Z N ((d, G, v) :: E) D (wpC F n P ops Q (lv2 S1 S2 B) (i :: done)) w) : Z N E D (wpC F n P ops Q (lv2 S1 S2 B) done) w :=
  tCgen (S := fun w => S1 w ∧ S2 w) i T hi hG hd hc hm (fun j hj w hw => ⟨hw.1, hw.2 (by
    cases hb : B.contains j with
    | false => rfl
    | true =>
      have := List.all_eq_true.1 hB j (by simpa using hb)
      rw [hj] at this; cases this)⟩) (fun w hw => ⟨hw.1, fun _ => hw.2⟩) ⟨hS, hS2⟩ y h
theorem yd2 {op : Op} (y : Yd P N D S2 E G op v) : Yd P N D (fun w => S1 w ∧ S2 w) E G op v := ⟨y.1, fun a ha hg o ho w hS => y.2 a ha hg o ho w hS.2⟩
/-- taken early; only what holds throughout is leant on -/
theorem tC1 [Wide F] {done : List Nat} (i : Nat) (T : List Nat) (hi : ops[i]? = some o) (hG : effG ops E o = some G) (hd : o.dst = some d) (hc : chk N d E G = true) (hm : (left ops done && SX.mayTakeT .any ops (fun _ => true) (flags ops.size done) i T) = true)
    (hS : S1 w) (y : Yd P N D S1 E G o.op v) (h : Z N ((d, G, v) :: E) D (wpC F n P ops Q (fun _ => S1) (i :: done)) w) : Z N E D (wpC F n P ops Q (fun _ => S1) done) w :=
  tCgen (S := S1) i T hi hG hd hc hm (fun j hj w hw => hw) (fun w hw => hw) hS y h
theorem forkC [Wide F] {C : Nat → World → Prop} {done : List Nat} (is : List Nat) (hm : left ops done = true) (hr : Region.ready .any ops (flags ops.size done) = is) (hne : is.isEmpty = false)
    (h : FA F n P N E D ops (fun i a' w' => C i w' ∧ wpC F n P ops Q C (i :: done) a' w') (SX.NP Q) w is) : Z N E D (wpC F n P ops Q C done) w := by
  intro a ha
  unfold wpC
  rw [fuel_eq (i := 0) hm]
  refine ⟨fun h0 => (by rw [hr] at h0; rw [h0] at hne; cases hne), fun k hk => ?_⟩
  rw [hr] at hk
  obtain ⟨o, G, hi, hG, ht, hz⟩ := FA.at h k hk
  have hw := (wanted_of (ops := ops) (o := o) ha hG).2 (ht.holds ha)
  unfold Go.wpOpIn
  simp only [hi, hw, if_true]
  exact hz a ha
theorem tkC {C : Nat → World → Prop} {done : List Nat} {i : Nat} (hS : C i w) (h : Z N E D (wpC F n P ops Q C (i :: done)) w) : Z N E D (fun a' w' => C i w' ∧ wpC F n P ops Q C (i :: done) a' w') w := fun a ha => ⟨hS, h a ha⟩
theorem tdC {C : Nat → World → Prop} {done : List Nat} (hm : Nat.beq (ops.size - done.length) 0 = true) (hr : Region.ready .any ops (flags ops.size done) = []) (h : Z N E D (Q .normal) w) : Z N E D (wpC F n P ops Q C done) w := by
  intro a ha
  unfold wpC
  rw [Nat.eq_of_beq_eq_true hm]
  refine ⟨?_, h a ha⟩
  exact hr
end Z
end Go.Proofs.Ythdhobnkclddhaa
