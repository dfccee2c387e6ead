/- Part 4 of the proofs that lead to the statement. -/
import Derived.Test.YtbojkoiopkaciaaGreatY3
import Derived.Test.YtbojkoiopkaciaaGreatRows
namespace Go.Proofs.YtbojkoiopkaciaaGreat
open Go.RowKit Go.Proofs.Tryz SX
set_option linter.unusedSimpArgs false
set_option linter.unusedVariables false
set_option maxRecDepth 100000
set_option maxHeartbeats 8000000
theorem ids_take {l : List LgV} {i : Nat} (hi : i < l.length) (h : ids (l.take i)) : ids (l.take (i + 1)) ↔ ∀ k : Nat, k < i → ¬ l[k]!.id = l[i]!.id := by
  rw [any_prefix hi h, List.any_eq_false]
  constructor
  · intro h1 k hk he
    have hkl : k < l.length := by omega
    have := h1 l[k] (List.mem_take_iff_getElem.2 ⟨k, by omega, rfl⟩); rw [getElem!_pos l k hkl, getElem!_pos l i hi] at he; simp [he] at this
  intro h1 x hx; obtain ⟨k, hk, rfl⟩ := List.mem_take_iff_getElem.1 hx; have hki : k < i := by omega
  have hkl : k < l.length := by omega
  have := h1 k hki; rw [getElem!_pos l k hkl, getElem!_pos l i hi] at this
  simpa using this
theorem rv_valid (A : Option Addr) (n c : Nat) (l : List LgV) (w : World) (hx : Sl w A (l.flatMap LgV.cells)) (hl : l.length = n) :
    Calls Tryz.prog 78 #[.slice A n c] w (Ret fun v w' => v = .bool (decide (okSet l)) ∧ St w [] w' []) := by
  have hs := St.start w; refine Z.enter func78 rfl ntmps78 rfl rfl ?_; refine V336 ?_; refine V125 ?_; refine V208 ?_; refine V11 ?_; refine Z.split (s := 9) rfl (fun hsp9 => ?_) (fun hsp9 => ?_)
  · refine Z.yes (s := 9) (b := true) rfl hsp9 rfl ?_
    (try simp at hsp9)
    refine V4 ?_; refine V20 ?_; refine V857 ?_; refine Z.only [0, 13] rfl ?_; refine V6 ?_; refine Z.cond rfl (fun hc1 => ?_) (fun hc1 => ?_)
    · (try simp at hc1)
      have hno : ¬ okSet l := by rintro ⟨h1, -⟩; omega
      refine V154 ?_
      repeat (first | refine Z.rthen ?_ | refine Z.rblock ?_ | refine Z.rscope ?_)
      refine V199 ?_; exact ⟨_, rfl, by rw [decide_eq_false hno], Jn hs⟩
    (exfalso; simp at hc1 <;> omega)
  refine Z.yes (s := 9) (b := false) rfl hsp9 rfl ?_
  (try simp at hsp9)
  refine V859 ?_; refine V208 ?_; refine V859 ?_; refine Z.yes (s := 9) (b := false) rfl rfl rfl ?_; refine V14 ?_; refine V857 ?_; refine Z.only [0, 13] rfl ?_; refine V6 ?_; refine Z.cond rfl (fun hc1 => ?_) (fun hc1 => ?_)
  · (try simp at hc1)
    have hno : ¬ okSet l := by rintro ⟨h1, -⟩; omega
    refine V154 ?_
    repeat (first | refine Z.rthen ?_ | refine Z.rblock ?_ | refine Z.rscope ?_)
    refine V199 ?_; exact ⟨_, rfl, by rw [decide_eq_false hno], Jn hs⟩
  (try simp at hc1)
  obtain ⟨bb, off, rfl, hb0, hx2⟩ := Z.Sl.some hx J91; refine V463 ?_; refine V269 ?_; refine V861 ?_; refine Z.loopk (ι := Nat) [0] rfl (fun i => [(3, [], .int .i64 (i : Int))]) (fun i wr => (i ≤ n ∧ (∀ x ∈ l.take i, okLg x) ∧ ids (l.take i)) ∧ St w [] wr []) (fun i => n - i) 0 J6 ⟨⟨by omega, by simp, by simp [ids]⟩, hs⟩ ?_; clear hs; rintro i w4 ⟨⟨hi, h1, h2⟩, hs⟩; refine V269 ?_; refine V217 ?_; refine V208 ?_; refine V1 ?_; refine Z.only [0, 3, 17] rfl ?_; refine V6 ?_; refine Z.cond rfl (fun hc4 => ?_) (fun hc4 => ?_)
  · (try simp at hc4)
    have hlt : i < l.length := by omega
    have hel : l[i]? = some l[i]! := by rw [getElem!_pos l i hlt]; exact List.getElem?_eq_getElem hlt
    have hid := ids_take hlt h2; have hmm : l[i]! ∈ l := List.mem_of_getElem? hel; have htk : l.take (i + 1) = l.take i ++ [l[i]!] := by rw [List.take_add_one, hel]; rfl
    generalize l[i]! = xi at hel hid hmm htk; have hone := lg_one xi; refine V445 ?_; refine V209 ?_; refine V2 ?_; refine Z.ZO.alloc rfl rfl (by rfl) zeroValue75 rfl hs ?_; clear hs; intro g4 w4 hs; refine V860 ?_; clear hs; intro ws hs; replace hs := U1 hs; replace hs := U2 hs; refine V857 ?_; refine V261 ?_; refine V210 ?_; refine V141 ?_; refine Z.cutt (ι := Unit) [0, 3, 4] rfl (fun _ => [(71, [], .bool (!decide (okLg xi)))]) (fun _ wr => St w [] wr [Ent.blk g4 75 xi.cells.toArray]) ?_ ?_
    · skip
      refine V42 ?_; refine V48 ?_; refine V320 ?_; refine V9 ?_; refine V50 ?_; refine V38 ?_; refine V9 ?_; refine V50 ?_; refine V54 ?_; refine V9 ?_; refine V50 ?_; refine V54 ?_; refine V9 ?_; refine V31 ?_; refine Z.only [0, 3, 4, 71] rfl ?_; refine V6 ?_; exact Z.meet () (by refine ⟨?_, ?_, ?_, ?_, trivial⟩ <;> first | rfl | ((refine Z.lookv rfl ?_; congr 1; rw [Bool.eq_iff_iff]; simp only [Bool.not_eq_true', decide_eq_false_iff_not]; unfold okLg; simp; omega))) hs
    clear hs; rintro _ w7 hs; refine Z.only [0, 3, 4, 71] rfl ?_; refine Z.cond rfl (fun hc7 => ?_) (fun hc7 => ?_)
    · (try simp at hc7)
      have hno : ¬ okSet l := fun h => by have := h.2.1 xi hmm; contradiction
      refine V154 ?_
      repeat (first | refine Z.rthen ?_ | refine Z.rblock ?_ | refine Z.rscope ?_)
      refine V199 ?_; exact ⟨_, rfl, by rw [decide_eq_false hno], Jn hs⟩
    (try simp at hc7)
    have hok : okLg xi := by assumption
    refine V862 ?_; refine V1 ?_; refine Z.only [0, 3, 4, 5] rfl ?_; refine V861 ?_; refine Z.loopk (ι := Nat) [0, 3, 4] rfl (fun k => [(5, [], .int .i64 (k : Int))]) (fun k wr => (k ≤ i ∧ ∀ j : Nat, j < k → ¬ l[j]!.id = xi.id) ∧ St w [] wr [Ent.blk g4 75 xi.cells.toArray]) (fun k => i - k) 0 J6 ⟨⟨by omega, fun j hj => absurd hj J5⟩, hs⟩ ?_; clear hs; rintro k w10 ⟨⟨hk, h3⟩, hs⟩; refine Z.only [0, 3, 4, 5] rfl ?_; refine V182 ?_; refine V184 ?_; refine Z.only [0, 3, 4, 5, 74] rfl ?_; refine V6 ?_; refine Z.cond rfl (fun hc10 => ?_) (fun hc10 => ?_)
    · (try simp at hc10)
      have hkl : l[k]? = some l[k]! := by rw [getElem!_pos l k J5]; exact List.getElem?_eq_getElem J5
      have h3k : ∀ j : Nat, j < k + 1 → j < k ∨ j = k := fun j hj => by omega
      refine V499 ?_; clear hs; intro wd12 hs; refine V557 ?_; refine Z.t 2 rfl rfl rfl (by rfl) J3 (Jk hs) (Z.Yd.elem rfl rfl underlying22 sizeOf75 (fun hG => ⟨J2, J2⟩)) ?_; refine V495 ?_; refine Z.t 4 rfl rfl rfl (by rfl) J3 (Jk hs) (Z.Yd.load rfl isAgg3 (fun _ => Z.cellXf hx2.sx lg_len hkl rfl)) ?_; refine Z.t 5 rfl rfl rfl (by rfl) J3 (Jk hs) (Z.Yd.fieldA (m := 0) rfl J3) ?_; refine Z.t 6 rfl rfl rfl (by rfl) J3 (Jk hs) J25 ?_; refine Z.tb [7] J3 rfl (Jk hs) rfl ?_; refine V40 ?_; refine Z.only [0, 3, 4, 5, 84] rfl ?_; refine V6 ?_; refine Z.cond rfl (fun hc12 => ?_) (fun hc12 => ?_)
      · (try simp at hc12)
        have hno : ¬ okSet l := fun h => by
          have h4 := hid.1 (h.2.2.sublist (List.take_sublist _ _)) k J5; simp at h4
          contradiction
        refine V154 ?_
        repeat (first | refine Z.rthen ?_ | refine Z.rblock ?_ | refine Z.rscope ?_)
        refine V199 ?_; exact ⟨_, rfl, by rw [decide_eq_false hno], Jn hs⟩
      (try simp at hc12)
      have hne : ¬ l[k]!.id = xi.id := by simpa using hc12
      refine V331 ?_; refine Z.only [0, 3, 4, 5] rfl ?_; refine V6 ?_; refine Z.again (k + 1) J10 ⟨⟨by omega, fun j hj => ?_⟩, hs⟩ J5
      rcases h3k j hj with h | rfl
      · exact h3 j h
      exact hne
    (try simp at hc10)
    refine V10 ?_; refine V302 ?_; refine V269 ?_; refine V6 ?_; refine Z.again (i + 1) J11 ⟨⟨by omega, ?_, hid.2 fun j hj => h3 j J5⟩, Jn hs⟩ J5; intro x hx; rw [htk] at hx
    rcases List.mem_append.1 hx with hx | hx
    · exact h1 x hx
    obtain rfl : x = xi := by simpa using hx
    exact hok
  (try simp at hc4)
  refine V181 ?_; refine V186 ?_; rw [List.take_of_length_le J5] at h1 h2; exact ⟨_, rfl, by rw [decide_eq_true (show okSet l from ⟨by omega, h1, h2⟩)], hs⟩
def rvC (A B : Option Addr) (n c d : Nat) (now : Int) : Array Value := #[.slice A n c, .slice B n d, .int .i64 now]
theorem rv_new (A : Option Addr) (n c : Nat) (l : List LgV) (w : World) (hx : Sl w A (l.flatMap LgV.cells)) (hl : l.length = n) :
    Calls Tryz.prog 32 #[.slice A n c] w (Ret fun v w' => if okSet l then ∃ Ra Rb ca cb, v = .tuple #[.agg (rvC Ra Rb n ca cb 0), .int .i64 0] ∧ St w [] w' [Ent.row (.slice Ra n ca) 75 5 n (l.flatMap LgV.cells), Ent.row (.slice Rb n cb) 3 1 n (ints .i64 (newB l).b)] else v = .tuple #[.agg (rvC none none 0 0 0 0), .int .i64 2] ∧ St w [] w' []) := by
  have hs := St.start w; have hfl : (l.flatMap LgV.cells).length = n * 5 := by rw [flat_len lg_len, hl]
  have hfo := flat_one lg_one l; refine Z.enter func32 rfl ntmps32 rfl rfl ?_; refine V304 ?_; refine V351 ?_; clear hs; intro g2 w2 hs; refine V1 ?_; refine Z.only [0, 2] rfl ?_; refine V268 ?_; refine Z.ZO.call rfl rfl (by rfl) rfl rfl call78 rfl (rv_valid A n c l _ (hx.st (Jn hs)) hl) ?_; rintro v1_1 w1_1 ⟨rfl, hy⟩; replace hs := U0 (hs.call hy); clear hy; refine V1 ?_; refine Z.only [0, 2, 6] rfl ?_; refine V6 ?_; refine Z.cond rfl (fun hc1 => ?_) (fun hc1 => ?_)
  · (try simp at hc1)
    have hno : ¬ okSet l := by assumption
    refine V0 ?_; refine V494 ?_; refine V860 ?_; clear hs; intro ws hs; replace hs := U1 hs; replace hs := U2 hs; refine V484 ?_
    repeat (first | refine Z.rthen ?_ | refine Z.rblock ?_ | refine Z.rscope ?_)
    refine Z.out2 J59 ?_; refine ⟨_, rfl, ?_⟩; dsimp only; rw [if_neg hno]; exact ⟨rfl, Jn hs⟩
  (try simp at hc1)
  have hset : okSet l := by assumption
  have hn1 := hset.1; refine V47 ?_; refine V343 ?_; clear hs; intro wd3 hs; refine Z.tb [1, 3] J3 rfl (Jk hs) rfl ?_; refine Z.t 4 rfl rfl rfl (by rfl) J3 (Jk hs) (Z.Yd.lenS rfl underlying22) ?_; refine Z.fork2 0 5 rfl rfl rfl J3 rfl rfl trivial trivial ?_ ?_
  · skip
    refine Z.ZO.empty rfl rfl (by rfl) underlying22 sizeOf75 hs ?_; clear hs; intro g8 w8 hs; refine V193 ?_; refine Z.fork2 2 5 rfl rfl rfl J3 rfl rfl trivial trivial ?_ ?_
    · skip
      refine V225 ?_; clear hs; intro v10 w10 hs; replace hs := U5 hs; refine V46 ?_; refine V149 ?_; refine V114 ?_; clear hs; intro g13 w13 hs; refine V52 ?_; replace hs := U9 hs; have hq : ∃ Ra ca, v10 = .slice Ra n ca := by
        obtain ⟨Ra, ca, h, -⟩ := row_slv hs (j := 1) rfl; exact ⟨Ra, ca, h⟩
      obtain ⟨Ra, ca, rfl⟩ := hq; refine V232 ?_; clear hs; intro ws hs; replace hs := U1 hs; replace hs := U2 hs; refine V236 ?_
      first
      | (refine ⟨_, rfl, ?_⟩
         dsimp only; rw [if_neg hno]
         exact ⟨rfl, Jn hs⟩)
      | (refine ⟨_, rfl, ?_⟩
         dsimp only; rw [if_pos hset]; refine ⟨Ra, some ⟨g13, 0, none⟩, ca, n, rfl, ?_⟩; rw [show ints .i64 (newB l).b = List.replicate n (.int .i64 0) by simp [ints, newB, hl]]
         first
         | exact hs.sel [1, 0] J12
         | exact hs.sel [0, 1] J12
         | exact hs.sel [1, 2] J12
         | exact hs.sel [2, 1] J12)
    skip
    refine V114 ?_; clear hs; intro g13 w13 hs; refine V52 ?_; refine V172 ?_; refine V225 ?_; clear hs; intro v10 w10 hs; replace hs := U5 hs; refine V46 ?_; replace hs := U9 hs; have hq : ∃ Ra ca, v10 = .slice Ra n ca := by
      obtain ⟨Ra, ca, h, -⟩ := row_slv hs (j := 1) rfl; exact ⟨Ra, ca, h⟩
    obtain ⟨Ra, ca, rfl⟩ := hq; refine V232 ?_; clear hs; intro ws hs; replace hs := U1 hs; replace hs := U2 hs; refine V236 ?_
    first
    | (refine ⟨_, rfl, ?_⟩
       dsimp only; rw [if_neg hno]
       exact ⟨rfl, Jn hs⟩)
    | (refine ⟨_, rfl, ?_⟩
       dsimp only; rw [if_pos hset]; refine ⟨Ra, some ⟨g13, 0, none⟩, ca, n, rfl, ?_⟩; rw [show ints .i64 (newB l).b = List.replicate n (.int .i64 0) by simp [ints, newB, hl]]
       first
       | exact hs.sel [1, 0] J12
       | exact hs.sel [0, 1] J12
       | exact hs.sel [1, 2] J12
       | exact hs.sel [2, 1] J12)
  skip
  refine V114 ?_; clear hs; intro g13 w13 hs; refine V52 ?_; refine Z.tn 0 rfl rfl J3 rfl trivial ?_; refine Z.ZO.empty rfl rfl (by rfl) underlying22 sizeOf75 hs ?_; clear hs; intro g8 w8 hs; refine V193 ?_; refine V172 ?_; refine V225 ?_; clear hs; intro v10 w10 hs; replace hs := U5 hs; refine V46 ?_; replace hs := U9 hs; have hq : ∃ Ra ca, v10 = .slice Ra n ca := by
    obtain ⟨Ra, ca, h, -⟩ := row_slv hs (j := 0) rfl; exact ⟨Ra, ca, h⟩
  obtain ⟨Ra, ca, rfl⟩ := hq; refine V232 ?_; clear hs; intro ws hs; replace hs := U1 hs; replace hs := U2 hs; refine V236 ?_
  first
  | (refine ⟨_, rfl, ?_⟩
     dsimp only; rw [if_neg hno]
     exact ⟨rfl, Jn hs⟩)
  | (refine ⟨_, rfl, ?_⟩
     dsimp only; rw [if_pos hset]; refine ⟨Ra, some ⟨g13, 0, none⟩, ca, n, rfl, ?_⟩; rw [show ints .i64 (newB l).b = List.replicate n (.int .i64 0) by simp [ints, newB, hl]]
     first
     | exact hs.sel [1, 0] J12
     | exact hs.sel [0, 1] J12
     | exact hs.sel [1, 2] J12
     | exact hs.sel [2, 1] J12)
theorem flen_le {α β : Type} {f : α → List β} {c : Nat} : ∀ {l : List α}, (∀ x ∈ l, (f x).length ≤ c) → (l.flatMap f).length ≤ l.length * c
  | [], _ => by simp
  | x :: l, h => by
    have h1 := h x J16; have h2 := flen_le (f := f) (l := l) fun y hy => h y (by simp [hy])
    rw [List.flatMap_cons, List.length_append, List.length_cons, Nat.succ_mul]
    omega
theorem ordP_le (l : List LgV) (p d : Int) : (ordP l p d).length ≤ l.length := by
  have := List.length_filter_le (fun i => decide (l[i]!.pr = p ∧ l[i]!.id = d)) (List.range l.length)
  simpa [ordP] using this
theorem ordQ_le (l : List LgV) (p : Int) : (ordQ l p).length ≤ 10 * l.length := by
  have := flen_le (f := fun (d : Nat) => ordP l p ((d : Int) + 1)) (c := l.length) (l := List.range 10) fun d _ => ordP_le l p _
  simpa [ordQ] using this
def ordT (l : List LgV) (p : Nat) : List Nat := (List.range p).flatMap fun (p : Nat) => ordQ l ((p : Int) + 1)
def ordU (l : List LgV) (p d : Nat) : List Nat := ordT l p ++ (List.range d).flatMap fun (d : Nat) => ordP l ((p : Int) + 1) ((d : Int) + 1)
def ordV (l : List LgV) (p d i : Nat) : List Nat := ordU l p d ++ (List.range i).filter fun i => decide (l[i]!.pr = (p : Int) + 1 ∧ l[i]!.id = (d : Int) + 1)
theorem ordT_le (l : List LgV) (p : Nat) : (ordT l p).length ≤ p * (10 * l.length) := by
  have := flen_le (f := fun (p : Nat) => ordQ l ((p : Int) + 1)) (c := 10 * l.length) (l := List.range p) fun d _ => ordQ_le l _
  simpa [ordT] using this
theorem ordU_le (l : List LgV) (p d : Nat) : (ordU l p d).length ≤ p * (10 * l.length) + d * l.length := by
  have h1 := ordT_le l p; have h2 := flen_le (f := fun (d : Nat) => ordP l ((p : Int) + 1) ((d : Int) + 1)) (c := l.length) (l := List.range d) fun d _ => ordP_le l _ _
  rw [List.length_range] at h2; simp only [ordU, List.length_append]
  omega
theorem ordV_le (l : List LgV) (p d i : Nat) : (ordV l p d i).length ≤ p * (10 * l.length) + d * l.length + i := by
  have h1 := ordU_le l p d; have h2 := List.length_filter_le (fun i => decide (l[i]!.pr = (p : Int) + 1 ∧ l[i]!.id = (d : Int) + 1)) (List.range i); rw [List.length_range] at h2; simp only [ordV, List.length_append]
  omega
theorem ordV_step (l : List LgV) (p d i : Nat) : ordV l p d (i + 1) = ordV l p d i ++ if l[i]!.pr = (p : Int) + 1 ∧ l[i]!.id = (d : Int) + 1 then [i] else [] := by
  simp only [ordV]; rw [List.range_succ, List.filter_append, List.append_assoc]
  congr 2
  by_cases h : l[i]!.pr = (p : Int) + 1 ∧ l[i]!.id = (d : Int) + 1
  · rw [if_pos h, List.filter_cons, if_pos (decide_eq_true h)]; rfl
  rw [if_neg h, List.filter_cons, if_neg (by simpa using h)]; rfl
theorem ordV_end (l : List LgV) (p d : Nat) : ordV l p d l.length = ordU l p (d + 1) := by
  simp only [ordV, ordU]; rw [List.range_succ, List.flatMap_append, List.append_assoc]; simp [ordP]
theorem ordU_end (l : List LgV) (p : Nat) : ordU l p 10 = ordT l (p + 1) := by
  simp only [ordU, ordT]; rw [List.range_succ (n := p), List.flatMap_append]; simp [ordQ]
theorem rv_order (A B : Option Addr) (n c k d : Nat) (now : Int) (l : List LgV) (w : World) (hx : Sl w A (l.flatMap LgV.cells)) (hl : l.length = n) (hn : n ≤ 10) :
    Calls Tryz.prog 138 #[.agg #[.slice A n c, .slice B k d, .int .i64 now]] w (Ret fun v w' => St w [] w' [Ent.row v 3 1 (ordL l).length (ints .i64 (natI (ordL l)))]) := by
  have hs := St.start w; refine Z.enter func138 rfl ntmps138 rfl rfl ?_; refine V91 ?_; clear hs; intro g1 w1 hs; refine V626 ?_; refine V511 ?_; refine V519 ?_; refine V30 ?_; replace hs := hs.nil 3 1; refine V18 ?_; refine V857 ?_; refine Z.only [1, 3, 4] rfl ?_; refine V861 ?_; refine Z.loopk (ι := Nat × Value) [1] rfl (fun x => [(3, [], x.2), (4, [], .int .i64 ((x.1 : Int) + 1))]) (fun x wr => x.1 ≤ 16 ∧ St w [] wr [Ent.row x.2 3 1 (ordT l x.1).length (ints .i64 (natI (ordT l x.1))), Ent.blk g1 36 #[.slice A n c, .slice B k d, .int .i64 now]]) (fun x => 16 - x.1) (0, .slice none 0 0) J11 ⟨Nat.zero_le _, hs⟩ ?_; clear hs; rintro ⟨p, sv⟩ w3 ⟨hp, hs⟩; refine Z.only [1, 3, 4] rfl ?_
  (try dsimp only at hs)
  dsimp only at hp hs; refine V283 ?_; refine Z.only [1, 3, 4, 8] rfl ?_; refine V6 ?_; refine Z.cond rfl (fun hc3 => ?_) (fun hc3 => ?_)
  · (try simp at hc3)
    have hpl : p < 16 := by omega
    have lp := ordT_le l p; refine V150 ?_; refine V121 ?_; refine Z.only [1, 3, 4, 5] rfl ?_; refine V861 ?_; refine Z.loopk (ι := Nat × Value) [1, 4] rfl (fun x => [(3, [], x.2), (5, [], .int .i64 ((x.1 : Int) + 1))]) (fun x wr => x.1 ≤ 10 ∧ St w [] wr [Ent.row x.2 3 1 (ordU l p x.1).length (ints .i64 (natI (ordU l p x.1))), Ent.blk g1 36 #[.slice A n c, .slice B k d, .int .i64 now]]) (fun x => 10 - x.1) (0, sv) J11 ⟨Nat.zero_le _, by simpa [ordU] using hs⟩ ?_; clear hs; rintro ⟨q, su⟩ w6 ⟨hq, hs⟩; refine Z.only [1, 3, 4, 5] rfl ?_
    (try dsimp only at hs)
    dsimp only at hq hs; refine V283 ?_; refine Z.only [1, 3, 4, 5, 12] rfl ?_; refine V6 ?_; refine Z.cond rfl (fun hc6 => ?_) (fun hc6 => ?_)
    · (try simp at hc6)
      have hql : q < 10 := by omega
      have lq := ordU_le l p q; refine V150 ?_; refine V121 ?_; refine Z.only [1, 3, 4, 5, 6] rfl ?_; refine V861 ?_; refine Z.loopk (ι := Nat × Value) [1, 4, 5] rfl (fun x => [(3, [], x.2), (6, [], .int .i64 (x.1 : Int))]) (fun x wr => x.1 ≤ n ∧ St w [] wr [Ent.row x.2 3 1 (ordV l p q x.1).length (ints .i64 (natI (ordV l p q x.1))), Ent.blk g1 36 #[.slice A n c, .slice B k d, .int .i64 now]]) (fun x => n - x.1) (0, su) J11 ⟨Nat.zero_le _, by simpa [ordV] using hs⟩ ?_; clear hs; rintro ⟨i, sx⟩ w9 ⟨hi, hs⟩; refine Z.only [1, 3, 4, 5, 6] rfl ?_
      (try dsimp only at hs)
      dsimp only at hi hs; refine V514 ?_; refine V3 ?_; refine V55 ?_; refine V1 ?_; refine Z.only [1, 3, 4, 5, 6, 19] rfl ?_; refine V6 ?_; refine Z.cond rfl (fun hc9 => ?_) (fun hc9 => ?_)
      · (try simp at hc9)
        have hil : i < l.length := by omega
        have hel : l[i]? = some l[i]! := by rw [getElem!_pos l i hil]; exact List.getElem?_eq_getElem hil
        have lv := ordV_le l p q i; have hst := ordV_step l p q i; have hb1 : p * (10 * l.length) ≤ 15 * (10 * l.length) := Nat.mul_le_mul_right _ J5; have hb2 : q * l.length ≤ 9 * l.length := Nat.mul_le_mul_right _ J5; generalize l[i]! = xi at hel hst; obtain ⟨bb, off, rfl, hb0, hx2⟩ := Z.Sl.some hx J91; refine V272 ?_; refine V247 ?_; refine V859 ?_; refine V76 ?_; refine V8 ?_; refine V328 ?_; refine V50 ?_; refine V247 ?_; refine V859 ?_; refine V76 ?_; refine V3 ?_; refine V328 ?_; refine V184 ?_; refine Z.only [1, 3, 4, 5, 6, 39] rfl ?_; refine V6 ?_; refine Z.cond rfl (fun hc11 => ?_) (fun hc11 => ?_)
        · (try simp at hc11)
          have hpq : xi.pr = (p : Int) + 1 ∧ xi.id = (q : Int) + 1 := by assumption
          rw [if_pos hpq] at hst; refine V42 ?_; refine V527 ?_; refine V57 ?_; clear hs; intro g42 w42 hs; refine V2 ?_; refine V39 ?_; clear hs; intro g43 cap43 w43 hs; replace hs := U3 hs; refine V1 ?_; refine Z.only [1, 3, 4, 5, 6] rfl ?_; refine V302 ?_; refine Z.only [1, 3, 4, 5, 6] rfl ?_; refine V6 ?_; exact Z.again (i + 1, _) J8 ⟨by simp only; omega, by simp only; rw [hst]; simpa [natI, ints] using hs⟩ J22
        (try simp at hc11)
        have hpq : ¬ (xi.pr = (p : Int) + 1 ∧ xi.id = (q : Int) + 1) := by simp_all
        rw [if_neg hpq, List.append_nil] at hst; refine V331 ?_; refine Z.only [1, 3, 4, 5, 6] rfl ?_; refine V6 ?_; exact Z.again (i + 1, sx) J8 ⟨by simp only; omega, by simp only; rw [hst]; exact hs⟩ J22
      (try simp at hc9)
      refine V10 ?_; refine V302 ?_; refine Z.only [1, 3, 4, 5] rfl ?_; refine V6 ?_; obtain rfl : i = l.length := by omega
      rw [ordV_end] at hs; exact Z.again (q + 1, sx) J10 ⟨by simp only; omega, hs⟩ J22
    (try simp at hc6)
    refine V10 ?_; refine V302 ?_; refine Z.only [1, 3, 4] rfl ?_; refine V6 ?_; obtain rfl : q = 10 := by omega
    rw [ordU_end] at hs; exact Z.again (p + 1, su) J13 ⟨by simp only; omega, hs⟩ J22
  (try simp at hc3)
  refine V537 ?_; obtain rfl : p = 16 := by omega
  exact ⟨_, rfl, hs.sel [0] J12⟩

theorem rv_level (A B : Option Addr) (c d : Nat) (m : BkV) (id : Int) (w : World) (hA : Sl w A (m.l.flatMap LgV.cells)) (hB : Sl w B (ints .i64 m.b)) (hm : m.ok) :
    Calls Tryz.prog 118 #[.agg #[.slice A m.l.length c, .slice B m.l.length d, .int .i64 m.now], .int .i64 id] w (Ret fun v w' => v = .tuple #[.int .i64 (lvV m id).1, .bool (lvV m id).2] ∧ St w [] w' []) := by
  have hs := St.start w; have hpos := hm.pos; have hbl := hm.len; obtain ⟨bb, off, rfl, hb0, hx2⟩ := Z.Sl.some hA J91; obtain ⟨bo, offo, rfl, hbo0, hxo⟩ := Z.Sl.some hB J70; refine Z.enter func118 rfl ntmps118 rfl rfl ?_; refine V91 ?_; clear hs; intro g2 w2 hs; refine V31 ?_; refine Z.only [1, 2] rfl ?_; refine V214 ?_; refine Z.only [1, 2, 6] rfl ?_; refine V861 ?_; refine Z.loopk (ι := Nat) [1, 2] rfl (fun k => [(6, [], .int .i64 (k : Int))]) (fun k wr => (k ≤ m.l.length ∧ ∀ x ∈ m.l.take k, decide (x.id = id) = false) ∧ St w [] wr [Ent.blk g2 36 #[.slice (some ⟨bb, off, none⟩) m.l.length c, .slice (some ⟨bo, offo, none⟩) m.l.length d, .int .i64 m.now]]) (fun k => m.l.length - k) 0 J6 ⟨⟨by omega, by simp⟩, hs⟩ ?_; clear hs; rintro k w4 ⟨⟨hk, h0⟩, hs⟩; refine Z.only [1, 2, 6] rfl ?_; refine V514 ?_; refine V3 ?_; refine V55 ?_; refine V1 ?_; refine Z.only [1, 2, 6, 11] rfl ?_; refine V6 ?_; refine Z.cond rfl (fun hc2 => ?_) (fun hc2 => ?_)
  · (try simp at hc2)
    have hlt : k < m.l.length := by omega
    have hel : m.l[k]? = some m.l[k]! := by rw [getElem!_pos m.l k hlt]; exact List.getElem?_eq_getElem hlt
    refine V272 ?_; refine V247 ?_; refine V859 ?_; refine V76 ?_; refine V3 ?_; refine V328 ?_; refine V31 ?_; refine Z.only [1, 2, 6, 21] rfl ?_; refine V6 ?_; refine Z.cond rfl (fun hc4 => ?_) (fun hc4 => ?_)
    · (try simp at hc4)
      have hid : m.l[k]!.id = id := by simpa using hc4
      refine V0 ?_; refine V8 ?_; refine V116 ?_; refine V859 ?_; refine V21 ?_; refine Z.l rfl rfl (by rfl) (Z.keepS hs) (Z.Yd.load rfl isAgg3 (fun hG => Z.cellS hxo rfl J5 J5)) ?_; refine V280 ?_
      repeat (first | refine Z.rthen ?_ | refine Z.rblock ?_ | refine Z.rscope ?_)
      refine V162 ?_; exact ⟨_, rfl, by rw [lvV_some h0 hlt hid], Jn hs⟩
    (try simp at hc4)
    have hid : ¬ m.l[k]!.id = id := by simpa using hc4
    refine V331 ?_; refine Z.only [1, 2, 6] rfl ?_; refine V6 ?_; exact Z.again (k + 1) J13 ⟨⟨by omega, take_none h0 hlt hid⟩, hs⟩ J5
  (try simp at hc2)
  refine V181 ?_; refine V280 ?_; refine V162 ?_; exact ⟨_, rfl, by rw [lvV_none (by rw [List.take_of_length_le J5] at h0; exact h0)], Jn hs⟩
theorem rv_tick (A B : Option Addr) (c d : Nat) (m : BkV) (t : Int) (w : World) (hA : Sl w A (m.l.flatMap LgV.cells)) (hB : Sl w B (ints .i64 m.b)) (hm : m.ok) :
    Calls Tryz.prog 79 #[.agg #[.slice A m.l.length c, .slice B m.l.length d, .int .i64 m.now], .int .i64 t] w (Ret fun v w' => ∃ Bn dn Ln, v = .tuple #[.agg #[.slice A m.l.length c, .slice Bn m.l.length dn, .int .i64 (tickV m t).1.now], .int .i64 (tickV m t).2] ∧ St w [] w' Ln ∧ (Ln = [Ent.row (.slice Bn m.l.length dn) 3 1 m.l.length (ints .i64 (tickV m t).1.b)] ∨ Ln = [] ∧ Bn = B ∧ dn = d ∧ (tickV m t).1.b = m.b)) := by
  have hs := St.start w; have hpos := hm.pos; have hbl := hm.len; have hnow := hm.now; obtain ⟨bb, off, rfl, hb0, hx2⟩ := Z.Sl.some hA J91; obtain ⟨bo, offo, rfl, hbo0, hxo⟩ := Z.Sl.some hB J70; refine Z.enter func79 rfl ntmps79 rfl rfl ?_; refine V91 ?_; clear hs; intro g2 w2 hs; refine V2 ?_; refine V351 ?_; clear hs; intro g4 w4 hs; refine V1 ?_; refine Z.only [1, 2, 4] rfl ?_; refine V125 ?_; refine V444 ?_; refine V126 ?_; refine Z.only [1, 2, 4, 15] rfl ?_; refine V6 ?_; refine Z.cond rfl (fun hc1 => ?_) (fun hc1 => ?_)
  · (try simp at hc1)
    have hno : ¬ okT m t := by unfold okT; omega
    have eT : tickV m t = (m, 2) := if_neg hno; refine V0 ?_; refine V318 ?_; refine V860 ?_; clear hs; intro ws hs; replace hs := U1 hs; replace hs := U2 hs; refine V1 ?_; refine V257 ?_
    repeat (first | refine Z.rthen ?_ | refine Z.rblock ?_ | refine Z.rscope ?_)
    refine Z.out2 J59 ?_; exact ⟨_, rfl, _, _, _, by rw [eT], Jn hs, .inr ⟨rfl, rfl, rfl, by rw [eT]⟩⟩
  (try simp at hc1)
  have hok : okT m t := by unfold okT; omega
  have eT : tickV m t = ({ tickG m t m.l.length with now := t }, 0) := if_pos hok; refine V862 ?_; refine V859 ?_; refine V444 ?_; refine V395 ?_; refine Z.only [1, 2, 4, 6] rfl ?_; refine V303 ?_; refine V19 ?_; refine V183 ?_; clear hs; intro ws hs; replace hs := U1 hs; refine V857 ?_; refine Z.only [2, 4, 6] rfl ?_; refine V858 ?_; refine V2 ?_; refine V528 ?_; clear hs; intro g23 w23 hs; refine V8 ?_; refine V116 ?_; refine V2 ?_; refine V431 ?_; clear hs; intro v26 w26 hs; replace hs := U5 hs; replace hs := U9 hs; obtain ⟨gn, dn, rfl, hdn⟩ := row_form hs (j := 0) rfl J5; refine V8 ?_; refine V681 ?_; clear hs; intro ws hs; replace hs := U1 hs; refine V857 ?_; refine Z.only [2, 4, 6] rfl ?_; refine V214 ?_; refine Z.only [2, 4, 6, 7] rfl ?_; refine V861 ?_; refine Z.loopk (ι := Nat) [2, 4, 6] rfl (fun x => [(7, [], .int .i64 (x : Int))]) (fun x wr => x ≤ m.l.length ∧ St w [] wr [Ent.row (.slice (some ⟨gn, 0, none⟩) m.l.length dn) 3 1 m.l.length (ints .i64 (tickG m t x).b), Ent.blk g4 36 #[.slice none 0 0, .slice none 0 0, .int .i64 0], Ent.blk g2 36 #[.slice (some ⟨bb, off, none⟩) m.l.length c, .slice (some ⟨gn, 0, none⟩) m.l.length dn, .int .i64 t]]) (fun x => m.l.length - x) 0 J6 ⟨Nat.zero_le _, by rw [show tickG m t 0 = m by unfold tickG; rw [upTo_zero hm.len]]; exact hs⟩ ?_; clear hs; rintro i w6 ⟨hi, hs⟩; refine Z.only [2, 4, 6, 7] rfl ?_; refine V514 ?_; refine V8 ?_; refine V116 ?_; refine V248 ?_; refine Z.only [2, 4, 6, 7, 32] rfl ?_; refine V6 ?_
  refine Z.cond rfl (fun hc7 => ?_) (fun hc7 => ?_)
  · (try simp at hc7)
    have hlt : i < m.l.length := by omega
    have hmi := hm.tickG hok i; have hel : m.l[i]? = some m.l[i]! := by rw [getElem!_pos m.l i hlt]; exact List.getElem?_eq_getElem hlt
    have hbb := tkF_bd hm hok hlt; have eb : elt (tickG m t i).b (i : Int) = elt m.b (i : Int) := by simp only [tickG]; rw [upTo_elt hlt, if_neg J5]
    have hbd := hm.bd i hlt; have hln : (tickG m t i).b.length = m.l.length := hmi.len; obtain ⟨-, -, ⟨r1, r2⟩, ⟨d1, d2⟩, -⟩ := hm.set.lg hlt; have hcl : (ints .i64 (tickG m t i).b)[0 + (i : Int).toNat * 1]? = some (.int .i64 (elt m.b (i : Int))) := by rw [← eb]; exact Z.ints_at J5 J5
    refine V150 ?_; refine Z.drawK (fun j => j != 25) mixed hs ?_; clear hs; intro wd9 hs; refine V109 ?_; refine Z.t 1 rfl rfl rfl (by rfl) J3 (Jk hs) J30 ?_; refine Z.tb [2] J3 rfl (Jk hs) rfl ?_; refine V495 ?_; refine Z.t 4 rfl rfl rfl (by rfl) J3 (Jk hs) J31 ?_; refine Z.tb [5] J3 rfl (Jk hs) rfl ?_; refine Z.t 6 rfl rfl rfl (by rfl) J3 (Jk hs) (Z.Yd.elem rfl rfl underlying22 sizeOf75 (fun hG => ⟨J2, J2⟩)) ?_; refine Z.t 7 rfl rfl rfl (by rfl) J3 (Jk hs) (Z.Yd.fieldA (m := 3) rfl J3) ?_; refine Z.t 8 rfl rfl rfl (by rfl) J3 (Jk hs) (Z.Yd.load rfl isAgg3 (fun _ => Z.cellXf hx2.sx lg_len hel rfl)) ?_; refine Z.t 9 rfl rfl rfl (by rfl) J3 (Jk hs) (Z.Yd.fieldA (m := 1) rfl J3) ?_; refine Z.t 10 rfl rfl rfl (by rfl) J3 (Jk hs) J30 ?_; refine Z.tb [11] J3 rfl (Jk hs) rfl ?_; refine V294 ?_; refine Z.t 13 rfl rfl rfl (by rfl) J3 (Jk hs) (Z.Yd.load rfl isAgg3 (fun _ => Z.cellR J0 hcl)) ?_; refine Z.t 14 rfl rfl rfl (by rfl) J3 (Jk hs) (Z.Yd.fieldA (m := 0) rfl J3) ?_; refine Z.t 15 rfl rfl rfl (by rfl) J3 (Jk hs) J31 ?_; refine Z.tb [16] J3 rfl (Jk hs) rfl ?_; refine Z.t 17 rfl rfl rfl (by rfl) J3 (Jk hs) (Z.Yd.elem rfl rfl underlying22 sizeOf75 (fun hG => ⟨J2, J2⟩)) ?_; refine V490 ?_; refine Z.t 19 rfl rfl rfl (by rfl) J3 (Jk hs) (Z.Yd.load rfl isAgg3 (fun _ => Z.cellXf hx2.sx lg_len hel rfl)) ?_; refine Z.tb [20] J3 rfl (Jk hs) rfl ?_; refine V288 ?_
    refine Z.t 24 rfl rfl rfl (by rfl) J3 (Jk hs) (Z.Yd.elem rfl rfl underlying34 sizeOf3 (fun hG => ⟨J2, J2⟩)) ?_; refine Z.tn 25 rfl rfl J3 rfl trivial ?_; refine V112 ?_; clear hs; intro ws hs; replace hs := U1 hs; refine Z.tk (Dn := fun j => j != 25) (i := 25) (fun h => absurd h J12) ?_; refine V40 ?_; refine Z.only [2, 4, 6, 7] rfl ?_; refine V302 ?_; refine Z.only [2, 4, 6, 7] rfl ?_; refine V6 ?_; refine Z.again (i + 1) J10 ⟨by omega, ?_⟩ J5; rw [Int.toNat_natCast, Nat.mul_one] at hs; have e : (ints .i64 (tickG m t i).b).set i (.int .i64 (tkF m t i)) = ints .i64 (tickG m t (i + 1)).b := by simp only [ints, tickG]; rw [← upTo_set, List.map_set]
    rw [← e]; exact hs
  (try simp at hc7)
  refine V181 ?_; refine V318 ?_; refine V860 ?_; clear hs; intro ws hs; replace hs := U1 hs; replace hs := U2 hs; refine V1 ?_; refine V257 ?_; refine Z.out2 J59 ?_; obtain rfl : i = m.l.length := by omega
  exact ⟨_, rfl, _, _, [Ent.row _ 3 1 m.l.length (ints .i64 (tickG m t m.l.length).b)], by rw [eT], hs.sel [0] J12, .inl (by rw [eT])⟩
theorem rnd1_b {dem : List Int} : ∀ {o : List Nat} {s : DvS}, (rnd 1 dem s o).b = s.b
  | [], _ => rfl
  | i :: o, s => by
    have h1 := rnd1_b (dem := dem) (o := o) (s := dst 1 dem s i)
    show (rnd 1 dem (dst 1 dem s i) o).b = _
    rw [h1]
    rfl
theorem rounds_zero (m : BkV) (size : Int) (dem : List Int) {k : Nat} (hs : okSet m.l) (hk : k < (ordL m.l).length) : elt (rnd 0 dem (dv0 m size) ((ordL m.l).take k)).out (((ordL m.l)[k] : Nat) : Int) = 0 := by
  have hi : (ordL m.l)[k] < m.l.length := (mem_ordL hs).1 (List.getElem_mem _); rw [rnd_out]
  · simp [dv0, elt, hi]
  · intro hmem
    obtain ⟨j, hj, he⟩ := List.mem_take_iff_getElem.1 hmem; have hpw := List.pairwise_iff_getElem.1 (ordL_nodup hs) j k J5 hk J5; exact hpw he
  simp [dv0, hi]
theorem rv_divide (A B Dm : Option Addr) (c d nd cd : Nat) (m : BkV) (size : Int) (dem : List Int) (w : World) (hA : Sl w A (m.l.flatMap LgV.cells)) (hB : Sl w B (ints .i64 m.b)) (hD : Sl w Dm (ints .i64 dem)) (hdl : dem.length = nd) (hm : m.ok) :
    Calls Tryz.prog 83 #[.agg #[.slice A m.l.length c, .slice B m.l.length d, .int .i64 m.now], .int .i64 size, .slice Dm nd cd] w (Ret fun v w' => ∃ Bn dn ov Ln, v = .tuple #[.agg #[.slice A m.l.length c, .slice Bn m.l.length dn, .int .i64 m.now], ov, .int .i64 (divV m size dem).2.2] ∧ St w [] w' (Ent.row ov 3 1 (divV m size dem).2.1.length (ints .i64 (divV m size dem).2.1) :: Ln) ∧ (Ln = [Ent.row (.slice Bn m.l.length dn) 3 1 m.l.length (ints .i64 (divV m size dem).1.b)] ∨ Ln = [] ∧ Bn = B ∧ dn = d ∧ (divV m size dem).1.b = m.b)) := by
  have hs := St.start w; have hpos := hm.pos; have hbl := hm.len; obtain ⟨bb, off, rfl, hb0, hx2⟩ := Z.Sl.some hA J91; obtain ⟨bo, offo, rfl, hbo0, hxo⟩ := Z.Sl.some hB J70; refine Z.enter func83 rfl ntmps83 rfl rfl ?_; refine V91 ?_; clear hs; intro g3 w3 hs; refine V2 ?_; refine V351 ?_; clear hs; intro g6 w6 hs; refine V31 ?_; refine V442 ?_; refine V30 ?_; refine Z.lb 8 rfl ?_; refine V26 ?_; refine V3 ?_; refine V55 ?_; refine V31 ?_; refine Z.only [1, 2, 3, 6, 31] rfl ?_; refine V6 ?_; refine Z.cond rfl (fun hc1 => ?_) (fun hc1 => ?_)
  · (try simp at hc1)
    have hno : ¬ okD m size dem := by rintro ⟨h1, h2, -⟩; omega
    have eD : divV m size dem = (m, [], 2) := if_neg hno; refine V0 ?_; refine V318 ?_; refine V860 ?_; clear hs; intro ws hs; replace hs := U1 hs; replace hs := U2 hs; refine V31 ?_; refine V230 ?_
    repeat (first | refine Z.rthen ?_ | refine Z.rblock ?_ | refine Z.rscope ?_)
    refine Z.out3 J95 ?_; exact ⟨_, rfl, _, _, .slice none 0 0, [], by rw [eD], by rw [eD]; exact (Jn hs).nil 3 1, .inr ⟨rfl, rfl, rfl, by rw [eD]⟩⟩
  (try simp at hc1)
  have hnd : nd = m.l.length := by omega
  obtain ⟨bd, od, rfl, hbd0, hdx⟩ := Z.Sl.some hD J70; refine V463 ?_; refine V446 ?_; refine V861 ?_; refine Z.loopk (ι := Nat) [1, 2, 3, 6] rfl (fun x => [(9, [], .int .i64 (x : Int))]) (fun x wr => (x ≤ nd ∧ ∀ i : Nat, i < x → 0 ≤ elt dem (i : Int) ∧ elt dem (i : Int) ≤ 16777216) ∧ St w [] wr [Ent.blk g6 36 #[.slice none 0 0, .slice none 0 0, .int .i64 0], Ent.blk g3 36 #[.slice (some ⟨bb, off, none⟩) m.l.length c, .slice (some ⟨bo, offo, none⟩) m.l.length d, .int .i64 m.now]]) (fun x => nd - x) 0 J6 ⟨⟨Nat.zero_le _, fun i hi => absurd hi J5⟩, hs⟩ ?_; clear hs; rintro i w4 ⟨⟨hi, h0⟩, hs⟩; refine V446 ?_; refine V217 ?_; refine V248 ?_; refine Z.only [1, 2, 3, 6, 9, 36] rfl ?_; refine V6 ?_; refine Z.cond rfl (fun hc4 => ?_) (fun hc4 => ?_)
  · (try simp at hc4)
    have h0k : ∀ j : Nat, j < i + 1 → j < i ∨ j = i := fun j hj => by omega
    refine V445 ?_; refine V584 ?_; refine V259 ?_; refine V584 ?_; refine V31 ?_; refine Z.only [1, 2, 3, 6, 9, 50] rfl ?_; refine V6 ?_; refine Z.cond rfl (fun hc6 => ?_) (fun hc6 => ?_)
    · (try simp at hc6)
      have hno : ¬ okD m size dem := by
        rintro ⟨-, -, h3⟩; have := h3.elt (i := i) J5
        omega
      have eD : divV m size dem = (m, [], 2) := if_neg hno; refine V0 ?_; refine V318 ?_; refine V860 ?_; clear hs; intro ws hs; replace hs := U1 hs; replace hs := U2 hs; refine V31 ?_; refine V230 ?_
      repeat (first | refine Z.rthen ?_ | refine Z.rblock ?_ | refine Z.rscope ?_)
      refine Z.out3 J95 ?_; exact ⟨_, rfl, _, _, .slice none 0 0, [], by rw [eD], by rw [eD]; exact (Jn hs).nil 3 1, .inr ⟨rfl, rfl, rfl, by rw [eD]⟩⟩
    (try simp at hc6)
    refine V331 ?_; refine V446 ?_; refine V6 ?_; refine Z.again (i + 1) J8 ⟨⟨by omega, fun j hj => ?_⟩, hs⟩ J5
    rcases h0k j hj with h | rfl
    · exact h0 j h
    omega
  (try simp at hc4)
  refine V181 ?_
  have hok : okD m size dem := ⟨by omega, by omega, fun x hx => by
    obtain ⟨j, hj, rfl⟩ := List.mem_iff_getElem.1 hx; rw [← elt_get hj]
    exact h0 j J5⟩
  have eD : divV m size dem = ({ m with b := (rounds m size dem 2).b }, (rounds m size dem 2).out, 0) := if_pos hok; refine V2 ?_; refine V528 ?_; clear hs; intro g52 w52 hs; refine V8 ?_; refine V116 ?_; refine V2 ?_; refine V431 ?_; clear hs; intro v55 w55 hs; replace hs := U5 hs; replace hs := U9 hs; obtain ⟨gn, dn, rfl, hdn⟩ := row_form hs (j := 0) rfl J5; refine V8 ?_; refine V681 ?_; clear hs; intro ws hs; replace hs := U1 hs; refine V857 ?_; refine V442 ?_; refine V303 ?_; refine V26 ?_; refine V2 ?_; refine V114 ?_; clear hs; intro g59 w59 hs; refine V1 ?_; refine Z.only [1, 2, 3, 6, 10] rfl ?_; refine V858 ?_; refine V318 ?_; refine V2 ?_; refine Z.ZO.call rfl rfl (by rfl) rfl rfl call138 rfl (rv_order (some ⟨bb, off, none⟩) (some ⟨gn, 0, none⟩) m.l.length c m.l.length dn m.now m.l _ (hA.st (Jn hs)) rfl J5) ?_; rintro v10_1 w10_1 hy; replace hs := U0 (hs.call hy); clear hy; obtain ⟨gq, cq, rfl, hcq⟩ := row_form hs (j := 0) rfl J122; rw [ordL_len hm.set] at hs; refine V1 ?_; refine Z.only [1, 2, 3, 6, 10, 11] rfl ?_; refine V30 ?_; have ez : List.replicate nd (Value.int .i64 0) = ints .i64 (List.replicate m.l.length 0) := by subst hnd; simp [ints]
  rw [ez] at hs; subst hnd; rw [ordL_len hm.set]; replace hs : St w [] _ [Ent.row (.slice (some ⟨gq, 0, none⟩) m.l.length cq) 3 1 m.l.length (ints .i64 (natI (ordL m.l))), Ent.row (.slice (some ⟨g59, 0, none⟩) m.l.length m.l.length) 3 1 m.l.length (ints .i64 (dv0 m size).out), Ent.row (.slice (some ⟨gn, 0, none⟩) m.l.length dn) 3 1 m.l.length (ints .i64 (dv0 m size).b), Ent.blk g6 36 #[.slice none 0 0, .slice none 0 0, .int .i64 0], Ent.blk g3 36 #[.slice (some ⟨bb, off, none⟩) m.l.length c, .slice (some ⟨gn, 0, none⟩) m.l.length dn, .int .i64 m.now]] := hs; refine V18 ?_; refine V857 ?_; refine Z.only [1, 2, 3, 6, 10, 11, 12] rfl ?_; refine V861 ?_; refine Z.loopk (ι := Nat) [2, 3, 6, 10, 11] rfl (fun x => [(1, [], .int .i64 (rnd 0 dem (dv0 m size) ((ordL m.l).take x)).sz), (12, [], .int .i64 (x : Int))]) (fun x wr => x ≤ m.l.length ∧ St w [] wr [Ent.row (.slice (some ⟨gq, 0, none⟩) m.l.length cq) 3 1 m.l.length (ints .i64 (natI (ordL m.l))), Ent.row (.slice (some ⟨g59, 0, none⟩) m.l.length m.l.length) 3 1 m.l.length (ints .i64 (rnd 0 dem (dv0 m size) ((ordL m.l).take x)).out), Ent.row (.slice (some ⟨gn, 0, none⟩) m.l.length dn) 3 1 m.l.length (ints .i64 (rnd 0 dem (dv0 m size) ((ordL m.l).take x)).b), Ent.blk g6 36 #[.slice none 0 0, .slice none 0 0, .int .i64 0], Ent.blk g3 36 #[.slice (some ⟨bb, off, none⟩) m.l.length c, .slice (some ⟨gn, 0, none⟩) m.l.length dn, .int .i64 m.now]]) (fun x => m.l.length - x) 0 J11 ⟨Nat.zero_le _, hs⟩ ?_
  clear hs; rintro k w12 ⟨hk, hs⟩; refine Z.only [1, 2, 3, 6, 10, 11, 12] rfl ?_; refine V217 ?_; refine V248 ?_; refine Z.only [1, 2, 3, 6, 10, 11, 12, 65] rfl ?_; refine V6 ?_; refine Z.cond rfl (fun hc12 => ?_) (fun hc12 => ?_)
  · (try simp at hc12)
    have hkl : k < (ordL m.l).length := by rw [ordL_len hm.set]; omega
    have hnl : (natI (ordL m.l)).length = m.l.length := by simp [natI, ordL_len hm.set]
    have hst := rnd_take (r := 0) (dem := dem) (s := dv0 m size) hkl; have hso : (rnd 0 dem (dv0 m size) ((ordL m.l).take k)).ok m dem := (dv0_ok hm hok).fold 0 fun i hi => ord_lt hm i (List.mem_of_mem_take hi)
    have hzo := rounds_zero m size dem hm.set hkl; generalize hsd : rnd 0 dem (dv0 m size) ((ordL m.l).take k) = s at hs hst hso hzo ⊢; have hel : elt (natI (ordL m.l)) (k : Int) = ((ordL m.l)[k] : Int) := natI_elt hkl; have hil : (ordL m.l)[k] < m.l.length := ord_lt hm _ (List.getElem_mem _); obtain ⟨i, hid⟩ : ∃ i, i = (ordL m.l)[k] := ⟨_, rfl⟩; rw [← hid] at hel hil hst hzo; have h1 := hso.og i hil; have h2 := hso.bg i hil; have h3 := hm.bd i hil; have h4 := (hm.set.lg hil).2.2.2.1; have h5 := hok.2.2.elt (i := i) J5; have h6 := hso.sz; have hol := hso.ol; have hbl2 := hso.bl; obtain ⟨a1, a2, a3, a4⟩ := amt_bd hso 0 hil; have a5 := a4 rfl; have ea : amt 0 dem s i = min (min (elt dem (i : Int)) (elt s.b (i : Int))) s.sz := by
      unfold amt; rw [if_pos rfl, hzo, Int.sub_zero]
    have hcl : (ints .i64 (natI (ordL m.l)))[0 + (k : Int).toNat * 1]? = some (.int .i64 (i : Int)) := by rw [← hel]; exact Z.ints_at J5 J5
    refine V445 ?_; refine V325 ?_; refine V1 ?_; refine Z.only [1, 2, 3, 6, 10, 11, 12, 13] rfl ?_; refine V6 ?_; refine V96 ?_; clear hs; intro wd15 hs; refine V556 ?_; refine V496 ?_; refine Z.t 5 rfl rfl rfl (by rfl) J3 (Jk hs) J30 ?_; refine Z.tb [6] J3 rfl (Jk hs) rfl ?_; refine V565 ?_; refine Z.t 8 rfl rfl rfl (by rfl) J3 (Jk hs) (Z.Yd.load rfl isAgg3 (fun _ => Z.cellR J0 (Z.ints_at J5 J5))) ?_; refine V459 ?_; refine Z.only [1, 2, 3, 6, 10, 11, 12, 13, 14] rfl ?_; refine V6 ?_; refine Z.drawC [Ent.blk g3 36 #[.slice (some ⟨bb, off, none⟩) m.l.length c, .slice (some ⟨gn, 0, none⟩) m.l.length dn, .int .i64 m.now]] mixed hs ?_; clear hs; intro wd16 hs; refine Z.tC1 13 [13, 15, 20] rfl rfl rfl (by rfl) J3 (Jk hs) (Z.Yd.pure rfl) ?_; refine Z.tC1 14 [14, 15, 20] rfl rfl rfl (by rfl) J3 (Jk hs) (Z.Yd.pure rfl) ?_; refine Z.tC1 15 [15, 20] rfl rfl rfl (by rfl) J3 (Jk hs) (Z.Yd.sub rfl rfl (fun hG => Z.wi64 J2)) ?_; refine Z.twoC [Ent.blk g3 36 #[.slice (some ⟨bb, off, none⟩) m.l.length c, .slice (some ⟨gn, 0, none⟩) m.l.length dn, .int .i64 m.now], Ent.row (.slice (some ⟨gn, 0, none⟩) m.l.length dn) 3 1 m.l.length (ints .i64 s.b)] [19, 20] ?_; refine Z.tC2 0 [0, 16, 17, 18, 19, 20] rfl rfl rfl (by rfl) J3 rfl (Jk hs) (Jk hs) (Z.yd2 (Z.Yd.pure rfl)) ?_; refine Z.tC2 1 [1, 16, 17, 18, 19, 20] rfl rfl rfl (by rfl) J3 rfl (Jk hs) (Jk hs) (Z.yd2 (Z.Yd.pure rfl)) ?_
    refine Z.tC2 2 [2, 3, 18, 19, 20] rfl rfl rfl (by rfl) J3 rfl (Jk hs) (Jk hs) (Z.yd2 (Z.Yd.fieldA (m := 1) rfl J3)) ?_; refine Z.tC2 3 [3, 18, 19, 20] rfl rfl rfl (by rfl) J3 rfl (Jk hs) (Jk hs) (Z.yd2 J30) ?_; refine Z.tC2 4 [4, 18, 19, 20] rfl rfl rfl (by rfl) J3 rfl (Jk hs) (Jk hs) (Z.yd2 (Z.Yd.pure rfl)) ?_; refine Z.tC2 5 [5, 16, 17, 18, 19, 20] rfl rfl rfl (by rfl) J3 rfl (Jk hs) (Jk hs) (Z.yd2 (Z.Yd.pure rfl)) ?_; refine Z.tC2 6 [6, 7, 9, 10, 12, 16, 17, 18, 19, 20] rfl rfl rfl (by rfl) J3 rfl (Jk hs) (Jk hs) (Z.yd2 (Z.Yd.fieldA (m := 1) rfl J3)) ?_; refine Z.tC2 7 [7, 9, 10, 12, 16, 17, 18, 19, 20] rfl rfl rfl (by rfl) J3 rfl (Jk hs) (Jk hs) (Z.yd2 J30) ?_; refine Z.tC2 8 [8, 9, 10, 12, 16, 17, 18, 19, 20] rfl rfl rfl (by rfl) J3 rfl (Jk hs) (Jk hs) (Z.yd2 (Z.Yd.pure rfl)) ?_; refine Z.tC2 9 [9, 10, 12, 16, 17, 18, 19, 20] rfl rfl rfl (by rfl) J3 rfl (Jk hs) (Jk hs) (Z.yd2 (Z.Yd.elem rfl rfl underlying34 sizeOf3 (fun hG => ⟨J2, J2⟩))) ?_; refine Z.tC2 10 [10, 12, 16, 17, 18, 19, 20] rfl rfl rfl (by rfl) J3 rfl (Jk hs) (Jk hs) (Z.yd2 (Z.Yd.load rfl isAgg3 (fun _ => Z.cellR J0 (Z.ints_at J5 J5)))) ?_; refine Z.tC2 11 [11, 12, 18, 19, 20] rfl rfl rfl (by rfl) J3 rfl (Jk hs) (Jk hs) (Z.yd2 (Z.Yd.pure rfl)) ?_; refine Z.tC2 12 [12, 18, 19, 20] rfl rfl rfl (by rfl) J3 rfl (Jk hs) (Jk hs) (Z.yd2 (Z.Yd.sub rfl rfl (fun hG => Z.wi64 J2))) ?_; refine Z.forkC [16] rfl J3 rfl ⟨⟨_, _, rfl, rfl, trivial, ?_⟩, trivial⟩; refine V581 ?_
    refine Z.tkC (C := Z.lv2 _ _ [19, 20]) (i := 16) ⟨(Jk hs), fun _ => (Jk hs)⟩ ?_; refine Z.forkC [17] rfl J3 rfl ⟨⟨_, _, rfl, rfl, trivial, ?_⟩, trivial⟩; refine V112 ?_; clear hs; intro ws hs; replace hs := U1 hs; refine Z.tkC (C := Z.lv2 _ _ [19, 20]) (i := 17) ⟨(Jk hs), fun _ => (Jk hs)⟩ ?_; refine Z.forkC [18] rfl J3 rfl ⟨⟨_, _, rfl, rfl, trivial, ?_⟩, trivial⟩; refine V581 ?_; refine Z.tkC (C := Z.lv2 _ _ [19, 20]) (i := 18) ⟨(Jk hs), fun _ => (Jk hs)⟩ ?_; refine Z.forkC [19] rfl J3 rfl ⟨⟨_, _, rfl, rfl, trivial, ?_⟩, trivial⟩; refine V112 ?_; clear hs; intro ws hs; replace hs := U1 hs; refine Z.tkC (C := Z.lv2 _ _ [19, 20]) (i := 19) ⟨(Jk hs), fun h => absurd h J12⟩ ?_; refine Z.forkC [20] rfl J3 rfl ⟨⟨_, _, rfl, rfl, trivial, ?_⟩, trivial⟩; refine Z.ZO.quiet rfl (by rfl) (Z.keepS hs) (Z.Yd.pure rfl) ?_; refine Z.tkC (C := Z.lv2 _ _ [19, 20]) (i := 20) ⟨(Jk hs), fun h => absurd h J12⟩ ?_; refine Z.tdC (by rfl) J3 ?_; refine Z.only [1, 2, 3, 6, 10, 11, 12] rfl ?_; refine V270 ?_; refine V42 ?_; rw [Int.toNat_natCast, Nat.mul_one, ← ea] at hs; have eo : (ints .i64 s.out).set i (.int .i64 (amt 0 dem s i)) = ints .i64 (dst 0 dem s i).out := by simp only [ints, dst, hzo, Int.zero_add, List.map_set]
    have eb : (ints .i64 s.b).set i (.int .i64 (elt s.b (i : Int) - amt 0 dem s i)) = ints .i64 (dst 0 dem s i).b := by simp only [ints, dst, if_true, List.map_set]
    rw [eo, eb] at hs; refine V18 ?_; refine V33 ?_; refine Z.only [1, 2, 3, 6, 10, 11, 12] rfl ?_; refine V6 ?_; exact Z.again (k + 1) (by refine ⟨?_, ?_, ?_, ?_, ?_, ?_, ?_, trivial⟩ <;> first | rfl | (rw [hst]; refine Z.lookv rfl ?_; rw [← ea]; rfl)) ⟨by omega, by rw [hst]; exact hs⟩ J5
  (try simp at hc12)
  refine V403 ?_; have hkk : (ordL m.l).take k = ordL m.l := List.take_of_length_le J122; rw [hkk] at hs; rw [hkk]; replace hs : St w [] _ [Ent.row (.slice (some ⟨gq, 0, none⟩) m.l.length cq) 3 1 m.l.length (ints .i64 (natI (ordL m.l))), Ent.row (.slice (some ⟨g59, 0, none⟩) m.l.length m.l.length) 3 1 m.l.length (ints .i64 (rounds m size dem 1).out), Ent.row (.slice (some ⟨gn, 0, none⟩) m.l.length dn) 3 1 m.l.length (ints .i64 (rounds m size dem 1).b), Ent.blk g6 _ _, Ent.blk g3 _ _] := hs; refine V18 ?_; refine V857 ?_; refine Z.only [1, 2, 3, 6, 10, 11, 15] rfl ?_; refine V861 ?_; refine Z.loopk (ι := Nat) [2, 3, 6, 10, 11] rfl (fun x => [(1, [], .int .i64 (rnd 1 dem (rounds m size dem 1) ((ordL m.l).take x)).sz), (15, [], .int .i64 (x : Int))]) (fun x wr => x ≤ m.l.length ∧ St w [] wr [Ent.row (.slice (some ⟨gq, 0, none⟩) m.l.length cq) 3 1 m.l.length (ints .i64 (natI (ordL m.l))), Ent.row (.slice (some ⟨g59, 0, none⟩) m.l.length m.l.length) 3 1 m.l.length (ints .i64 (rnd 1 dem (rounds m size dem 1) ((ordL m.l).take x)).out), Ent.row (.slice (some ⟨gn, 0, none⟩) m.l.length dn) 3 1 m.l.length (ints .i64 (rounds m size dem 1).b), Ent.blk g6 36 #[.slice none 0 0, .slice none 0 0, .int .i64 0], Ent.blk g3 36 #[.slice (some ⟨bb, off, none⟩) m.l.length c, .slice (some ⟨gn, 0, none⟩) m.l.length dn, .int .i64 m.now]]) (fun x => m.l.length - x) 0 J11 ⟨Nat.zero_le _, hs⟩ ?_; clear hs; rintro k w18 ⟨hk, hs⟩
  refine Z.only [1, 2, 3, 6, 10, 11, 15] rfl ?_; refine V217 ?_; refine V248 ?_; refine Z.only [1, 2, 3, 6, 10, 11, 15, 104] rfl ?_; refine V6 ?_; refine Z.cond rfl (fun hc18 => ?_) (fun hc18 => ?_)
  · (try simp at hc18)
    have hkl : k < (ordL m.l).length := by rw [ordL_len hm.set]; omega
    have hnl : (natI (ordL m.l)).length = m.l.length := by simp [natI, ordL_len hm.set]
    have hst := rnd_take (r := 1) (dem := dem) (s := rounds m size dem 1) hkl; have hso : (rnd 1 dem (rounds m size dem 1) ((ordL m.l).take k)).ok m dem := (rounds_ok hm hok 1).fold 1 fun i hi => ord_lt hm i (List.mem_of_mem_take hi)
    generalize hsd : rnd 1 dem (rounds m size dem 1) ((ordL m.l).take k) = s at hs hst hso ⊢; have hel : elt (natI (ordL m.l)) (k : Int) = ((ordL m.l)[k] : Int) := natI_elt hkl; have hil : (ordL m.l)[k] < m.l.length := ord_lt hm _ (List.getElem_mem _); obtain ⟨i, hid⟩ : ∃ i, i = (ordL m.l)[k] := ⟨_, rfl⟩; rw [← hid] at hel hil hst; have h1 := hso.og i hil; have h5 := hok.2.2.elt (i := i) J5; have h6 := hso.sz; have hol := hso.ol; obtain ⟨a1, a2, a3, a4⟩ := amt_bd hso 1 hil; have ea : amt 1 dem s i = min (elt dem (i : Int) - elt s.out (i : Int)) s.sz := rfl; have hcl : (ints .i64 (natI (ordL m.l)))[0 + (k : Int).toNat * 1]? = some (.int .i64 (i : Int)) := by rw [← hel]; exact Z.ints_at J5 J5
    refine V445 ?_; refine V325 ?_; refine V1 ?_; refine Z.only [1, 2, 3, 6, 10, 11, 15, 16] rfl ?_; refine V6 ?_; refine V96 ?_; clear hs; intro wd21 hs; refine V556 ?_; refine V229 ?_; refine Z.t 7 rfl rfl rfl (by rfl) J3 (Jk hs) (Z.Yd.load rfl isAgg3 (fun _ => Z.cellR J0 (Z.ints_at J5 J5))) ?_; refine Z.t 8 rfl rfl rfl (by rfl) J3 (Jk hs) (Z.Yd.sub rfl rfl (fun hG => Z.wi64 J2)) ?_; refine V459 ?_; refine Z.only [1, 2, 3, 6, 10, 11, 15, 16, 17] rfl ?_; refine V300 ?_; refine V259 ?_; refine V533 ?_; refine V859 ?_; refine V5 ?_; refine V11 ?_; refine V17 ?_; refine V21 ?_; refine V2 ?_; refine V112 ?_; clear hs; intro ws hs; replace hs := U1 hs; refine V1 ?_; refine Z.only [1, 2, 3, 6, 10, 11, 15] rfl ?_; refine V270 ?_; refine V42 ?_; rw [Int.toNat_natCast, Nat.mul_one, ← ea] at hs; have eo : (ints .i64 s.out).set i (.int .i64 (elt s.out (i : Int) + amt 1 dem s i)) = ints .i64 (dst 1 dem s i).out := by simp only [ints, dst, List.map_set]
    rw [eo] at hs; refine V18 ?_; refine V33 ?_; refine Z.only [1, 2, 3, 6, 10, 11, 15] rfl ?_; refine V6 ?_; exact Z.again (k + 1) (by refine ⟨?_, ?_, ?_, ?_, ?_, ?_, ?_, trivial⟩ <;> first | rfl | (rw [hst]; rfl)) ⟨by omega, by rw [hst]; exact hs⟩ J5
  (try simp at hc18)
  refine V181 ?_; have hkk : (ordL m.l).take k = ordL m.l := List.take_of_length_le J122; rw [hkk] at hs; have hol2 := (rounds_ok hm hok 2).ol; have hb2 : (rounds m size dem 1).b = (rounds m size dem 2).b := rnd1_b.symm; rw [hb2] at hs; replace hs : St w [] _ [Ent.row (.slice (some ⟨gq, 0, none⟩) m.l.length cq) 3 1 m.l.length (ints .i64 (natI (ordL m.l))), Ent.row (.slice (some ⟨g59, 0, none⟩) m.l.length m.l.length) 3 1 m.l.length (ints .i64 (rounds m size dem 2).out), Ent.row (.slice (some ⟨gn, 0, none⟩) m.l.length dn) 3 1 m.l.length (ints .i64 (rounds m size dem 2).b), Ent.blk g6 _ _, Ent.blk g3 _ _] := hs; refine V318 ?_; refine V456 ?_; clear hs; intro ws hs; replace hs := U1 hs; replace hs := U2 hs; refine V31 ?_; refine V230 ?_; refine Z.out3 J95 ?_; exact ⟨_, rfl, _, _, .slice (some ⟨g59, 0, none⟩) m.l.length m.l.length, [Ent.row _ 3 1 m.l.length (ints .i64 (rounds m size dem 2).b)], by rw [eD], by rw [eD]; dsimp only; rw [hol2]; exact hs.sel [1, 2] J12, .inl (by rw [eD])⟩

def bi (b : Bool) : Int := if b then 1 else 0
def bits (bs : List Bool) : List Int := bs.map bi
def bt (bs : List Bool) (i : Nat) : Bool := bs.getD i false
def bn (bs : List Bool) (i : Nat) : Nat := (bt bs i).toNat
def byt (bs : List Bool) (j : Nat) : Nat := 128 * bn bs (8 * j) + 64 * bn bs (8 * j + 1) + 32 * bn bs (8 * j + 2) + 16 * bn bs (8 * j + 3) + 8 * bn bs (8 * j + 4) + 4 * bn bs (8 * j + 5) + 2 * bn bs (8 * j + 6) + bn bs (8 * j + 7)
def pkn (bs : List Bool) (m : Nat) : List Int := (List.range m).map fun j => (byt bs j : Int)
def pk (bs : List Bool) : List Int := pkn bs ((bs.length + 7) / 8)
theorem bn_le (bs : List Bool) (i : Nat) : bn bs i ≤ 1 := by unfold bn; cases bt bs i <;> simp
theorem byt_lt (bs : List Bool) (j : Nat) : byt bs j < 256 := by
  have h := bn_le bs; have h0 := h (8 * j); have h1 := h (8 * j + 1); have h2 := h (8 * j + 2); have h3 := h (8 * j + 3); have h4 := h (8 * j + 4); have h5 := h (8 * j + 5); have h6 := h (8 * j + 6); have h7 := h (8 * j + 7); unfold byt
  omega
theorem bn_out {bs : List Bool} {i : Nat} (h : bs.length ≤ i) : bn bs i = 0 := by
  unfold bn bt; rw [List.getD_eq_getElem?_getD, List.getElem?_eq_none h]
  rfl
theorem bn_app_lt {bs cs : List Bool} {i : Nat} (h : i < bs.length) : bn (bs ++ cs) i = bn bs i := by
  unfold bn bt; rw [List.getD_eq_getElem?_getD, List.getD_eq_getElem?_getD, List.getElem?_append_left h]
theorem bn_app_ge {bs cs : List Bool} {i : Nat} : bn (bs ++ cs) (bs.length + i) = bn cs i := by
  unfold bn bt; rw [List.getD_eq_getElem?_getD, List.getD_eq_getElem?_getD, List.getElem?_append_right J5]
  congr 3
  omega
theorem bn_snoc {bs : List Bool} {b : Bool} {i : Nat} : bn (bs ++ [b]) i = if i = bs.length then b.toNat else bn bs i := by
  by_cases h : i < bs.length
  · rw [bn_app_lt h, if_neg J5]
  by_cases h2 : i = bs.length
  · subst h2
    rw [if_pos rfl]; have := bn_app_ge (bs := bs) (cs := [b]) (i := 0); rw [Nat.add_zero] at this; rw [this]
    rfl
  rw [if_neg h2, bn_out J45, bn_out J5]
@[simp] theorem pkn_length (bs : List Bool) (m : Nat) : (pkn bs m).length = m := by simp [pkn]
theorem pk_length (bs : List Bool) : (pk bs).length = (bs.length + 7) / 8 := by simp [pk, pkn_length]
@[simp] theorem bits_length (bs : List Bool) : (bits bs).length = bs.length := by simp [bits]
theorem byt_snoc_ne {bs : List Bool} {b : Bool} {j : Nat} (h : j ≠ bs.length / 8) : byt (bs ++ [b]) j = byt bs j := by
  have e : ∀ i, 8 * j ≤ i → i < 8 * j + 8 → bn (bs ++ [b]) i = bn bs i := fun i h1 h2 => by
    rw [bn_snoc, if_neg J5]
  unfold byt
  rw [e (8 * j) J5 J5, e (8 * j + 1) J5 J5, e (8 * j + 2) J5 J5, e (8 * j + 3) J5 J5,
    e (8 * j + 4) J5 J5, e (8 * j + 5) J5 J5, e (8 * j + 6) J5 J5, e (8 * j + 7) J5 J5]
theorem byt_snoc {bs : List Bool} {b : Bool} : byt (bs ++ [b]) (bs.length / 8) = byt bs (bs.length / 8) + b.toNat * 2 ^ (7 - bs.length % 8) ∧ 2 ^ (8 - bs.length % 8) ∣ byt bs (bs.length / 8) := by
  obtain ⟨q, r, hr, hl⟩ : ∃ q r, r < 8 ∧ bs.length = 8 * q + r := ⟨bs.length / 8, bs.length % 8, by omega, by omega⟩; have e1 : bs.length / 8 = q := by omega
  have e2 : bs.length % 8 = r := by omega
  rw [e1, e2]; have hb : b.toNat ≤ 1 := by cases b <;> simp
  have hs : ∀ i, bn (bs ++ [b]) i = if i = 8 * q + r then b.toNat else bn bs i := fun i => by rw [bn_snoc, hl]
  have ho : ∀ i, 8 * q + r ≤ i → bn bs i = 0 := fun i hi => bn_out J5
  unfold byt; have h8 : r = 0 ∨ r = 1 ∨ r = 2 ∨ r = 3 ∨ r = 4 ∨ r = 5 ∨ r = 6 ∨ r = 7 := by omega
  rcases h8 with rfl | rfl | rfl | rfl | rfl | rfl | rfl | rfl <;> simp only [hs] <;> (refine ⟨?_, ?_⟩)
  all_goals first
    | (simp; simp [ho]; omega)
    | (simp [ho]; done)
    | (simp [ho]; omega)
    | skip
theorem pkn_set {bs : List Bool} {b : Bool} {m : Nat} (hm : bs.length / 8 < m) : (pkn bs m).set (bs.length / 8) ((byt (bs ++ [b]) (bs.length / 8) : Nat) : Int) = pkn (bs ++ [b]) m := by
  apply List.ext_getElem?
  intro i; simp only [pkn, List.getElem?_set, List.length_map, List.length_range, List.getElem?_map]
  by_cases h : bs.length / 8 = i
  · subst h
    simp [hm]
  rw [if_neg h]
  by_cases hi : i < m
  · rw [List.getElem?_range hi]
    simp only [Option.map_some]; rw [byt_snoc_ne (Ne.symm h)]
  rw [List.getElem?_eq_none (by simpa using hi)]
  rfl
theorem byt_out {bs : List Bool} {j : Nat} (h : bs.length ≤ 8 * j) : byt bs j = 0 := by
  unfold byt; rw [bn_out h, bn_out J5, bn_out J5, bn_out J5, bn_out J5, bn_out J5, bn_out J5, bn_out J5]
theorem pkn_succ (bs : List Bool) (m : Nat) : pkn bs (m + 1) = pkn bs m ++ [(byt bs m : Int)] := by simp [pkn, List.range_succ]
theorem pk_grow {bs : List Bool} (h : bs.length % 8 = 0) : pk bs ++ [0] = pkn bs (bs.length / 8 + 1) := by
  unfold pk; rw [show (bs.length + 7) / 8 = bs.length / 8 from by omega, pkn_succ, byt_out J5]
  rfl
theorem pk_same {bs : List Bool} (h : bs.length % 8 ≠ 0) : pk bs = pkn bs (bs.length / 8 + 1) := by
  unfold pk; rw [show (bs.length + 7) / 8 = bs.length / 8 + 1 from by omega]
theorem pk_snoc {bs : List Bool} {b : Bool} : (pkn bs (bs.length / 8 + 1)).set (bs.length / 8) ((byt (bs ++ [b]) (bs.length / 8) : Nat) : Int) = pk (bs ++ [b]) := by
  rw [pkn_set J5]; unfold pk
  congr 1
  simp
  omega
theorem u8_or (x y : Nat) (i m : Nat) (hx : x = 2 ^ i * m) (hy : y < 2 ^ i) (h : x + y < 256) : IntKind.u8.wrap ((BitVec.ofInt 8 (x : Int) ||| BitVec.ofInt 8 (y : Int)).toNat : Int) = ((x + y : Nat) : Int) := by
  have e1 : (BitVec.ofInt 8 (x : Int)).toNat = x := by rw [BitVec.ofInt_natCast, BitVec.toNat_ofNat]; exact Nat.mod_eq_of_lt J5
  have e2 : (BitVec.ofInt 8 (y : Int)).toNat = y := by rw [BitVec.ofInt_natCast, BitVec.toNat_ofNat]; exact Nat.mod_eq_of_lt J5
  rw [BitVec.toNat_or, e1, e2, hx, ← Nat.two_pow_add_eq_or_of_lt hy, ← hx]; exact Z.wu8 J5
theorem bi_nat (b : Bool) : bi b = (b.toNat : Int) := by cases b <;> rfl
theorem bi_bd (b : Bool) : 0 ≤ bi b ∧ bi b ≤ 1 := by cases b <;> simp [bi]
theorem or_byt (bs : List Bool) (b : Bool) : IntKind.u8.wrap ((BitVec.ofInt IntKind.u8.bits (byt bs (bs.length / 8) : Int) ||| BitVec.ofInt IntKind.u8.bits (bi b * 2 ^ (7 - bs.length % 8))).toNat : Int) = (byt (bs ++ [b]) (bs.length / 8) : Int) := by
  obtain ⟨h1, m, h2⟩ := byt_snoc (bs := bs) (b := b); have h3 := byt_lt (bs ++ [b]) (bs.length / 8); have hr : bs.length % 8 < 8 := Nat.mod_lt _ J12; have e : bi b * 2 ^ (7 - bs.length % 8) = ((b.toNat * 2 ^ (7 - bs.length % 8) : Nat) : Int) := by rw [bi_nat]; push_cast; rfl
  rw [e, h1]; refine u8_or _ _ (8 - bs.length % 8) m h2 ?_ J5; have hb : b.toNat ≤ 1 := by cases b <;> simp
  have hp : 2 ^ (8 - bs.length % 8) = 2 * 2 ^ (7 - bs.length % 8) := by
    rw [show 8 - bs.length % 8 = (7 - bs.length % 8) + 1 from by omega, Nat.pow_succ, Nat.mul_comm]
  have hpos : 0 < 2 ^ (7 - bs.length % 8) := Nat.pow_pos J12; have := Nat.mul_le_mul_right (2 ^ (7 - bs.length % 8)) hb
  omega
def fld (v : Nat) : Nat → List Bool
  | 0 => []
  | w + 1 => v.testBit w :: fld v w
theorem fld_length (v : Nat) : ∀ w, (fld v w).length = w
  | 0 => rfl
  | w + 1 => by simp [fld, fld_length v w]
theorem fld_get (v : Nat) : ∀ (w i : Nat), i < w → (fld v w)[i]? = some (v.testBit (w - 1 - i))
  | 0, i, h => by omega
  | w + 1, 0, h => by simp [fld]
  | w + 1, i + 1, h => by
    have := fld_get v w i J5; simp only [fld, List.getElem?_cons_succ, this]
    congr 2
    omega
theorem testBit_bi (v i : Nat) : bi (v.testBit i) = ((v / 2 ^ i % 2 : Nat) : Int) := by
  rw [Nat.testBit_eq_decide_div_mod_eq]; have : v / 2 ^ i % 2 = 0 ∨ v / 2 ^ i % 2 = 1 := by omega
  rcases this with h | h <;> simp [bi, h]

def WrL (g T : Nat) (sv : Value) (bs : List Bool) : List Ent := [Ent.blk g T #[sv, .int .i64 (bs.length : Int)], Ent.row sv 5 1 (pk bs).length (ints .u8 (pk bs))]
theorem elt_pkn {bs : List Bool} {m j : Nat} (h : j < m) : elt (pkn bs m) (j : Int) = (byt bs j : Int) := by
  simp [elt, pkn, h]
theorem pkn_at {bs : List Bool} {m j : Nat} {i : Int} (hi : i = (j : Int)) (h : j < m) : (ints .u8 (pkn bs m))[0 + i.toNat * 1]? = some (.int .u8 (byt bs j : Int)) := by
  subst hi; have := Z.ints_at (k := .u8) (l := pkn bs m) (i := (j : Int)) J5 (by rw [pkn_length]; omega)
  rwa [elt_pkn h] at this
theorem shl_bit (b : Bool) (r : Nat) (hr : r < 8) : IntKind.u8.wrap (bi b * 2 ^ (min ((7 : Int) - (r : Int)).toNat IntKind.u8.bits)) = bi b * 2 ^ (7 - r) := by
  have h8 : r = 0 ∨ r = 1 ∨ r = 2 ∨ r = 3 ∨ r = 4 ∨ r = 5 ∨ r = 6 ∨ r = 7 := by omega
  rcases h8 with rfl | rfl | rfl | rfl | rfl | rfl | rfl | rfl <;> cases b <;> decide
theorem set_byt (bs : List Bool) (b : Bool) : (ints .u8 (pkn bs (bs.length / 8 + 1))).set (((bs.length : Int) / 8).toNat * 1) (.int .u8 (byt (bs ++ [b]) (bs.length / 8) : Nat)) = ints .u8 (pk (bs ++ [b])) := by
  have e : (((bs.length : Int) / 8).toNat * 1) = bs.length / 8 := by omega
  rw [e, ← pk_snoc]; simp only [ints]; rw [List.map_set]
theorem add_any (g T : Nat) (sv : Value) (bs : List Bool) (b : Bool) (w : World) (hs : St w (idsOf (WrL g T sv bs)) w (WrL g T sv bs)) (hb : bs.length ≤ 10000000) :
    Calls Tryz.prog 195 #[.pointer (some ⟨g, 0, none⟩), .int .u8 (bi b)] w (Ret fun v w' => ∃ sv', v = .tuple #[] ∧ St w (idsOf (WrL g T sv bs)) w' (WrL g T sv' (bs ++ [b]))) := by
  have hpl : (pk bs).length ≤ 2000000 := by rw [pk_length]; omega
  have hbb := bi_bd b; generalize idsOf (WrL g T sv bs) = M at *; simp only [WrL] at hs; refine Z.enter func195 rfl ntmps195 rfl rfl ?_; refine V182 ?_; refine V245 ?_; refine V104 ?_; refine V137 ?_; refine V1 ?_; refine Z.only [0, 1, 9] rfl ?_; refine V6 ?_; refine Z.cutt (ι := Value) [0, 1] rfl (fun _ => []) (fun sv1 wr => St w M wr [Ent.blk g T #[sv1, .int .i64 (bs.length : Int)], Ent.row sv1 5 1 (bs.length / 8 + 1) (ints .u8 (pkn bs (bs.length / 8 + 1)))]) ?_ ?_
  · skip
    refine Z.cond rfl (fun hc0 => ?_) (fun hc0 => ?_)
    · (try simp at hc0)
      refine V42 ?_; refine V277 ?_; refine V3 ?_; refine V73 ?_; refine V2 ?_; refine Z.ZO.lit rfl rfl (by rfl) rfl (by intro W; go_simp; exact rfl) hs ?_; clear hs; intro g15 w15 hs; refine V2 ?_; refine V86 ?_; clear hs; intro g16 cap16 w16 hs; replace hs := U3 hs; refine V384 ?_; refine V595 ?_; clear hs; intro ws hs; replace hs := U1 hs; refine V857 ?_; refine V378 ?_; refine V6 ?_; have e := pk_grow (bs := bs) J5; have e2 := pk_length bs; rw [show (pk bs).length + 1 = bs.length / 8 + 1 from by omega] at hs; have e3 : ints .u8 (pk bs) ++ [.int .u8 0] = ints .u8 (pkn bs (bs.length / 8 + 1)) := by rw [← e]; simp [ints]
      rw [e3] at hs; exact Z.meet _ (by refine ⟨?_, ?_, trivial⟩ <;> rfl) hs
    (try simp at hc0)
    refine V361 ?_; have e := pk_same (bs := bs) J5; exact Z.meet _ (by refine ⟨?_, ?_, trivial⟩ <;> rfl) (by rw [e, pkn_length] at hs; exact hs)
  clear hs; rintro sv1 w1 hs; refine V378 ?_; obtain ⟨g1, cap1, rfl, hc1, hc2⟩ := row_form (j := 1) hs rfl J5; refine V141 ?_; refine Z.drawK (fun j => j != 21) mixed hs ?_; clear hs; intro wd2 hs; refine V44 ?_; refine Z.t 3 rfl rfl rfl (by rfl) J3 (Jk hs) J26 ?_; refine Z.tb [4] J3 rfl (Jk hs) rfl ?_; refine Z.t 5 rfl rfl rfl (by rfl) J3 (Jk hs) (Z.Yd.nilc rfl rfl) ?_; refine Z.t 6 rfl rfl rfl (by rfl) J3 (Jk hs) (Z.Yd.fieldA (m := 1) rfl J3) ?_; refine Z.t 7 rfl rfl rfl (by rfl) J3 (Jk hs) J25 ?_; refine Z.t 8 rfl rfl rfl (by rfl) J3 (Jk hs) (Z.Yd.quo rfl rfl J33 J37) ?_; refine Z.t 9 rfl rfl rfl (by rfl) J3 (Jk hs) (Z.Yd.elem rfl rfl underlying48 sizeOf5 (fun hG => ⟨J2, J2⟩)) ?_; refine Z.t 10 rfl rfl rfl (by rfl) J3 (Jk hs) (Z.Yd.load rfl isAgg5 (fun _ => Z.cellR J0 (pkn_at (j := bs.length / 8) J5 J5))) ?_; refine Z.tb [11, 12] J3 rfl (Jk hs) rfl ?_; refine Z.t 13 rfl rfl rfl (by rfl) J3 (Jk hs) (Z.Yd.nilc rfl rfl) ?_; refine Z.t 14 rfl rfl rfl (by rfl) J3 (Jk hs) (Z.Yd.fieldA (m := 1) rfl J3) ?_; refine Z.t 15 rfl rfl rfl (by rfl) J3 (Jk hs) J25 ?_; refine Z.t 16 rfl rfl rfl (by rfl) J3 (Jk hs) (Z.Yd.rem rfl rfl J33 J52) ?_; refine Z.t 17 rfl rfl rfl (by rfl) J3 (Jk hs) (Z.Yd.sub rfl rfl (fun hG => Z.wi64 J2)) ?_; refine Z.t 18 rfl rfl rfl (by rfl) J3 (Jk hs) (Z.Yd.shl rfl rfl J33 (fun _ => shl_bit b (bs.length % 8) J5)) ?_; refine Z.t 19 rfl rfl rfl (by rfl) J3 (Jk hs) (Z.Yd.or rfl rfl (fun _ => or_byt bs b)) ?_
  refine Z.t 20 rfl rfl rfl (by rfl) J3 (Jk hs) (Z.Yd.elem rfl rfl underlying48 sizeOf5 (fun hG => ⟨J2, J2⟩)) ?_; refine Z.tn 21 rfl rfl J3 rfl trivial ?_; refine Z.ZO.storeR rfl rfl hs sizeOf5 rfl rfl rfl J1 J35 ?_; clear hs; intro ws hs; replace hs := U1 hs; refine Z.tk (Dn := fun j => j != 21) (i := 21) (fun h => absurd h J12) ?_; refine V40 ?_; refine V175 ?_; rw [set_byt] at hs; refine V300 ?_; refine V245 ?_; refine V104 ?_; refine V5 ?_; refine V12 ?_; refine V522 ?_; clear hs; intro ws hs; replace hs := U1 hs; refine V857 ?_; refine V77 ?_; refine ⟨_, rfl, .slice (some ⟨g1, 0, none⟩) (bs.length / 8 + 1) cap1, rfl, ?_⟩; have e1 : (pk (bs ++ [b])).length = bs.length / 8 + 1 := by rw [pk_length]; simp; omega
  have e2 : ((bs ++ [b]).length : Int) = bs.length + 1 := by simp
  simp only [WrL, e1, e2]; exact hs

theorem prefix_take {α : Type} {l : List α} {j : Nat} {x : α} (h : l[j]? = some x) : (l.take j ++ [x]) <+: l := by
  have hj : j < l.length := (List.getElem?_eq_some_iff.1 h).1; have hx : l[j] = x := (List.getElem?_eq_some_iff.1 h).2; rw [← hx, ← List.take_succ_eq_append_getElem hj]; exact List.take_prefix _ _
theorem take_snoc {α : Type} {l : List α} {j : Nat} {x : α} (h : l[j]? = some x) : l.take j ++ [x] = l.take (j + 1) := by
  have hj : j < l.length := (List.getElem?_eq_some_iff.1 h).1; have hx : l[j] = x := (List.getElem?_eq_some_iff.1 h).2; rw [← hx, ← List.take_succ_eq_append_getElem hj]
theorem shr_at (v wd j : Nat) (hj : j < wd) (hw : wd ≤ 64) : (v : Int).fdiv (2 ^ (min ((wd : Int) - 1 - (j : Int)).toNat IntKind.u64.bits)) = ((v / 2 ^ (wd - 1 - j) : Nat) : Int) := by
  have e : min ((wd : Int) - 1 - (j : Int)).toNat IntKind.u64.bits = wd - 1 - j := by
    have : IntKind.u64.bits = 64 := rfl
    omega
  rw [e, Int.fdiv_eq_ediv_of_nonneg _ (Int.le_of_lt (Int.pow_pos J12))]
  push_cast
  rfl
theorem and_one (v i : Nat) (hv : v < 18446744073709551616) : IntKind.u64.wrap ((BitVec.ofInt IntKind.u64.bits ((v / 2 ^ i : Nat) : Int) &&& BitVec.ofInt IntKind.u64.bits 1).toNat : Int) = bi (v.testBit i) := by
  have h1 : v / 2 ^ i < 18446744073709551616 := Nat.lt_of_le_of_lt (Nat.div_le_self _ _) hv; have e1 : (BitVec.ofInt 64 ((v / 2 ^ i : Nat) : Int)).toNat = v / 2 ^ i := by rw [BitVec.ofInt_natCast, BitVec.toNat_ofNat]; exact Nat.mod_eq_of_lt J5
  have e2 : (BitVec.ofInt 64 (1 : Int)).toNat = 1 := by decide
  have e3 : ((BitVec.ofInt 64 ((v / 2 ^ i : Nat) : Int)) &&& (BitVec.ofInt 64 (1 : Int))).toNat = v / 2 ^ i % 2 := by rw [BitVec.toNat_and, e1, e2, Nat.and_one_is_mod]
  show IntKind.u64.wrap (((BitVec.ofInt 64 ((v / 2 ^ i : Nat) : Int)) &&& (BitVec.ofInt 64 (1 : Int))).toNat : Int) = _
  rw [e3, testBit_bi]; exact Z.wu64 J5
theorem u8_bi (b : Bool) : IntKind.u8.wrap (bi b) = bi b := by cases b <;> decide
def BitA (b : Bool) (args : Array Value) (Lx : List Ent) : Prop := args = #[.int .u8 (bi b)] ∧ Lx = []
theorem bits_seq (gv gw Tv Tw : Nat) (v wd : Nat) (hv : v < 18446744073709551616) (hw : wd ≤ 64) :
    SX.SeqC Tryz.prog 204 #[.pointer (some ⟨gw, 0, none⟩), .pointer (some ⟨gv, 0, none⟩)] BitA [Ent.blk gw Tw #[.int .i64 (wd : Int)], Ent.blk gv Tv #[.int .u64 (v : Int)]] (fun _ _ => True) (fld v wd) := by
  intro l w0 M I Ix W L0 _ hY hI hs; have hfl := fld_length v wd; refine Z.enter func204 rfl ntmps204 rfl rfl ?_; refine Z.scope ?_; refine V141 ?_; refine Z.label ?_; refine V858 ?_; refine V9 ?_; refine V395 ?_; refine Z.only [0, 2, 4] rfl ?_; refine V861 ?_; refine Z.loopk (ι := Nat × List Ent) [0, 2] rfl (fun j => [(4, [], .int .i64 ((wd : Int) - 1 - (j.1 : Int)))]) (fun j wr => j.1 ≤ wd ∧ I ((fld v wd).take j.1) j.2 ∧ St w0 M wr (j.2 ++ [Ent.blk gw Tw #[.int .i64 (wd : Int)], Ent.blk gv Tv #[.int .u64 (v : Int)]])) (fun j => wd - j.1) (0, L0) J6 ⟨by omega, hI, hs⟩ ?_; clear hs; rintro ⟨j, L1⟩ w1 ⟨hj, hi, hs⟩; refine Z.only [0, 2, 4] rfl ?_
  (try dsimp only at hs)
  refine V283 ?_; refine Z.only [0, 2, 4, 8] rfl ?_; refine V6 ?_; refine Z.cond rfl (fun hc1 => ?_) (fun hc1 => ?_)
  · (try simp at hc1)
    have hlt : j < wd := by omega
    have hg := fld_get v wd j hlt; refine V454 ?_; refine Z.l rfl rfl (by rfl) (Z.keepS hs) J57 ?_; refine V859 ?_; refine Z.l rfl rfl (by rfl) (Z.keepS hs) (Z.Yd.shr rfl rfl J33 (fun _ => shr_at v wd j hlt hw)) ?_; refine Z.l rfl rfl (by rfl) (Z.keepS hs) (Z.Yd.and rfl rfl (fun _ => and_one v (wd - 1 - j) hv)) ?_; refine Z.l rfl rfl (by rfl) (Z.keepS hs) (Z.Yd.convI rfl ⟨_, underlying123⟩ underlying5 (fun _ => u8_bi _)) ?_; refine V2 ?_; refine Z.ZO.yield rfl rfl (by rfl) rfl rfl rfl (hY _ ((fld v wd).take j) (v.testBit (wd - 1 - j)) _ _ L1 [] hi (prefix_take hg) ⟨rfl, rfl⟩ hs) ?_; clear hs; rintro e wy3_6 (⟨rfl, Ly3_6, hiy3_6, hs⟩ | ⟨rfl, Ly3_6, hiy3_6, hs⟩)
    · refine ⟨_, rfl, ?_⟩
      refine V1 ?_; refine Z.only [0, 2, 4, 18] rfl ?_; refine V6 ?_; refine Z.cond rfl (fun hc3 => ?_) (fun hc3 => ?_)
      · (exfalso; simp at hc3 <;> omega)
      (try simp at hc3)
      refine V68 ?_; refine V300 ?_; refine V859 ?_; refine V395 ?_; refine Z.only [0, 2, 4] rfl ?_; refine V6 ?_; exact Z.again (j + 1, Ly3_6) J13 ⟨by omega, by rw [← take_snoc hg]; exact hiy3_6, hs⟩ J22
    refine ⟨_, rfl, ?_⟩; refine V1 ?_; refine Z.only [0, 2, 4, 18] rfl ?_; refine V6 ?_; refine Z.cond rfl (fun hc3 => ?_) (fun hc3 => ?_)
    · (try simp at hc3)
      refine V467 ?_; exact ⟨⟨_, rfl⟩, Ly3_6, .inr hiy3_6, hs⟩
    (exfalso; simp at hc3 <;> omega)
  first
    | (exfalso; simp at hc1 <;> omega)
    | (
      (try simp at hc1)
      refine V10 ?_; refine Z.nscope ?_; refine Z.out0n trivial ?_; exact ⟨⟨_, rfl⟩, L1, .inl (by rwa [List.take_of_length_le J5] at hi), hs⟩
      )
theorem bits_any (v wd : Nat) (w : World) :
    Calls Tryz.prog 194 #[.int .u64 (v : Int), .int .i64 (wd : Int)] w (Ret fun r w' => ∃ gv gw, r = .func (.func 204) #[] #[.pointer (some ⟨gw, 0, none⟩), .pointer (some ⟨gv, 0, none⟩)] ∧
      St w [] w' [Ent.blk gw 3 #[.int .i64 (wd : Int)], Ent.blk gv 123 #[.int .u64 (v : Int)]]) := by
  have hs := St.start w; refine Z.enter func194 rfl ntmps194 rfl rfl ?_; refine V91 ?_; clear hs; intro g2 w2 hs; refine V616 ?_; clear hs; intro g3 w3 hs; refine V1 ?_; refine V72 ?_; refine V423 ?_; refine V240 ?_; exact ⟨_, rfl, _, _, rfl, hs⟩
theorem put_any (g T : Nat) (sv : Value) (bs : List Bool) (v wd : Nat) (w : World) (hs : St w (idsOf (WrL g T sv bs)) w (WrL g T sv bs)) (hb : bs.length ≤ 9000000) (hv : v < 18446744073709551616) (hw : wd ≤ 64) :
    Calls Tryz.prog 171 #[.pointer (some ⟨g, 0, none⟩), .int .u64 (v : Int), .int .i64 (wd : Int)] w (Ret fun r w' => ∃ sv', r = .tuple #[] ∧ St w (idsOf (WrL g T sv bs)) w' (WrL g T sv' (bs ++ fld v wd))) := by
  generalize hM : idsOf (WrL g T sv bs) = M at *; refine Z.enterM func171 rfl ntmps171 rfl rfl ?_; refine V91 ?_; clear hs; intro g3 w3 hs; refine V857 ?_; refine Z.only [1, 2, 3] rfl ?_; refine V541 ?_; refine Z.ZO.call rfl rfl (by rfl) rfl rfl call194 rfl (bits_any v wd _) ?_; rintro v1_2 w1_2 ⟨gv, gw, rfl, hy⟩; replace hs := U0 (hs.call hy); clear hy; refine V857 ?_; refine Z.only [3, 9] rfl ?_; refine V861 ?_; refine Z.rangeFunc (ps := [10]) (L0 := Ent.blk g3 245 #[.pointer (some ⟨g, 0, none⟩)] :: WrL g T sv bs) (bits_seq gv gw _ _ v wd hv hw) rfl call204 (hs.rot (L1 := [_, _])) trivial (by rintro x args Lx ⟨rfl, rfl⟩; rfl) rfl (fun pre L => ∃ sv', L = Ent.blk g3 245 #[.pointer (some ⟨g, 0, none⟩)] :: WrL g T sv' (bs ++ pre)) (fun _ _ => False) ⟨sv, by simp⟩ ?_ ?_ ?_
  · clear hs
    rintro l0 Z0 pre x args W0 L0 Lx ⟨sv', rfl⟩ hpre ⟨rfl, rfl⟩ hs; refine ⟨_, rfl, ?_⟩; refine V42 ?_; refine V1 ?_; refine Z.only [3, 6] rfl ?_; refine V6 ?_; refine Z.assigned (Ent.blk g3 245 #[.pointer (some ⟨g, 0, none⟩)] :: WrL g T sv' (bs ++ pre)) hs ?_; clear hs; intro Wb0 Zb0 hs; refine V171 ?_; refine V42 ?_; refine Z.l rfl rfl (by rfl) (Z.keepS hs) (by exact Z.Yd.load rfl isAgg245 (fun _ => Z.cellB J0 rfl)) ?_; refine V384 ?_; refine V859 ?_; have hpl := hpre.length_le; have hfl := fld_length v wd; simp only [List.length_append, List.length_cons, List.length_nil] at hpl; replace hs := St.unmid (L1 := WrL g T sv' (bs ++ pre)) hs; refine V2 ?_; refine Z.ZO.call rfl rfl (by rfl) rfl rfl call195 rfl (add_any g T sv' (bs ++ pre) x _ hs.lend J45) ?_; rintro v3_4 w3_4 ⟨sv2, rfl, hz⟩; replace hs := (hs.regain hz).mid; refine V857 ?_; refine Z.only [] rfl ?_; refine V133 ?_; exact Z.rnorm _ ⟨sv2, by rw [← List.append_assoc]⟩ hs
  · clear hs
    rintro Dd W0 L0 hi hs; obtain ⟨sv', rfl⟩ := hi; refine V133 ?_; refine Z.outM1n (vs := []) hs (fun wr hs => trivial) trivial ?_; clear hs; intro wr hs; exact ⟨_, rfl, sv', rfl, hs.tl.sub (List.sublist_append_left _ _)⟩
  clear hs; rintro Dd c W0 L0 hi hs; exact hi.elim

theorem clone8 (M : List Nat) (A : Option Addr) (n c : Nat) (l : List Int) (w : World) (hx : Sx w M A (ints .u8 l)) (hl : l.length = n) (hn : n ≤ 100000000) (hz : A = none → n = 0) :
    Calls Tryz.prog 161 #[.slice A n c] w (Ret fun v w' => St w [] w' [Ent.row v 5 1 n (ints .u8 l)]) := by
  have hs := St.start w
  cases A with
  | none =>
    obtain rfl := hz rfl; have hl0 : l = [] := List.eq_nil_of_length_eq_zero hl; subst hl0; refine V406 ?_; refine V857 ?_; refine V631 ?_; refine Z.cond rfl (fun hc1 => ?_) (fun h => absurd h J16); refine V154 ?_
    repeat (first | refine Z.rthen ?_ | refine Z.rblock ?_ | refine Z.rscope ?_)
    refine V199 ?_; exact ⟨_, rfl, hs.nil _ _⟩
  | some ad =>
    refine V406 ?_; refine V857 ?_; refine V631 ?_; refine Z.cond rfl (fun h => absurd h J16) (fun hc1 => ?_); refine V862 ?_; refine V2 ?_; refine Z.ZO.empty rfl rfl (by rfl) underlying48 sizeOf5 hs ?_; clear hs; intro g5 w5 hs; refine V62 ?_; refine Z.ZO.appendG (i0 := Tryz.t5) (size := 1) (bytes := 1) rfl rfl (by rfl) hs underlying48 J3 rfl rfl rfl rfl J12 rfl rfl J1 (hx.sl.st hs) J23 J36 J17 J5 ?_; clear hs; intro v7 w7 hs; replace hs := U5 hs; refine V186 ?_; exact ⟨_, rfl, by simpa using hs⟩

def outj (v n j : Nat) : List Int := (List.range n).map fun i => if n - j ≤ i then bi (v.testBit (n - 1 - i)) else 0
@[simp] theorem outj_length (v n j : Nat) : (outj v n j).length = n := by simp [outj]

def unb (l : List Int) : List Bool := l.flatMap fun x => fld x.toNat 8
theorem unb_length (l : List Int) : (unb l).length = l.length * 8 := Z.flat_length (fun x => fld_length _ 8)
theorem unb_get {l : List Int} {k : Nat} (hk : k < l.length * 8) : (unb l)[k]? = some ((elt l ((k : Int) / 8)).toNat.testBit (7 - k % 8)) := by
  have h1 : k / 8 < l.length := by omega
  have hx : l[k / 8]? = some (l[k / 8]) := List.getElem?_eq_getElem h1; have := Z.flat_get (enc := fun x : Int => fld x.toNat 8) (s := 8) (fun x => fld_length _ 8) hx (j := k % 8) J5; rw [show k / 8 * 8 + k % 8 = k from by omega, fld_get _ 8 _ J5] at this; unfold unb; rw [this]; have e : elt l ((k : Int) / 8) = l[k / 8] := by
    have e1 : ((k : Int) / 8).toNat = k / 8 := by omega
    simp [elt, e1, h1]
  rw [e]
def pad (bs : List Bool) : List Bool := bs ++ List.replicate ((8 - bs.length % 8) % 8) false
theorem pad_length (bs : List Bool) : (pad bs).length = (bs.length + 7) / 8 * 8 := by simp [pad]; omega

def quoF (f : Int × Int) : Nat := f.1.toNat / 2 ^ f.2.toNat
def chkF (f : Int × Int) : Int := if f.2 < 0 ∨ 64 < f.2 then 2 else if quoF f = 0 then 0 else 4
def encF (f : Int × Int) : List Value := [.int .u64 f.1, .int .i64 f.2]
def fldF (f : Int × Int) : List Bool := fld f.1.toNat f.2.toNat
def GoodF (f : Int × Int) : Prop := 0 ≤ f.1 ∧ f.1 < 18446744073709551616 ∧ -9223372036854775808 ≤ f.2 ∧ f.2 ≤ 9223372036854775807
def chkA : List (Int × Int) → Int
  | [] => 0
  | f :: fs => if chkF f = 0 then chkA fs else chkF f
def resA (bs : List Bool) (fs : List (Int × Int)) : List Bool := if chkA fs = 0 then bs ++ fs.flatMap fldF else bs
theorem encF_length (f : Int × Int) : (encF f).length = 2 := rfl
theorem chkA_app : ∀ a b : List (Int × Int), chkA a = 0 → chkA (a ++ b) = chkA b
  | [], b, _ => rfl
  | f :: a, b, h => by
    by_cases hf : chkF f = 0
    · simp only [chkA, if_pos hf, List.cons_append] at h ⊢
      exact chkA_app a b h
    simp only [chkA, if_neg hf] at h; exact absurd h hf
theorem chkA_at {fs : List (Int × Int)} {k : Nat} {f : Int × Int} (h : fs[k]? = some f) (h0 : chkA (fs.take k) = 0) (hf : chkF f ≠ 0) : chkA fs = chkF f := by
  have e : fs = fs.take (k + 1) ++ fs.drop (k + 1) := (List.take_append_drop _ _).symm; rw [← take_snoc h] at e; rw [e, List.append_assoc, chkA_app _ _ h0]; simp [chkA, hf]
theorem chkA_snoc {fs : List (Int × Int)} {k : Nat} {f : Int × Int} (h : fs[k]? = some f) (h0 : chkA (fs.take k) = 0) (hf : chkF f = 0) : chkA (fs.take (k + 1)) = 0 := by
  rw [← take_snoc h, chkA_app _ _ h0]; simp [chkA, hf]
theorem chkA_mem : ∀ {fs : List (Int × Int)}, chkA fs = 0 → ∀ f ∈ fs, chkF f = 0
  | [], _, f, h => by simp at h
  | g :: fs, h0, f, h => by
    by_cases hg : chkF g = 0
    · simp only [chkA, if_pos hg] at h0
      rcases List.mem_cons.1 h with rfl | h
      · exact hg
      exact chkA_mem h0 f h
    simp only [chkA, if_neg hg] at h0; exact absurd h0 hg
theorem chkF_bd {f : Int × Int} (h : chkF f = 0) : 0 ≤ f.2 ∧ f.2 ≤ 64 ∧ quoF f = 0 := by
  unfold chkF at h
  split at h
  · simp at h
  split at h
  · rename_i h1 h2
    exact ⟨by omega, by omega, h2⟩
  simp at h
theorem flatF_length {fs : List (Int × Int)} (h : chkA fs = 0) : (fs.flatMap fldF).length ≤ fs.length * 64 := by
  induction fs with
  | nil => simp
  | cons f fs ih =>
    have h1 := chkF_bd (chkA_mem h f J16); have h2 : chkA fs = 0 := by
      by_cases hf : chkF f = 0
      · simpa only [chkA, if_pos hf] using h
      simp only [chkA, if_neg hf] at h; exact absurd h hf
    have := ih h2; simp only [List.flatMap_cons, List.length_append, List.length_cons, fldF, fld_length]
    omega
theorem take_zero {fs : List (Int × Int)} {k : Nat} (h : chkA fs = 0) : chkA (fs.take k) = 0 := by
  induction fs generalizing k with
  | nil => simp [chkA]
  | cons f fs ih =>
    cases k with
    | zero => rfl
    | succ k =>
      by_cases hf : chkF f = 0
      · simp only [chkA, if_pos hf, List.take_succ_cons] at h ⊢
        exact ih h
      simp only [chkA, if_neg hf] at h; exact absurd h hf
theorem shr_chk (v wd : Int) (h0 : 0 ≤ v) (hw : 0 ≤ wd) (h64 : wd < 64) : v.fdiv (2 ^ (min wd.toNat IntKind.u64.bits)) = (quoF (v, wd) : Int) := by
  obtain ⟨n, rfl⟩ := Int.eq_ofNat_of_zero_le h0; have e : min wd.toNat IntKind.u64.bits = wd.toNat := by
    have : IntKind.u64.bits = 64 := rfl
    omega
  rw [e, Int.fdiv_eq_ediv_of_nonneg _ (Int.le_of_lt (Int.pow_pos J12))]; simp [quoF]
theorem quo64 {v wd : Int} (h : wd = 64) (h1 : v < 18446744073709551616) : quoF (v, wd) = 0 := by
  subst h
  exact Nat.div_eq_of_lt (by simp only; have : (2 : Nat) ^ (64 : Int).toNat = 18446744073709551616 := by decide
                             omega)
theorem check_any (v wd : Int) (w : World) (hg : GoodF (v, wd)) :
    Calls Tryz.prog 170 #[.agg #[.int .u64 v, .int .i64 wd]] w (Ret fun r w' => r = .int .i64 (chkF (v, wd)) ∧ St w [] w' []) := by
  have hs := St.start w; obtain ⟨h0, h1, h2, h3⟩ := hg; simp only at h0 h1 h2 h3; refine Z.enter func170 rfl ntmps170 rfl rfl ?_; refine V91 ?_; clear hs; intro g1 w1 hs; refine V626 ?_; refine V594 ?_; refine V104 ?_; refine V11 ?_; refine V104 ?_; refine V184 ?_; refine V519 ?_; refine V6 ?_; refine Z.cond rfl (fun hc1 => ?_) (fun hc1 => ?_)
  · (try simp at hc1)
    refine V154 ?_
    repeat (first | refine Z.rthen ?_ | refine Z.rblock ?_ | refine Z.rscope ?_)
    refine V199 ?_; exact ⟨_, rfl, by unfold chkF; rw [if_pos J22], Jn hs⟩
  (try simp at hc1)
  refine V0 ?_; refine V104 ?_; refine V11 ?_; refine V3 ?_; refine Z.l rfl rfl (by rfl) (Z.keepS hs) J57 ?_; refine V104 ?_; refine Z.l rfl rfl (by rfl) (Z.keepS hs) (Z.Yd.shr rfl rfl J33 (by intro hG; have hG' := Z.gh rfl hG; simp at hG'; exact shr_chk v wd h0 J5 J5)) ?_; refine V184 ?_; refine Z.only [12] rfl ?_; refine V6 ?_; refine Z.cond rfl (fun hc3 => ?_) (fun hc3 => ?_)
  · (try simp at hc3)
    refine V154 ?_
    repeat (first | refine Z.rthen ?_ | refine Z.rblock ?_ | refine Z.rscope ?_)
    refine V199 ?_; exact ⟨_, rfl, by unfold chkF; rw [if_neg J22, if_neg J5], Jn hs⟩
  (try simp at hc3)
  refine V68 ?_; refine V858 ?_; refine V186 ?_; exact ⟨_, rfl, by unfold chkF; rw [if_neg J22, if_pos (by by_cases h : wd < 64; exact (by have := hc3 h; omega); exact quo64 J5 h1)], Jn hs⟩
theorem putAll_any (g T : Nat) (sv : Value) (bs : List Bool) (A : Option Addr) (n c : Nat) (fs : List (Int × Int)) (w : World) (hs : St w (idsOf (WrL g T sv bs)) w (WrL g T sv bs))
    (hx : Sx w (idsOf (WrL g T sv bs)) A (fs.flatMap encF)) (hl : fs.length = n) (hn : n ≤ 1000) (hb : bs.length ≤ 1000000) (hg : ∀ f ∈ fs, GoodF f) :
    Calls Tryz.prog 124 #[.pointer (some ⟨g, 0, none⟩), .slice A n c] w (Ret fun r w' => ∃ sv', r = .int .i64 (chkA fs) ∧ St w (idsOf (WrL g T sv bs)) w' (WrL g T sv' (resA bs fs))) := by
  generalize hM : idsOf (WrL g T sv bs) = M at *; have hfl : (fs.flatMap encF).length = n * 2 := by rw [Z.flat_length (s := 2) encF_length, hl]
  refine Z.enter func124 rfl ntmps124 rfl rfl ?_; refine V394 ?_; refine V380 ?_; refine V857 ?_; refine Z.only [0, 1, 11] rfl ?_; refine V6 ?_; refine Z.cond rfl (fun h => absurd h J16) (fun hc1 => ?_); refine V47 ?_; refine V125 ?_; refine Z.l rfl rfl (by rfl) (Z.keepS hs) (Z.Yd.lenS rfl underlying246) ?_; refine V1 ?_; refine Z.only [0, 1, 12, 13, 14] rfl ?_; refine V861 ?_; refine Z.loopk (ι := Nat) [0, 1, 12, 13] rfl (fun k => [(14, [], .int .i64 (k : Int))]) (fun k wr => k ≤ n ∧ chkA (fs.take k) = 0 ∧ St w M wr (WrL g T sv bs)) (fun k => n - k) 0 J6 ⟨by omega, rfl, hs⟩ ?_; clear hs; rintro k w1 ⟨hkn, hz, hs⟩; refine Z.only [0, 1, 12, 13, 14] rfl ?_; refine V121 ?_; refine Z.only [0, 1, 12, 13, 14, 15] rfl ?_; refine V210 ?_; refine Z.cond rfl (fun hc4 => ?_) (fun hc4 => ?_)
  · (try simp at hc4)
    obtain ⟨b, off, rfl, hx⟩ := hx.some J5; obtain ⟨⟨v, wd⟩, hf⟩ : ∃ f, fs[k]? = some f := ⟨_, List.getElem?_eq_getElem J5⟩; have hgf := hg _ (List.mem_of_getElem? hf); refine V498 ?_; refine Z.l rfl rfl (by rfl) (Z.keepS hs) (Z.Yd.loadA _ rfl isAgg211 (fun _ => Z.cellsX [.int .u64 v, .int .i64 wd] hx encF_length hf rfl) J113) ?_; refine V2 ?_; refine V102 ?_; clear hs; intro g6 w6 hs; refine V860 ?_; clear hs; intro ws hs; replace hs := U1 hs; refine V857 ?_; refine Z.only [0, 1, 6, 12, 13, 14] rfl ?_; refine V858 ?_; refine Z.l rfl rfl (by rfl) (Z.keepS hs) J136 ?_; refine V2 ?_; refine Z.ZO.call rfl rfl (by rfl) rfl rfl call170 rfl (check_any v wd _ hgf) ?_; rintro v6_1 w6_1 ⟨rfl, hy⟩; replace hs := U0 (hs.call hy); clear hy; refine V1 ?_; refine Z.only [0, 1, 7, 12, 13, 14] rfl ?_; refine V423 ?_; refine Z.only [0, 1, 7, 12, 13, 14, 21] rfl ?_; refine V6 ?_; refine Z.cond rfl (fun hc7 => ?_) (fun hc7 => ?_)
    · (try simp at hc7)
      refine V151 ?_; refine V426 ?_
      repeat (first | refine Z.rthen ?_ | refine Z.rblock ?_ | refine Z.rscope ?_)
      refine V199 ?_; exact ⟨_, rfl, sv, by rw [chkA_at hf hz hc7], by unfold resA; rw [if_neg (by rw [chkA_at hf hz hc7]; exact hc7)]; exact hs.tl⟩
    (try simp at hc7)
    refine V392 ?_; refine Z.only [0, 1, 12, 13, 14] rfl ?_; refine V6 ?_; exact Z.again (k + 1) J8 ⟨by omega, chkA_snoc hf hz hc7, hs.tl⟩ J5
  first
    | (exfalso; simp at hc4 <;> omega)
    | (
      (try simp at hc4)
      refine V403 ?_; have hz0 : chkA fs = 0 := by rw [List.take_of_length_le J5] at hz; exact hz
      refine V18 ?_; refine Z.l rfl rfl (by rfl) (Z.keepS hs) (Z.Yd.lenS rfl underlying246) ?_; refine V1 ?_; refine Z.only [0, 24, 25, 26] rfl ?_; refine V861 ?_; refine Z.loopk (ι := Nat × Value) [0, 24, 25] rfl (fun k => [(26, [], .int .i64 (k.1 : Int))]) (fun k wr => k.1 ≤ n ∧ St w M wr (WrL g T k.2 (bs ++ (fs.take k.1).flatMap fldF))) (fun k => n - k.1) (0, sv) J6 ⟨by omega, by simpa using hs⟩ ?_; clear hs; rintro ⟨j, sv1⟩ w2 ⟨hjn, hs⟩; refine Z.only [0, 24, 25, 26] rfl ?_
      (try dsimp only at hs)
      refine V121 ?_; refine Z.only [0, 24, 25, 26, 27] rfl ?_; refine V210 ?_; refine Z.cond rfl (fun hc11 => ?_) (fun hc11 => ?_)
      · (try simp at hc11)
        obtain ⟨b, off, rfl, hx⟩ := hx.some J5; obtain ⟨⟨v, wd⟩, hf⟩ : ∃ f, fs[j]? = some f := ⟨_, List.getElem?_eq_getElem J5⟩; have hgf := hg _ (List.mem_of_getElem? hf); obtain ⟨hw0, hw1, hw2⟩ := chkF_bd (chkA_mem hz0 _ (List.mem_of_getElem? hf)); obtain ⟨hv0, hv1, -, -⟩ := hgf; simp only at hw0 hw1 hv0 hv1; obtain ⟨v, rfl⟩ := Int.eq_ofNat_of_zero_le hv0; obtain ⟨wd, rfl⟩ := Int.eq_ofNat_of_zero_le hw0; refine V498 ?_; refine Z.l rfl rfl (by rfl) (Z.keepS hs) (Z.Yd.loadA _ rfl isAgg211 (fun _ => Z.cellsX [.int .u64 (v : Int), .int .i64 (wd : Int)] hx encF_length hf rfl) J113) ?_; refine V2 ?_; refine V102 ?_; clear hs; intro g9 w9 hs; refine V860 ?_; clear hs; intro ws hs; replace hs := U1 hs; refine V857 ?_; refine Z.only [0, 9, 24, 25, 26] rfl ?_; refine V300 ?_; refine V859 ?_; refine V3 ?_; refine Z.l rfl rfl (by rfl) (Z.keepS hs) J57 ?_; refine V104 ?_; replace hs := hs.rot (L1 := [_])
        change St _ _ _ (WrL g T sv1 _ ++ [_]) at hs
        have hlen : (bs ++ (fs.take j).flatMap fldF).length ≤ 1100000 := by
          have := flatF_length (take_zero (k := j) hz0); simp only [List.length_append, List.length_take] at this ⊢
          omega
        refine V2 ?_; refine Z.ZO.call rfl rfl (by rfl) rfl rfl call171 rfl (put_any g T sv1 (bs ++ (fs.take j).flatMap fldF) v wd _ hs.lend J5 J5 J5) ?_; rintro v13_5 w13_5 ⟨sv2, rfl, hz⟩; replace hs := hs.regain hz; refine V857 ?_; refine Z.only [0, 24, 25, 26] rfl ?_; refine V332 ?_; refine Z.only [0, 24, 25, 26] rfl ?_; refine V6 ?_; have e : (bs ++ (fs.take j).flatMap fldF) ++ fld v wd = bs ++ (fs.take (j + 1)).flatMap fldF := by
          rw [← take_snoc hf]; simp [fldF]
        rw [e] at hs; exact Z.again (j + 1, sv2) J10 ⟨by simp only; omega, hs.sub (List.sublist_append_left _ _)⟩ J22
      · (try simp at hc11)
        refine V305 ?_; refine ⟨_, rfl, sv1, by rw [hz0], ?_⟩; unfold resA; rw [if_pos hz0]; rw [List.take_of_length_le J5] at hs; exact hs
      )
theorem wputbytes_any (g T : Nat) (sv : Value) (bs : List Bool) (A : Option Addr) (n c : Nat) (l : List Int) (w : World) (hs : St w (idsOf (WrL g T sv bs)) w (WrL g T sv bs))
    (hx : Sx w (idsOf (WrL g T sv bs)) A (ints .u8 l)) (hl : l.length = n) (hn : n ≤ 100000) (hb : bs.length ≤ 1000000) (hB : ∀ x ∈ l, 0 ≤ x ∧ x < 256) :
    Calls Tryz.prog 127 #[.pointer (some ⟨g, 0, none⟩), .slice A n c] w (Ret fun r w' => ∃ sv', r = .int .i64 0 ∧ St w (idsOf (WrL g T sv bs)) w' (WrL g T sv' (bs ++ unb l))) := by
  generalize hM : idsOf (WrL g T sv bs) = M at *; refine Z.enter func127 rfl ntmps127 rfl rfl ?_; refine V394 ?_; refine V380 ?_; refine V857 ?_; refine Z.only [0, 1, 8] rfl ?_; refine V6 ?_; refine Z.cond rfl (fun h => absurd h J16) (fun hc1 => ?_); refine V47 ?_; refine V125 ?_; refine V29 ?_; refine V1 ?_; refine Z.only [0, 9, 10, 11] rfl ?_; refine V861 ?_; refine Z.loopk (ι := Nat × Value) [0, 9, 10] rfl (fun k => [(11, [], .int .i64 (k.1 : Int))]) (fun k wr => k.1 ≤ n ∧ St w M wr (WrL g T k.2 (bs ++ unb (l.take k.1)))) (fun k => n - k.1) (0, sv) J6 ⟨by omega, by simpa [unb] using hs⟩ ?_; clear hs; rintro ⟨k, sv1⟩ w2 ⟨hkn, hs⟩; refine Z.only [0, 9, 10, 11] rfl ?_
  (try dsimp only at hs)
  refine V121 ?_; refine Z.only [0, 9, 10, 11, 12] rfl ?_; refine V210 ?_; refine Z.cond rfl (fun hc4 => ?_) (fun hc4 => ?_)
  · (try simp at hc4)
    obtain ⟨b, off, rfl, hx⟩ := hx.some J92; have hxk : l[k]? = some (l[k]'J5) := List.getElem?_eq_getElem J5; have he : elt l (k : Int) = l[k]'J5 := by simp [elt, show k < l.length by omega]
    have hbk := hB _ (List.mem_of_getElem? hxk); rw [← he] at hxk hbk; obtain ⟨x, hxe⟩ := Int.eq_ofNat_of_zero_le hbk.1; have hlen : (bs ++ unb (l.take k)).length ≤ 1900000 := by
      have := unb_length (l.take k); simp only [List.length_append, List.length_take] at this ⊢
      omega
    rw [hxe] at hxk hbk; refine V272 ?_; refine V67 ?_; refine Z.l rfl rfl (by rfl) (Z.keepS hs) (Z.Yd.load rfl isAgg5 (fun _ => hxe ▸ Z.cellXi hx J2 J2)) ?_; refine V1 ?_; refine Z.only [0, 6, 9, 10, 11] rfl ?_; refine V300 ?_; refine V11 ?_; refine V535 ?_; refine V2 ?_; refine Z.ZO.call rfl rfl (by rfl) rfl rfl call171 rfl (put_any g T sv1 (bs ++ unb (l.take k)) x 8 _ hs.all J5 J5 J5) ?_; rintro v6_3 w6_3 ⟨sv2, rfl, hz⟩; replace hs := hs.regainAll hz; refine V857 ?_; refine Z.only [0, 9, 10, 11] rfl ?_; refine V332 ?_; refine Z.only [0, 9, 10, 11] rfl ?_; refine V6 ?_; have e : (bs ++ unb (l.take k)) ++ fld x 8 = bs ++ unb (l.take (k + 1)) := by
      rw [← take_snoc hxk]; simp [unb]
    rw [e] at hs; exact Z.again (k + 1, sv2) J10 ⟨by simp only; omega, hs⟩ J22
  first
    | (exfalso; simp at hc4 <;> omega)
    | (
      (try simp at hc4)
      refine V305 ?_; rw [List.take_of_length_le J5] at hs; exact ⟨_, rfl, sv1, rfl, hs⟩
      )
theorem wbytes_any (g T : Nat) (sv : Value) (bs : List Bool) (w : World) (hs : St w (idsOf (WrL g T sv bs)) w (WrL g T sv bs)) (hb : bs.length ≤ 1000000) :
    Calls Tryz.prog 128 #[.pointer (some ⟨g, 0, none⟩)] w (Ret fun r w' => St w (idsOf (WrL g T sv bs)) w' (Ent.row r 5 1 (pk bs).length (ints .u8 (pk bs)) :: WrL g T sv bs)) := by
  generalize hM : idsOf (WrL g T sv bs) = M at *; simp only [WrL] at hs; have hpl := pk_length bs; obtain ⟨A, c, rfl, hl1, hl2, hx⟩ := row_slv hs SX.at1; refine Z.enter func128 rfl ntmps128 rfl rfl ?_; refine V336 ?_; refine V380 ?_; refine V857 ?_; refine V631 ?_; refine Z.cond rfl (fun h => absurd h J16) (fun hc1 => ?_); refine V862 ?_; refine V245 ?_; refine V3 ?_; refine V3 ?_; refine V73 ?_; refine V2 ?_; refine Z.ZO.call rfl rfl (by rfl) rfl rfl call161 rfl (clone8 [] A (pk bs).length c (pk bs) _ hx.sx rfl J5 (SX.row_none hs SX.at1)) ?_; rintro v3_5 w3_5 hy; replace hs := U0 (hs.call hy); clear hy; refine V186 ?_; exact ⟨_, rfl, hs⟩



def val (bs : List Bool) : Nat := bs.foldl (fun v b => 2 * v + b.toNat) 0
theorem val_snoc (bs : List Bool) (b : Bool) : val (bs ++ [b]) = 2 * val bs + b.toNat := by simp [val]
theorem val_lt (bs : List Bool) : val bs < 2 ^ bs.length := by
  have h : ∀ n (bs : List Bool), bs.length = n → val bs < 2 ^ n := by
    intro n
    induction n with
    | zero =>
      intro bs h; obtain rfl := List.eq_nil_of_length_eq_zero h; simp [val]
    | succ n ih =>
      intro bs h; have hne : bs ≠ [] := by intro e; subst e; simp at h
      have e := List.dropLast_concat_getLast hne; rw [← e, val_snoc]; have := ih bs.dropLast J45; have hb : (bs.getLast hne).toNat ≤ 1 := by cases bs.getLast hne <;> simp
      rw [Nat.pow_succ]
      omega
  exact h _ bs rfl
theorem val_bd63 {bs : List Bool} (h : bs.length ≤ 63) : val bs < 9223372036854775808 := by
  have h1 := val_lt bs; have h2 : 2 ^ bs.length ≤ 2 ^ 63 := Nat.pow_le_pow_right J12 h; have h3 : (2 : Nat) ^ 63 = 9223372036854775808 := by decide
  omega
def RdL (g T : Nat) (sv : Value) (l : List Int) (at_ : Nat) : List Ent := [Ent.blk g T #[sv, .int .i64 (at_ : Int)], Ent.row sv 5 1 l.length (ints .u8 l)]
def bitsAt (l : List Int) (at_ n : Nat) : List Bool := ((unb l).drop at_).take n
def getE (l : List Int) (at_ : Nat) (wd : Int) : Int := if wd < 0 ∨ 64 < wd then 2 else if (8 * l.length : Int) - at_ < wd then 5 else 0
def getV (l : List Int) (at_ : Nat) (wd : Int) : Int := if getE l at_ wd = 0 then (val (bitsAt l at_ wd.toNat) : Int) else 0
def getA (l : List Int) (at_ : Nat) (wd : Int) : Nat := if getE l at_ wd = 0 then at_ + wd.toNat else at_
theorem rleft_any (g T : Nat) (sv : Value) (l : List Int) (at_ : Nat) (w : World) (hs : St w (idsOf (RdL g T sv l at_)) w (RdL g T sv l at_)) (hl : l.length ≤ 1000000) (ha : at_ ≤ 8 * l.length) :
    Calls Tryz.prog 166 #[.pointer (some ⟨g, 0, none⟩)] w (Ret fun r w' => r = .int .i64 ((8 * l.length : Int) - at_) ∧ St w (idsOf (RdL g T sv l at_)) w' (RdL g T sv l at_)) := by
  generalize hM : idsOf (RdL g T sv l at_) = M at *; simp only [RdL] at hs; obtain ⟨A, c, rfl, -, -, -⟩ := row_slv hs (j := 1) rfl; refine Z.enter func166 rfl ntmps166 rfl rfl ?_; refine V336 ?_; refine V125 ?_; refine V313 ?_; refine V857 ?_; refine V631 ?_; refine Z.cond rfl (fun h => absurd h J16) (fun hc1 => ?_); refine V361 ?_; refine V96 ?_; clear hs; intro wd3 hs; refine V44 ?_; refine Z.t 3 rfl rfl rfl (by rfl) J3 (Jk hs) J26 ?_; refine Z.t 4 rfl rfl rfl (by rfl) J3 (Jk hs) (Z.Yd.lenS rfl underlying48) ?_; refine Z.t 5 rfl rfl rfl (by rfl) J3 (Jk hs) (Z.Yd.mul rfl rfl (fun hG => Z.wi64 J2)) ?_; refine V293 ?_; refine Z.t 10 rfl rfl rfl (by rfl) J3 (Jk hs) (Z.Yd.sub rfl rfl (fun hG => Z.wi64 J2)) ?_; refine Z.tb [11] J3 rfl (Jk hs) rfl ?_; refine V40 ?_; refine V120 ?_; exact ⟨_, rfl, rfl, hs⟩
theorem newreader_any (A : Option Addr) (n c : Nat) (l : List Int) (w : World) (hx : Sx w [] A (ints .u8 l)) (hl : l.length = n) (hn : n ≤ 100000000) (hz : A = none → n = 0) :
    Calls Tryz.prog 110 #[.slice A n c] w (Ret fun r w' => ∃ g sv, r = .pointer (some ⟨g, 0, none⟩) ∧ St w [] w' (RdL g 242 sv l 0)) := by
  have hs := St.start w; subst hl; refine Z.enter func110 rfl ntmps110 rfl rfl ?_; refine V242 ?_; refine V62 ?_; refine Z.ZO.call rfl rfl (by rfl) rfl rfl call161 rfl (clone8 [] A _ c l _ ((hx.st hs).sx) rfl hn hz) ?_; rintro v1_1 w1_1 hy; replace hs := U0 (hs.call hy); clear hy; obtain ⟨Av, cv, rfl, -, -, -⟩ := row_slv hs (j := 0) rfl; refine Z.l rfl rfl (by rfl) (Z.keepS hs) (Z.Yd.build rfl J129) ?_; refine V616 ?_; clear hs; intro g6 w6 hs; refine V186 ?_; exact ⟨_, rfl, _, _, rfl, hs⟩
theorem and_one8 (x : Int) (k : Nat) (h0 : 0 ≤ x) (hx : x < 256) : IntKind.u8.wrap ((BitVec.ofInt IntKind.u8.bits (x.fdiv (2 ^ (min ((7 : Int) - (k : Int) % 8).toNat IntKind.u8.bits))) &&& BitVec.ofInt IntKind.u8.bits 1).toNat : Int) = bi (x.toNat.testBit (7 - k % 8)) := by
  obtain ⟨n, rfl⟩ := Int.eq_ofNat_of_zero_le h0; have e : min ((7 : Int) - (k : Int) % 8).toNat IntKind.u8.bits = 7 - k % 8 := by
    have : IntKind.u8.bits = 8 := rfl
    omega
  rw [e, Int.fdiv_eq_ediv_of_nonneg _ (Int.le_of_lt (Int.pow_pos J12)), testBit_bi, Int.toNat_natCast]; have e2 : ((n : Int) / 2 ^ (7 - k % 8)) = ((n / 2 ^ (7 - k % 8) : Nat) : Int) := by push_cast; rfl
  rw [e2]; have h1 : n / 2 ^ (7 - k % 8) ≤ n := Nat.div_le_self _ _; generalize n / 2 ^ (7 - k % 8) = q at *; have e1 : (BitVec.ofInt 8 (q : Int)).toNat = q := by rw [BitVec.ofInt_natCast, BitVec.toNat_ofNat]; exact Nat.mod_eq_of_lt J5
  have e3 : (BitVec.ofInt 8 (1 : Int)).toNat = 1 := by decide
  have e4 : ((BitVec.ofInt 8 (q : Int)) &&& (BitVec.ofInt 8 (1 : Int))).toNat = q % 2 := by rw [BitVec.toNat_and, e1, e3, Nat.and_one_is_mod]
  show IntKind.u8.wrap (((BitVec.ofInt 8 (q : Int)) &&& (BitVec.ofInt 8 (1 : Int))).toNat : Int) = _
  rw [e4]; exact Z.wu8 J5
theorem u64_or (x y : Nat) (i m : Nat) (hx : x = 2 ^ i * m) (hy : y < 2 ^ i) (h : x + y < 18446744073709551616) : IntKind.u64.wrap ((BitVec.ofInt IntKind.u64.bits (x : Int) ||| BitVec.ofInt IntKind.u64.bits (y : Int)).toNat : Int) = ((x + y : Nat) : Int) := by
  have e1 : (BitVec.ofInt 64 (x : Int)).toNat = x := by rw [BitVec.ofInt_natCast, BitVec.toNat_ofNat]; exact Nat.mod_eq_of_lt J5
  have e2 : (BitVec.ofInt 64 (y : Int)).toNat = y := by rw [BitVec.ofInt_natCast, BitVec.toNat_ofNat]; exact Nat.mod_eq_of_lt J5
  have e3 : (BitVec.ofInt 64 (x : Int) ||| BitVec.ofInt 64 (y : Int)).toNat = x + y := by rw [BitVec.toNat_or, e1, e2, hx, ← Nat.two_pow_add_eq_or_of_lt hy, ← hx]
  show IntKind.u64.wrap (((BitVec.ofInt 64 (x : Int)) ||| (BitVec.ofInt 64 (y : Int))).toNat : Int) = _
  rw [e3]; exact Z.wu64 J5
theorem or_bit (v : Nat) (b : Bool) (hv : v < 9223372036854775808) : IntKind.u64.wrap ((BitVec.ofInt IntKind.u64.bits ((v : Int) * 2) ||| BitVec.ofInt IntKind.u64.bits (bi b)).toNat : Int) = ((2 * v + b.toNat : Nat) : Int) := by
  have := u64_or (2 * v) b.toNat 1 v J5 (by cases b <;> simp) (by cases b <;> simp <;> omega); rw [bi_nat, show ((v : Int) * 2) = ((2 * v : Nat) : Int) from by push_cast; omega]; exact this
theorem bitsAt_length {l : List Int} {a n : Nat} (h : a + n ≤ l.length * 8) : (bitsAt l a n).length = n := by
  simp [bitsAt, unb_length]
  omega
theorem bitsAt_snoc {l : List Int} {a k : Nat} (h : a + k < l.length * 8) : bitsAt l a (k + 1) = bitsAt l a k ++ [(elt l (((a + k : Nat) : Int) / 8)).toNat.testBit (7 - (a + k) % 8)] := by
  have hg := unb_get (l := l) (k := a + k) h; have : ((unb l).drop a)[k]? = some ((elt l (((a + k : Nat) : Int) / 8)).toNat.testBit (7 - (a + k) % 8)) := by
    rw [List.getElem?_drop]; exact hg
  unfold bitsAt; rw [← take_snoc this]
theorem rget_any (g T : Nat) (sv : Value) (l : List Int) (at_ : Nat) (wd : Int) (w : World) (hs : St w (idsOf (RdL g T sv l at_)) w (RdL g T sv l at_)) (hl : l.length ≤ 1000000) (ha : at_ ≤ 8 * l.length) (hb : ∀ x ∈ l, 0 ≤ x ∧ x < 256) :
    Calls Tryz.prog 159 #[.pointer (some ⟨g, 0, none⟩), .int .i64 wd] w (Ret fun r w' => r = .tuple #[.int .u64 (getV l at_ wd), .int .i64 (getE l at_ wd)] ∧ St w (idsOf (RdL g T sv l at_)) w' (RdL g T sv l (getA l at_ wd))) := by
  generalize hM : idsOf (RdL g T sv l at_) = M at *; refine Z.enter func159 rfl ntmps159 rfl rfl ?_; refine V151 ?_; refine Z.only [0, 1, 4] rfl ?_; refine V6 ?_; refine V63 ?_; refine V363 ?_; refine V313 ?_; refine V1 ?_; refine Z.only [0, 1, 4, 6] rfl ?_; refine V6 ?_; refine Z.cond rfl (fun h => absurd h J16) (fun hc1 => ?_); refine V0 ?_; refine Z.lb 7 rfl ?_; refine V857 ?_; refine V482 ?_; refine Z.cond rfl (fun hc3 => ?_) (fun hc3 => ?_)
  · (try simp at hc3)
    refine V0 ?_; refine V280 ?_
    repeat (first | refine Z.rthen ?_ | refine Z.rblock ?_ | refine Z.rscope ?_)
    refine V162 ?_; have e : getE l at_ wd = 2 := by unfold getE; rw [if_pos J5]
    refine ⟨_, rfl, by unfold getV; rw [e]; rfl, ?_⟩; unfold getA; rw [e]; exact hs
  (try simp at hc3)
  refine V0 ?_; refine V527 ?_; refine Z.ZO.call rfl rfl (by rfl) rfl rfl call166 rfl (rleft_any g T sv l at_ _ hs.all hl ha) ?_; rintro v5_2 w5_2 ⟨rfl, hz⟩; replace hs := hs.regainAll hz; refine V31 ?_; refine Z.only [0, 1, 4, 16] rfl ?_; refine V6 ?_; refine Z.cond rfl (fun hc5 => ?_) (fun hc5 => ?_)
  · (try simp at hc5)
    refine V0 ?_; refine V280 ?_
    repeat (first | refine Z.rthen ?_ | refine Z.rblock ?_ | refine Z.rscope ?_)
    refine V162 ?_; have e : getE l at_ wd = 5 := by unfold getE; rw [if_neg J5, if_pos J5]
    refine ⟨_, rfl, by unfold getV; rw [e]; rfl, ?_⟩; unfold getA; rw [e]; exact hs
  (try simp at hc5)
  refine V68 ?_; refine V30 ?_; have e : getE l at_ wd = 0 := by unfold getE; rw [if_neg J5, if_neg J5]
  obtain ⟨wd, rfl⟩ := Int.eq_ofNat_of_zero_le (show 0 ≤ wd by omega); refine V18 ?_; refine V1 ?_; refine Z.only [0, 4, 21, 22] rfl ?_; refine V861 ?_; refine Z.loopk (ι := Nat) [0, 21] rfl (fun k => [(4, [], .int .u64 (val (bitsAt l at_ k) : Int)), (22, [], .int .i64 (k : Int))]) (fun k wr => k ≤ wd ∧ St w M wr [Ent.blk g T #[sv, .int .i64 ((at_ + k : Nat) : Int)], Ent.row sv 5 1 l.length (ints .u8 l)]) (fun k => wd - k) 0 J11 ⟨by omega, hs⟩ ?_; clear hs; rintro k w1 ⟨hkn, hs⟩; refine Z.only [0, 4, 21, 22] rfl ?_; refine V121 ?_; refine Z.only [0, 4, 21, 22, 23] rfl ?_; refine V210 ?_; refine Z.cond rfl (fun hc8 => ?_) (fun hc8 => ?_)
  · (try simp at hc8)
    obtain ⟨g1, cap1, rfl, hc1, hc2⟩ := row_form (j := 1) hs rfl J5; have hv := val_bd63 (bs := bitsAt l at_ k) (by rw [bitsAt_length J5]; omega); have he := hb _ (Z.elt_mem (l := l) (z := ((at_ + k : Nat) : Int) / 8) J5 J5); refine V499 ?_; clear hs; intro wd9 hs; refine V234 ?_; refine Z.t 1 rfl rfl rfl (by rfl) J3 (Jk hs) (Z.Yd.shl rfl rfl (by intro hG; decide) (by intro hG; first | exact Z.shll (c := 2) rfl (Z.wu64 J5) | exact Z.shll (c := 2) rfl rfl)) ?_; refine Z.tb [2] J3 rfl (Jk hs) rfl ?_; refine Z.t 3 rfl rfl rfl (by rfl) J3 (Jk hs) (Z.Yd.nilc rfl rfl) ?_; refine V267 ?_; refine Z.t 5 rfl rfl rfl (by rfl) J3 (Jk hs) J26 ?_; refine V293 ?_; refine Z.t 10 rfl rfl rfl (by rfl) J3 (Jk hs) (Z.Yd.quo rfl rfl J33 J37) ?_; refine Z.t 11 rfl rfl rfl (by rfl) J3 (Jk hs) (Z.Yd.elem rfl rfl underlying48 sizeOf5 (fun hG => ⟨J2, J2⟩)) ?_; refine Z.t 12 rfl rfl rfl (by rfl) J3 (Jk hs) (by exact Z.Yd.load rfl isAgg5 (fun hG => Z.cellR J0 (Z.ints_at J2 J2))) ?_; refine Z.tb [13] J3 rfl (Jk hs) rfl ?_; refine V558 ?_; refine Z.t 15 rfl rfl rfl (by rfl) J3 (Jk hs) (Z.Yd.fieldA (m := 1) rfl J3) ?_; refine Z.t 16 rfl rfl rfl (by rfl) J3 (Jk hs) J25 ?_; refine Z.t 17 rfl rfl rfl (by rfl) J3 (Jk hs) (Z.Yd.rem rfl rfl J33 J52) ?_; refine Z.t 18 rfl rfl rfl (by rfl) J3 (Jk hs) (Z.Yd.sub rfl rfl (fun hG => Z.wi64 J2)) ?_; refine Z.t 19 rfl rfl rfl (by rfl) J3 (Jk hs) (Z.Yd.shr rfl rfl J33 (fun _ => rfl)) ?_
    refine Z.t 20 rfl rfl rfl (by rfl) J3 (Jk hs) (Z.Yd.and rfl rfl (fun _ => and_one8 _ (at_ + k) he.1 he.2)) ?_; refine Z.t 21 rfl rfl rfl (by rfl) J3 (Jk hs) (Z.Yd.convI rfl ⟨_, underlying5⟩ underlying123 (fun _ => Z.wu64 (by have := bi_bd ((elt l (((at_ + k : Nat) : Int) / 8)).toNat.testBit (7 - (at_ + k) % 8)); omega))) ?_; refine Z.t 22 rfl rfl rfl (by rfl) J3 (Jk hs) (Z.Yd.or rfl rfl (fun _ => or_bit _ _ hv)) ?_; refine Z.tb [23] J3 rfl (Jk hs) rfl ?_; refine V40 ?_; refine Z.only [0, 4, 21, 22] rfl ?_; refine V300 ?_; refine V245 ?_; refine V104 ?_; refine V5 ?_; refine V12 ?_; refine V522 ?_; clear hs; intro ws hs; replace hs := U1 hs; refine V857 ?_; refine Z.only [0, 4, 21, 22] rfl ?_; refine V332 ?_; refine Z.only [0, 4, 21, 22] rfl ?_; refine V6 ?_; have e2 : ((at_ + k : Nat) : Int) + 1 = ((at_ + (k + 1) : Nat) : Int) := by push_cast; omega
    rw [e2] at hs; refine Z.again (k + 1) ?_ ⟨by omega, hs⟩ J5; rw [bitsAt_snoc J5, val_snoc]; exact J10
  (try simp at hc8)
  refine V181 ?_; refine V184 ?_; refine V257 ?_; refine V162 ?_; obtain rfl : k = wd := by omega
  refine ⟨_, rfl, by unfold getV; rw [e]; rfl, ?_⟩; unfold getA; rw [e]; exact hs

theorem getE_ok {l : List Int} {a : Nat} {n : Nat} (h : a + n ≤ 8 * l.length) (h2 : n ≤ 64) : getE l a (n : Int) = 0 := by
  unfold getE; rw [if_neg J5, if_neg J5]
theorem WrL_start {w0 w : World} {M : List Nat} {L : List Ent} {g T : Nat} (hs : St w0 M w (Ent.blk g T #[.slice none 0 0, .int .i64 0] :: L)) : St w0 M w (WrL g T (.slice none 0 0) [] ++ L) := by
  have h := hs.nil 5 1; exact h.perm (List.Perm.swap _ _ _)

def perr (e : Int) : List PanicEntry := Z.pe (.iface 31 (.int .i64 e))
def PanE (e : Int) (Φ : World → Prop) : Ending → World → Prop := Z.Pan fun c w' => c = perr e ∧ Φ w'
theorem must_ok (b : Bool) (e : Int) (w : World) (hb : b = true) : Calls Tryz.prog 145 #[.bool b, .int .i64 e] w (Ret fun v w' => v = .tuple #[] ∧ St w [] w' []) := by
  have hs := St.start w; subst hb; refine Z.enter func145 rfl ntmps145 rfl rfl ?_; refine V413 ?_; refine V6 ?_; refine Z.cond rfl (fun h => absurd h J16) (fun hc0 => ?_); refine V323 ?_; exact ⟨_, rfl, rfl, hs⟩
theorem must_bad (b : Bool) (e : Int) (w : World) (hb : b = false) : Calls Tryz.prog 145 #[.bool b, .int .i64 e] w (PanE e fun w' => St w [] w' []) := by
  have hs := St.start w; subst hb; refine Z.enter func145 rfl ntmps145 rfl rfl ?_; refine V413 ?_; refine V6 ?_; refine Z.cond rfl (fun hc0 => ?_) (fun h => absurd h J16); refine V421 ?_; exact ⟨_, rfl, rfl, hs⟩
theorem got64_ok (x : Int) (w : World) : Calls Tryz.prog 158 #[.int .u64 x, .int .i64 0] w (Ret fun v w' => v = .int .u64 x ∧ St w [] w' []) := by
  have hs := St.start w; refine Z.enter func158 rfl ntmps158 rfl rfl ?_; refine V211 ?_; refine Z.ZO.call rfl rfl (by rfl) rfl rfl call145 rfl (must_ok _ 0 _ J16) ?_; rintro v1_3 w1_3 ⟨rfl, hy⟩; replace hs := U0 (hs.call hy); clear hy; refine V857 ?_; refine V273 ?_; exact ⟨_, rfl, rfl, hs⟩
theorem caught_pan (ge Te k : Nat) (cap : Array Value) (x : Value) (e : Int) (L L' : List Ent) (w : World) (hs : St w (idsOf (Ent.blk ge Te #[x] :: L)) w (Ent.blk ge Te #[x] :: L)) (hk : ∀ args w, (callFunc k args).run Tryz.prog w = .ok (.enter k args) w)
    (hcl : ∀ W, St W (idsOf L) W L → Calls Tryz.prog k cap W (Ret fun v w' => v = .tuple #[] ∧ St W (idsOf L) w' L')) :
    CallsDm Tryz.prog 152 #[.pointer (some ⟨ge, 0, none⟩), .func (.func k) #[] cap] (.panicking (perr e)) (.panicking [{ v := .iface 31 (.int .i64 e), recovered := true }]) w
      (fun v w' => v = .tuple #[] ∧ St w (idsOf (Ent.blk ge Te #[x] :: L)) w' (Ent.blk ge Te #[.int .i64 e] :: L')) := by
  generalize hM : idsOf (Ent.blk ge Te #[x] :: L) = M at *; refine Z.enterRec (Z.rec_pan _) func152 rfl ntmps152 rfl rfl rfl rfl rfl rfl rfl rfl rfl rfl ?_; refine V363 ?_; refine V179 ?_; refine V857 ?_; refine V482 ?_; refine Z.cond rfl (fun hc1 => ?_) (fun h => absurd h J16); refine V363 ?_; refine V178 ?_; refine V6 ?_; refine Z.cond rfl (fun h => absurd h J16) (fun hc3 => ?_); refine V224 ?_; rintro v5 w5 ⟨rfl, hz⟩; replace hs := St.rot (L2 := [Ent.blk ge Te #[x]]) ((St.regain (L1 := L) (L2 := [Ent.blk ge Te #[x]]) (hs.rot (L1 := [_]))) hz); refine V857 ?_; refine V517 ?_; clear hs; intro ws hs; replace hs := U1 hs; refine V857 ?_; refine V77 ?_; exact ⟨_, rfl, rfl, hs⟩
theorem caught_ret (ge k : Nat) (cap : Array Value) (w : World) :
    CallsDm Tryz.prog 152 #[.pointer (some ⟨ge, 0, none⟩), .func (.func k) #[] cap] .returning .returning w (fun v w' => v = .tuple #[] ∧ St w [] w' []) := by
  have hs := St.start w; refine Z.enterRec (Z.rec_ret) func152 rfl ntmps152 rfl rfl rfl rfl rfl rfl rfl rfl rfl rfl ?_; refine V363 ?_; refine V179 ?_; refine V857 ?_; refine V482 ?_; refine Z.cond rfl (fun h => absurd h J16) (fun hc1 => ?_); refine V323 ?_; exact ⟨_, rfl, rfl, hs⟩
theorem level_ok (n : Int) (w : World) (h : 0 ≤ n ∧ n ≤ 63) : Calls Tryz.prog 147 #[.int .i64 n] w (Ret fun v w' => v = .agg #[.int .u64 n, .int .i64 6] ∧ St w [] w' []) := by
  have hs := St.start w; refine Z.enter func147 rfl ntmps147 rfl rfl ?_; refine V304 ?_; refine V102 ?_; clear hs; intro g2 w2 hs; refine V857 ?_; refine Z.only [0, 2] rfl ?_; refine V858 ?_; refine V689 ?_; refine V168 ?_; rintro v1_6 w1_6 ⟨rfl, hy⟩; replace hs := U0 (hs.call hy); clear hy; refine V857 ?_; refine Z.only [0, 2] rfl ?_; refine V303 ?_; refine V111 ?_; refine V51 ?_; refine V860 ?_; clear hs; intro ws hs; replace hs := U1 hs; replace hs := U2 hs; refine V857 ?_; refine V43 ?_; refine V90 ?_; refine Z.out1 J135 ?_; exact ⟨_, rfl, rfl, Jn hs⟩
theorem group_ok (n : Int) (w : World) (h : 0 ≤ n ∧ n ≤ 3) : Calls Tryz.prog 144 #[.int .i64 n] w (Ret fun v w' => v = .agg #[.int .u64 n, .int .i64 2] ∧ St w [] w' []) := by
  have hs := St.start w; refine Z.enter func144 rfl ntmps144 rfl rfl ?_; refine V304 ?_; refine V102 ?_; clear hs; intro g2 w2 hs; refine V857 ?_; refine Z.only [0, 2] rfl ?_; refine V858 ?_; refine V689 ?_; refine V168 ?_; rintro v1_6 w1_6 ⟨rfl, hy⟩; replace hs := U0 (hs.call hy); clear hy; refine V857 ?_; refine Z.only [0, 2] rfl ?_; refine V303 ?_; refine V111 ?_; refine V51 ?_; refine V860 ?_; clear hs; intro ws hs; replace hs := U1 hs; replace hs := U2 hs; refine V857 ?_; refine V43 ?_; refine V90 ?_; refine Z.out1 J135 ?_; exact ⟨_, rfl, rfl, Jn hs⟩
def IsPart (lc : Int) (l : List Int) (v : Value) (w w' : World) : Prop := ∃ B co, v = .agg #[.int .i64 lc, .slice B l.length l.length] ∧ St w [] w' [Ent.row (.slice B l.length co) 5 1 l.length (ints .u8 l)]
theorem built_ok (lc : Int) (A : Option Addr) (n c : Nat) (fs : List (Int × Int)) (w : World) (hx : Sx w [] A (fs.flatMap encF)) (hl : fs.length = n) (hn : n ≤ 1000) (hg : ∀ f ∈ fs, GoodF f) (h0 : chkA fs = 0) :
    Calls Tryz.prog 146 #[.int .i64 lc, .slice A n c] w (Ret fun v w' => IsPart lc (pk (fs.flatMap fldF)) v w w') := by
  have hs := St.start w; have hfl := flatF_length h0; have hpl := pk_length (fs.flatMap fldF); refine Z.enter func146 rfl ntmps146 rfl rfl ?_; refine V0 ?_; refine V274 ?_; clear hs; intro g4 w4 hs; refine V857 ?_; refine Z.only [0, 1, 4] rfl ?_; refine V858 ?_; refine V2 ?_; refine Z.ZO.alloc rfl rfl (by rfl) zeroValue208 rfl hs ?_; clear hs; intro g5 w5 hs; refine V157 ?_; refine V858 ?_; replace hs := WrL_start hs; refine V18 ?_; refine V2 ?_; refine Z.ZO.call rfl rfl (by rfl) rfl rfl call124 rfl (putAll_any g5 _ _ [] A n c fs _ hs.lend (hx.lent hs) hl hn J16 hg) ?_; rintro v2_1 w2_1 ⟨sv1, rfl, hz⟩; replace hs := hs.regain hz; rw [h0]; have er : resA [] fs = fs.flatMap fldF := by unfold resA; rw [if_pos h0]; rfl
  rw [er] at hs; refine V62 ?_; refine Z.ZO.call rfl rfl (by rfl) rfl rfl call145 rfl (must_ok _ 2 _ J16) ?_; rintro v2_3 w2_3 ⟨rfl, hy⟩; replace hs := U0 (hs.call hy); clear hy; refine V857 ?_; refine Z.only [0, 4, 5] rfl ?_; refine V858 ?_; refine V2 ?_; refine Z.ZO.call rfl rfl (by rfl) rfl rfl call128 rfl (wbytes_any g5 _ sv1 _ _ hs.lend J5) ?_; rintro v3_0 w3_0 hz; replace hs := hs.regain hz; obtain ⟨B, co, rfl, hco, -, -⟩ := row_slv hs (j := 0) rfl; refine V1 ?_; refine Z.only [0, 4, 6] rfl ?_; refine V333 ?_; refine V29 ?_; refine V859 ?_; refine V29 ?_; refine Z.l rfl rfl (by rfl) (Z.keepS hs) (Z.Yd.cut3 0 (pk (fs.flatMap fldF)).length (pk (fs.flatMap fldF)).length rfl rfl rfl rfl underlying48 sizeOf5 (fun hG => ⟨J2, J2, J2, J2, J2⟩)) ?_; refine V164 ?_; rw [slA_zero]; replace hs := U11 hs; refine V860 ?_; clear hs; intro ws hs; replace hs := U1 hs; replace hs := U2 hs; refine V857 ?_; refine V426 ?_; refine Z.out1 J48 ?_; exact ⟨_, rfl, B, co, rfl, hs.sub J16⟩
theorem element_ok (k : Nat) (cap : Array Value) (lc : Int) (l : List Int) (w : World) (hk : ∀ args w, (callFunc k args).run Tryz.prog w = .ok (.enter k args) w)
    (hof : ∀ W L, St w [] W L → Calls Tryz.prog k cap W (Ret fun v w' => IsPart lc l v W w')) :
    Calls Tryz.prog 142 #[.func (.func k) #[] cap] w (Ret fun v w' => ∃ u, v = .tuple #[u, .int .i64 0] ∧ IsPart lc l u w w') := by
  have hs := St.start w; refine Z.enterD func142 rfl ntmps142 rfl rfl ?_; refine V0 ?_; refine V274 ?_; clear hs; intro g2 w2 hs; refine V35 ?_; clear hs; intro g3 w3 hs; refine V857 ?_; refine Z.only [0, 2, 3] rfl ?_; refine V858 ?_; refine V145 ?_; refine V857 ?_; refine Z.only [0, 2, 3] rfl ?_; refine V858 ?_; refine V62 ?_; refine Z.ZO.call rfl rfl (by rfl) rfl rfl hk J34 (hof _ _ hs) ?_; rintro v2_1 w2_1 ⟨B, co, rfl, hy⟩; replace hs := U0 (hs.call hy); clear hy; refine V860 ?_; clear hs; intro ws hs; replace hs := U1 hs; replace hs := U2 hs; refine V451 ?_; clear hs; intro ws hs; replace hs := U1 hs; refine V857 ?_; refine V400 ?_; rintro vD wD ⟨rfl, hy⟩; replace hs := hs.call hy; refine ⟨[_, _], (by exact ⟨⟨_, rfl, Z.rvcA hs isAgg77 J0 J20⟩, ⟨_, rfl, Z.rvc hs isAgg31 J0 rfl⟩, trivial⟩), ?_⟩; exact ⟨_, rfl, _, rfl, B, co, rfl, hs.sel [0] J12⟩


theorem flat_ints (k : IntKind) (l : List Int) : l.flatMap (fun x => [Value.int k x]) = ints k l := by
  induction l with
  | nil => rfl
  | cons x l ih => rw [List.flatMap_cons, ih]; rfl
theorem rd_bytes {W : World} {A : Option Addr} {n c : Nat} (z : Rd Tryz.prog W 48 [.slice A n c]) : ∃ l : List Int, l.length = n ∧ n ≤ maxLen ∧ (∀ x ∈ l, 0 ≤ x ∧ x < 256) ∧ Sl W A (ints .u8 l) := by
  have c1 : Tryz.prog.cellsOf 5 = 1 := by kernel_rfl
  obtain ⟨xs, h1, h2, h3, h4, h5⟩ := Rd.rows (fun x : Int => [Value.int .u8 x]) (fun x => 0 ≤ x ∧ x < 256) underlying48 (by rw [c1]; decide)
    (fun r hr => by
      obtain ⟨x, hx, wx⟩ := Rd.int underlying5 hr; have := wf_u8 wx
      exact ⟨x, hx, this.1, by omega⟩) (fun x => c1.symm) z
  rw [flat_ints] at h5; exact ⟨xs, h1, Nat.le_trans h2 h3, h4, h5⟩


def gsA (l : List Int) (a : Nat) (ws : List Int) : Nat := ws.foldl (fun p w => getA l p w) a
def gsV (l : List Int) : Nat → List Int → List Int
  | _, [] => []
  | a, w :: ws => getV l a w :: gsV l (getA l a w) ws
def gsE (l : List Int) : Nat → List Int → Int
  | _, [] => 0
  | a, w :: ws => if getE l a w = 0 then gsE l (getA l a w) ws else getE l a w
theorem gsA_app (l : List Int) (a : Nat) (xs ys : List Int) : gsA l a (xs ++ ys) = gsA l (gsA l a xs) ys := by simp [gsA]
theorem gsV_app (l : List Int) : ∀ (xs : List Int) (a : Nat) (ys : List Int), gsV l a (xs ++ ys) = gsV l a xs ++ gsV l (gsA l a xs) ys
  | [], a, ys => rfl
  | x :: xs, a, ys => by
    have := gsV_app l xs (getA l a x) ys; simp only [List.cons_append, gsV, this]
    rfl
theorem gsE_app (l : List Int) : ∀ (xs : List Int) (a : Nat) (ys : List Int), gsE l a xs = 0 → gsE l a (xs ++ ys) = gsE l (gsA l a xs) ys
  | [], a, ys, _ => rfl
  | x :: xs, a, ys, h => by
    by_cases hx : getE l a x = 0
    · simp only [gsE, if_pos hx, List.cons_append] at h ⊢
      have := gsE_app l xs (getA l a x) ys h; rw [this]
      rfl
    simp only [gsE, if_neg hx] at h; exact absurd h hx
theorem gsV_length (l : List Int) : ∀ (ws : List Int) (a : Nat), (gsV l a ws).length = ws.length
  | [], _ => rfl
  | w :: ws, a => by simp [gsV, gsV_length l ws]
theorem gsE_at {l : List Int} {a k : Nat} {ws : List Int} {x : Int} (h : ws[k]? = some x) (h0 : gsE l a (ws.take k) = 0) (hx : getE l (gsA l a (ws.take k)) x ≠ 0) : gsE l a ws = getE l (gsA l a (ws.take k)) x := by
  have e : ws = ws.take (k + 1) ++ ws.drop (k + 1) := (List.take_append_drop _ _).symm; rw [← take_snoc h] at e
  conv => lhs; rw [e, List.append_assoc, gsE_app l _ _ _ h0]
  simp [gsE, hx]
theorem gs_snoc {l : List Int} {a k : Nat} {ws : List Int} {x : Int} (h : ws[k]? = some x) (h0 : gsE l a (ws.take k) = 0) (hx : getE l (gsA l a (ws.take k)) x = 0) :
    gsE l a (ws.take (k + 1)) = 0 ∧ gsA l a (ws.take (k + 1)) = getA l (gsA l a (ws.take k)) x ∧ gsV l a (ws.take (k + 1)) = gsV l a (ws.take k) ++ [getV l (gsA l a (ws.take k)) x] := by
  rw [← take_snoc h]; refine ⟨?_, ?_, ?_⟩
  · rw [gsE_app l _ _ _ h0]; simp [gsE, hx]
  · rw [gsA_app]; rfl
  rw [gsV_app]; rfl
theorem getA_le {l : List Int} {a : Nat} {w : Int} (h : a ≤ 8 * l.length) : getA l a w ≤ 8 * l.length := by
  unfold getA
  split
  · rename_i h1
    unfold getE at h1
    split at h1
    · simp at h1
    split at h1
    · simp at h1
    omega
  exact h
theorem gsA_le {l : List Int} : ∀ {ws : List Int} {a : Nat}, a ≤ 8 * l.length → gsA l a ws ≤ 8 * l.length
  | [], a, h => h
  | w :: ws, a, h => gsA_le (ws := ws) (getA_le h)
def dfL (ge gf gr go g T To : Nat) (svb so : Value) (e : Int) (from_ a : Nat) : List Ent :=
  [Ent.blk ge 31 #[.int .i64 e], Ent.blk gf 3 #[.int .i64 (from_ : Int)], Ent.blk gr 187 #[.pointer (some ⟨g, 0, none⟩)], Ent.blk go To #[so], Ent.blk g T #[svb, .int .i64 (a : Int)]]

theorem getV8 (l : List Int) (a : Nat) : 0 ≤ getV l a 8 ∧ getV l a 8 < 256 := by
  unfold getV
  split
  · have h := val_lt (bitsAt l a (8 : Int).toNat)
    have h2 : (bitsAt l a (8 : Int).toNat).length ≤ 8 := by simp [bitsAt]; omega
    have h3 : 2 ^ (bitsAt l a (8 : Int).toNat).length ≤ 2 ^ 8 := Nat.pow_le_pow_right J12 h2; have h4 : (2 : Nat) ^ 8 = 256 := by decide
    omega
  decide
theorem octet_any (g T : Nat) (sv : Value) (l : List Int) (at_ : Nat) (x : Int) (w : World) (hs : St w (idsOf (RdL g T sv l at_)) w (RdL g T sv l at_)) (hl : l.length ≤ 1000000) (ha : at_ ≤ 8 * l.length) (hb : ∀ x ∈ l, 0 ≤ x ∧ x < 256) :
    Calls Tryz.prog 193 #[.pointer (some ⟨g, 0, none⟩), .int .i64 x] w (Ret fun r w' => r = .tuple #[.int .u8 (getV l at_ 8), .int .i64 (getE l at_ 8)] ∧ St w (idsOf (RdL g T sv l at_)) w' (RdL g T sv l (getA l at_ 8))) := by
  generalize hM : idsOf (RdL g T sv l at_) = M at *; have hv := getV8 l at_; refine Z.enter func193 rfl ntmps193 rfl rfl ?_; refine V538 ?_; refine V858 ?_; refine V62 ?_; refine Z.ZO.call rfl rfl (by rfl) rfl rfl call159 rfl (rget_any g T sv l at_ 8 _ hs.all hl ha hb) ?_; rintro v1_1 w1_1 ⟨rfl, hz⟩; replace hs := hs.regainAll hz; refine V126 ?_; refine Z.only [6, 7] rfl ?_; refine V303 ?_; refine V49 ?_; refine V184 ?_; refine V257 ?_; refine V162 ?_; exact ⟨_, rfl, rfl, hs⟩
theorem back8 (ge gf gr go g T : Nat) (svb so : Value) (e : Int) (from_ a : Nat) (w : World) (hs : St w (idsOf (dfL ge gf gr go g T 48 svb so e from_ a)) w (dfL ge gf gr go g T 48 svb so e from_ a)) :
    CallsDf Tryz.prog 203 #[.pointer (some ⟨ge, 0, none⟩), .pointer (some ⟨gf, 0, none⟩), .pointer (some ⟨gr, 0, none⟩), .pointer (some ⟨go, 0, none⟩)] w (fun _ w' =>
      St w (idsOf (dfL ge gf gr go g T 48 svb so e from_ a)) w' (dfL ge gf gr go g T 48 svb (if e = 0 then so else .slice none 0 0) e from_ (if e = 0 then a else from_))) := by
  generalize hM : idsOf (dfL ge gf gr go g T 48 svb so e from_ a) = M at *; simp only [dfL] at hs; refine Z.enterDf func203 rfl ntmps203 rfl rfl ?_; refine V0 ?_; refine Z.l rfl rfl (by rfl) (Z.keepS hs) (by exact Z.Yd.load rfl isAgg31 (fun _ => Z.cellB J0 rfl)) ?_; refine V1 ?_; refine Z.only [1, 2, 3, 5] rfl ?_; refine V6 ?_; refine Z.cond rfl (fun hc0 => ?_) (fun hc0 => ?_)
  · (try simp at hc0)
    refine V42 ?_; refine V165 ?_; refine V9 ?_; refine V12 ?_; refine V522 ?_; clear hs; intro ws hs; replace hs := U1 hs; refine V595 ?_; clear hs; intro ws hs; replace hs := U1 hs; refine V857 ?_; refine V77 ?_; exact ⟨_, rfl, by rw [if_neg hc0, if_neg hc0]; exact hs⟩
  first
    | (exfalso; simp at hc0 <;> omega)
    | (
      (try simp at hc0)
      refine V323 ?_; exact ⟨_, rfl, by rw [if_pos hc0, if_pos hc0]; exact hs⟩
      )
theorem each8 (g T : Nat) (svb : Value) (l : List Int) (a : Nat) (A : Option Addr) (n c : Nat) (xs : List Int) (w : World) (hs : St w (idsOf (RdL g T svb l a)) w (RdL g T svb l a))
    (hx : Sx w (idsOf (RdL g T svb l a)) A (ints .i64 xs)) (hl : xs.length = n) (hn : n ≤ 1000000) (hll : l.length ≤ 1000000) (ha : a ≤ 8 * l.length) (hb : ∀ x ∈ l, 0 ≤ x ∧ x < 256) :
    Calls Tryz.prog 192 #[.pointer (some ⟨g, 0, none⟩), .slice A n c, .func (.func 193) #[.pointer (some ⟨g, 0, none⟩)] #[]] w (Ret fun r w' => ∃ so, r = .tuple #[so, .int .i64 (gsE l a (List.replicate n 8))] ∧
      St w (idsOf (RdL g T svb l a)) w' (RdL g T svb l (if gsE l a (List.replicate n 8) = 0 then gsA l a (List.replicate n 8) else a) ++ [Ent.row so 5 1 (if gsE l a (List.replicate n 8) = 0 then n else 0) (ints .u8 (if gsE l a (List.replicate n 8) = 0 then gsV l a (List.replicate n 8) else []))])) := by
  obtain ⟨ds, hds⟩ : ∃ ds, ds = List.replicate n (8 : Int) := ⟨_, rfl⟩; have hdl : ds.length = n := by rw [hds]; simp
  rw [← hds]; have hd8 : ∀ k, k < n → ds[k]? = some 8 := fun k hk => by rw [hds, List.getElem?_replicate, if_pos hk]
  clear hds; generalize hM : idsOf (RdL g T svb l a) = M at *; have hnil : St w M w (RdL g T svb l a ++ [Ent.row (.slice none 0 0) 5 1 0 []]) := (hs.nil 5 1).sel [1, 2, 0] J12; clear hs; have hs := hnil; clear hnil; replace hs := U4 hs; refine Z.enterD func192 rfl ntmps192 rfl rfl ?_; refine V91 ?_; clear hs; intro g3 w3 hs; refine V2 ?_; refine V238 ?_; clear hs; intro g6 w6 hs; refine V35 ?_; clear hs; intro g7 w7 hs; refine V857 ?_; refine Z.only [1, 2, 3, 6, 7] rfl ?_; refine V30 ?_; refine V165 ?_; refine V313 ?_; refine V857 ?_; refine Z.only [1, 2, 3, 6, 7, 14] rfl ?_; refine V6 ?_; refine Z.cond rfl (fun h => absurd h J16) (fun hc1 => ?_); refine V862 ?_; refine V165 ?_; refine V12 ?_; refine V104 ?_; refine V2 ?_; refine V354 ?_; clear hs; intro g8 w8 hs; refine V183 ?_; clear hs; intro ws hs; replace hs := U1 hs; refine V857 ?_; refine Z.only [1, 2, 3, 6, 7, 8] rfl ?_; refine V858 ?_; refine V145 ?_; refine V857 ?_; refine Z.only [1, 2, 6, 7] rfl ?_; replace hs : St w M _ (RdL g T svb l a ++ [Ent.blk g8 3 #[.int .i64 (a : Int)], Ent.blk g7 31 #[.int .i64 0], Ent.blk g6 48 #[.slice none 0 0], Ent.blk g3 187 #[.pointer (some ⟨g, 0, none⟩)], Ent.row (.slice none 0 0) 5 1 0 []]) := hs.sel [4, 5, 0, 1, 2, 3, 6] J12; refine V125 ?_; refine V248 ?_; refine Z.only [2, 6, 7, 20, 21, 22] rfl ?_; refine V861 ?_
  refine Z.loopk (ι := Nat × Value) [2, 6, 7, 20, 21] rfl (fun k => [(22, [], .int .i64 (k.1 : Int))]) (fun k wr => k.1 ≤ n ∧ gsE l a (ds.take k.1) = 0 ∧ St w M wr (RdL g T svb l (gsA l a (ds.take k.1)) ++ [Ent.blk g8 3 #[.int .i64 (a : Int)], Ent.blk g7 31 #[.int .i64 0], Ent.blk g6 48 #[k.2], Ent.blk g3 187 #[.pointer (some ⟨g, 0, none⟩)], Ent.row k.2 5 1 k.1 (ints .u8 (gsV l a (ds.take k.1)))])) (fun k => n - k.1) (0, .slice none 0 0) J6 ⟨by omega, rfl, hs⟩ ?_; clear hs; rintro ⟨k, so⟩ w1 ⟨hkn, hz, hs⟩; refine Z.only [2, 6, 7, 20, 21, 22] rfl ?_
  (try dsimp only at hs)
  dsimp only at hkn hz; replace hs := U4 hs; refine V121 ?_; refine Z.only [2, 6, 7, 20, 21, 22, 23] rfl ?_; refine V210 ?_; refine Z.cond rfl (fun hc6 => ?_) (fun hc6 => ?_)
  · (try simp at hc6)
    obtain ⟨b, off, rfl, hx⟩ := hx.some J92; have hwk : ds[k]? = some 8 := hd8 k J5; have hga := gsA_le (l := l) (ws := ds.take k) ha; refine V272 ?_; refine V21 ?_; refine Z.l rfl rfl (by rfl) (Z.keepS hs) (by exact Z.Yd.load rfl isAgg3 (fun hG => Z.cellXi J72 J2 J2)) ?_; refine V1 ?_; refine Z.only [2, 6, 7, 10, 20, 21, 22] rfl ?_; refine V541 ?_; refine Z.ZO.call rfl rfl (by rfl) rfl rfl call193 rfl (octet_any g T svb l _ _ _ (hs.lend (L1 := RdL _ _ _ _ _)) hll hga hb) ?_; rintro v8_2 w8_2 ⟨rfl, hzz⟩; replace hs := hs.regain (L1 := RdL _ _ _ _ _) hzz; replace hs := U4 hs; refine V126 ?_; refine Z.only [2, 6, 7, 11, 12, 20, 21, 22] rfl ?_; refine V84 ?_; refine Z.only [2, 6, 7, 11, 12, 20, 21, 22, 33] rfl ?_; refine V6 ?_; refine Z.cond rfl (fun hc9 => ?_) (fun hc9 => ?_)
    · (try simp at hc9)
      refine V0 ?_; refine V62 ?_; refine V119 ?_; clear hs; intro ws hs; replace hs := U1 hs; refine V451 ?_; clear hs; intro ws hs; replace hs := U1 hs; refine V857 ?_; refine V337 ?_
      repeat (first | refine Z.rthen ?_ | refine Z.rblock ?_ | refine Z.rscope ?_)
      refine V432 ?_; rintro vD wD hzz; replace hs := St.regain (L1 := dfL _ _ _ _ _ _ _ _ _ _ _ _) (L2 := [_, _]) (hs.sel [3, 2, 5, 4, 0, 1, 6] J12) hzz; simp only [dfL, List.cons_append, List.nil_append] at hs; refine ⟨[_, _], J27, ?_⟩; have e := gsE_at hwk hz hc9; rw [if_neg hc9, if_neg hc9] at hs; refine ⟨_, rfl, _, by rw [if_neg hc9, e]; rfl, ?_⟩; rw [if_neg (by rw [e]; exact hc9), if_neg (by rw [e]; exact hc9), if_neg (by rw [e]; exact hc9)]; exact (hs.nil 5 1).sel [5, 6, 0] J12
    (try simp at hc9)
    refine V489 ?_; refine V73 ?_; refine V62 ?_; refine Z.ZO.lit rfl rfl (by rfl) rfl (by intro W; go_simp; exact rfl) hs ?_; clear hs; intro g37 w37 hs; refine V2 ?_; refine V86 ?_; clear hs; intro g38 cap38 w38 hs; replace hs := U3 hs; refine V595 ?_; clear hs; intro ws hs; replace hs := U1 hs; refine V857 ?_; refine Z.only [2, 6, 7, 20, 21, 22] rfl ?_; refine V332 ?_; refine Z.only [2, 6, 7, 20, 21, 22] rfl ?_; refine V6 ?_; obtain ⟨e1, e2, e3⟩ := gs_snoc hwk hz hc9; have e4 : ints .u8 (gsV l a (ds.take k)) ++ [.int .u8 (getV l (gsA l a (ds.take k)) 8)] = ints .u8 (gsV l a (ds.take (k + 1))) := by rw [e3]; simp [ints]
    rw [e4, ← e2] at hs; exact Z.again (k + 1, _) J21 ⟨by simp only; omega, e1, hs⟩ J22
  (try simp at hc6)
  refine V181 ?_; obtain ⟨Ao, co, rfl, -, -, -⟩ := row_slv hs (j := 6) rfl; refine V73 ?_; refine V595 ?_; clear hs; intro ws hs; replace hs := U1 hs; refine V451 ?_; clear hs; intro ws hs; replace hs := U1 hs; refine V857 ?_; refine V337 ?_; refine V432 ?_; rintro vD wD hzz; replace hs := St.regain (L1 := dfL _ _ _ _ _ _ _ _ _ _ _ _) (L2 := [_, _]) (hs.sel [3, 2, 5, 4, 0, 1, 6] J12) hzz; simp only [dfL, List.cons_append, List.nil_append] at hs; refine ⟨[_, _], J27, ?_⟩; obtain rfl : k = n := by omega
  rw [List.take_of_length_le J5] at hz hs; simp only [if_true] at hs ⊢; refine ⟨_, rfl, _, by rw [hz]; rfl, ?_⟩; rw [if_pos hz, if_pos hz, if_pos hz]; exact hs.sel [4, 5, 6] J12

theorem gs8 {l : List Int} : ∀ (n : Nat) {a : Nat}, a + 8 * n ≤ 8 * l.length → gsE l a (List.replicate n 8) = 0 ∧ gsA l a (List.replicate n 8) = a + 8 * n
  | 0, a, _ => ⟨rfl, rfl⟩
  | n + 1, a, h => by
    have h1 : getE l a 8 = 0 := getE_ok (l := l) (a := a) (n := 8) J5 J12; have h2 : getA l a 8 = a + 8 := by unfold getA; rw [if_pos h1]; rfl
    obtain ⟨h3, h4⟩ := gs8 (l := l) n (a := a + 8) J5; refine ⟨?_, ?_⟩
    · simp only [List.replicate_succ, gsE]
      rw [if_pos h1, h2, h3]
    have e : gsA l a (List.replicate (n + 1) 8) = gsA l (getA l a 8) (List.replicate n 8) := rfl; rw [e, h2, h4]
    omega
def gbE (l : List Int) (a : Nat) (n : Int) : Int := if n < 0 then 2 else if ((8 * l.length : Int) - a) / 8 < n then 5 else 0
def gbV (l : List Int) (a : Nat) (n : Int) : List Int := if gbE l a n = 0 then gsV l a (List.replicate n.toNat 8) else []
def gbA (l : List Int) (a : Nat) (n : Int) : Nat := if gbE l a n = 0 then a + 8 * n.toNat else a
theorem rgetbytes_any (g T : Nat) (svb : Value) (l : List Int) (a : Nat) (n : Int) (w : World) (hs : St w (idsOf (RdL g T svb l a)) w (RdL g T svb l a))
    (hll : l.length ≤ 1000000) (ha : a ≤ 8 * l.length) (hb : ∀ x ∈ l, 0 ≤ x ∧ x < 256) :
    Calls Tryz.prog 168 #[.pointer (some ⟨g, 0, none⟩), .int .i64 n] w (Ret fun r w' => ∃ so, r = .tuple #[so, .int .i64 (gbE l a n)] ∧
      St w (idsOf (RdL g T svb l a)) w' (RdL g T svb l (gbA l a n) ++ [Ent.row so 5 1 (gbV l a n).length (ints .u8 (gbV l a n))])) := by
  generalize hM : idsOf (RdL g T svb l a) = M at *; refine Z.enter func168 rfl ntmps168 rfl rfl ?_; refine V151 ?_; refine V378 ?_; refine V6 ?_; refine V63 ?_; refine V363 ?_; refine V313 ?_; refine V1 ?_; refine Z.only [0, 1, 6] rfl ?_; refine V6 ?_; refine Z.cond rfl (fun h => absurd h J16) (fun hc1 => ?_); refine V0 ?_; refine V184 ?_; refine Z.only [0, 1, 9] rfl ?_; refine V6 ?_; refine Z.cond rfl (fun hc3 => ?_) (fun hc3 => ?_)
  · (try simp at hc3)
    refine V0 ?_; refine V280 ?_
    repeat (first | refine Z.rthen ?_ | refine Z.rblock ?_ | refine Z.rscope ?_)
    refine V162 ?_; have e : gbE l a n = 2 := by unfold gbE; rw [if_pos J5]
    refine ⟨_, rfl, _, by rw [e], ?_⟩; unfold gbA gbV; rw [e]; exact (hs.nil 5 1).sel [1, 2, 0] J12
  (try simp at hc3)
  refine V0 ?_; refine V527 ?_; refine Z.ZO.call rfl rfl (by rfl) rfl rfl call166 rfl (rleft_any g T svb l a _ hs.all hll ha) ?_; rintro v5_2 w5_2 ⟨rfl, hz⟩; replace hs := hs.regainAll hz; refine V117 ?_; refine V31 ?_; refine Z.only [0, 1, 12] rfl ?_; refine V6 ?_; refine Z.cond rfl (fun hc5 => ?_) (fun hc5 => ?_)
  · (try simp at hc5)
    refine V0 ?_; refine V280 ?_
    repeat (first | refine Z.rthen ?_ | refine Z.rblock ?_ | refine Z.rscope ?_)
    refine V162 ?_; have e : gbE l a n = 5 := by unfold gbE; rw [if_neg J5, if_pos J5]
    refine ⟨_, rfl, _, by rw [e], ?_⟩; unfold gbA gbV; rw [e]; exact (hs.nil 5 1).sel [1, 2, 0] J12
  (try simp at hc5)
  refine V68 ?_; refine V858 ?_; have e : gbE l a n = 0 := by unfold gbE; rw [if_neg J5, if_neg J5]
  obtain ⟨m, rfl⟩ := Int.eq_ofNat_of_zero_le (show 0 ≤ n by omega); have hm : a + 8 * m ≤ 8 * l.length := by omega
  obtain ⟨e1, e2⟩ := gs8 (l := l) m hm; refine V18 ?_; refine V62 ?_; refine Z.ZO.make1 (m := m) (i0 := Tryz.t3) (bytes := 8) rfl rfl (by rfl) hs underlying34 J3 rfl rfl rfl rfl rfl rfl J5 J17 ?_; clear hs; intro g20 w20 hs; refine V11 ?_; have e0 : List.replicate m (Value.int .i64 0) = ints .i64 (List.replicate m 0) := by simp [ints]
  rw [e0] at hs; replace hs := hs.rot (L1 := [_]); refine V2 ?_; refine Z.ZO.call rfl rfl (by rfl) rfl rfl call192 rfl (each8 g T svb l a _ m m (List.replicate m 0) _ (hs.lend (L1 := RdL _ _ _ _ _)) (Z.row_lentv (L1 := RdL _ _ _ _ _) hs (j := 0) rfl) J16 J5 hll ha hb) ?_; rintro v7_5 w7_5 ⟨so, rfl, hz⟩; replace hs := hs.regain (L1 := RdL _ _ _ _ _) hz; refine V259 ?_; refine V857 ?_; refine V257 ?_; refine V162 ?_; refine ⟨_, rfl, so, by rw [e, e1], ?_⟩; rw [e1, if_pos rfl, if_pos rfl, if_pos rfl, e2] at hs; unfold gbA gbV; rw [e, if_pos rfl, if_pos rfl, gsV_length, Int.toNat_natCast, List.length_replicate]; exact hs.sel [0, 1, 2] J12

def vw (f : Int × Int) : Nat := (f.2 % 18446744073709551616 % 65).toNat
def vv (f : Int × Int) : Int := if vw f < 64 then f.1 % 2 ^ vw f else f.1


theorem val_fld (v : Nat) : ∀ w, val (fld v w) = v % 2 ^ w := by
  have h : ∀ (bs cs : List Bool), val (bs ++ cs) = val bs * 2 ^ cs.length + val cs := by
    have key : ∀ (cs : List Bool) (a : Nat), cs.foldl (fun v b => 2 * v + b.toNat) a = a * 2 ^ cs.length + cs.foldl (fun v b => 2 * v + b.toNat) 0 := by
      intro cs
      induction cs with
      | nil => intro a; simp
      | cons c cs ih =>
        intro a; simp only [List.foldl_cons, List.length_cons]; rw [ih (2 * a + c.toNat), ih (2 * 0 + c.toNat), Nat.pow_succ, Nat.add_mul, Nat.mul_zero, Nat.zero_add, ← Nat.mul_assoc, Nat.mul_comm (a * 2 ^ cs.length) 2, ← Nat.mul_assoc, Nat.add_assoc]
    intro bs cs; unfold val; rw [List.foldl_append]; exact key cs _
  intro w
  induction w with
  | zero => simp [fld, val, Nat.mod_one]
  | succ w ih =>
    have e : fld v (w + 1) = [v.testBit w] ++ fld v w := rfl; rw [e, h, ih, fld_length]; have e2 : val [v.testBit w] = (v.testBit w).toNat := by simp [val]
    rw [e2, Nat.toNat_testBit, Nat.pow_succ, Nat.mod_mul]; rw [Nat.mul_comm (2 ^ w)]
    omega
theorem unb_pk (bs : List Bool) : unb (pk bs) = pad bs := by
  apply List.ext_getElem?
  intro k
  by_cases hk : k < (pk bs).length * 8
  · rw [unb_get hk]
    have hl := pk_length bs; have e : elt (pk bs) ((k : Int) / 8) = (byt bs (k / 8) : Int) := by
      have := elt_pkn (bs := bs) (m := (bs.length + 7) / 8) (j := k / 8) J5; rw [← this]; unfold pk
      congr 1
    rw [e, Int.toNat_natCast]; have hb : (byt bs (k / 8)).testBit (7 - k % 8) = bt bs k := by
      have hn := bn_le bs; have hbn : ∀ i, bn bs i = (bt bs i).toNat := fun _ => rfl
      have key : ∀ (b0 b1 b2 b3 b4 b5 b6 b7 : Bool) (r : Nat), r < 8 → (128 * b0.toNat + 64 * b1.toNat + 32 * b2.toNat + 16 * b3.toNat + 8 * b4.toNat + 4 * b5.toNat + 2 * b6.toNat + b7.toNat).testBit (7 - r) = [b0, b1, b2, b3, b4, b5, b6, b7].getD r false := by
        intro b0 b1 b2 b3 b4 b5 b6 b7 r hr; have h8 : r = 0 ∨ r = 1 ∨ r = 2 ∨ r = 3 ∨ r = 4 ∨ r = 5 ∨ r = 6 ∨ r = 7 := by omega
        rcases h8 with rfl | rfl | rfl | rfl | rfl | rfl | rfl | rfl <;> revert b0 b1 b2 b3 b4 b5 b6 b7 <;> decide
      have := key (bt bs (8 * (k / 8))) (bt bs (8 * (k / 8) + 1)) (bt bs (8 * (k / 8) + 2)) (bt bs (8 * (k / 8) + 3)) (bt bs (8 * (k / 8) + 4)) (bt bs (8 * (k / 8) + 5)) (bt bs (8 * (k / 8) + 6)) (bt bs (8 * (k / 8) + 7)) (k % 8) J5; unfold byt bn; rw [this]; have h8 : k % 8 = 0 ∨ k % 8 = 1 ∨ k % 8 = 2 ∨ k % 8 = 3 ∨ k % 8 = 4 ∨ k % 8 = 5 ∨ k % 8 = 6 ∨ k % 8 = 7 := by omega
      rcases h8 with h | h | h | h | h | h | h | h <;> rw [h] <;> simp <;> congr 1 <;> omega
    rw [hb]; unfold pad bt; rw [List.getD_eq_getElem?_getD, List.getElem?_append]
    split
    · rename_i h
      rw [List.getElem?_eq_getElem h]
      rfl
    rename_i h
    rw [List.getElem?_eq_none J5, List.getElem?_replicate, if_pos J5]
    rfl
  have h1 := unb_length (pk bs); have h2 := pad_length bs; have h3 := pk_length bs; rw [List.getElem?_eq_none J5, List.getElem?_eq_none J5]

theorem snoc_ind {α : Type} {p : List α → Prop} (h0 : p []) (h1 : ∀ l x, p l → p (l ++ [x])) (l : List α) : p l := by
  rw [← List.reverse_reverse l]
  induction l.reverse with
  | nil => exact h0
  | cons x r ih => rw [List.reverse_cons]; exact h1 _ _ ih
theorem val_app (a b : List Bool) : val (a ++ b) = val a * 2 ^ b.length + val b := by
  refine snoc_ind (p := fun b => val (a ++ b) = val a * 2 ^ b.length + val b) ?_ (fun b x ih => ?_) b
  · simp [val]
  rw [← List.append_assoc, val_snoc, ih, val_snoc, List.length_append, List.length_singleton, Nat.pow_succ, ← Nat.mul_assoc]
  omega
theorem val_mid {bs : List Bool} {a n : Nat} (h : a + n ≤ bs.length) : val ((bs.drop a).take n) = val bs / 2 ^ (bs.length - a - n) % 2 ^ n := by
  have e : bs = bs.take a ++ ((bs.drop a).take n ++ bs.drop (a + n)) := by
    rw [← List.drop_drop, List.take_append_drop, List.take_append_drop]
  have hl : ((bs.drop a).take n).length = n := by simp; omega
  have hl2 : (bs.drop (a + n)).length = bs.length - a - n := by simp; omega
  have h1 := val_lt (bs.drop (a + n)); have h2 := val_lt ((bs.drop a).take n); rw [hl2] at h1; rw [hl] at h2; have key : val bs = (val (bs.take a) * 2 ^ n + val ((bs.drop a).take n)) * 2 ^ (bs.length - a - n) + val (bs.drop (a + n)) := by
    conv => lhs; rw [e]
    rw [val_app, val_app, List.length_append, hl, hl2, Nat.pow_add, Nat.add_mul, Nat.mul_assoc]
    omega
  rw [key, Nat.mul_comm _ (2 ^ (bs.length - a - n)), Nat.mul_add_div (Nat.pow_pos J12), Nat.div_eq_of_lt h1, Nat.add_zero, Nat.mul_comm, Nat.mul_add_mod, Nat.mod_eq_of_lt h2]
def num (l : List Int) : Int := l.foldl (fun v x => 256 * v + x) 0
theorem num_snoc (l : List Int) (x : Int) : num (l ++ [x]) = 256 * num l + x := by simp [num]
theorem unb_app (a b : List Int) : unb (a ++ b) = unb a ++ unb b := by simp [unb]
theorem val_unb {l : List Int} (hb : ∀ x ∈ l, 0 ≤ x ∧ x < 256) : (val (unb l) : Int) = num l := by
  refine snoc_ind (p := fun l => (∀ x ∈ l, 0 ≤ x ∧ x < 256) → (val (unb l) : Int) = num l) ?_ (fun l x ih hb => ?_) l hb
  · intro _; simp [val, unb, num]
  have h1 := ih fun y hy => hb y (by simp [hy])
  have hx := hb x J16; rw [unb_app, val_app, num_snoc, ← h1]; have e : unb [x] = fld x.toNat 8 := by simp [unb]
  rw [e, fld_length, val_fld]; have : x.toNat % 2 ^ 8 = x.toNat := Nat.mod_eq_of_lt J5; rw [this]
  omega
theorem num_nonneg {l : List Int} (hb : ∀ x ∈ l, 0 ≤ x ∧ x < 256) : 0 ≤ num l := by rw [← val_unb hb]; omega
theorem getV_num {l : List Int} {a n : Nat} (hb : ∀ x ∈ l, 0 ≤ x ∧ x < 256) (h : a + n ≤ 8 * l.length) (hn : n ≤ 64) : getV l a (n : Int) = num l / 2 ^ (8 * l.length - a - n) % 2 ^ n := by
  have h0 : getE l a (n : Int) = 0 := getE_ok h hn; unfold getV; rw [if_pos h0, ← val_unb hb, Int.toNat_natCast]; unfold bitsAt; have hl := unb_length l; rw [val_mid J5, hl, show l.length * 8 - a - n = 8 * l.length - a - n from by omega]
  push_cast
  rfl
theorem pk_bytes {bs : List Bool} : ∀ x ∈ pk bs, 0 ≤ x ∧ x < 256 := by
  intro x hx; simp only [pk, pkn, List.mem_map] at hx; obtain ⟨j, _, rfl⟩ := hx; have := byt_lt bs j
  omega
theorem pk_num {bs : List Bool} (h : bs.length % 8 = 0) : num (pk bs) = (val bs : Int) := by
  rw [← val_unb pk_bytes, unb_pk]; unfold pad; rw [h]; simp
theorem flat_val {f : Int × Int} {fs : List (Int × Int)} : val ((f :: fs).flatMap fldF) = (f.1.toNat % 2 ^ f.2.toNat) * 2 ^ (fs.flatMap fldF).length + val (fs.flatMap fldF) := by
  rw [List.flatMap_cons, val_app]; unfold fldF; rw [val_fld]

def Byts (l : List Int) : Prop := ∀ x ∈ l, 0 ≤ x ∧ x < 256
def opE (lc : Int) (l : List Int) (want : Int) (n : Int) : Int := if lc ≠ want then 2 else if (l.length : Int) < n then 5 else if (l.length : Int) > n then 4 else 0
theorem Sl.none0 {w : World} {A : Option Addr} {l : List Int} {k : IntKind} {n : Nat} (h : Sl w A (ints k l)) (hl : l.length = n) (hA : A = none) : n = 0 := by
  cases n with
  | zero => rfl
  | succ n =>
    obtain ⟨b, off, e, -⟩ := h (by simp [ints, hl]); rw [hA] at e
    cases e
theorem opened_ok (lc want n : Int) (A : Option Addr) (m c : Nat) (l : List Int) (w : World) (hx : Sx w [] A (ints .u8 l)) (hl : l.length = m) (hm : m ≤ 1000000) (h : opE lc l want n = 0) :
    Calls Tryz.prog 154 #[.agg #[.int .i64 lc, .slice A m c], .int .i64 want, .int .i64 n] w (Ret fun v w' => ∃ g sv, v = .agg #[.pointer (some ⟨g, 0, none⟩)] ∧ St w [] w' (RdL g 242 sv l 0)) := by
  have hs := St.start w; have hz := Sl.none0 hx.sl hl; unfold opE at h
  split at h
  · simp at h
  split at h
  · simp at h
  split at h
  · simp at h
  refine V398 ?_; clear hs; intro g3 w3 hs; refine V696 ?_; clear hs; intro g6 w6 hs; refine V857 ?_; refine V442 ?_; refine V858 ?_; refine V48 ?_; refine V527 ?_; refine V168 ?_; rintro v1_4 w1_4 ⟨rfl, hy⟩; replace hs := U0 (hs.call hy); clear hy; refine V857 ?_; refine V483 ?_; refine Z.ZO.call rfl rfl (by rfl) rfl rfl call145 rfl (must_ok _ 5 _ J45) ?_; rintro v2_5 w2_5 ⟨rfl, hy⟩; replace hs := U0 (hs.call hy); clear hy; refine V857 ?_; refine V483 ?_; refine Z.ZO.call rfl rfl (by rfl) rfl rfl call145 rfl (must_ok _ 4 _ J45) ?_; rintro v3_5 w3_5 ⟨rfl, hy⟩; replace hs := U0 (hs.call hy); clear hy; refine V857 ?_; refine Z.only [3, 6] rfl ?_; refine V858 ?_; refine V8 ?_; refine V73 ?_; refine V2 ?_; refine Z.ZO.call rfl rfl (by rfl) rfl rfl call110 rfl (newreader_any A m c l _ ((hx.st hs).sx) hl J5 hz) ?_; rintro v4_2 w4_2 ⟨g, sv, rfl, hy⟩; replace hs := U0 (hs.call hy); clear hy; refine Z.l rfl rfl (by rfl) (Z.keepS hs) (Z.Yd.buildL [(0, 1)] [.pointer none] rfl rfl J18) ?_; replace hs := U4 hs; refine V860 ?_; clear hs; intro ws hs; replace hs := U1 hs; replace hs := U2 hs; refine V857 ?_; refine Z.only [6] rfl ?_; refine V90 ?_; refine Z.out1 (by exact ⟨⟨_, rfl, Z.rvcA hs isAgg237 J0 (by exact sizeOf237)⟩, trivial⟩) ?_; exact ⟨_, rfl, g, sv, rfl, hs.sel [0, 1] J12⟩
theorem opened_bad (lc want n : Int) (A : Option Addr) (m c : Nat) (l : List Int) (w : World) (hl : l.length = m) (hm : m ≤ 9223372036854775807) (h : opE lc l want n ≠ 0) :
    Calls Tryz.prog 154 #[.agg #[.int .i64 lc, .slice A m c], .int .i64 want, .int .i64 n] w (PanE (opE lc l want n) fun w' => St w [] w' []) := by
  have hs := St.start w
  by_cases h1 : lc = want
  · by_cases h2 : (l.length : Int) < n
    · have e : opE lc l want n = 5 := by unfold opE; rw [if_neg J5, if_pos h2]
      rw [e]; refine V398 ?_; clear hs; intro g3 w3 hs; refine V696 ?_; clear hs; intro g6 w6 hs; refine V857 ?_; refine V442 ?_; refine V858 ?_; refine V48 ?_; refine V527 ?_; refine V168 ?_; rintro v1_4 w1_4 ⟨rfl, hy⟩; replace hs := U0 (hs.call hy); clear hy; refine V857 ?_; refine V483 ?_; refine Z.ZO.callP rfl rfl rfl call145 rfl (must_bad _ 5 _ J45) ?_; rintro c2_5 w2_5 ⟨rfl, hy⟩; replace hs := U0 (hs.call hy); clear hy
      repeat (first | refine Z.pthen ?_ | refine Z.pblock ?_ | refine Z.pscope ?_)
      refine V309 ?_; exact ⟨_, rfl, rfl, Jn hs⟩
    by_cases h3 : (l.length : Int) > n
    · have e : opE lc l want n = 4 := by unfold opE; rw [if_neg J5, if_neg h2, if_pos h3]
      rw [e]; refine V398 ?_; clear hs; intro g3 w3 hs; refine V696 ?_; clear hs; intro g6 w6 hs; refine V857 ?_; refine V442 ?_; refine V858 ?_; refine V48 ?_; refine V527 ?_; refine V168 ?_; rintro v1_4 w1_4 ⟨rfl, hy⟩; replace hs := U0 (hs.call hy); clear hy; refine V857 ?_; refine V483 ?_; refine Z.ZO.call rfl rfl (by rfl) rfl rfl call145 rfl (must_ok _ 5 _ J45) ?_; rintro v2_5 w2_5 ⟨rfl, hy⟩; replace hs := U0 (hs.call hy); clear hy; refine V857 ?_; refine V483 ?_; refine Z.ZO.callP rfl rfl rfl call145 rfl (must_bad _ 4 _ J45) ?_; rintro c3_5 w3_5 ⟨rfl, hy⟩; replace hs := U0 (hs.call hy); clear hy
      repeat (first | refine Z.pthen ?_ | refine Z.pblock ?_ | refine Z.pscope ?_)
      refine V309 ?_; exact ⟨_, rfl, rfl, Jn hs⟩
    exact absurd (by unfold opE; rw [if_neg J5, if_neg h2, if_neg h3]) h
  have e : opE lc l want n = 2 := by unfold opE; rw [if_pos h1]
  rw [e]; refine V398 ?_; clear hs; intro g3 w3 hs; refine V696 ?_; clear hs; intro g6 w6 hs; refine V857 ?_; refine V442 ?_; refine V858 ?_; refine V48 ?_; refine V527 ?_; refine Z.ZO.callP rfl rfl rfl call145 rfl (must_bad _ 2 _ J45) ?_; rintro c1_4 w1_4 ⟨rfl, hy⟩; replace hs := U0 (hs.call hy); clear hy
  repeat (first | refine Z.pthen ?_ | refine Z.pblock ?_ | refine Z.pscope ?_)
  refine V309 ?_; exact ⟨_, rfl, rfl, Jn hs⟩
theorem dbits_ok (g T : Nat) (sv : Value) (l : List Int) (a n : Nat) (w : World) (hs : St w (idsOf (RdL g T sv l a)) w (RdL g T sv l a)) (hl : l.length ≤ 1000000) (hb : Byts l) (h : a + n ≤ 8 * l.length) (hn : n ≤ 62) :
    Calls Tryz.prog 155 #[.agg #[.pointer (some ⟨g, 0, none⟩)], .int .i64 (n : Int)] w (Ret fun v w' => v = .int .i64 (getV l a (n : Int)) ∧ St w (idsOf (RdL g T sv l a)) w' (RdL g T sv l (a + n))) := by
  generalize hM : idsOf (RdL g T sv l a) = M at *; have he := getE_ok h J5; have ha : getA l a (n : Int) = a + n := by unfold getA; rw [if_pos he, Int.toNat_natCast]
  have hv : 0 ≤ getV l a (n : Int) ∧ getV l a (n : Int) < 4611686018427387904 := by
    have h1 : getV l a (n : Int) = (val (bitsAt l a n) : Int) := by unfold getV; rw [if_pos he, Int.toNat_natCast]
    have h2 := val_lt (bitsAt l a n); rw [bitsAt_length J5] at h2; have h3 : 2 ^ n ≤ 2 ^ 62 := Nat.pow_le_pow_right J12 hn; rw [h1]; have h4 : (2 : Nat) ^ 62 = 4611686018427387904 := by decide
    rw [h4] at h3
    omega
  refine Z.enter func155 rfl ntmps155 rfl rfl ?_; refine V91 ?_; clear hs; intro g2 w2 hs; refine V453 ?_; refine V397 ?_; replace hs := hs.rot (L1 := [_]); refine V2 ?_; refine Z.ZO.call rfl rfl (by rfl) rfl rfl call159 rfl (rget_any g T sv l a (n : Int) _ hs.lend hl J5 hb) ?_; rintro v1_3 w1_3 ⟨rfl, hz⟩; replace hs := hs.regain hz; rw [ha] at hs; rw [he]; refine V527 ?_; refine Z.ZO.call rfl rfl (by rfl) rfl rfl call158 rfl (got64_ok _ _) ?_; rintro v1_6 w1_6 ⟨rfl, hy⟩; replace hs := U0 (hs.call hy); clear hy; refine V536 ?_; refine V1 ?_; refine V240 ?_; exact ⟨_, rfl, rfl, hs.sub (List.sublist_append_left _ _)⟩
def powE (lc : Int) (l : List Int) : Int := if opE lc l 26 1 ≠ 0 then opE lc l 26 1 else if num l / 64 ≠ 0 then 9 else 0
def powV (lc : Int) (l : List Int) : Int := if powE lc l = 0 then num l else 0
theorem one_byte {l : List Int} (hb : Byts l) (h : l.length = 1) : 0 ≤ num l ∧ num l < 256 ∧ l = [num l] := by
  obtain ⟨x, rfl⟩ := list1 h; have := hb x J16; simp [num]
  omega
theorem powclear (g T : Nat) (a : Value) (W : World) (hs : St W (idsOf [Ent.blk g T #[a]]) W [Ent.blk g T #[a]]) :
    Calls Tryz.prog 153 #[.pointer (some ⟨g, 0, none⟩)] W (Ret fun v w' => v = .tuple #[] ∧ St W (idsOf [Ent.blk g T #[a]]) w' [Ent.blk g T #[.int .i64 0]]) := by
  generalize idsOf [Ent.blk g T #[a]] = M at *; refine Z.enter func153 rfl ntmps153 rfl rfl ?_; refine V42 ?_; refine V183 ?_; clear hs; intro ws hs; replace hs := U1 hs; refine V857 ?_; refine V77 ?_; exact ⟨_, rfl, rfl, hs⟩
theorem idclear (g T : Nat) (a : Value) (W : World) (hs : St W (idsOf [Ent.blk g T #[a]]) W [Ent.blk g T #[a]]) :
    Calls Tryz.prog 156 #[.pointer (some ⟨g, 0, none⟩)] W (Ret fun v w' => v = .tuple #[] ∧ St W (idsOf [Ent.blk g T #[a]]) w' [Ent.blk g T #[.int .u64 0]]) := by
  generalize idsOf [Ent.blk g T #[a]] = M at *; refine Z.enter func156 rfl ntmps156 rfl rfl ?_; refine V42 ?_; refine V2 ?_; refine Z.ZO.store rfl rfl hs sizeOf123 rfl rfl rfl J1 J9 ?_; clear hs; intro ws hs; replace hs := U1 hs; refine V857 ?_; refine V77 ?_; exact ⟨_, rfl, rfl, hs⟩
theorem decpow_any (lc : Int) (A : Option Addr) (m c : Nat) (l : List Int) (w : World) (hx : Sx w [] A (ints .u8 l)) (hl : l.length = m) (hm : m ≤ 1000000) (hb : Byts l) :
    Calls Tryz.prog 102 #[.agg #[.int .i64 lc, .slice A m c]] w (Ret fun v w' => v = .tuple #[.int .i64 (powV lc l), .int .i64 (powE lc l)] ∧ St w [] w' []) := by
  have hs := St.start w
  by_cases h : opE lc l 26 1 = 0
  · have hl1 : l.length = 1 := by
      unfold opE at h
      split at h
      · simp at h
      split at h
      · simp at h
      split at h
      · simp at h
      omega
    obtain ⟨h0, h256, -⟩ := one_byte hb hl1; have e1 : getV l 0 ((2 : Nat) : Int) = num l / 64 := by
      rw [getV_num hb J5 J5, hl1]; have : num l / 2 ^ (8 * 1 - 0 - 2) % 2 ^ 2 = num l / 64 % 4 := rfl; rw [this]
      omega
    have e2 : getV l 2 ((6 : Nat) : Int) = num l % 64 := by
      rw [getV_num hb J5 J5, hl1]; have : num l / 2 ^ (8 * 1 - 2 - 6) % 2 ^ 6 = num l / 1 % 64 := rfl; rw [this]
      omega
    by_cases h9 : num l / 64 = 0
    · have eE : powE lc l = 0 := by unfold powE; rw [if_neg J5, if_neg J5]
      have eV : powV lc l = num l % 64 := by unfold powV; rw [if_pos eE]; omega
      rw [eE, eV]; refine V518 ?_; clear hs; intro g1 w1 hs; refine V2 ?_; refine V354 ?_; clear hs; intro g2 w2 hs; refine V35 ?_; clear hs; intro g3 w3 hs; refine V92 ?_; refine V858 ?_; refine V549 ?_; rintro v2_1 w2_1 ⟨gr, sv, rfl, hy⟩; replace hs := U0 (hs.call hy); clear hy; refine V696 ?_; clear hs; intro g4 w4 hs; refine V860 ?_; clear hs; intro ws hs; replace hs := U1 hs; replace hs := U2 hs; refine V857 ?_; refine V588 ?_; refine V858 ?_; refine V470 ?_; replace hs := hs.sel [1, 2, 3, 4, 0] J12; replace hs : St w [] _ (RdL gr 242 sv l 0 ++ [_, _, _]) := hs; refine V2 ?_; refine V355 ?_; rintro v3_1 w3_1 ⟨rfl, hz⟩; replace hs := hs.regain hz; rw [e1]; refine V62 ?_; refine Z.ZO.call rfl rfl (by rfl) rfl rfl call145 rfl (must_ok _ 9 _ (by simpa using h9)) ?_; rintro v3_3 w3_3 ⟨rfl, hy⟩; replace hs := U0 (hs.call hy); clear hy; refine V857 ?_; refine V588 ?_; refine V858 ?_; refine V470 ?_; refine V2 ?_; refine Z.ZO.call rfl rfl (by rfl) rfl rfl call155 rfl (dbits_ok gr _ sv l 2 6 _ hs.lend J5 hb J5 J5) ?_; rintro v4_1 w4_1 ⟨rfl, hz⟩; replace hs := hs.regain hz; rw [e2]; refine V183 ?_; clear hs; intro ws hs; replace hs := U1 hs; refine V451 ?_; clear hs; intro ws hs; replace hs := U1 hs; refine V857 ?_; refine V400 ?_; rintro vD wD ⟨rfl, hy⟩; replace hs := hs.call hy; refine ⟨[_, _], J89, ?_⟩; exact ⟨_, rfl, rfl, Jn hs⟩
    have eE : powE lc l = 9 := by unfold powE; rw [if_neg J5, if_pos h9]
    have eV : powV lc l = 0 := by unfold powV; rw [if_neg J5]
    rw [eE, eV]; refine V518 ?_; clear hs; intro g1 w1 hs; refine V2 ?_; refine V354 ?_; clear hs; intro g2 w2 hs; refine V35 ?_; clear hs; intro g3 w3 hs; refine V92 ?_; refine V858 ?_; refine V549 ?_; rintro v2_1 w2_1 ⟨gr, sv, rfl, hy⟩; replace hs := U0 (hs.call hy); clear hy; refine V696 ?_; clear hs; intro g4 w4 hs; refine V860 ?_; clear hs; intro ws hs; replace hs := U1 hs; replace hs := U2 hs; refine V857 ?_; refine V588 ?_; refine V858 ?_; refine V470 ?_; replace hs := hs.sel [1, 2, 3, 4, 0] J12; replace hs : St w [] _ (RdL gr 242 sv l 0 ++ [_, _, _]) := hs; refine V2 ?_; refine V355 ?_; rintro v3_1 w3_1 ⟨rfl, hz⟩; replace hs := hs.regain hz; rw [e1]; refine V62 ?_; refine Z.ZO.callP rfl rfl rfl call145 rfl (must_bad _ 9 _ (by simpa using h9)) ?_; rintro c3_3 w3_3 ⟨rfl, hy⟩; replace hs := U0 (hs.call hy); clear hy; replace hs := hs.sel [2, 3] J12
    repeat (first | refine Z.pthen ?_ | refine Z.pblock ?_ | refine Z.pscope ?_)
    refine V473 ?_; rintro vD wD ⟨rfl, hz⟩; replace hs := hs.regain (L2 := []) hz; refine ⟨[_, _], J89, ?_⟩; exact ⟨_, rfl, rfl, Jn hs⟩
  have eE : powE lc l = opE lc l 26 1 := by unfold powE; rw [if_pos h]
  have eV : powV lc l = 0 := by unfold powV; rw [if_neg J5]
  rw [eE, eV]; refine V518 ?_; clear hs; intro g1 w1 hs; refine V2 ?_; refine V354 ?_; clear hs; intro g2 w2 hs; refine V35 ?_; clear hs; intro g3 w3 hs; refine V92 ?_; refine V858 ?_; refine V513 ?_; refine Z.ZO.callP rfl rfl rfl call154 rfl (opened_bad lc 26 1 A m c l _ hl J5 h) ?_; rintro c2_1 w2_1 ⟨rfl, hy⟩; replace hs := U0 (hs.call hy); clear hy; replace hs := hs.sel [0, 1] J12
  repeat (first | refine Z.pthen ?_ | refine Z.pblock ?_ | refine Z.pscope ?_)
  refine V473 ?_; rintro vD wD ⟨rfl, hz⟩; replace hs := hs.regain (L2 := []) hz; refine ⟨[_, _], J89, ?_⟩; exact ⟨_, rfl, rfl, Jn hs⟩

def wid (lc : Int) : Int := if lc = 27 then 2 else 6
def isId (lc : Int) : Prop := lc = 27 ∨ lc = 28
instance (lc : Int) : Decidable (isId lc) := inferInstanceAs (Decidable (_ ∨ _))
theorem width_ok (lc : Int) (w : World) (h : isId lc) : Calls Tryz.prog 157 #[.int .i64 lc] w (Ret fun v w' => v = .int .i64 (wid lc) ∧ St w [] w' []) := by
  have hs := St.start w; unfold isId at h; refine Z.enter func157 rfl ntmps157 rfl rfl ?_; refine V242 ?_; refine V689 ?_; refine V168 ?_; rintro v1_6 w1_6 ⟨rfl, hy⟩; replace hs := U0 (hs.call hy); clear hy; refine V857 ?_; refine V175 ?_; refine V84 ?_; refine Z.only [11] rfl ?_; refine V6 ?_; refine Z.cond rfl (fun hc2 => ?_) (fun hc2 => ?_)
  · (try simp at hc2)
    refine V154 ?_
    repeat (first | refine Z.rthen ?_ | refine Z.rblock ?_ | refine Z.rscope ?_)
    refine V199 ?_; exact ⟨_, rfl, by unfold wid; rw [if_pos J5], hs⟩
  (try simp at hc2)
  refine V862 ?_; refine V186 ?_; exact ⟨_, rfl, by unfold wid; rw [if_neg J5], hs⟩
theorem width_bad (lc : Int) (w : World) (h : ¬ isId lc) : Calls Tryz.prog 157 #[.int .i64 lc] w (PanE 2 fun w' => St w [] w' []) := by
  have hs := St.start w; unfold isId at h; refine Z.enter func157 rfl ntmps157 rfl rfl ?_; refine V242 ?_; refine V689 ?_; refine Z.ZO.callP rfl rfl rfl call145 rfl (must_bad _ 2 _ J45) ?_; rintro c1_6 w1_6 ⟨rfl, hy⟩; replace hs := U0 (hs.call hy); clear hy
  repeat (first | refine Z.pthen ?_ | refine Z.pblock ?_ | refine Z.pscope ?_)
  refine V309 ?_; exact ⟨_, rfl, rfl, Jn hs⟩
def idE (lc : Int) (l : List Int) : Int := if isId lc then opE lc l lc (wid lc) else 2
def idV (lc : Int) (l : List Int) : Int := if idE lc l = 0 then num l else 0
theorem opE_len {lc want n : Int} {l : List Int} (h : opE lc l want n = 0) : lc = want ∧ (l.length : Int) = n := by
  unfold opE at h
  split at h
  · simp at h
  split at h
  · simp at h
  split at h
  · simp at h
  omega
theorem num_lt {l : List Int} (hb : Byts l) : num l < ((2 ^ (l.length * 8) : Nat) : Int) := by
  have h1 := val_lt (unb l); rw [unb_length] at h1; rw [← val_unb hb]
  omega
theorem getV_all {l : List Int} (hb : Byts l) (h : l.length ≤ 8) : getV l 0 ((8 * l.length : Nat) : Int) = num l := by
  have h0 : getE l 0 ((8 * l.length : Nat) : Int) = 0 := getE_ok J5 J5; unfold getV; rw [if_pos h0, ← val_unb hb, Int.toNat_natCast]; unfold bitsAt; rw [List.drop_zero, List.take_of_length_le (by rw [unb_length]; omega)]
theorem decid_any (lc : Int) (A : Option Addr) (m c : Nat) (l : List Int) (w : World) (hx : Sx w [] A (ints .u8 l)) (hl : l.length = m) (hm : m ≤ 9223372036854775807) (hb : Byts l) :
    Calls Tryz.prog 104 #[.agg #[.int .i64 lc, .slice A m c]] w (Ret fun v w' => v = .tuple #[.int .u64 (idV lc l), .int .i64 (idE lc l)] ∧ St w [] w' []) := by
  have hs := St.start w
  by_cases hi : isId lc
  · by_cases h : opE lc l lc (wid lc) = 0
    · have eE : idE lc l = 0 := by unfold idE; rw [if_pos hi, h]
      have eV : idV lc l = num l := by unfold idV; rw [if_pos eE]
      obtain ⟨-, hlw⟩ := opE_len h; have hw : wid lc = 2 ∨ wid lc = 6 := by unfold wid; split <;> omega
      have hg := getV_all hb J5; have h8 : 8 * wid lc = ((8 * l.length : Nat) : Int) := by omega
      have hge := getE_ok (l := l) (a := 0) (n := 8 * l.length) J5 J5; rw [eE, eV]; refine V548 ?_; clear hs; intro g1 w1 hs; refine V642 ?_; clear hs; intro g2 w2 hs; refine V35 ?_; clear hs; intro g3 w3 hs; refine V92 ?_; refine V858 ?_; refine V544 ?_; refine Z.ZO.call rfl rfl (by rfl) rfl rfl call157 rfl (width_ok lc _ hi) ?_; rintro v2_2 w2_2 ⟨rfl, hy⟩; replace hs := U0 (hs.call hy); clear hy; refine V607 ?_; refine V858 ?_; refine V166 ?_; refine V48 ?_; refine V62 ?_; refine Z.ZO.call rfl rfl (by rfl) rfl rfl call154 rfl (opened_ok lc lc (wid lc) A m c l _ ((hx.st hs).sx) hl J5 h) ?_; rintro v3_4 w3_4 ⟨gr, sv, rfl, hy⟩; replace hs := U0 (hs.call hy); clear hy; refine Z.l rfl rfl (by rfl) (Z.keepS hs) (by exact Z.Yd.fieldL 0 1 rfl rfl J18) ?_; refine V859 ?_; refine Z.l rfl rfl (by rfl) (Z.keepS hs) (Z.Yd.mul rfl rfl (fun hG => Z.wi64 J2)) ?_; replace hs : St w [] _ (RdL gr 242 sv l 0 ++ [_, _, _]) := hs; rw [h8]; refine V2 ?_; refine Z.ZO.call rfl rfl (by rfl) rfl rfl call159 rfl (rget_any gr _ sv l 0 _ _ hs.lend J5 J5 hb) ?_; rintro v3_8 w3_8 ⟨rfl, hz⟩; replace hs := hs.regain hz; rw [hg, hge]; refine V527 ?_; refine Z.ZO.call rfl rfl (by rfl) rfl rfl call158 rfl (got64_ok _ _) ?_; rintro v3_11 w3_11 ⟨rfl, hy⟩; replace hs := U0 (hs.call hy); clear hy; replace hs := U4 hs; refine V2 ?_; refine Z.ZO.store rfl rfl hs sizeOf123 rfl rfl rfl J1 J9 ?_; clear hs; intro ws hs; replace hs := U1 hs; refine V451 ?_; clear hs; intro ws hs
      replace hs := U1 hs; refine V857 ?_; refine V400 ?_; rintro vD wD ⟨rfl, hy⟩; replace hs := hs.call hy; refine ⟨[_, _], J88, ?_⟩; exact ⟨_, rfl, rfl, Jn hs⟩
    have eE : idE lc l = opE lc l lc (wid lc) := by unfold idE; rw [if_pos hi]
    have eV : idV lc l = 0 := by unfold idV; rw [if_neg J5]
    rw [eE, eV]; refine V548 ?_; clear hs; intro g1 w1 hs; refine V642 ?_; clear hs; intro g2 w2 hs; refine V35 ?_; clear hs; intro g3 w3 hs; refine V92 ?_; refine V858 ?_; refine V544 ?_; refine Z.ZO.call rfl rfl (by rfl) rfl rfl call157 rfl (width_ok lc _ hi) ?_; rintro v2_2 w2_2 ⟨rfl, hy⟩; replace hs := U0 (hs.call hy); clear hy; refine V607 ?_; refine V858 ?_; refine V166 ?_; refine V48 ?_; refine V62 ?_; refine Z.ZO.callP rfl rfl rfl call154 rfl (opened_bad lc lc (wid lc) A m c l _ hl J5 h) ?_; rintro c3_4 w3_4 ⟨rfl, hy⟩; replace hs := U0 (hs.call hy); clear hy; replace hs := hs.sel [0, 1] J12
    repeat (first | refine Z.pthen ?_ | refine Z.pblock ?_ | refine Z.pscope ?_)
    refine V474 ?_; rintro vD wD ⟨rfl, hz⟩; replace hs := hs.regain (L2 := []) hz; refine ⟨[_, _], J88, ?_⟩; exact ⟨_, rfl, rfl, Jn hs⟩
  have eE : idE lc l = 2 := by unfold idE; rw [if_neg hi]
  have eV : idV lc l = 0 := by unfold idV; rw [if_neg J5]
  rw [eE, eV]; refine V548 ?_; clear hs; intro g1 w1 hs; refine V642 ?_; clear hs; intro g2 w2 hs; refine V35 ?_; clear hs; intro g3 w3 hs; refine V92 ?_; refine V858 ?_; refine V544 ?_; refine Z.ZO.callP rfl rfl rfl call157 rfl (width_bad lc _ hi) ?_; rintro c2_2 w2_2 ⟨rfl, hy⟩; replace hs := U0 (hs.call hy); clear hy; replace hs := hs.sel [0, 1] J12
  repeat (first | refine Z.pthen ?_ | refine Z.pblock ?_ | refine Z.pscope ?_)
  refine V474 ?_; rintro vD wD ⟨rfl, hz⟩; replace hs := hs.regain (L2 := []) hz; refine ⟨[_, _], J88, ?_⟩; exact ⟨_, rfl, rfl, Jn hs⟩

def repE (lc : Int) (l : List Int) : Int := if lc = 30 then opE lc l 30 3 else opE lc l 29 1
structure RepV where
  long : Bool
  group : Int
  a : Int
  b : Int
  c : Int
  d : Int
def RepV.cells (r : RepV) : List Value := [.bool r.long, .int .i64 r.group, .int .i64 r.a, .int .i64 r.b, .int .i64 r.c, .int .i64 r.d]
def RepV.zero : RepV := ⟨false, 0, 0, 0, 0, 0⟩
def RepV.short (g v : Int) : RepV := ⟨false, g, if g = 0 then v else 0, if g = 1 then v else 0, if g = 2 then v else 0, if g = 3 then v else 0⟩
def RepV.lng (n : Int) : RepV := ⟨true, 0, n / 262144, n / 4096 % 64, n / 64 % 64, n % 64⟩
def repV (lc : Int) (l : List Int) : RepV := if repE lc l ≠ 0 then RepV.zero else if lc = 30 then RepV.lng (num l) else RepV.short (num l / 64) (num l % 64)
def lcells (x : Nat → Int) (k : Nat) : List Value := [.bool true, .int .i64 0, .int .i64 (if 0 < k then x 0 else 0), .int .i64 (if 1 < k then x 1 else 0), .int .i64 (if 2 < k then x 2 else 0), .int .i64 (if 3 < k then x 3 else 0)]
@[simp] theorem lcells_len (x : Nat → Int) (k : Nat) : (lcells x k).length = 6 := rfl
theorem lcells_set (x : Nat → Int) (k : Nat) (hk : k < 4) : (lcells x k).set (2 + (k : Int).toNat * 1) (.int .i64 (x k)) = lcells x (k + 1) := by
  have h : k = 0 ∨ k = 1 ∨ k = 2 ∨ k = 3 := by omega
  rcases h with rfl | rfl | rfl | rfl <;> rfl
theorem repclear (g T : Nat) (cs : List Value) (hc : cs.length = 6) (W : World) (hs : St W (idsOf [Ent.blk g T cs.toArray]) W [Ent.blk g T cs.toArray]) :
    Calls Tryz.prog 160 #[.pointer (some ⟨g, 0, none⟩)] W (Ret fun v w' => v = .tuple #[] ∧ St W (idsOf [Ent.blk g T cs.toArray]) w' [Ent.blk g T RepV.zero.cells.toArray]) := by
  generalize idsOf [Ent.blk g T cs.toArray] = M at *; obtain ⟨x0, x1, x2, x3, x4, x5, rfl⟩ := list6 hc; refine Z.enter func160 rfl ntmps160 rfl rfl ?_; refine V42 ?_; refine V134 ?_; refine V860 ?_; clear hs; intro ws hs; replace hs := U1 hs; replace hs := U2 hs; refine V857 ?_; refine V77 ?_; exact ⟨_, rfl, rfl, hs⟩
theorem declong (A : Option Addr) (m c : Nat) (l : List Int) (w : World) (hx : Sx w [] A (ints .u8 l)) (hl : l.length = m) (hm : m ≤ 1000000) (hb : Byts l) (h : opE 30 l 30 3 = 0) :
    Calls Tryz.prog 106 #[.agg #[.int .i64 30, .slice A m c]] w (Ret fun v w' => v = .tuple #[.agg (RepV.lng (num l)).cells.toArray, .int .i64 0] ∧ St w [] w' []) := by
  have hs := St.start w; obtain ⟨-, hl3⟩ := opE_len h; have hl3 : l.length = 3 := by omega
  have hn := num_lt hb; have hn0 := num_nonneg hb; rw [hl3] at hn; have hx4 : ∀ k : Nat, k < 4 → getV l (6 * k) ((6 : Nat) : Int) = num l / 2 ^ (18 - 6 * k) % 64 := fun k hk => by
    rw [getV_num hb J5 J5, hl3, show 8 * 3 - 6 * k - 6 = 18 - 6 * k from by omega]
    rfl
  have ex : ∀ x : Nat → Int, (∀ k, k < 4 → x k = num l / 2 ^ (18 - 6 * k) % 64) → lcells x 4 = (RepV.lng (num l)).cells := fun x hx => by
    have h0 := hx 0 J5; have h1 := hx 1 J5; have h2 := hx 2 J5; have h3 := hx 3 J5; have e0 : num l / 2 ^ (18 - 6 * 0) % 64 = num l / 262144 := by
      have : num l / 2 ^ (18 - 6 * 0) % 64 = num l / 262144 % 64 := rfl; have h2 : ((2 ^ (3 * 8) : Nat) : Int) = 16777216 := by decide
      rw [h2] at hn; rw [this]; omega
    have e1 : num l / 2 ^ (18 - 6 * 1) % 64 = num l / 4096 % 64 := rfl; have e2 : num l / 2 ^ (18 - 6 * 2) % 64 = num l / 64 % 64 := rfl; have e3 : num l / 2 ^ (18 - 6 * 3) % 64 = num l % 64 := by
      have : num l / 2 ^ (18 - 6 * 3) % 64 = num l / 1 % 64 := rfl; rw [this]; omega
    rw [e0] at h0; rw [e1] at h1; rw [e2] at h2; rw [e3] at h3; simp [lcells, RepV.cells, RepV.lng, h0, h1, h2, h3]
  generalize hX : (fun k : Nat => num l / 2 ^ (18 - 6 * k) % 64) = X; have hXk : ∀ k, X k = num l / 2 ^ (18 - 6 * k) % 64 := fun k => by rw [← hX]
  have eL := ex X (fun k _ => hXk k); rw [← eL]; refine V377 ?_; clear hs; intro g1 w1 hs; refine V481 ?_; clear hs; intro g2 w2 hs; refine V35 ?_; clear hs; intro g3 w3 hs; refine V452 ?_; refine Z.cond rfl (fun hc2 => ?_) (fun h => absurd h J16); refine V0 ?_; refine V513 ?_; refine Z.ZO.call rfl rfl (by rfl) rfl rfl call154 rfl (opened_ok 30 30 3 A m c l _ ((hx.st hs).sx) hl hm h) ?_; rintro v3_1 w3_1 ⟨gr, sv, rfl, hy⟩; replace hs := U0 (hs.call hy); clear hy; refine V696 ?_; clear hs; intro g4 w4 hs; refine V860 ?_; clear hs; intro ws hs; replace hs := U1 hs; replace hs := U2 hs; refine V857 ?_; refine V588 ?_; refine V858 ?_; refine V3 ?_; refine V393 ?_; clear hs; intro ws hs; replace hs := U1 hs; refine V857 ?_; refine V588 ?_; refine V214 ?_; refine Z.only [2, 3, 4, 14] rfl ?_; refine V861 ?_; refine Z.loopk (ι := Nat) [2, 3, 4] rfl (fun k => [(14, [], .int .i64 (k : Int))]) (fun k wr => k ≤ 4 ∧ St w [] wr (RdL gr 242 sv l (6 * k) ++ [Ent.blk g2 86 (lcells X k).toArray, Ent.blk g3 31 #[.int .i64 0], Ent.blk g4 237 #[.pointer (some ⟨gr, 0, none⟩)]])) (fun k => 4 - k) 0 J6 ⟨by omega, hs.sel [1, 2, 4, 3, 0] J12⟩ ?_; clear hs; rintro k w1 ⟨hk, hs⟩; refine Z.only [2, 3, 4, 14] rfl ?_; refine V121 ?_; refine Z.only [2, 3, 4, 14, 15] rfl ?_; refine V210 ?_; refine Z.cond rfl (fun hc6 => ?_) (fun hc6 => ?_)
  · (try simp at hc6)
    refine V150 ?_; refine V151 ?_; refine Z.only [2, 3, 4, 5, 14] rfl ?_; refine V300 ?_; refine V859 ?_; refine V470 ?_; have hv := hx4 k J5; refine V2 ?_; refine Z.ZO.call rfl rfl (by rfl) rfl rfl call155 rfl (dbits_ok gr _ sv l (6 * k) 6 _ hs.lend J5 hb J5 J5) ?_; rintro v8_2 w8_2 ⟨rfl, hz⟩; replace hs := hs.regain hz; rw [hv, ← hXk k]; replace hs := U4 hs; refine V402 ?_; clear hs; intro ws hs; replace hs := U1 hs; refine V857 ?_; refine Z.only [2, 3, 4, 14] rfl ?_; refine V332 ?_; refine Z.only [2, 3, 4, 14] rfl ?_; refine V6 ?_; rw [lcells_set X k J5] at hs; exact Z.again (k + 1) J10 ⟨by omega, hs⟩ J5
  first
    | (exfalso; simp at hc6 <;> omega)
    | (
      (try simp at hc6)
      refine V181 ?_; obtain rfl : k = 4 := by omega
      replace hs := U4 hs; unfold lcells at hs; refine V202 ?_; refine V860 ?_; clear hs; intro ws hs; replace hs := U1 hs; replace hs := U2 hs; refine V451 ?_; clear hs; intro ws hs; replace hs := U1 hs; refine V857 ?_; refine V124 ?_
      repeat (first | refine Z.rthen ?_ | refine Z.rblock ?_ | refine Z.rscope ?_)
      refine Z.outDr call152 (caught_ret g3 _ _ _) ?_; rintro vD wD ⟨rfl, hy⟩; replace hs := hs.call hy; refine ⟨[_, _], J68, ?_⟩; exact ⟨_, rfl, rfl, Jn hs⟩
      )
theorem decshort (A : Option Addr) (m c : Nat) (l : List Int) (w : World) (hx : Sx w [] A (ints .u8 l)) (hl : l.length = m) (hm : m ≤ 1000000) (hb : Byts l) (h : opE 29 l 29 1 = 0) :
    Calls Tryz.prog 106 #[.agg #[.int .i64 29, .slice A m c]] w (Ret fun v w' => v = .tuple #[.agg (RepV.short (num l / 64) (num l % 64)).cells.toArray, .int .i64 0] ∧ St w [] w' []) := by
  have hs := St.start w; obtain ⟨-, hl1⟩ := opE_len h; have hl1 : l.length = 1 := by omega
  obtain ⟨h0, h256, -⟩ := one_byte hb hl1; have e1 : getV l 0 ((2 : Nat) : Int) = num l / 64 := by
    rw [getV_num hb J5 J5, hl1]; have : num l / 2 ^ (8 * 1 - 0 - 2) % 2 ^ 2 = num l / 64 % 4 := rfl; rw [this]
    omega
  have e2 : getV l 2 ((6 : Nat) : Int) = num l % 64 := by
    rw [getV_num hb J5 J5, hl1]; have : num l / 2 ^ (8 * 1 - 2 - 6) % 2 ^ 6 = num l / 1 % 64 := rfl; rw [this]
    omega
  generalize num l % 64 = V at *; obtain ⟨q, hq⟩ : ∃ q, num l / 64 = q := ⟨_, rfl⟩; have hq4 : q = 0 ∨ q = 1 ∨ q = 2 ∨ q = 3 := by omega
  rw [hq] at e1 ⊢; have hsh : ([.bool false, .int .i64 q, .int .i64 0, .int .i64 0, .int .i64 0, .int .i64 0] : List Value).set (2 + q.toNat * 1) (.int .i64 V) = (RepV.short q V).cells := by
    rcases hq4 with rfl | rfl | rfl | rfl <;> rfl
  refine V377 ?_; clear hs; intro g1 w1 hs; refine V481 ?_; clear hs; intro g2 w2 hs; refine V35 ?_; clear hs; intro g3 w3 hs; refine V452 ?_; refine Z.cond rfl (fun h => absurd h J16) (fun hc2 => ?_); refine V862 ?_; refine V513 ?_; refine Z.ZO.call rfl rfl (by rfl) rfl rfl call154 rfl (opened_ok 29 29 1 A m c l _ ((hx.st hs).sx) hl hm h) ?_; rintro v11_1 w11_1 ⟨gr, sv, rfl, hy⟩; replace hs := U0 (hs.call hy); clear hy; refine V696 ?_; clear hs; intro g6 w6 hs; refine V860 ?_; clear hs; intro ws hs; replace hs := U1 hs; replace hs := U2 hs; refine V857 ?_; refine V411 ?_; refine V858 ?_; refine V470 ?_; replace hs := hs.sel [1, 2, 3, 4, 0] J12; replace hs : St w [] _ (RdL gr 242 sv l 0 ++ [_, _, _]) := hs; refine V2 ?_; refine V355 ?_; rintro v12_1 w12_1 ⟨rfl, hz⟩; replace hs := hs.regain hz; rw [e1]; replace hs := U4 hs; refine V522 ?_; clear hs; intro ws hs; replace hs := U1 hs; refine V857 ?_; refine V411 ?_; refine V210 ?_; refine Z.drawL [Ent.blk g2 86 #[.bool false, .int .i64 q, .int .i64 0, .int .i64 0, .int .i64 0, .int .i64 0], Ent.blk g6 237 #[.pointer (some ⟨gr, 0, none⟩)]] (fun j => j != 6) mixed hs ?_; clear hs; intro wd13 hs; refine V404 ?_; refine Z.t 2 rfl rfl rfl (by rfl) J3 (Jk hs) J62 ?_; refine Z.tX 4 [4, 5, 6] rfl rfl rfl (by rfl) J3 (Jk hs) (Z.Yd.fieldA (m := 2) rfl J3) ?_; replace hs : St w [] _ (RdL gr 242 sv l 2 ++ [_, _, _]) := hs; refine Z.tn 3 rfl rfl J3 rfl trivial ?_
  refine Z.ZO.call rfl rfl (by rfl) rfl rfl call155 rfl (dbits_ok gr _ sv l 2 6 _ hs.lend J5 hb J5 J5) ?_; rintro v13_3 w13_3 ⟨rfl, hz⟩; replace hs := hs.regain hz; rw [e2]; replace hs := U4 hs; refine Z.tk (Dn := fun j => j != 6) (i := 3) (fun _ => (Jk hs)) ?_; refine Z.t 5 rfl rfl rfl (by rfl) J3 (Jk hs) (Z.Yd.elemA rfl rfl underlying37 sizeOf3 (fun hG => ⟨J2, J2⟩)) ?_; refine V262 ?_; refine V25 ?_; clear hs; intro ws hs; replace hs := U1 hs; refine Z.tk (Dn := fun j => j != 6) (i := 6) (fun h => absurd h J12) ?_; refine V40 ?_; refine V72 ?_; rw [hsh] at hs; unfold RepV.short RepV.cells at hs; refine V858 ?_; refine V202 ?_; refine V860 ?_; clear hs; intro ws hs; replace hs := U1 hs; replace hs := U2 hs; refine V451 ?_; clear hs; intro ws hs; replace hs := U1 hs; refine V857 ?_; refine V400 ?_; rintro vD wD ⟨rfl, hy⟩; replace hs := hs.call hy; refine ⟨[_, _], J68, ?_⟩; exact ⟨_, rfl, rfl, Jn hs⟩
theorem decrep_any (lc : Int) (A : Option Addr) (m c : Nat) (l : List Int) (w : World) (hx : Sx w [] A (ints .u8 l)) (hl : l.length = m) (hm : m ≤ 1000000) (hb : Byts l) :
    Calls Tryz.prog 106 #[.agg #[.int .i64 lc, .slice A m c]] w (Ret fun v w' => v = .tuple #[.agg (repV lc l).cells.toArray, .int .i64 (repE lc l)] ∧ St w [] w' []) := by
  have hs := St.start w
  by_cases h0 : repE lc l = 0
  · by_cases h30 : lc = 30
    · have eV : repV lc l = RepV.lng (num l) := by unfold repV; rw [if_neg J5, if_pos h30]
      rw [h0, eV]; unfold repE at h0; rw [if_pos h30] at h0; subst h30; exact declong A m c l w hx hl hm hb h0
    have eV : repV lc l = RepV.short (num l / 64) (num l % 64) := by unfold repV; rw [if_neg J5, if_neg h30]
    rw [h0, eV]; unfold repE at h0; rw [if_neg h30] at h0; obtain ⟨rfl, -⟩ := opE_len h0; exact decshort A m c l w hx hl hm hb h0
  have eV : repV lc l = RepV.zero := by unfold repV; rw [if_pos h0]
  rw [eV]
  by_cases h30 : lc = 30
  · have eE : repE lc l = opE lc l 30 3 := by unfold repE; rw [if_pos h30]
    rw [eE] at h0 ⊢; refine V377 ?_; clear hs; intro g1 w1 hs; refine V481 ?_; clear hs; intro g2 w2 hs; refine V35 ?_; clear hs; intro g3 w3 hs; refine V452 ?_; refine Z.cond rfl (fun hc2 => ?_) (fun h => absurd h (by simpa using h30)); refine V0 ?_; refine V513 ?_; refine Z.ZO.callP rfl rfl rfl call154 rfl (opened_bad lc 30 3 A m c l _ hl J5 h0) ?_; rintro c3_1 w3_1 ⟨rfl, hy⟩; replace hs := U0 (hs.call hy); clear hy; replace hs := hs.sel [0, 1] J12
    repeat (first | refine Z.pthen ?_ | refine Z.pblock ?_ | refine Z.pscope ?_)
    refine V465 ?_; rintro vD wD ⟨rfl, hz⟩; replace hs := hs.regain (L2 := []) hz; refine ⟨[_, _], J68, ?_⟩; exact ⟨_, rfl, rfl, Jn hs⟩
  have eE : repE lc l = opE lc l 29 1 := by unfold repE; rw [if_neg h30]
  rw [eE] at h0 ⊢; refine V377 ?_; clear hs; intro g1 w1 hs; refine V481 ?_; clear hs; intro g2 w2 hs; refine V35 ?_; clear hs; intro g3 w3 hs; refine V452 ?_; refine Z.cond rfl (fun h => absurd h (by simpa using h30)) (fun hc2 => ?_); refine V862 ?_; refine V513 ?_; refine Z.ZO.callP rfl rfl rfl call154 rfl (opened_bad lc 29 1 A m c l _ hl J5 h0) ?_; rintro c11_1 w11_1 ⟨rfl, hy⟩; replace hs := U0 (hs.call hy); clear hy; replace hs := hs.sel [0, 1] J12
  repeat (first | refine Z.pthen ?_ | refine Z.pblock ?_ | refine Z.pscope ?_)
  refine V465 ?_; rintro vD wD ⟨rfl, hz⟩; replace hs := hs.regain (L2 := []) hz; refine ⟨[_, _], J68, ?_⟩; exact ⟨_, rfl, rfl, Jn hs⟩

theorem blkLater {w0 w W : World} {M : List Nat} {L L' : List Ent} {g T j : Nat} {cs : Array Value} (hs : St w0 M w L) (hj : L[j]? = some (Ent.blk g T cs)) (hW : St w [] W L') : g < W.heap.size ∧ ∀ i u, cs[i]? = some u → W.cell? ⟨g, i, none⟩ = some u := by
  have hr : w.heap[g]? = some (.cells cs T (0, 0)) := hs.get hj; have hlt := SX.lt_of_some hr; exact ⟨Nat.lt_of_lt_of_le hlt hW.size, fun i u hu => (hW.oldcell (p := ⟨g, i, none⟩) hlt J16).trans ((SX.cell_blk hr i).trans hu)⟩
theorem pow_bytes (h : Int) (h0 : 0 ≤ h) (h1 : h ≤ 63) : pk ([((0 : Int), (2 : Int)), (h, 6)].flatMap fldF) = [h] := by
  obtain ⟨n, rfl⟩ := Int.eq_ofNat_of_zero_le h0; have hl : ([((0 : Int), (2 : Int)), ((n : Int), 6)].flatMap fldF).length = 8 := by simp [fldF, fld_length]
  have hp : (pk ([((0 : Int), (2 : Int)), ((n : Int), 6)].flatMap fldF)).length = 1 := by rw [pk_length, hl]
  have hn := pk_num (bs := [((0 : Int), (2 : Int)), ((n : Int), 6)].flatMap fldF) (by rw [hl]); obtain ⟨x, hx⟩ := list1 hp; rw [hx] at hn ⊢; simp only [flat_val, num, List.foldl_cons, List.foldl_nil] at hn; simp [fldF, fld_length, val] at hn; simp only [List.cons.injEq, and_true]
  omega
theorem encpow1_ok (g : Nat) (h : Int) (w : World) (hg : g < w.heap.size) (hc : w.cell? ⟨g, 0, none⟩ = some (.int .i64 h)) (hh : 0 ≤ h ∧ h ≤ 63) :
    Calls Tryz.prog 150 #[.pointer (some ⟨g, 0, none⟩)] w (Ret fun v w' => IsPart 26 [h] v w w') := by
  have hs := St.start w; refine Z.enter func150 rfl ntmps150 rfl rfl ?_; refine V0 ?_; refine V274 ?_; clear hs; intro g1 w1 hs; refine V857 ?_; refine V378 ?_; refine V210 ?_; refine Z.drawK (fun j => j != 5) mixed hs ?_; clear hs; intro wd1 hs; refine Z.t 1 rfl rfl rfl (by rfl) J3 (Jk hs) (Z.Yd.load rfl isAgg3 (fun _ => Z.cellO hg J16 hc)) ?_; refine Z.tn 0 rfl rfl J3 rfl trivial ?_; refine Z.ZO.call rfl rfl (by rfl) rfl rfl call144 rfl (group_ok 0 _ J5) ?_; rintro v1_0 w1_0 ⟨rfl, hy⟩; replace hs := U0 (hs.call hy); clear hy; refine Z.tk (Dn := fun j => j != 5) (i := 0) (fun _ => (Jk hs)) ?_; refine V172 ?_; refine Z.ZO.call rfl rfl (by rfl) rfl rfl call147 rfl (level_ok h _ hh) ?_; rintro v1_2 w1_2 ⟨rfl, hy⟩; replace hs := U0 (hs.call hy); clear hy; refine Z.tk (Dn := fun j => j != 5) (i := 2) (fun _ => (Jk hs)) ?_; refine Z.tn 3 rfl rfl J3 rfl trivial ?_; refine V194 ?_; clear hs; intro g5 w5 hs; refine Z.tk (Dn := fun j => j != 5) (i := 3) (fun _ => (Jk hs)) ?_; have hsx := Z.blk_lentj (L1 := []) hs (j := 0) rfl; refine V260 ?_; refine Z.ZO.call rfl rfl (by rfl) rfl rfl call146 rfl (built_ok 26 _ 2 2 [(0, 2), (h, 6)] _ hsx rfl J5 (by simp [GoodF]; omega) (by simp [chkA, chkF, quoF]; omega)) ?_; rintro v1_4 w1_4 ⟨B, co, rfl, hy⟩; replace hs := U0 (hs.call hy); clear hy; rw [pow_bytes h hh.1 hh.2] at hs ⊢; refine Z.tk (Dn := fun j => j != 5) (i := 4) (fun _ => (Jk hs)) ?_; refine V434 ?_; clear hs; intro ws hs; replace hs := U1 hs
  replace hs := U2 hs; refine Z.tk (Dn := fun j => j != 5) (i := 5) (fun h => absurd h J12) ?_; refine V40 ?_; refine V264 ?_; refine V90 ?_; refine Z.out1 J48 ?_; exact ⟨_, rfl, B, co, rfl, hs.sel [0] J12⟩
def be : Nat → Int → List Int
  | 0, _ => []
  | n + 1, v => be n (v / 256) ++ [v % 256]
@[simp] theorem be_length : ∀ (n : Nat) (v : Int), (be n v).length = n
  | 0, _ => rfl
  | n + 1, v => by simp [be, be_length n]
theorem be_num {l : List Int} (hb : Byts l) : be l.length (num l) = l := by
  refine snoc_ind (p := fun l => Byts l → be l.length (num l) = l) (fun _ => rfl) (fun l x ih hb => ?_) l hb; have hx := hb x J16; rw [List.length_append, List.length_singleton, num_snoc]
  show be l.length ((256 * num l + x) / 256) ++ [(256 * num l + x) % 256] = _
  rw [show (256 * num l + x) / 256 = num l from by omega, show (256 * num l + x) % 256 = x from by omega, ih fun y hy => hb y (by simp [hy])]
theorem pk_be {bs : List Bool} {n : Nat} (h : bs.length = 8 * n) : pk bs = be n (val bs) := by
  have h1 := be_num (l := pk bs) pk_bytes; rw [pk_num J5, pk_length, show (bs.length + 7) / 8 = n from by omega] at h1; exact h1.symm
theorem be_bytes : ∀ (n : Nat) (v : Int), Byts (be n v)
  | 0, _ => by intro x hx; cases hx
  | n + 1, v => by
    intro x hx
    rcases List.mem_append.1 hx with hx | hx
    · exact be_bytes n _ x hx
    obtain rfl : x = v % 256 := by simpa using hx
    omega
theorem encpow_ok (h : Int) (w : World) (hh : 0 ≤ h ∧ h ≤ 63) :
    Calls Tryz.prog 97 #[.int .i64 h] w (Ret fun v w' => ∃ u, v = .tuple #[u, .int .i64 0] ∧ IsPart 26 [h] u w w') := by
  have hs := St.start w; refine Z.enter func97 rfl ntmps97 rfl rfl ?_; refine V91 ?_; clear hs; intro g1 w1 hs; refine V274 ?_; clear hs; intro g2 w2 hs; refine V155 ?_; refine V303 ?_; have hof : ∀ W L, St w2 [] W L → Calls Tryz.prog 150 #[.pointer (some ⟨g1, 0, none⟩)] W (Ret fun v w' => IsPart 26 [h] v W w') := fun W L hW => by
    obtain ⟨a1, a2⟩ := blkLater hs (j := 1) rfl hW; exact encpow1_ok g1 h W a1 (a2 0 _ rfl) hh
  refine V2 ?_; refine Z.ZO.call rfl rfl (by rfl) rfl rfl call142 rfl (element_ok _ _ 26 _ _ call150 hof) ?_; rintro v1_1 w1_1 ⟨u, rfl, B, co, rfl, hy⟩; replace hs := U0 (hs.call hy); clear hy; refine V11 ?_; refine V860 ?_; clear hs; intro ws hs; replace hs := U1 hs; replace hs := U2 hs; refine V484 ?_; refine Z.out2 J90 ?_; exact ⟨_, rfl, _, rfl, B, co, rfl, hs.sel [0] J12⟩

def RepV.lv (r : RepV) : Nat → Int
  | 0 => r.a
  | 1 => r.b
  | 2 => r.c
  | _ => r.d
def okL (x : Int) : Prop := 0 ≤ x ∧ x ≤ 63
instance (x : Int) : Decidable (okL x) := inferInstanceAs (Decidable (_ ∧ _))
def RepV.ok (r : RepV) : Prop := (0 ≤ r.group ∧ r.group ≤ 3) ∧ (if r.long = true then r.group = 0 ∧ okL r.a ∧ okL r.b ∧ okL r.c ∧ okL r.d else (∀ k : Nat, k < 4 → r.lv k = 0 ∨ (k : Int) = r.group) ∧ okL (r.lv r.group.toNat))
abbrev RepV.lvs (r : RepV) : List Value := [.int .i64 r.a, .int .i64 r.b, .int .i64 r.c, .int .i64 r.d]
theorem Cel.lvs {w : World} {g : Nat} {r : RepV} (h : Cel w g r.cells) : ∀ (j : Nat) (u : Value), r.lvs[j]? = some u → w.cell? ⟨g, 0 + 2 + j, none⟩ = some u := fun j u hu => by
  refine h.2 _ u ?_
  show (_ :: _ :: r.lvs)[0 + 2 + j]? = some u
  rw [show 0 + 2 + j = j + 1 + 1 from by omega]; exact hu
theorem lvs_get (r : RepV) (k : Nat) (hk : k < 4) : r.lvs.toArray[k]? = some (.int .i64 (r.lv k)) := by
  have : k = 0 ∨ k = 1 ∨ k = 2 ∨ k = 3 := by omega
  rcases this with rfl | rfl | rfl | rfl <;> rfl
theorem lvs_nth (r : RepV) (k : Nat) (hk : k < 4) : Z.nth r.lvs k = some (.int .i64 (r.lv k)) := by
  have : k = 0 ∨ k = 1 ∨ k = 2 ∨ k = 3 := by omega
  rcases this with rfl | rfl | rfl | rfl <;> rfl
theorem long_bytes (r : RepV) (ha : okL r.a) (hb : okL r.b) (hc : okL r.c) (hd : okL r.d) : pk ([(r.a, (6 : Int)), (r.b, 6), (r.c, 6), (r.d, 6)].flatMap fldF) = be 3 (((r.a * 64 + r.b) * 64 + r.c) * 64 + r.d) := by
  unfold okL at *; obtain ⟨a, hA⟩ := Int.eq_ofNat_of_zero_le ha.1; obtain ⟨b, hB⟩ := Int.eq_ofNat_of_zero_le hb.1; obtain ⟨c, hC⟩ := Int.eq_ofNat_of_zero_le hc.1; obtain ⟨d, hD⟩ := Int.eq_ofNat_of_zero_le hd.1; rw [pk_be (n := 3) (by simp [fldF, fld_length]), hA, hB, hC, hD]
  congr 1
  simp only [flat_val]; simp [fldF, fld_length, val]
  omega
theorem short_bytes (g v : Int) (hg : 0 ≤ g ∧ g ≤ 3) (hv : okL v) : pk ([(g, (2 : Int)), (v, 6)].flatMap fldF) = [64 * g + v] := by
  unfold okL at *; obtain ⟨a, rfl⟩ := Int.eq_ofNat_of_zero_le hg.1; obtain ⟨b, rfl⟩ := Int.eq_ofNat_of_zero_le hv.1; rw [pk_be (n := 1) (by simp [fldF, fld_length])]; simp only [flat_val, be, List.nil_append]; simp [fldF, fld_length, val]
  omega
theorem okF {v wd : Int} (hv : 0 ≤ v) (hw : 0 ≤ wd ∧ wd ≤ 8) (h : v < 2 ^ wd.toNat) : GoodF (v, wd) ∧ chkF (v, wd) = 0 := by
  obtain ⟨n, rfl⟩ := Int.eq_ofNat_of_zero_le hv; have h1 : n < 2 ^ wd.toNat := by
    have : ((2 : Int) ^ wd.toNat) = ((2 ^ wd.toNat : Nat) : Int) := by rw [Int.natCast_pow]; rfl
    omega
  have h2 : 2 ^ wd.toNat ≤ 2 ^ 8 := Nat.pow_le_pow_right J12 J5; have h3 : (2 : Nat) ^ 8 = 256 := by decide
  refine ⟨by unfold GoodF; simp only; omega, ?_⟩; unfold chkF quoF; rw [if_neg J22, if_pos (by simpa using Nat.div_eq_of_lt h1)]
def encL (r : RepV) : List Int := if r.long = true then be 3 (((r.a * 64 + r.b) * 64 + r.c) * 64 + r.d) else [64 * r.group + r.lv r.group.toNat]
def encLc (r : RepV) : Int := if r.long = true then 30 else 29
theorem encrep1_long (g : Nat) (r : RepV) (w : World) (hc : Cel w g r.cells) (hr : r.ok) (hl : r.long = true) :
    Calls Tryz.prog 143 #[.pointer (some ⟨g, 0, none⟩)] w (Ret fun v w' => IsPart 30 (be 3 (((r.a * 64 + r.b) * 64 + r.c) * 64 + r.d)) v w w') := by
  have hs := St.start w; obtain ⟨hg, hr⟩ := hr; rw [if_pos hl] at hr; obtain ⟨h0, ha, hb, hcc, hd⟩ := hr; have fa := okF (v := r.a) (wd := 6) ha.1 J5 (by have := ha.2; simp; omega); have fb := okF (v := r.b) (wd := 6) hb.1 J5 (by have := hb.2; simp; omega); have fc := okF (v := r.c) (wd := 6) hcc.1 J5 (by have := hcc.2; simp; omega); have fd := okF (v := r.d) (wd := 6) hd.1 J5 (by have := hd.2; simp; omega); refine Z.enter func143 rfl ntmps143 rfl rfl ?_; refine V0 ?_; refine V274 ?_; clear hs; intro g1 w1 hs; refine V857 ?_; refine V378 ?_; refine V210 ?_; refine Z.cutt (ι := Nat × Nat) [0, 1] rfl (fun x => [(2, [], .pointer (some ⟨x.1, 0, none⟩)), (3, [], .pointer (some ⟨x.2, 0, none⟩))]) (fun x wr => St w [] wr [Ent.blk x.2 37 r.lvs.toArray, Ent.blk x.1 211 #[.int .u64 r.group, .int .i64 2], Ent.blk g1 77 #[.int .i64 0, .slice none 0 0]]) ?_ ?_
  · skip
    refine Z.drawK (fun _ => true) mixed hs ?_; clear hs; intro wd1 hs; refine V198 ?_; refine Z.forkD [2, 5, 6] rfl J3 rfl ⟨⟨_, _, rfl, rfl, trivial, ?_⟩, ⟨_, _, rfl, rfl, trivial, ?_⟩, ⟨_, _, rfl, rfl, trivial, ?_⟩, trivial⟩
    · skip
      refine V101 ?_; rintro v1_2 w1_2 ⟨rfl, hy⟩; replace hs := U0 (hs.call hy); clear hy; refine V46 ?_; refine Z.fork2 5 6 rfl rfl rfl J3 rfl rfl trivial trivial ?_ ?_
      · skip
        refine V102 ?_; clear hs; intro g2 w2 hs; refine V52 ?_; refine V262 ?_; refine V98 ?_; clear hs; intro g3 w3 hs; refine V82 ?_; refine V108 ?_; clear hs; intro ws hs; replace hs := U1 hs; replace hs := U2 hs; refine V45 ?_; clear hs; intro ws hs; replace hs := U1 hs; replace hs := U2 hs; refine V512 ?_; exact Z.meet (g2, g3) J10 J53
      skip
      refine V98 ?_; clear hs; intro g3 w3 hs; refine V82 ?_; refine V149 ?_; refine V102 ?_; clear hs; intro g2 w2 hs; refine V52 ?_; refine V108 ?_; clear hs; intro ws hs; replace hs := U1 hs; replace hs := U2 hs; refine V45 ?_; clear hs; intro ws hs; replace hs := U1 hs; replace hs := U2 hs; refine V512 ?_; exact Z.meet (g2, g3) J10 J53
    · skip
      refine V102 ?_; clear hs; intro g2 w2 hs; refine V52 ?_; refine Z.fork2 2 6 rfl rfl rfl J3 rfl rfl trivial trivial ?_ ?_
      · skip
        refine V101 ?_; rintro v1_2 w1_2 ⟨rfl, hy⟩; replace hs := U0 (hs.call hy); clear hy; refine V46 ?_; refine V262 ?_; refine V98 ?_; clear hs; intro g3 w3 hs; refine V82 ?_; refine V108 ?_; clear hs; intro ws hs; replace hs := U1 hs; replace hs := U2 hs; refine V45 ?_; clear hs; intro ws hs; replace hs := U1 hs; replace hs := U2 hs; refine V512 ?_; exact Z.meet (g2, g3) J10 J53
      skip
      refine V98 ?_; clear hs; intro g3 w3 hs; refine V82 ?_; refine V172 ?_; refine V101 ?_; rintro v1_2 w1_2 ⟨rfl, hy⟩; replace hs := U0 (hs.call hy); clear hy; refine V46 ?_; refine V108 ?_; clear hs; intro ws hs; replace hs := U1 hs; replace hs := U2 hs; refine V45 ?_; clear hs; intro ws hs; replace hs := U1 hs; replace hs := U2 hs; refine V512 ?_; exact Z.meet (g2, g3) J10 J53
    skip
    refine V98 ?_; clear hs; intro g3 w3 hs; refine V82 ?_; refine Z.fork2 2 5 rfl rfl rfl J3 rfl rfl trivial trivial ?_ ?_
    · skip
      refine V101 ?_; rintro v1_2 w1_2 ⟨rfl, hy⟩; replace hs := U0 (hs.call hy); clear hy; refine V46 ?_; refine V149 ?_; refine V102 ?_; clear hs; intro g2 w2 hs; refine V52 ?_; refine V108 ?_; clear hs; intro ws hs; replace hs := U1 hs; replace hs := U2 hs; refine V45 ?_; clear hs; intro ws hs; replace hs := U1 hs; replace hs := U2 hs; refine V512 ?_; exact Z.meet (g2, g3) J10 J53
    skip
    refine V102 ?_; clear hs; intro g2 w2 hs; refine V52 ?_; refine V172 ?_; refine V101 ?_; rintro v1_2 w1_2 ⟨rfl, hy⟩; replace hs := U0 (hs.call hy); clear hy; refine V46 ?_; refine V108 ?_; clear hs; intro ws hs; replace hs := U1 hs; replace hs := U2 hs; refine V45 ?_; clear hs; intro ws hs; replace hs := U1 hs; replace hs := U2 hs; refine V512 ?_; exact Z.meet (g2, g3) J10 J53
  clear hs; rintro ⟨g2, g3⟩ w2 hs; refine Z.only [0, 1, 2, 3] rfl ?_
  (try dsimp only at hs)
  refine V182 ?_; refine V291 ?_; refine V857 ?_; refine Z.only [0, 1, 2, 3, 12] rfl ?_; refine V6 ?_; refine Z.cond rfl (fun hc2 => ?_) (fun h => absurd h (by simpa using hl)); refine V0 ?_; refine V550 ?_; refine V62 ?_; refine Z.ZO.call rfl rfl (by rfl) rfl rfl call145 rfl (must_ok _ 2 _ (by simpa using h0)) ?_; rintro v3_3 w3_3 ⟨rfl, hy⟩; replace hs := U0 (hs.call hy); clear hy; refine V857 ?_; refine V519 ?_; refine V210 ?_; refine Z.drawK (fun j => j != 14) mixed hs ?_; clear hs; intro wd4 hs; refine Z.t 0 rfl rfl rfl (by rfl) J3 (Jk hs) (Z.Yd.elemA rfl rfl underlying37 sizeOf3 (fun hG => ⟨J2, J2⟩)) ?_; refine Z.t 1 rfl rfl rfl (by rfl) J3 (Jk hs) J25 ?_; refine V559 ?_; refine Z.t 4 rfl rfl rfl (by rfl) J3 (Jk hs) J25 ?_; refine V560 ?_; refine Z.t 7 rfl rfl rfl (by rfl) J3 (Jk hs) J25 ?_; refine V295 ?_; refine Z.t 10 rfl rfl rfl (by rfl) J3 (Jk hs) J25 ?_; refine V172 ?_; refine Z.ZO.call rfl rfl (by rfl) rfl rfl call147 rfl (level_ok _ _ ha) ?_; rintro v4_2 w4_2 ⟨rfl, hy⟩; replace hs := U0 (hs.call hy); clear hy; refine Z.tk (Dn := fun j => j != 14) (i := 2) (fun _ => (Jk hs)) ?_; refine V149 ?_; refine Z.ZO.call rfl rfl (by rfl) rfl rfl call147 rfl (level_ok _ _ hb) ?_; rintro v4_5 w4_5 ⟨rfl, hy⟩; replace hs := U0 (hs.call hy); clear hy; refine Z.tk (Dn := fun j => j != 14) (i := 5) (fun _ => (Jk hs)) ?_; refine V412 ?_; refine Z.ZO.call rfl rfl (by rfl) rfl rfl call147 rfl (level_ok _ _ hcc) ?_; rintro v4_8 w4_8 ⟨rfl, hy⟩
  replace hs := U0 (hs.call hy); clear hy; refine Z.tk (Dn := fun j => j != 14) (i := 8) (fun _ => (Jk hs)) ?_; refine V561 ?_; refine Z.ZO.call rfl rfl (by rfl) rfl rfl call147 rfl (level_ok _ _ hd) ?_; rintro v4_11 w4_11 ⟨rfl, hy⟩; replace hs := U0 (hs.call hy); clear hy; refine Z.tk (Dn := fun j => j != 14) (i := 11) (fun _ => (Jk hs)) ?_; refine Z.tn 12 rfl rfl J3 rfl trivial ?_; refine Z.ZO.litL (T' := 211) [(0, 2), (2, 2), (4, 2), (6, 2)] [.int .u64 0, .int .i64 0, .int .u64 0, .int .i64 0, .int .u64 0, .int .i64 0, .int .u64 0, .int .i64 0] rfl rfl (by rfl) rfl rfl J19 hs ?_; clear hs; intro g29 w29 hs; refine Z.tk (Dn := fun j => j != 14) (i := 12) (fun _ => (Jk hs)) ?_; have hsx := Z.blk_lentj (L1 := []) hs (j := 0) rfl; refine V350 ?_; refine Z.ZO.call rfl rfl (by rfl) rfl rfl call146 rfl (built_ok 30 _ 4 4 [(r.a, 6), (r.b, 6), (r.c, 6), (r.d, 6)] _ hsx rfl J5 (by simp [fa.1, fb.1, fc.1, fd.1]) (by simp [chkA, fa.2, fb.2, fc.2, fd.2])) ?_; rintro v4_13 w4_13 ⟨B, co, rfl, hy⟩; replace hs := U0 (hs.call hy); clear hy; rw [long_bytes r ha hb hcc hd] at hs ⊢; refine Z.tk (Dn := fun j => j != 14) (i := 13) (fun _ => (Jk hs)) ?_; refine Z.tn 14 rfl rfl J3 rfl trivial ?_; refine V7 ?_; clear hs; intro ws hs; replace hs := U1 hs; replace hs := U2 hs; refine Z.tk (Dn := fun j => j != 14) (i := 14) (fun h => absurd h J12) ?_; refine V40 ?_; refine V264 ?_; refine V90 ?_
  repeat (first | refine Z.rthen ?_ | refine Z.rblock ?_ | refine Z.rscope ?_)
  refine Z.out1 J48 ?_; exact ⟨_, rfl, B, co, rfl, hs.sel [0] J12⟩
theorem encrep1_short (g : Nat) (r : RepV) (w : World) (hc : Cel w g r.cells) (hr : r.ok) (hl : r.long = false) :
    Calls Tryz.prog 143 #[.pointer (some ⟨g, 0, none⟩)] w (Ret fun v w' => IsPart 29 [64 * r.group + r.lv r.group.toNat] v w w') := by
  have hs := St.start w; obtain ⟨hg, hr⟩ := hr; rw [if_neg J132] at hr; obtain ⟨hz, hv⟩ := hr; have fg := okF (v := r.group) (wd := 2) hg.1 J5 (by have := hg.2; simp; omega); have fv := okF (v := r.lv r.group.toNat) (wd := 6) hv.1 J5 (by have := hv.2; simp; omega); have hget : Z.nth r.lvs (0 + r.group.toNat * 1) = some (.int .i64 (r.lv r.group.toNat)) := by rw [Nat.zero_add, Nat.mul_one]; exact lvs_nth r _ J5
  refine Z.enter func143 rfl ntmps143 rfl rfl ?_; refine V0 ?_; refine V274 ?_; clear hs; intro g1 w1 hs; refine V857 ?_; refine V378 ?_; refine V210 ?_; refine Z.cutt (ι := Nat × Nat) [0, 1] rfl (fun x => [(2, [], .pointer (some ⟨x.1, 0, none⟩)), (3, [], .pointer (some ⟨x.2, 0, none⟩))]) (fun x wr => St w [] wr [Ent.blk x.2 37 r.lvs.toArray, Ent.blk x.1 211 #[.int .u64 r.group, .int .i64 2], Ent.blk g1 77 #[.int .i64 0, .slice none 0 0]]) ?_ ?_
  · skip
    refine Z.drawK (fun _ => true) mixed hs ?_; clear hs; intro wd1 hs; refine V198 ?_; refine Z.forkD [2, 5, 6] rfl J3 rfl ⟨⟨_, _, rfl, rfl, trivial, ?_⟩, ⟨_, _, rfl, rfl, trivial, ?_⟩, ⟨_, _, rfl, rfl, trivial, ?_⟩, trivial⟩
    · skip
      refine V101 ?_; rintro v1_2 w1_2 ⟨rfl, hy⟩; replace hs := U0 (hs.call hy); clear hy; refine V46 ?_; refine Z.fork2 5 6 rfl rfl rfl J3 rfl rfl trivial trivial ?_ ?_
      · skip
        refine V102 ?_; clear hs; intro g2 w2 hs; refine V52 ?_; refine V262 ?_; refine V98 ?_; clear hs; intro g3 w3 hs; refine V82 ?_; refine V108 ?_; clear hs; intro ws hs; replace hs := U1 hs; replace hs := U2 hs; refine V45 ?_; clear hs; intro ws hs; replace hs := U1 hs; replace hs := U2 hs; refine V512 ?_; exact Z.meet (g2, g3) J10 J53
      skip
      refine V98 ?_; clear hs; intro g3 w3 hs; refine V82 ?_; refine V149 ?_; refine V102 ?_; clear hs; intro g2 w2 hs; refine V52 ?_; refine V108 ?_; clear hs; intro ws hs; replace hs := U1 hs; replace hs := U2 hs; refine V45 ?_; clear hs; intro ws hs; replace hs := U1 hs; replace hs := U2 hs; refine V512 ?_; exact Z.meet (g2, g3) J10 J53
    · skip
      refine V102 ?_; clear hs; intro g2 w2 hs; refine V52 ?_; refine Z.fork2 2 6 rfl rfl rfl J3 rfl rfl trivial trivial ?_ ?_
      · skip
        refine V101 ?_; rintro v1_2 w1_2 ⟨rfl, hy⟩; replace hs := U0 (hs.call hy); clear hy; refine V46 ?_; refine V262 ?_; refine V98 ?_; clear hs; intro g3 w3 hs; refine V82 ?_; refine V108 ?_; clear hs; intro ws hs; replace hs := U1 hs; replace hs := U2 hs; refine V45 ?_; clear hs; intro ws hs; replace hs := U1 hs; replace hs := U2 hs; refine V512 ?_; exact Z.meet (g2, g3) J10 J53
      skip
      refine V98 ?_; clear hs; intro g3 w3 hs; refine V82 ?_; refine V172 ?_; refine V101 ?_; rintro v1_2 w1_2 ⟨rfl, hy⟩; replace hs := U0 (hs.call hy); clear hy; refine V46 ?_; refine V108 ?_; clear hs; intro ws hs; replace hs := U1 hs; replace hs := U2 hs; refine V45 ?_; clear hs; intro ws hs; replace hs := U1 hs; replace hs := U2 hs; refine V512 ?_; exact Z.meet (g2, g3) J10 J53
    skip
    refine V98 ?_; clear hs; intro g3 w3 hs; refine V82 ?_; refine Z.fork2 2 5 rfl rfl rfl J3 rfl rfl trivial trivial ?_ ?_
    · skip
      refine V101 ?_; rintro v1_2 w1_2 ⟨rfl, hy⟩; replace hs := U0 (hs.call hy); clear hy; refine V46 ?_; refine V149 ?_; refine V102 ?_; clear hs; intro g2 w2 hs; refine V52 ?_; refine V108 ?_; clear hs; intro ws hs; replace hs := U1 hs; replace hs := U2 hs; refine V45 ?_; clear hs; intro ws hs; replace hs := U1 hs; replace hs := U2 hs; refine V512 ?_; exact Z.meet (g2, g3) J10 J53
    skip
    refine V102 ?_; clear hs; intro g2 w2 hs; refine V52 ?_; refine V172 ?_; refine V101 ?_; rintro v1_2 w1_2 ⟨rfl, hy⟩; replace hs := U0 (hs.call hy); clear hy; refine V46 ?_; refine V108 ?_; clear hs; intro ws hs; replace hs := U1 hs; replace hs := U2 hs; refine V45 ?_; clear hs; intro ws hs; replace hs := U1 hs; replace hs := U2 hs; refine V512 ?_; exact Z.meet (g2, g3) J10 J53
  clear hs; rintro ⟨g2, g3⟩ w2 hs; refine Z.only [0, 1, 2, 3] rfl ?_
  (try dsimp only at hs)
  refine V182 ?_; refine V291 ?_; refine V857 ?_; refine Z.only [0, 1, 2, 3, 12] rfl ?_; refine V6 ?_; refine Z.cond rfl (fun h => absurd h (by simpa using hl)) (fun hc2 => ?_); refine V427 ?_; refine Z.l rfl rfl (by rfl) (Z.keepS hs) J75 ?_; refine V1 ?_; refine Z.only [0, 1, 2, 3, 31, 32] rfl ?_; refine V861 ?_; refine Z.loopk (ι := Nat) [0, 1, 2, 3, 31] rfl (fun k => [(32, [], .int .i64 (k : Int))]) (fun k wr => k ≤ 4 ∧ St w [] wr [Ent.blk g3 37 r.lvs.toArray, Ent.blk g2 211 #[.int .u64 r.group, .int .i64 2], Ent.blk g1 77 #[.int .i64 0, .slice none 0 0]]) (fun k => 4 - k) 0 J6 ⟨by omega, hs⟩ ?_; clear hs; rintro k w3 ⟨hk, hs⟩; refine Z.only [0, 1, 2, 3, 31, 32] rfl ?_; refine V121 ?_; refine Z.only [0, 1, 2, 3, 31, 32, 33] rfl ?_; refine V210 ?_; refine Z.cond rfl (fun hc6 => ?_) (fun hc6 => ?_)
  · (try simp at hc6)
    have hgk := lvs_get r k J5; have hzk := hz k J5; refine V454 ?_; refine Z.l rfl rfl (by rfl) (Z.keepS hs) (Z.Yd.idx1 rfl rfl underlying37 sizeOf3 isAgg3 (fun _ => ⟨by omega, by omega, hgk⟩)) ?_; refine V31 ?_; refine Z.only [0, 1, 2, 3, 4, 5, 31, 32] rfl ?_; refine V300 ?_; refine V259 ?_; refine V550 ?_; refine V527 ?_; refine V168 ?_; rintro v8_8 w8_8 ⟨rfl, hy⟩; replace hs := U0 (hs.call hy); clear hy; refine V857 ?_; refine Z.only [0, 1, 2, 3, 31, 32] rfl ?_; refine V332 ?_; refine Z.only [0, 1, 2, 3, 31, 32] rfl ?_; refine V6 ?_; exact Z.again (k + 1) J21 ⟨by omega, hs⟩ J5
  first
    | (exfalso; simp at hc6 <;> omega)
    | (
      (try simp at hc6)
      refine V10 ?_; refine V210 ?_; refine Z.drawK (fun j => j != 8) mixed hs ?_; clear hs; intro wd10 hs; refine Z.t 0 rfl rfl rfl (by rfl) J3 (Jk hs) J136 ?_; refine Z.t 1 rfl rfl rfl (by rfl) J3 (Jk hs) (Z.Yd.fieldA (m := 1) rfl J3) ?_; refine Z.t 2 rfl rfl rfl (by rfl) J3 (Jk hs) (Z.Yd.load rfl isAgg3 (fun _ => Z.cellO hc.1 J16 (hc.2 1 _ rfl))) ?_; refine V559 ?_; refine Z.t 4 rfl rfl rfl (by rfl) J3 (Jk hs) (Z.Yd.load rfl isAgg3 (fun _ => Z.cellB (cs := r.lvs.toArray) J0 hget)) ?_; refine V149 ?_; refine Z.ZO.call rfl rfl (by rfl) rfl rfl call147 rfl (level_ok _ _ hv) ?_; rintro v10_5 w10_5 ⟨rfl, hy⟩; replace hs := U0 (hs.call hy); clear hy; refine Z.tk (Dn := fun j => j != 8) (i := 5) (fun _ => (Jk hs)) ?_; refine V262 ?_; refine V194 ?_; clear hs; intro g52 w52 hs; refine Z.tk (Dn := fun j => j != 8) (i := 6) (fun _ => (Jk hs)) ?_; have hsx := Z.blk_lentj (L1 := []) hs (j := 0) rfl; refine Z.tn 7 rfl rfl J3 rfl trivial ?_; refine Z.ZO.call rfl rfl (by rfl) rfl rfl call146 rfl (built_ok 29 _ 2 2 [(r.group, 2), (r.lv r.group.toNat, 6)] _ hsx rfl J5 (by simp [fg.1, fv.1]) (by simp [chkA, fg.2, fv.2])) ?_; rintro v10_7 w10_7 ⟨B, co, rfl, hy⟩; replace hs := U0 (hs.call hy); clear hy; rw [short_bytes _ _ hg hv] at hs ⊢; refine Z.tk (Dn := fun j => j != 8) (i := 7) (fun _ => (Jk hs)) ?_; refine V412 ?_; refine V7 ?_; clear hs; intro ws hs; replace hs := U1 hs; replace hs := U2 hs
      refine Z.tk (Dn := fun j => j != 8) (i := 8) (fun h => absurd h J12) ?_; refine V40 ?_; refine V264 ?_; refine V90 ?_; refine Z.out1 J48 ?_; exact ⟨_, rfl, B, co, rfl, hs.sel [0] J12⟩
      )

def lim : Nat → Int
  | 0 => 0
  | 1 => 10
  | k + 2 => lim (k + 1) + max 2 (lim (k + 1) / 6)
theorem lim_succ (k : Nat) (h : 1 ≤ k) : lim (k + 1) = lim k + max 2 (lim k / 6) := by
  obtain ⟨j, rfl⟩ : ∃ j, k = j + 1 := ⟨k - 1, by omega⟩
  rfl
theorem lim_mono1 (k : Nat) : lim k < lim (k + 1) := by
  by_cases h : 1 ≤ k
  · rw [lim_succ k h]; omega
  obtain rfl : k = 0 := by omega
  decide
theorem lim_mono {i j : Nat} (h : i ≤ j) : lim i ≤ lim j := by
  induction h with
  | refl => exact Int.le_refl _
  | step h ih => exact Int.le_trans ih (Int.le_of_lt (lim_mono1 _))
theorem lim_bd {k : Nat} (h : k ≤ 62) : 0 ≤ lim k ∧ lim k ≤ 1000000 := by
  have h0 : lim 0 ≤ lim k := lim_mono (Nat.zero_le k); have h1 : lim k ≤ lim 62 := lim_mono h; have h2 : lim 62 ≤ 1000000 := by decide +kernel
  have h3 : lim 0 = 0 := rfl
  omega
def lmI (k : Nat) : List Int := (List.range 63).map fun j => if j < k then lim j else 0
def lmC (k : Nat) : List Value := ints .i64 (lmI k)
@[simp] theorem lmC_len (k : Nat) : (lmC k).length = 63 := by simp [lmC, lmI, ints]
theorem lmI_get {k j : Nat} (hj : j < 63) (hk : j < k) : (lmI k)[j]? = some (lim j) := by simp [lmI, hj, hk]
theorem lmC_get {k j : Nat} (hj : j < 63) (hk : j < k) : (lmC k)[j]? = some (.int .i64 (lim j)) := by simp [lmC, ints, lmI_get hj hk]
theorem lmC_set {k : Nat} (hk : k < 63) : (lmC k).set k (.int .i64 (lim k)) = lmC (k + 1) := by
  apply List.ext_getElem?
  intro i; rw [List.getElem?_set]; simp only [lmC, lmI, ints, List.getElem?_map, List.length_map, List.length_range]
  by_cases h : k = i
  · subst h
    rw [if_pos rfl, if_pos hk, List.getElem?_range hk]; simp
  rw [if_neg h]
  by_cases hi : i < 63
  · rw [List.getElem?_range hi]
    simp only [Option.map_some, Option.some.injEq, Value.int.injEq, true_and]
    by_cases h2 : i < k
    · rw [if_pos h2, if_pos J5]
    rw [if_neg h2, if_neg J5]
  rw [List.getElem?_eq_none (by simpa using hi)]
  rfl
theorem lmC_one : ∀ (k : Nat), ∀ x ∈ lmC k, x.oneCell' = true := fun k => Z.ints_one
theorem limits_any (w : World) : Calls Tryz.prog 188 #[] w (Ret fun v w' => v = .agg (lmC 63).toArray ∧ St w [] w' []) := by
  have hs := St.start w; refine Z.enter func188 rfl ntmps188 rfl rfl ?_; refine V304 ?_; refine Z.ZO.alloc rfl rfl (by rfl) zeroValue261 rfl hs ?_; clear hs; intro g0 w0 hs; refine V857 ?_; refine V175 ?_; refine V858 ?_; refine Z.l rfl rfl (by rfl) (Z.keepS hs) (Z.Yd.elemA rfl rfl underlying261 sizeOf3 (fun hG => ⟨J2, J2⟩)) ?_; refine V183 ?_; clear hs; intro ws hs; replace hs := U1 hs; refine V857 ?_; refine V175 ?_; refine V30 ?_; replace hs : St w [] _ [Ent.blk g0 261 (lmC 2).toArray] := hs; refine V18 ?_; refine V857 ?_; refine V378 ?_; refine V861 ?_; refine Z.loopk (ι := Nat) [0] rfl (fun k => [(1, [], .int .i64 (k : Int))]) (fun k wr => (2 ≤ k ∧ k ≤ 63) ∧ St w [] wr [Ent.blk g0 261 (lmC k).toArray]) (fun k => 63 - k) 2 J6 ⟨by omega, hs⟩ ?_; clear hs; rintro k w1 ⟨hk, hs⟩; refine V378 ?_; refine V283 ?_; refine Z.only [0, 1, 4] rfl ?_; refine V6 ?_; refine Z.cond rfl (fun hc3 => ?_) (fun hc3 => ?_)
  · (try simp at hc3)
    have hbd := lim_bd (k := k - 1) J5; have hget : Z.nth (lmC k) (0 + ((k : Int) - 1).toNat * 1) = some (.int .i64 (lim (k - 1))) := by
      rw [Z.nth_eq, show 0 + ((k : Int) - 1).toNat * 1 = k - 1 from by omega]; exact lmC_get J5 J5
    have hls := lim_succ (k - 1) J5; rw [show k - 1 + 1 = k from by omega] at hls; refine V150 ?_; refine Z.drawK (fun j => j != 13) mixed hs ?_; clear hs; intro wd5 hs; refine V557 ?_; refine Z.t 2 rfl rfl rfl (by rfl) J3 (Jk hs) (Z.Yd.sub rfl rfl (fun hG => Z.wi64 J2)) ?_; refine Z.t 3 rfl rfl rfl (by rfl) J3 (Jk hs) (Z.Yd.elemA rfl rfl underlying261 sizeOf3 (fun hG => ⟨J2, J2⟩)) ?_; refine Z.t 4 rfl rfl rfl (by rfl) J3 (Jk hs) (Z.Yd.load rfl isAgg3 (fun _ => Z.cellB (cs := (lmC k).toArray) J0 hget)) ?_; refine Z.tb [5] J3 rfl (Jk hs) rfl ?_; refine Z.t 6 rfl rfl rfl (by rfl) J3 (Jk hs) (Z.Yd.sub rfl rfl (fun hG => Z.wi64 J2)) ?_; refine Z.t 7 rfl rfl rfl (by rfl) J3 (Jk hs) (Z.Yd.elemA rfl rfl underlying261 sizeOf3 (fun hG => ⟨J2, J2⟩)) ?_; refine Z.t 8 rfl rfl rfl (by rfl) J3 (Jk hs) (Z.Yd.load rfl isAgg3 (fun _ => Z.cellB (cs := (lmC k).toArray) J0 hget)) ?_; refine Z.t 9 rfl rfl rfl (by rfl) J3 (Jk hs) (Z.Yd.quo rfl rfl J33 J37) ?_; refine Z.t 10 rfl rfl rfl (by rfl) J3 (Jk hs) (Z.Yd.max rfl rfl) ?_; refine Z.t 11 rfl rfl rfl (by rfl) J3 (Jk hs) (Z.Yd.add rfl rfl (fun hG => Z.wi64 J2)) ?_; refine Z.t 12 rfl rfl rfl (by rfl) J3 (Jk hs) (Z.Yd.elemA rfl rfl underlying261 sizeOf3 (fun hG => ⟨J2, J2⟩)) ?_; refine V350 ?_; refine V25 ?_; clear hs; intro ws hs; replace hs := U1 hs; refine Z.tk (Dn := fun j => j != 13) (i := 13) (fun h => absurd h J12) ?_; refine V40 ?_; refine V378 ?_; refine V302 ?_; refine V378 ?_; refine V6 ?_
    rw [show lim (k - 1) + max 2 (lim (k - 1) / 6) = lim k from hls.symm, show (k : Int).toNat * 1 = k from by omega, lmC_set J5] at hs; exact Z.again (k + 1) J11 ⟨by omega, hs⟩ J5
  (try simp at hc3)
  refine V181 ?_; obtain rfl : k = 63 := by omega
  refine Z.l rfl rfl (by rfl) (Z.keepS hs) (by exact Z.Yd.loadA _ rfl isAgg261 (fun _ => Z.cellsB J0) (by exact sizeOf261)) ?_; refine V2 ?_; refine Z.ZO.storeA rfl rfl hs rfl rfl J3 (by rw [List.all_toArray]; exact List.all_eq_true.2 (lmC_one 63)) J1 (by rfl) ?_; clear hs; intro ws hs; replace hs := U1 hs; refine V857 ?_; refine V175 ?_; refine V90 ?_; refine Z.out1 (by exact ⟨⟨_, rfl, Z.rvcA hs isAgg261 J0 (by exact sizeOf261)⟩, trivial⟩) ?_; exact ⟨_, rfl, rfl, Jn hs⟩

theorem cnan_any (x : Int) (w : World) : Calls Tryz.prog 206 #[.int .i64 x] w (Ret fun v w' => v = .bool false ∧ St w [] w' []) := by
  have hs := St.start w; refine Z.enter func206 rfl ntmps206 rfl rfl ?_; refine V242 ?_; refine V259 ?_; refine V857 ?_; refine V120 ?_; exact ⟨_, rfl, by simp, hs⟩
theorem snan_any (x : Int) (w : World) : Calls Tryz.prog 202 #[.int .i64 x] w (Ret fun v w' => v = .bool false ∧ St w [] w' []) := by
  have hs := St.start w; refine Z.enter func202 rfl ntmps202 rfl rfl ?_; refine V242 ?_; refine V259 ?_; refine V857 ?_; refine V120 ?_; exact ⟨_, rfl, by simp, hs⟩
theorem less_any (x y : Int) (w : World) : Calls Tryz.prog 201 #[.int .i64 x, .int .i64 y] w (Ret fun v w' => v = .bool (decide (x < y)) ∧ St w [] w' []) := by
  have hs := St.start w; refine Z.enter func201 rfl ntmps201 rfl rfl ?_; refine V394 ?_; refine V858 ?_; refine V62 ?_; refine Z.ZO.call rfl rfl (by rfl) rfl rfl call206 rfl (cnan_any x _) ?_; rintro v1_1 w1_1 ⟨rfl, hy⟩; replace hs := U0 (hs.call hy); clear hy; refine V859 ?_; refine Z.yes (s := 7) (b := false) rfl (rfl) rfl ?_; refine V4 ?_; refine V276 ?_; refine Z.yes (s := 12) (b := false) rfl (rfl) rfl ?_; refine V50 ?_; refine Z.yes (s := 12) (b := false) rfl rfl rfl ?_; refine V14 ?_; refine V1 ?_; refine V240 ?_; exact ⟨_, rfl, by simp, hs⟩
theorem bsearch_any (A : Option Addr) (n c : Nat) (l : List Int) (x : Int) (w : World) (hx : Sl w A (ints .i64 l)) (hl : l.length = n) (hn : n ≤ 1000000) (hm : ∀ i j : Nat, i ≤ j → j < n → elt l (i : Int) ≤ elt l (j : Int)) :
    Calls Tryz.prog 189 #[.slice A n c, .int .i64 x] w (Ret fun v w' => (∃ (i : Nat) (b : Bool), v = .tuple #[.int .i64 (i : Int), .bool b] ∧ i ≤ n ∧ (∀ j : Nat, j < i → elt l (j : Int) < x) ∧ ∀ j : Nat, i ≤ j → j < n → x ≤ elt l (j : Int)) ∧ St w [] w' []) := by
  have hs := St.start w; refine Z.enter func189 rfl ntmps189 rfl rfl ?_; refine V151 ?_; refine V378 ?_; refine V303 ?_; refine V248 ?_; refine Z.only [0, 1, 6] rfl ?_; refine V858 ?_; refine V184 ?_; refine Z.only [0, 1, 6, 7, 8] rfl ?_; refine V6 ?_; refine V63 ?_; refine Z.loopk (ι := Nat × Nat) [0, 1, 6] rfl (fun p => [(7, [], .int .i64 (p.1 : Int)), (8, [], .int .i64 (p.2 : Int))]) (fun p wr => ((p.1 ≤ p.2 ∧ p.2 ≤ n) ∧ (∀ j : Nat, j < p.1 → elt l (j : Int) < x) ∧ ∀ j : Nat, p.2 ≤ j → j < n → x ≤ elt l (j : Int)) ∧ St w [] wr []) (fun p => p.2 - p.1) (0, n) J11 ⟨⟨by simp, by simp, by simp only; intro j h1 h2; omega⟩, hs⟩ ?_; clear hs; rintro ⟨lo, hi⟩ w1 ⟨⟨hb, hlo, hhi⟩, hs⟩; refine Z.only [0, 1, 6, 7, 8] rfl ?_
  (try dsimp only at hs)
  dsimp only at hb hlo hhi; refine V182 ?_; refine V184 ?_; refine Z.only [0, 1, 6, 7, 8, 15] rfl ?_; refine V6 ?_; refine Z.cond rfl (fun hc3 => ?_) (fun hc3 => ?_)
  · (try simp at hc3)
    obtain ⟨bb, off, rfl, hbb, hx⟩ := Z.Sl.some hx J92; obtain ⟨m, hmm⟩ : ∃ m : Nat, m = (lo + hi) / 2 := ⟨_, rfl⟩; have hsum : ((lo : Int) + (hi : Int)) / 2 = (m : Int) := by omega
    have hm1 : lo ≤ m ∧ m < hi := by omega
    refine V47 ?_; refine V861 ?_; refine V0 ?_; refine V11 ?_; refine V5 ?_; refine V534 ?_; refine Z.l rfl rfl (by rfl) (Z.keepS hs) (Z.Yd.shr rfl rfl (by intro hG; decide) (fun _ => Z.shrl (c := 2) rfl)) ?_; rw [hsum]; refine Z.l rfl rfl (by rfl) (Z.keepS hs) (Z.Yd.convI rfl ⟨_, underlying223⟩ underlying3 (fun hG => Z.wi64 J2)) ?_; refine V1 ?_; refine Z.only [0, 1, 6, 7, 8, 9] rfl ?_; refine V858 ?_; refine V475 ?_; refine V62 ?_; refine Z.ZO.call rfl rfl (by rfl) rfl rfl call201 rfl (less_any _ _ _) ?_; rintro v5_5 w5_5 ⟨rfl, hy⟩; replace hs := U0 (hs.call hy); clear hy; refine V857 ?_; refine Z.only [0, 1, 6, 7, 8, 9, 27] rfl ?_; refine V6 ?_; refine Z.cond rfl (fun hc5 => ?_) (fun hc5 => ?_)
    · (try simp at hc5)
      refine V93 ?_; refine Z.only [0, 1, 6, 7, 8] rfl ?_; refine V270 ?_
      first
      | exact Z.again (m + 1, hi) J8 ⟨⟨by simp only; omega, by
          simp only; intro j hj
          exact Int.lt_of_le_of_lt (hm j m J5 J5) J72, hhi⟩, hs⟩ J22
      | exact Z.again (lo, m) J8 ⟨⟨by simp only; omega, hlo, by
          simp only; intro j hj hjn
          exact Int.le_trans J72 (hm m j J5 J5)⟩, hs⟩ J22
    (try simp at hc5)
    refine V42 ?_; refine V31 ?_; refine Z.only [0, 1, 6, 7, 8] rfl ?_; refine V270 ?_
    first
    | exact Z.again (m + 1, hi) J8 ⟨⟨by simp only; omega, by
        simp only; intro j hj
        exact Int.lt_of_le_of_lt (hm j m J5 J5) J72, hhi⟩, hs⟩ J22
    | exact Z.again (lo, m) J8 ⟨⟨by simp only; omega, hlo, by
        simp only; intro j hj hjn
        exact Int.le_trans J72 (hm m j J5 J5)⟩, hs⟩ J22
  (try simp at hc3)
  refine V181 ?_; obtain rfl : lo = hi := by omega
  refine V18 ?_; refine V259 ?_; refine Z.split (s := 35) rfl (fun hsp35 => ?_) (fun hsp35 => ?_)
  · refine Z.yes (s := 35) (b := true) rfl hsp35 rfl ?_
    (try simp at hsp35)
    obtain ⟨bb, off, rfl, hbb, hx⟩ := Z.Sl.some hx J92; refine V475 ?_; refine V50 ?_; refine Z.yes (s := 35) (b := true) rfl rfl rfl ?_; refine Z.split (s := 42) rfl (fun hsp42 => ?_) (fun hsp42 => ?_)
    · refine Z.yes (s := 42) (b := true) rfl hsp42 rfl ?_
      (try simp at hsp42)
      refine V4 ?_; refine V4 ?_; refine Z.lsU rfl rfl rfl (by rfl) ?_; refine V220 ?_; refine V20 ?_; refine Z.yes (s := 35) (b := true) rfl rfl rfl ?_; refine V20 ?_; refine V280 ?_; refine V162 ?_; exact ⟨_, rfl, ⟨lo, _, rfl, by omega, hlo, hhi⟩, hs⟩
    refine Z.yes (s := 42) (b := false) rfl hsp42 rfl ?_
    (try simp at hsp42)
    refine V475 ?_; refine V436 ?_; refine V160 ?_; refine Z.ZO.call rfl rfl (by rfl) rfl rfl call202 rfl (snan_any _ _) ?_; rintro v8_16 w8_16 ⟨rfl, hy⟩; replace hs := U0 (hs.call hy); clear hy; refine V859 ?_; refine V436 ?_; refine Z.yes (s := 48) (b := false) rfl (rfl) rfl ?_; refine V299 ?_; refine V14 ?_; refine V436 ?_; refine V14 ?_; refine Z.yes (s := 35) (b := true) rfl rfl rfl ?_; refine V20 ?_; refine V280 ?_; refine V162 ?_; exact ⟨_, rfl, ⟨lo, _, rfl, by omega, hlo, hhi⟩, hs⟩
  refine Z.yes (s := 35) (b := false) rfl hsp35 rfl ?_
  (try simp at hsp35)
  refine V4 ?_; refine V4 ?_; refine V36 ?_; refine V13 ?_; refine V13 ?_; refine V13 ?_; refine V36 ?_; refine V14 ?_; refine V280 ?_; refine V162 ?_; exact ⟨_, rfl, ⟨lo, _, rfl, by omega, hlo, hhi⟩, hs⟩

def lvl (x : Int) : Nat := (List.range 63).findIdx fun k => decide (x ≤ lim k)
theorem lvl_eq {x : Int} {i : Nat} (h : i ≤ 63) (h1 : ∀ j : Nat, j < i → lim j < x) (h2 : ∀ j : Nat, i ≤ j → j < 63 → x ≤ lim j) : lvl x = i := by
  unfold lvl
  by_cases hi : i < 63
  · rw [List.findIdx_eq (by simpa using hi)]
    refine ⟨by simpa using h2 i (Nat.le_refl i) hi, fun j hj => ?_⟩; have := h1 j hj; simp
    omega
  obtain rfl : i = 63 := by omega
  have : (List.range 63).findIdx (fun k => decide (x ≤ lim k)) = (List.range 63).length := by
    rw [List.findIdx_eq_length]; intro k hk; have := h1 k (by simpa using hk); simp
    omega
  rw [this, List.length_range]
theorem lvl_spec (x : Int) : lvl x ≤ 63 ∧ (∀ j : Nat, j < lvl x → lim j < x) ∧ ∀ j : Nat, lvl x ≤ j → j < 63 → x ≤ lim j := by
  have key : ∃ i, i ≤ 63 ∧ (∀ j : Nat, j < i → lim j < x) ∧ ∀ j : Nat, i ≤ j → j < 63 → x ≤ lim j := by
    have : ∀ n, n ≤ 63 → ∃ i, i ≤ n ∧ (∀ j : Nat, j < i → lim j < x) ∧ ∀ j : Nat, i ≤ j → j < n → x ≤ lim j := by
      intro n
      induction n with
      | zero => intro _; exact ⟨0, by omega, fun j hj => by omega, fun j _ h => by omega⟩
      | succ n ih =>
        intro hn; obtain ⟨i, h0, h1, h2⟩ := ih J5
        by_cases hx : x ≤ lim n
        · refine ⟨i, by omega, h1, fun j hj hjn => ?_⟩
          by_cases e : j = n
          · rw [e]; exact hx
          exact h2 j hj J5
        refine ⟨n + 1, Nat.le_refl _, fun j hj => ?_, fun j h1 h2 => by omega⟩; have := lim_mono (show j ≤ n by omega)
        omega
    exact this 63 (Nat.le_refl _)
  obtain ⟨i, h0, h1, h2⟩ := key; rw [lvl_eq h0 h1 h2]; exact ⟨h0, h1, h2⟩
def levV (x : Int) : Int := if x < 0 then 0 else (lvl x : Int)
def levE (x : Int) : Int := if x < 0 then 2 else 0
theorem elt_lm {j : Nat} (hj : j < 63) : elt (lmI 63) (j : Int) = lim j := by
  unfold elt; rw [List.getD_eq_getElem?_getD, Int.toNat_natCast, lmI_get hj hj]
  rfl
theorem clevel_any (x : Int) (w : World) : Calls Tryz.prog 149 #[.int .i64 x] w (Ret fun v w' => v = .tuple #[.int .i64 (levV x), .int .i64 (levE x)] ∧ St w [] w' []) := by
  have hs := St.start w; refine Z.enter func149 rfl ntmps149 rfl rfl ?_; refine V538 ?_; refine V84 ?_; refine Z.only [0, 8] rfl ?_; refine V6 ?_; refine Z.cond rfl (fun hc1 => ?_) (fun hc1 => ?_)
  · (try simp at hc1)
    refine V196 ?_
    repeat (first | refine Z.rthen ?_ | refine Z.rblock ?_ | refine Z.rscope ?_)
    refine V162 ?_; exact ⟨_, rfl, by unfold levV levE; rw [if_pos J5, if_pos J5], hs⟩
  (try simp at hc1)
  refine V862 ?_; refine V2 ?_; refine Z.ZO.call rfl rfl (by rfl) rfl rfl call188 rfl (limits_any _) ?_; rintro v3_0 w3_0 ⟨rfl, hy⟩; replace hs := U0 (hs.call hy); clear hy; refine V2 ?_; refine Z.ZO.alloc rfl rfl (by rfl) zeroValue261 rfl hs ?_; clear hs; intro g4 w4 hs; refine V2 ?_; refine Z.ZO.storeA rfl rfl hs rfl rfl J3 (by rw [List.all_toArray]; exact List.all_eq_true.2 (lmC_one 63)) SX.at0 (show (63 : Nat) = (lmC 63).length from (lmC_len 63).symm) ?_; clear hs; intro ws hs; replace hs := U1 hs; refine V857 ?_; refine V352 ?_; refine V858 ?_; refine Z.l rfl rfl (by rfl) (Z.keepS hs) (Z.Yd.cutA rfl underlying261 sizeOf3) ?_; refine V859 ?_; have hsl := (Z.blk_lentj (L1 := []) hs (j := 0) rfl).sl; refine V2 ?_; refine Z.ZO.call rfl rfl (by rfl) rfl rfl call189 rfl (bsearch_any _ 63 63 (lmI 63) x _ hsl (by simp [lmI]) J5 (fun i j hij hj ↦ by rw [elt_lm J5, elt_lm J5]; exact lim_mono hij)) ?_; rintro v4_2 w4_2 ⟨⟨i, b, rfl, hi, h1, h2⟩, hy⟩; replace hs := U0 (hs.call hy); clear hy; refine V126 ?_; refine Z.only [5] rfl ?_; refine V858 ?_; refine V184 ?_; refine V124 ?_; refine V162 ?_; have e : lvl x = i := lvl_eq hi (fun j hj => by have := h1 j hj; rwa [elt_lm J5] at this) (fun j hj hj2 => by have := h2 j hj hj2; rwa [elt_lm J5] at this); exact ⟨_, rfl, by unfold levV levE; rw [if_neg J5, if_neg J5, e], Jn hs⟩
theorem rlimit_any (n : Nat) (w : World) (hn : n ≤ 62) : Calls Tryz.prog 183 #[.int .i64 (n : Int)] w (Ret fun v w' => v = .int .i64 (lim n) ∧ St w [] w' []) := by
  have hs := St.start w; refine Z.enter func183 rfl ntmps183 rfl rfl ?_; refine V592 ?_; refine Z.loopk (ι := Nat) [0] rfl (fun k => [(3, [], .int .i64 (lim k)), (4, [], .int .i64 ((k : Int) + 1))]) (fun k wr => k ≤ n ∧ St w [] wr []) (fun k => n - k) 0 J11 ⟨by omega, hs⟩ ?_; clear hs; rintro k w1 ⟨hk, hs⟩; refine V261 ?_; refine V182 ?_; refine V184 ?_; refine Z.only [0, 3, 4, 7] rfl ?_; refine V6 ?_; refine Z.cond rfl (fun hc3 => ?_) (fun hc3 => ?_)
  · (try simp at hc3)
    have hbd := lim_bd (k := k) J5; refine V150 ?_; refine V151 ?_; refine Z.only [0, 3, 4, 11] rfl ?_; refine V6 ?_; refine Z.cond rfl (fun hc5 => ?_) (fun hc5 => ?_)
    · (try simp at hc5)
      refine V42 ?_; refine V1 ?_; refine V261 ?_; refine V641 ?_
      by_cases h0 : k = 0
      · subst h0
        first | exact Z.again 1 J13 ⟨by omega, hs⟩ J5 | (exfalso; omega)
      have e := lim_succ k J5
      first | exact Z.again (k + 1) (by rw [e]; exact J13) ⟨by omega, hs⟩ J5 | (exfalso; omega)
    (try simp at hc5)
    refine V42 ?_; refine V11 ?_; refine V117 ?_; refine Z.l rfl rfl (by rfl) (Z.keepS hs) (Z.Yd.max rfl rfl) ?_; refine V33 ?_; refine V261 ?_; refine V641 ?_
    by_cases h0 : k = 0
    · subst h0
      first | exact Z.again 1 J13 ⟨by omega, hs⟩ J5 | (exfalso; omega)
    have e := lim_succ k J5
    first | exact Z.again (k + 1) (by rw [e]; exact J13) ⟨by omega, hs⟩ J5 | (exfalso; omega)
  (try simp at hc3)
  refine V537 ?_; obtain rfl : k = n := by omega
  exact ⟨_, rfl, rfl, hs⟩
theorem rlevel_any (x : Int) (w : World) : Calls Tryz.prog 136 #[.int .i64 x] w (Ret fun v w' => v = .int .i64 (lvl x : Int) ∧ St w [] w' []) := by
  have hs := St.start w; refine Z.enter func136 rfl ntmps136 rfl rfl ?_; refine V336 ?_; refine V214 ?_; refine V269 ?_; refine V861 ?_; refine Z.loopk (ι := Nat) [0] rfl (fun k => [(3, [], .int .i64 (k : Int))]) (fun k wr => (k ≤ 63 ∧ ∀ j : Nat, j < k → lim j < x) ∧ St w [] wr []) (fun k => 63 - k) 0 J6 ⟨⟨by omega, fun j hj => by omega⟩, hs⟩ ?_; clear hs; rintro k w1 ⟨⟨hk, hj⟩, hs⟩; refine V269 ?_; refine V283 ?_; refine Z.only [0, 3, 5] rfl ?_; refine V6 ?_; refine Z.cond rfl (fun hc2 => ?_) (fun hc2 => ?_)
  · (try simp at hc2)
    refine V272 ?_; refine V62 ?_; refine Z.ZO.call rfl rfl (by rfl) rfl rfl call183 rfl (rlimit_any k _ J5) ?_; rintro v4_1 w4_1 ⟨rfl, hy⟩; replace hs := U0 (hs.call hy); clear hy; refine V31 ?_; refine Z.only [0, 3, 11] rfl ?_; refine V6 ?_; refine Z.cond rfl (fun hc4 => ?_) (fun hc4 => ?_)
    · (try simp at hc4)
      refine V151 ?_; refine V43 ?_; refine V90 ?_
      repeat (first | refine Z.rthen ?_ | refine Z.rblock ?_ | refine Z.rscope ?_)
      refine V199 ?_; exact ⟨_, rfl, by rw [lvl_eq hk hj (fun j h1 h2 => by have := lim_mono h1; omega)], hs⟩
    (try simp at hc4)
    refine V331 ?_; refine V269 ?_; refine V6 ?_
    exact Z.again (k + 1) J11 ⟨⟨by omega, fun j h1 => by
      by_cases e : j = k
      · rw [e]; omega
      exact hj j J5⟩, hs⟩ J5
  (try simp at hc2)
  refine V181 ?_; refine V186 ?_; obtain rfl : k = 63 := by omega
  exact ⟨_, rfl, by rw [lvl_eq hk hj (fun j h1 h2 => by omega)]; rfl, hs⟩

instance (r : RepV) : Decidable r.ok := by unfold RepV.ok okL; infer_instance
theorem encrep_ok (r : RepV) (w : World) (hr : r.ok) :
    Calls Tryz.prog 95 #[.agg r.cells.toArray] w (Ret fun v w' => ∃ u, v = .tuple #[u, .int .i64 0] ∧ IsPart (encLc r) (encL r) u w w') := by
  have hs := St.start w; refine Z.enter func95 rfl ntmps95 rfl rfl ?_; refine V91 ?_; clear hs; intro g1 w1 hs; refine V274 ?_; clear hs; intro g2 w2 hs; refine V155 ?_; refine V303 ?_; have hof : ∀ W L, St w2 [] W L → Calls Tryz.prog 143 #[.pointer (some ⟨g1, 0, none⟩)] W (Ret fun v w' => IsPart (encLc r) (encL r) v W w') := fun W L hW => by
    obtain ⟨a1, a2⟩ := blkLater hs (j := 1) rfl hW
    cases hl : r.long with
    | true =>
      have := encrep1_long g1 r W ⟨a1, fun i u hu => a2 i u (by simpa using hu)⟩ hr hl; unfold encLc encL; rw [if_pos hl, if_pos hl]; exact this
    | false =>
      have := encrep1_short g1 r W ⟨a1, fun i u hu => a2 i u (by simpa using hu)⟩ hr hl; unfold encLc encL; rw [if_neg J132, if_neg J132]; exact this
  refine V2 ?_; refine Z.ZO.call rfl rfl (by rfl) rfl rfl call142 rfl (element_ok _ _ (encLc r) _ _ call143 hof) ?_; rintro v1_1 w1_1 ⟨u, rfl, B, co, rfl, hy⟩; replace hs := U0 (hs.call hy); clear hy; refine V11 ?_; refine V860 ?_; clear hs; intro ws hs; replace hs := U1 hs; replace hs := U2 hs; refine V484 ?_; refine Z.out2 J90 ?_; exact ⟨_, rfl, _, rfl, B, co, rfl, hs.sel [0] J12⟩

theorem ok_iff (r : RepV) : r.ok ↔ (0 ≤ r.group ∧ r.group ≤ 3) ∧ (r.long = true → r.group = 0) ∧ ∀ j : Nat, j < 4 → okL (r.lv j) ∧ (r.long = false → (j : Int) ≠ r.group → r.lv j = 0) := by
  unfold RepV.ok; refine and_congr_right fun hg => ?_
  cases hl : r.long with
  | true =>
    rw [if_pos rfl]
    constructor
    · rintro ⟨h0, ha, hb, hc, hd⟩
      refine ⟨fun _ => h0, fun j hj => ⟨?_, fun h => (by cases h)⟩⟩; have : j = 0 ∨ j = 1 ∨ j = 2 ∨ j = 3 := by omega
      rcases this with rfl | rfl | rfl | rfl
      · exact ha
      · exact hb
      · exact hc
      exact hd
    rintro ⟨h0, h⟩; exact ⟨h0 rfl, (h 0 J5).1, (h 1 J5).1, (h 2 J5).1, (h 3 J5).1⟩
  | false =>
    rw [if_neg J16]
    constructor
    · rintro ⟨h1, h2⟩
      refine ⟨fun h => (by cases h), fun j hj => ?_⟩
      rcases h1 j hj with h | h
      · exact ⟨by rw [h]; exact ⟨by omega, by omega⟩, fun _ _ => h⟩
      refine ⟨?_, fun _ h3 => absurd h h3⟩; rw [show j = r.group.toNat from by omega]; exact h2
    rintro ⟨-, h⟩; refine ⟨fun j hj => ?_, (h r.group.toNat J5).1⟩
    by_cases e : (j : Int) = r.group
    · exact .inr e
    exact .inl ((h j hj).2 rfl e)
theorem cells_nth (r : RepV) (k : Nat) (hk : k < 4) : Z.nth r.cells (0 + 2 + (k : Int).toNat * 1) = some (.int .i64 (r.lv k)) := by
  have : k = 0 ∨ k = 1 ∨ k = 2 ∨ k = 3 := by omega
  rcases this with rfl | rfl | rfl | rfl <;> rfl
theorem rvalid24 (r : RepV) (w : World) : Calls Tryz.prog 184 #[.agg r.cells.toArray] w (Ret fun v w' => v = .bool (decide r.ok) ∧ St w [] w' []) := by
  have hs := St.start w; have hok := ok_iff r; refine Z.enter func184 rfl ntmps184 rfl rfl ?_; refine V91 ?_; clear hs; intro g1 w1 hs; refine V626 ?_; refine V30 ?_; refine V104 ?_; refine V11 ?_; refine V104 ?_; refine V50 ?_; refine V3 ?_; refine V107 ?_; refine V859 ?_; refine V104 ?_; refine V184 ?_; refine Z.only [1, 20] rfl ?_; refine V6 ?_; refine Z.cond rfl (fun hc1 => ?_) (fun hc1 => ?_)
  · (try simp at hc1)
    refine V154 ?_
    repeat (first | refine Z.rthen ?_ | refine Z.rblock ?_ | refine Z.rscope ?_)
    refine V199 ?_; refine ⟨_, rfl, ?_, Jn hs⟩; rw [decide_eq_false (fun h => ?_)]; obtain ⟨h1, h2, -⟩ := hok.1 h
    cases hl : r.long <;> simp_all <;> omega
  first
    | (exfalso; simp at hc1 <;> omega)
    | (
      (try simp at hc1)
      refine V463 ?_; refine V519 ?_; refine V861 ?_; refine Z.loopk (ι := Nat) [1] rfl (fun k => [(3, [], .int .i64 (k : Int))]) (fun k wr => (k ≤ 4 ∧ ∀ j : Nat, j < k → okL (r.lv j) ∧ (r.long = false → (j : Int) ≠ r.group → r.lv j = 0)) ∧ St w [] wr [Ent.blk g1 86 r.cells.toArray]) (fun k => 4 - k) 0 J6 ⟨⟨by omega, fun j hj => by omega⟩, hs⟩ ?_; clear hs; rintro k w1 ⟨⟨hk, hj⟩, hs⟩; refine V519 ?_; refine V283 ?_; refine Z.only [1, 3, 22] rfl ?_; refine V6 ?_; refine Z.cond rfl (fun hc4 => ?_) (fun hc4 => ?_)
      · (try simp at hc4)
        have hget := cells_nth r k J5; refine V454 ?_; refine V254 ?_; refine V50 ?_; refine V254 ?_; refine V50 ?_; refine V3 ?_; refine V107 ?_; refine V50 ?_; refine V104 ?_; refine V259 ?_; refine V254 ?_; refine V184 ?_; refine Z.only [1, 3, 54] rfl ?_; refine V6 ?_; refine Z.cond rfl (fun hc6 => ?_) (fun hc6 => ?_)
        · (try simp at hc6)
          refine V154 ?_
          repeat (first | refine Z.rthen ?_ | refine Z.rblock ?_ | refine Z.rscope ?_)
          refine V199 ?_; refine ⟨_, rfl, ?_, Jn hs⟩; rw [decide_eq_false (fun h => ?_)]; obtain ⟨-, -, h3⟩ := hok.1 h; obtain ⟨h4, h5⟩ := h3 k J5; unfold okL at h4
          cases hl : r.long <;> simp_all <;> omega
        (try simp at hc6)
        refine V331 ?_; refine V519 ?_; refine V6 ?_
        exact Z.again (k + 1) J11 ⟨⟨by omega, fun j h1 => by
          by_cases e : j = k
          · subst e
            unfold okL
            cases hl : r.long <;> simp_all <;> omega
          exact hj j J5⟩, hs⟩ J5
      · (try simp at hc4)
        refine V181 ?_; refine V186 ?_; obtain rfl : k = 4 := by omega
        refine ⟨_, rfl, ?_, Jn hs⟩; rw [decide_eq_true (hok.2 ⟨?_, ?_, hj⟩)]
        · omega
        cases hl : r.long <;> simp_all
      )
theorem rencrep_ok (r : RepV) (w : World) (hr : r.ok) :
    Calls Tryz.prog 137 #[.agg r.cells.toArray] w (Ret fun v w' => ∃ u, v = .tuple #[u, .int .i64 0] ∧ IsPart (encLc r) (encL r) u w w') := by
  have hs := St.start w; obtain ⟨hg, hlg, hj⟩ := (ok_iff r).1 hr; have k0 := (hj 0 J5).1; have k1 := (hj 1 J5).1; have k2 := (hj 2 J5).1; have k3 := (hj 3 J5).1; have kg := (hj r.group.toNat J5).1; unfold okL at k0 k1 k2 k3 kg; simp only [RepV.lv] at k0 k1 k2 k3; have hget := cells_nth r r.group.toNat J5; rw [Int.toNat_natCast] at hget
  cases hl : r.long with
  | false =>
    have e1 : encLc r = 29 := by unfold encLc; rw [if_neg J132]
    have e2 : encL r = [64 * r.group + r.lv r.group.toNat] := by unfold encL; rw [if_neg J132]
    rw [e1, e2]; refine Z.enter func137 rfl ntmps137 rfl rfl ?_; refine V91 ?_; clear hs; intro g1 w1 hs; refine V274 ?_; clear hs; intro g2 w2 hs; refine V717 ?_; rintro v1_1 w1_1 ⟨rfl, hy⟩; replace hs := U0 (hs.call hy); clear hy; rw [decide_eq_true hr]; refine V1 ?_; refine Z.only [1, 2, 8] rfl ?_; refine V6 ?_; refine Z.cond rfl (fun h => absurd h J16) (fun hc1 => ?_); refine V427 ?_; refine V3 ?_; refine V107 ?_; refine V1 ?_; refine Z.only [1, 2, 12] rfl ?_; refine V6 ?_; refine Z.cond rfl (fun hc3 => ?_) (fun h => absurd h J132); refine V141 ?_; refine Z.drawL [Ent.blk g1 86 r.cells.toArray] (fun _ => true) mixed hs ?_; clear hs; intro wd4 hs; refine V404 ?_; refine Z.t 2 rfl rfl rfl (by rfl) J3 (Jk hs) (Z.Yd.mul rfl rfl (fun hG => Z.wi64 J2)) ?_; refine Z.t 3 rfl rfl rfl (by rfl) J3 (Jk hs) (Z.Yd.fieldA (m := 1) rfl J3) ?_; refine Z.t 4 rfl rfl rfl (by rfl) J3 (Jk hs) J25 ?_; refine Z.t 5 rfl rfl rfl (by rfl) J3 (Jk hs) (Z.Yd.fieldA (m := 2) rfl J3) ?_; refine V560 ?_; refine Z.t 7 rfl rfl rfl (by rfl) J3 (Jk hs) (Z.Yd.load rfl isAgg3 (fun _ => Z.cellB (cs := r.cells.toArray) J0 hget)) ?_; refine V437 ?_; refine Z.t 9 rfl rfl rfl (by rfl) J3 (Jk hs) (Z.Yd.convI rfl ⟨_, underlying3⟩ underlying5 (fun hG => Z.wu8 J2)) ?_; refine V562 ?_; refine V132 ?_; clear hs; intro g23 w23 hs; refine Z.tk (Dn := fun _ => true) (i := 10) (fun _ => (Jk hs)) ?_
    refine Z.t 11 rfl rfl rfl (by rfl) J3 (Jk hs) (Z.Yd.buildL [(0, 1), (1, 1)] [.int .i64 0, .slice none 0 0] rfl rfl J18) ?_; refine Z.tn 12 rfl rfl J3 rfl trivial ?_; refine V7 ?_; clear hs; intro ws hs; replace hs := U1 hs; replace hs := U2 hs; refine V308 ?_; refine V124 ?_
    repeat (first | refine Z.rthen ?_ | refine Z.rblock ?_ | refine Z.rscope ?_)
    refine Z.out2 J90 ?_; exact ⟨_, rfl, _, rfl, _, _, rfl, (St.asRow (k := 1) (size := 1) hs J16 J17).sel [0] J12⟩
  | true =>
    have e1 : encLc r = 30 := by unfold encLc; rw [if_pos hl]
    have e2 : encL r = be 3 (((r.a * 64 + r.b) * 64 + r.c) * 64 + r.d) := by unfold encL; rw [if_pos hl]
    rw [e1, e2]; refine Z.enter func137 rfl ntmps137 rfl rfl ?_; refine V91 ?_; clear hs; intro g1 w1 hs; refine V274 ?_; clear hs; intro g2 w2 hs; refine V717 ?_; rintro v1_1 w1_1 ⟨rfl, hy⟩; replace hs := U0 (hs.call hy); clear hy; rw [decide_eq_true hr]; refine V1 ?_; refine Z.only [1, 2, 8] rfl ?_; refine V6 ?_; refine Z.cond rfl (fun h => absurd h J16) (fun hc1 => ?_); refine V427 ?_; refine V3 ?_; refine V107 ?_; refine V1 ?_; refine Z.only [1, 2, 12] rfl ?_; refine V6 ?_; refine Z.cond rfl (fun h => absurd h J132) (fun hc3 => ?_); refine V862 ?_; refine V19 ?_; refine Z.l rfl rfl (by rfl) (Z.keepS hs) (Z.Yd.loadA _ rfl isAgg37 (fun _ => Z.cellsBo (cs := r.cells) [.int .i64 r.a, .int .i64 r.b, .int .i64 r.c, .int .i64 r.d] J0 ⟨[], rfl⟩) J100) ?_; refine V2 ?_; refine V98 ?_; clear hs; intro g4 w4 hs; refine V860 ?_; clear hs; intro ws hs; replace hs := U1 hs; replace hs := U2 hs; refine V857 ?_; refine Z.only [2, 4] rfl ?_; refine V858 ?_; refine V22 ?_; refine V9 ?_; refine V289 ?_; refine V5 ?_; refine Z.l rfl rfl (by rfl) (Z.keepS hs) (Z.Yd.mul rfl rfl (fun hG => Z.wi64 J2)) ?_; refine V22 ?_; refine V9 ?_; refine V33 ?_; refine Z.only [2, 5] rfl ?_; refine V303 ?_; refine V117 ?_; refine V99 ?_; refine V859 ?_; refine V117 ?_; refine V137 ?_; refine V99 ?_; refine V859 ?_; refine V137 ?_; refine V99 ?_; refine V2 ?_; refine Z.ZO.litL (T' := 5) [(0, 1), (1, 1), (2, 1)] [.int .u8 0, .int .u8 0, .int .u8 0] rfl rfl (by rfl) rfl rfl J19 hs ?_
    clear hs; intro g51 w51 hs; refine V164 ?_; refine V860 ?_; clear hs; intro ws hs; replace hs := U1 hs; replace hs := U2 hs; refine V484 ?_; refine Z.out2 J90 ?_; have e3 : be 3 (((r.a * 64 + r.b) * 64 + r.c) * 64 + r.d) = [(((r.a * 64 + r.b) * 64 + r.c) * 64 + r.d) / 65536, (((r.a * 64 + r.b) * 64 + r.c) * 64 + r.d) / 256 % 256, (((r.a * 64 + r.b) * 64 + r.c) * 64 + r.d) % 256] := by
      simp only [be, List.nil_append, List.cons_append, List.cons.injEq, and_true, true_and]
      omega
    rw [e3]; exact ⟨_, rfl, _, rfl, _, _, rfl, (St.asRow (k := 3) (size := 1) hs J16 J17).sel [0] J12⟩
theorem encL_bytes {r : RepV} (hr : r.ok) : Byts (encL r) := by
  unfold encL
  split
  · exact be_bytes _ _
  obtain ⟨hg, -, hj⟩ := (ok_iff r).1 hr; have kg := (hj r.group.toNat J5).1; unfold okL at kg; intro x hx; obtain rfl : x = _ := by simpa using hx
  omega

def idxW (p : Int → Bool) (l : List Int) : Int := match l.findIdx? p with | some i => (i : Int) | none => -1
theorem idxW_some {p : Int → Bool} {l : List Int} {k : Nat} (h0 : ∀ x ∈ l.take k, p x = false) (hk : k < l.length) (h1 : p l[k] = true) : idxW p l = (k : Int) := by
  have : l.findIdx? p = some k := by
    rw [List.findIdx?_eq_some_iff_getElem]; refine ⟨hk, h1, fun j hj => ?_⟩; have := h0 l[j] (List.mem_take_iff_getElem.2 ⟨j, by omega, rfl⟩); simp [this]
  unfold idxW; rw [this]
theorem idxW_none {p : Int → Bool} {l : List Int} (h0 : ∀ x ∈ l, p x = false) : idxW p l = -1 := by
  have : l.findIdx? p = none := by
    rw [List.findIdx?_eq_none_iff]; exact h0
  unfold idxW; rw [this]
theorem idxW_any (p : Int → Bool) (l : List Int) : decide (0 ≤ idxW p l) = l.any p := by
  unfold idxW
  cases h : l.findIdx? p with
  | some i =>
    obtain ⟨h1, h2, -⟩ := List.findIdx?_eq_some_iff_getElem.1 h; rw [List.any_eq_true.2 ⟨l[i], List.getElem_mem _, h2⟩]; simp
  | none =>
    have h2 := List.findIdx?_eq_none_iff.1 h
    symm
    show l.any p = false
    rw [List.any_eq_false]; intro x hx
    simpa using h2 x hx
theorem rp_indexf (A : Option Addr) (n c : Nat) (l : List Int) (k : Nat) (cap : Array Value) (p : Int → Bool) (w : World) (hx : Sl w A (ints .i64 l)) (hl : l.length = n) (hn : n ≤ 1000)
    (hk : ∀ args w, (callFunc k args).run Tryz.prog w = .ok (.enter k args) w) (hp : ∀ x W, St w [] W [] → Calls Tryz.prog k (Value.int .i64 x :: cap.toList).toArray W (Ret fun v w' => v = .bool (p x) ∧ St W [] w' [])) :
    Calls Tryz.prog 182 #[.slice A n c, .func (.func k) #[] cap] w (Ret fun v w' => v = .int .i64 (idxW p l) ∧ St w [] w' []) := by
  have hs := St.start w; refine V493 ?_; refine V6 ?_; refine V138 ?_; clear hs; rintro i w1 ⟨⟨hi, hj⟩, hs⟩; refine V369 ?_; refine Z.cond rfl (fun hc2 => ?_) (fun hc2 => ?_)
  · (try simp at hc2)
    have hlt : i < l.length := by omega
    have hel : elt l (i : Int) = l[i] := by simp [elt, hlt]
    obtain ⟨b, off, rfl, hb0, hx2⟩ := Z.Sl.some hx J92; refine V366 ?_; refine V2 ?_; refine Z.ZO.call rfl rfl (by rfl) rfl rfl hk J34 (hp (elt l (i : Int)) _ hs) ?_; rintro v4_5 w4_5 ⟨rfl, hy⟩; replace hs := U0 (hs.call hy); clear hy; refine V857 ?_; refine Z.only [0, 1, 5, 7, 8, 16] rfl ?_; refine V6 ?_; refine Z.cond rfl (fun hc4 => ?_) (fun hc4 => ?_)
    · (try simp at hc4)
      refine V151 ?_; refine V426 ?_
      repeat (first | refine Z.rthen ?_ | refine Z.rblock ?_ | refine Z.rscope ?_)
      refine V199 ?_; refine ⟨_, rfl, ?_, hs⟩; rw [idxW_some hj hlt (by rw [← hel]; assumption)]
    (try simp at hc4)
    refine V392 ?_; refine V683 ?_; refine Z.again (i + 1) J10 ⟨⟨by omega, fun x hm => ?_⟩, hs⟩ J5; rw [List.take_add_one, List.getElem?_eq_getElem hlt] at hm
    rcases List.mem_append.1 hm with hm | hm
    · exact hj x hm
    obtain rfl : x = l[i] := by simpa using hm
    rw [← hel]; assumption
  (try simp at hc2)
  refine V305 ?_; rw [List.take_of_length_le J5] at hj; refine ⟨_, rfl, ?_, hs⟩; rw [idxW_none hj]
theorem rp_containsf (A : Option Addr) (n c : Nat) (l : List Int) (k : Nat) (cap : Array Value) (p : Int → Bool) (w : World) (hx : Sl w A (ints .i64 l)) (hl : l.length = n) (hn : n ≤ 1000)
    (hk : ∀ args w, (callFunc k args).run Tryz.prog w = .ok (.enter k args) w) (hp : ∀ x W, St w [] W [] → Calls Tryz.prog k (Value.int .i64 x :: cap.toList).toArray W (Ret fun v w' => v = .bool (p x) ∧ St W [] w' [])) :
    Calls Tryz.prog 133 #[.slice A n c, .func (.func k) #[] cap] w (Ret fun v w' => v = .bool (l.any p) ∧ St w [] w' []) := by
  have hs := St.start w; refine Z.enter func133 rfl ntmps133 rfl rfl ?_; refine V394 ?_; refine V541 ?_; refine Z.ZO.call rfl rfl (by rfl) rfl rfl call182 rfl (rp_indexf A n c l k cap p _ hx hl hn hk hp) ?_; rintro v1_2 w1_2 ⟨rfl, hy⟩; replace hs := U0 (hs.call hy); clear hy; refine V31 ?_; refine V240 ?_; exact ⟨_, rfl, by rw [← idxW_any], hs⟩
theorem rp_within1 (g : Nat) (most x : Int) (w : World) (hc : Cel w g [.int .i64 most]) :
    Calls Tryz.prog 134 #[.int .i64 x, .pointer (some ⟨g, 0, none⟩)] w (Ret fun v w' => v = .bool (decide (x < 0 ∨ most < x)) ∧ St w [] w' []) := by
  have hs := St.start w; refine Z.enter func134 rfl ntmps134 rfl rfl ?_; refine V394 ?_; refine V858 ?_; refine V259 ?_; refine Z.l rfl rfl (by rfl) (Z.keepS hs) (Z.Yd.load rfl isAgg3 (fun _ => Z.cellO hc.1 J16 (hc.2 0 _ rfl))) ?_; refine V184 ?_; refine Z.only [3] rfl ?_; refine V422 ?_; exact ⟨_, rfl, by congr 1; simp, hs⟩
def okW (most : Int) (l : List Int) : Prop := ∀ x ∈ l, 0 ≤ x ∧ x ≤ most
instance (most : Int) (l : List Int) : Decidable (okW most l) := by unfold okW; infer_instance
theorem rp_within (A : Option Addr) (n c : Nat) (l : List Int) (most : Int) (w : World) (hx : Sl w A (ints .i64 l)) (hl : l.length = n) (hn : n ≤ 1000) (hc : n ≤ c) :
    Calls Tryz.prog 77 #[.int .i64 most, .slice A n c] w (Ret fun v w' => v = .bool (decide (okW most l)) ∧ St w [] w' []) := by
  have hs := St.start w; refine Z.enter func77 rfl ntmps77 rfl rfl ?_; refine V91 ?_; clear hs; intro g2 w2 hs; refine V453 ?_; refine V11 ?_; refine V26 ?_; refine V859 ?_; refine V26 ?_; refine Z.l rfl rfl (by rfl) (Z.keepS hs) (Z.Yd.cut3 0 n n rfl rfl rfl rfl underlying34 sizeOf3 (fun hG => ⟨J2, J2, J2, J2, J2⟩)) ?_; refine V62 ?_; refine Z.ZO.call rfl rfl (by rfl) rfl rfl call133 rfl (rp_containsf _ n n l 134 _ (fun x ↦ decide (x < 0 ∨ most < x)) _ (by rw [slA_zero]; exact hx.st (Jn hs)) hl hn call134 (fun x W hW ↦ rp_within1 g2 most x W (Cel.st (hs.celOf J0) hW))) ?_; rintro v1_7 w1_7 ⟨rfl, hy⟩; replace hs := U0 (hs.call hy); clear hy; refine V31 ?_; refine V240 ?_; refine ⟨_, rfl, ?_, Jn hs⟩
  congr 1
  rw [Bool.eq_iff_iff, decide_eq_true_iff]; unfold okW; simp
def fstG (a b c d : Int) : Int := if 0 < a then 0 else if 0 < b then 1 else if 0 < c then 2 else if 0 < d then 3 else 4
theorem fstG_bd (a b c d : Int) : 0 ≤ fstG a b c d ∧ fstG a b c d ≤ 4 := by unfold fstG; split <;> (try split) <;> (try split) <;> (try split) <;> omega
theorem rp_group1 (x : Int) (w : World) : Calls Tryz.prog 141 #[.int .i64 x] w (Ret fun v w' => v = .bool (decide (0 < x)) ∧ St w [] w' []) := by
  have hs := St.start w; refine Z.enter func141 rfl ntmps141 rfl rfl ?_; refine V242 ?_; refine V184 ?_; refine V120 ?_; exact ⟨_, rfl, rfl, hs⟩
theorem rp_index (A : Option Addr) (n c : Nat) (l : List Int) (k : Nat) (cap : Array Value) (p : Int → Bool) (w : World) (hx : Sl w A (ints .i64 l)) (hl : l.length = n) (hn : n ≤ 1000)
    (hk : ∀ args w, (callFunc k args).run Tryz.prog w = .ok (.enter k args) w) (hp : ∀ x W, St w [] W [] → Calls Tryz.prog k (Value.int .i64 x :: cap.toList).toArray W (Ret fun v w' => v = .bool (p x) ∧ St W [] w' [])) :
    Calls Tryz.prog 140 #[.slice A n c, .func (.func k) #[] cap] w (Ret fun v w' => v = .int .i64 (if 0 ≤ idxW p l then idxW p l else n) ∧ St w [] w' []) := by
  have hs := St.start w; refine Z.enter func140 rfl ntmps140 rfl rfl ?_; refine V394 ?_; refine V30 ?_; refine V527 ?_; refine Z.ZO.call rfl rfl (by rfl) rfl rfl call182 rfl (rp_indexf A n c l k cap p _ hx hl hn hk hp) ?_; rintro v1_2 w1_2 ⟨rfl, hy⟩; replace hs := U0 (hs.call hy); clear hy; refine V1 ?_; refine Z.only [0, 5] rfl ?_; refine V423 ?_; refine Z.only [0, 5, 10] rfl ?_; refine V6 ?_; refine Z.cond rfl (fun hc2 => ?_) (fun hc2 => ?_)
  · (try simp at hc2)
    refine V151 ?_; refine V426 ?_
    repeat (first | refine Z.rthen ?_ | refine Z.rblock ?_ | refine Z.rscope ?_)
    refine V199 ?_; exact ⟨_, rfl, by rw [if_pos J5], hs⟩
  (try simp at hc2)
  refine V862 ?_; refine V859 ?_; refine V248 ?_; refine V240 ?_; exact ⟨_, rfl, by rw [if_neg J5], hs⟩
theorem fst_idx (a b c d : Int) : (if 0 ≤ idxW (fun x => decide (0 < x)) [a, b, c, d] then idxW (fun x => decide (0 < x)) [a, b, c, d] else (4 : Nat)) = fstG a b c d := by
  unfold idxW fstG
  by_cases h1 : 0 < a
  · simp [List.findIdx?_cons, h1]
  by_cases h2 : 0 < b
  · simp [List.findIdx?_cons, h1, h2]
  by_cases h3 : 0 < c
  · simp [List.findIdx?_cons, h1, h2, h3]
  by_cases h4 : 0 < d
  · simp [List.findIdx?_cons, h1, h2, h3, h4]
  simp [List.findIdx?_cons, h1, h2, h3, h4]
theorem rp_group (a b c d : Int) (w : World) : Calls Tryz.prog 90 #[.agg #[.int .i64 a, .int .i64 b, .int .i64 c, .int .i64 d]] w (Ret fun v w' => v = .int .i64 (fstG a b c d) ∧ St w [] w' []) := by
  have hs := St.start w; refine Z.enter func90 rfl ntmps90 rfl rfl ?_; refine V91 ?_; clear hs; intro g1 w1 hs; refine V626 ?_; refine V858 ?_; refine Z.l rfl rfl (by rfl) (Z.keepS hs) (Z.Yd.cutA rfl underlying37 sizeOf3) ?_; refine V2 ?_; refine Z.ZO.call rfl rfl (by rfl) rfl rfl call140 rfl (rp_index (some ⟨g1, 0, none⟩) 4 4 [a, b, c, d] 141 _ (fun x ↦ decide (0 < x)) _ (hs.blkSl J0) rfl J5 call141 (fun x W hW ↦ rp_group1 x W)) ?_; rintro v1_1 w1_1 ⟨rfl, hy⟩; replace hs := U0 (hs.call hy); clear hy; refine V186 ?_; exact ⟨_, rfl, by rw [fst_idx], Jn hs⟩

structure RpV where
  reg : Bool
  per : Bool
  pow : Bool
  fst : Bool
  c0 : Int
  c1 : Int
  c2 : Int
  c3 : Int
  now : Int
  b0 : Int
  b1 : Int
  b2 : Int
  b3 : Int
  head : Int
  last : Int
  lastP : Int
  told : Int
deriving DecidableEq
def RpV.cells (m : RpV) : List Value := [.bool m.reg, .bool m.per, .bool m.pow, .bool m.fst, .bool true, .int .i64 m.c0, .int .i64 m.c1, .int .i64 m.c2, .int .i64 m.c3, .int .i64 m.now, .int .i64 m.b0, .int .i64 m.b1, .int .i64 m.b2, .int .i64 m.b3, .int .i64 m.head, .int .i64 m.last, .int .i64 m.lastP, .int .i64 m.told]
def RpV.ref (m : RpV) : List Value := [.int .i64 m.c0, .int .i64 m.c1, .int .i64 m.c2, .int .i64 m.c3, .int .i64 m.now, .int .i64 m.b0, .int .i64 m.b1, .int .i64 m.b2, .int .i64 m.b3, .int .i64 m.head, .bool m.reg, .bool m.per, .bool m.pow, .bool m.fst, .int .i64 m.last, .int .i64 m.lastP, .int .i64 m.told]
theorem rp_one (m : RpV) : ∀ u ∈ m.cells, u.oneCell' = true := by intro u hu; simp [RpV.cells] at hu; rcases hu with rfl | rfl | rfl | rfl | rfl | rfl | rfl | rfl | rfl | rfl | rfl | rfl | rfl | rfl | rfl | rfl | rfl | rfl <;> rfl
def okC (a b c d : Int) : Prop := okW 1048576 [a, b, c] ∧ okW 63 [d]
instance (a b c d : Int) : Decidable (okC a b c d) := by unfold okC; infer_instance
theorem okC_iff (a b c d : Int) : okC a b c d ↔ (0 ≤ a ∧ a ≤ 1048576) ∧ (0 ≤ b ∧ b ≤ 1048576) ∧ (0 ≤ c ∧ c ≤ 1048576) ∧ 0 ≤ d ∧ d ≤ 63 := by
  unfold okC okW; simp
  omega
structure RpV.ok (m : RpV) : Prop where
  cfg : okC m.c0 m.c1 m.c2 m.c3
  now : 0 ≤ m.now ∧ m.now < 1073741824
  by0 : 0 ≤ m.b0 ∧ m.b0 ≤ 1099511627776
  by1 : 0 ≤ m.b1 ∧ m.b1 ≤ 1099511627776
  by2 : 0 ≤ m.b2 ∧ m.b2 ≤ 1099511627776
  by3 : 0 ≤ m.b3 ∧ m.b3 ≤ 1099511627776
  head : 0 ≤ m.head ∧ m.head ≤ 63
  last : 0 ≤ m.last ∧ m.last < 1073741824
  lastP : 0 ≤ m.lastP ∧ m.lastP < 1073741824
  told : 0 ≤ m.told ∧ m.told ≤ 63
  full : m.reg = true ∨ m.per = true → fstG m.b0 m.b1 m.b2 m.b3 ≠ 4
def newR (a b c d : Int) : RpV := ⟨false, false, false, true, a, b, c, d, 0, 0, 0, 0, 0, 0, 0, 0, 0⟩
theorem newR_ok {a b c d : Int} (h : okC a b c d) : (newR a b c d).ok := by
  constructor <;> simp [newR, h]
def dueV (t s now : Int) : Bool := decide (0 < t ∧ t ≤ now - s)
def chgV (c head told : Int) : Bool := decide (0 < c ∧ c ≤ max (head - told) (told - head))
def okU (m : RpV) (t a b c d h : Int) : Prop := (m.now ≤ t ∧ t < 1073741824) ∧ okW 1099511627776 [a, b, c, d] ∧ okW 63 [h]
instance (m : RpV) (t a b c d h : Int) : Decidable (okU m t a b c d h) := by unfold okU; infer_instance
theorem okU_iff (m : RpV) (t a b c d h : Int) : okU m t a b c d h ↔ (m.now ≤ t ∧ t < 1073741824) ∧ ((0 ≤ a ∧ a ≤ 1099511627776) ∧ (0 ≤ b ∧ b ≤ 1099511627776) ∧ (0 ≤ c ∧ c ≤ 1099511627776) ∧ (0 ≤ d ∧ d ≤ 1099511627776)) ∧ 0 ≤ h ∧ h ≤ 63 := by
  unfold okU okW; simp
def updG (m : RpV) (t a b c d h : Int) : RpV := { m with
  now := t, b0 := a, b1 := b, b2 := c, b3 := d, head := h
  reg := if fstG a b c d = 4 then false else m.reg || decide (fstG a b c d < fstG m.b0 m.b1 m.b2 m.b3) || dueV m.c1 m.last t
  per := if fstG a b c d = 4 then false else m.per || dueV m.c0 m.last t
  pow := m.pow || m.fst || dueV m.c2 m.lastP t || chgV m.c3 h m.told }
def updV (m : RpV) (t a b c d h : Int) : RpV × Int := if okU m t a b c d h then (updG m t a b c d h, 0) else (m, 2)
theorem RpV.ok.updG {m : RpV} (hm : m.ok) {t a b c d h : Int} (hu : okU m t a b c d h) : (updG m t a b c d h).ok := by
  obtain ⟨h1, h2, h3, h4, h5, h6, h7, h8, h9, h10, h11⟩ := hm; obtain ⟨⟨u1, u2⟩, ⟨u3, u4, u5, u6⟩, u7⟩ := (okU_iff m t a b c d h).1 hu; refine ⟨h1, ?_, u3, u4, u5, u6, u7, h8, h9, h10, ?_⟩
  · simp only [Go.Proofs.YtbojkoiopkaciaaGreat.updG]; omega
  simp only [Go.Proofs.YtbojkoiopkaciaaGreat.updG]; intro h hf; simp [hf] at h
theorem RpV.ok.updV {m : RpV} (hm : m.ok) (t a b c d h : Int) : (updV m t a b c d h).1.ok := by
  unfold Go.Proofs.YtbojkoiopkaciaaGreat.updV
  split
  · exact hm.updG J72
  exact hm
theorem Cel.part {w0 : World} {M : List Nat} {L : List Ent} {g : Nat} {cs : List Value} (h : Cel w0 g cs) (hM : g ∉ M) {i : Nat} (sub : List Value) (hsub : (cs.drop i).take sub.length = sub) : ∀ w, Keep w0 M L w → ∀ (j : Nat) (u : Value), sub[j]? = some u → w.cell? ⟨g, i + j, none⟩ = some u := fun w hK j u hu => by
  refine Z.cellO h.1 hM (h.2 (i + j) u ?_) w hK; rw [← hsub, List.getElem?_take] at hu
  split at hu
  · rwa [List.getElem?_drop] at hu
  cases hu
theorem rp_none (g : Nat) (m : RpV) (w : World) (hc : Cel w g m.cells) : Calls Tryz.prog 87 #[.pointer (some ⟨g, 0, none⟩)] w (Ret fun v w' => v = .bool false ∧ St w [] w' []) := by
  have hs := St.start w; refine V572 ?_; refine V277 ?_; refine V54 ?_; refine Z.l rfl rfl (by rfl) (Z.keepS hs) (Z.Yd.load rfl isAgg4 (fun _ => Z.cellO hc.1 J16 (hc.2 4 _ rfl))) ?_; refine V184 ?_; refine V120 ?_; exact ⟨_, rfl, rfl, hs⟩
theorem rp_valid (g : Nat) (m : RpV) (t : Int) (w : World) (hc : Cel w g m.cells) : Calls Tryz.prog 89 #[.pointer (some ⟨g, 0, none⟩), .int .i64 t] w (Ret fun v w' => v = .bool (decide (m.now ≤ t ∧ t < 1073741824)) ∧ St w [] w' []) := by
  have hs := St.start w; refine Z.enter func89 rfl ntmps89 rfl rfl ?_; refine V394 ?_; refine V858 ?_; refine V277 ?_; refine V523 ?_; refine V476 ?_; refine V857 ?_; refine V240 ?_; exact ⟨_, rfl, by congr 1; simp, hs⟩
theorem rp_due (g : Nat) (m : RpV) (t s : Int) (w : World) (hc : Cel w g m.cells) (hn : 0 ≤ m.now ∧ m.now < 1073741824) (hb : 0 ≤ s ∧ s < 1073741824) : Calls Tryz.prog 91 #[.pointer (some ⟨g, 0, none⟩), .int .i64 t, .int .i64 s] w (Ret fun v w' => v = .bool (dueV t s m.now) ∧ St w [] w' []) := by
  have hs := St.start w; refine Z.enter func91 rfl ntmps91 rfl rfl ?_; refine V469 ?_; refine V858 ?_; refine V259 ?_; refine V12 ?_; refine V523 ?_; refine V859 ?_; refine V17 ?_; refine V259 ?_; refine V857 ?_; refine V462 ?_; exact ⟨_, rfl, by unfold dueV; congr 1; simp, hs⟩
theorem rp_changed (g : Nat) (m : RpV) (w : World) (hc : Cel w g m.cells) (hh : 0 ≤ m.head ∧ m.head ≤ 63) (hb : 0 ≤ m.told ∧ m.told ≤ 63) : Calls Tryz.prog 92 #[.pointer (some ⟨g, 0, none⟩)] w (Ret fun v w' => v = .bool (chgV m.c3 m.head m.told) ∧ St w [] w' []) := by
  have hs := St.start w; refine Z.enter func92 rfl ntmps92 rfl rfl ?_; refine V336 ?_; refine V6 ?_; refine V96 ?_; clear hs; intro wd1 hs; refine V234 ?_; refine V579 ?_; refine Z.t 2 rfl rfl rfl (by rfl) J3 (Jk hs) (Z.Yd.fieldA (m := 5) rfl J3) ?_; refine Z.t 3 rfl rfl rfl (by rfl) J3 (Jk hs) (Z.Yd.fieldA (m := 3) rfl J3) ?_; refine Z.t 4 rfl rfl rfl (by rfl) J3 (Jk hs) (Z.Yd.load rfl isAgg3 (fun _ => Z.cellO hc.1 J16 (hc.2 8 _ rfl))) ?_; refine Z.tb [5, 6, 7] J3 rfl (Jk hs) rfl ?_; refine Z.t 8 rfl rfl rfl (by rfl) J3 (Jk hs) (Z.Yd.nilc rfl rfl) ?_; refine Z.t 9 rfl rfl rfl (by rfl) J3 (Jk hs) (Z.Yd.fieldA (m := 14) rfl J3) ?_; refine Z.t 10 rfl rfl rfl (by rfl) J3 (Jk hs) (Z.Yd.load rfl isAgg3 (fun _ => Z.cellO hc.1 J16 (hc.2 14 _ rfl))) ?_; refine Z.tb [11] J3 rfl (Jk hs) rfl ?_; refine Z.t 12 rfl rfl rfl (by rfl) J3 (Jk hs) (Z.Yd.nilc rfl rfl) ?_; refine Z.t 13 rfl rfl rfl (by rfl) J3 (Jk hs) (Z.Yd.fieldA (m := 17) rfl J3) ?_; refine Z.t 14 rfl rfl rfl (by rfl) J3 (Jk hs) (Z.Yd.load rfl isAgg3 (fun _ => Z.cellO hc.1 J16 (hc.2 17 _ rfl))) ?_; refine V526 ?_; refine Z.t 17 rfl rfl rfl (by rfl) J3 (Jk hs) (Z.Yd.nilc rfl rfl) ?_; refine Z.t 18 rfl rfl rfl (by rfl) J3 (Jk hs) (Z.Yd.fieldA (m := 17) rfl J3) ?_; refine Z.t 19 rfl rfl rfl (by rfl) J3 (Jk hs) (Z.Yd.load rfl isAgg3 (fun _ => Z.cellO hc.1 J16 (hc.2 17 _ rfl))) ?_; refine Z.tb [20] J3 rfl (Jk hs) rfl ?_; refine Z.t 21 rfl rfl rfl (by rfl) J3 (Jk hs) (Z.Yd.nilc rfl rfl) ?_
  refine Z.t 22 rfl rfl rfl (by rfl) J3 (Jk hs) (Z.Yd.fieldA (m := 14) rfl J3) ?_; refine Z.t 23 rfl rfl rfl (by rfl) J3 (Jk hs) (Z.Yd.load rfl isAgg3 (fun _ => Z.cellO hc.1 J16 (hc.2 14 _ rfl))) ?_; refine Z.t 24 rfl rfl rfl (by rfl) J3 (Jk hs) (Z.Yd.sub rfl rfl (fun hG => Z.wi64 J2)) ?_; refine Z.t 25 rfl rfl rfl (by rfl) J3 (Jk hs) (Z.Yd.max rfl rfl) ?_; refine Z.tb [26] J3 rfl (Jk hs) rfl ?_; refine Z.t 27 rfl rfl rfl (by rfl) J3 (Jk hs) (Z.Yd.nilc rfl rfl) ?_; refine Z.t 28 rfl rfl rfl (by rfl) J3 (Jk hs) (Z.Yd.fieldA (m := 5) rfl J3) ?_; refine Z.t 29 rfl rfl rfl (by rfl) J3 (Jk hs) (Z.Yd.fieldA (m := 3) rfl J3) ?_; refine Z.t 30 rfl rfl rfl (by rfl) J3 (Jk hs) (Z.Yd.load rfl isAgg3 (fun _ => Z.cellO hc.1 J16 (hc.2 8 _ rfl))) ?_; refine Z.tb [31, 32, 33] J3 rfl (Jk hs) rfl ?_; refine V40 ?_; refine V120 ?_; exact ⟨_, rfl, by unfold chgV; congr 1; simp, hs⟩
theorem rp_buffer (a b c d : Bool) (w : World) : Calls Tryz.prog 94 #[.agg #[.bool a, .bool b, .bool c, .bool d]] w (Ret fun v w' => v = .bool (a || b) ∧ St w [] w' []) := by
  have hs := St.start w; refine Z.enter func94 rfl ntmps94 rfl rfl ?_; refine V91 ?_; clear hs; intro g1 w1 hs; refine V626 ?_; refine V858 ?_; refine V3 ?_; refine V107 ?_; refine V859 ?_; refine V8 ?_; refine V107 ?_; refine V215 ?_; exact ⟨_, rfl, by cases a <;> rfl, Jn hs⟩
theorem rp_request (g : Nat) (m : RpV) (w : World) (hc : Cel w g m.cells) : Calls Tryz.prog 38 #[.pointer (some ⟨g, 0, none⟩)] w (Ret fun v w' => v = .bool m.reg ∧ St w [] w' []) := by
  have hs := St.start w; refine Z.enter func38 rfl ntmps38 rfl rfl ?_; refine V242 ?_; refine V62 ?_; refine Z.ZO.call rfl rfl (by rfl) rfl rfl call87 rfl (rp_none g m _ (hc.st hs)) ?_; rintro v1_1 w1_1 ⟨rfl, hy⟩; replace hs := U0 (hs.call hy); clear hy; refine V50 ?_; refine V384 ?_; refine V291 ?_; refine V215 ?_; exact ⟨_, rfl, by simp, hs⟩

theorem rp_new (a b c d : Int) (w : World) : Calls Tryz.prog 31 #[.agg #[.int .i64 a, .int .i64 b, .int .i64 c, .int .i64 d]] w (Ret fun v w' => if okC a b c d then ∃ g, v = .tuple #[.pointer (some ⟨g, 0, none⟩), .int .i64 0] ∧ St w [] w' [Ent.blk g 157 (newR a b c d).cells.toArray] else v = .tuple #[.pointer none, .int .i64 2] ∧ St w [] w' []) := by
  have hs := St.start w; refine Z.enter func31 rfl ntmps31 rfl rfl ?_; refine V91 ?_; clear hs; intro g1 w1 hs; refine V31 ?_; refine V264 ?_; refine V192 ?_; refine V104 ?_; refine V444 ?_; refine V2 ?_; refine Z.ZO.litL (T' := 3) [(0, 1), (1, 1), (2, 1)] [.int .i64 0, .int .i64 0, .int .i64 0] rfl rfl (by rfl) rfl rfl J19 hs ?_; clear hs; intro g10 w10 hs; refine V2 ?_; refine Z.ZO.call rfl rfl (by rfl) rfl rfl call77 rfl (rp_within _ _ _ [a, b, c] 1048576 _ (hs.blkSl J0) rfl J12 J12) ?_; rintro v1_7 w1_7 ⟨rfl, hy⟩; replace hs := U0 (hs.call hy); clear hy; refine V11 ?_; refine V38 ?_; refine Z.split (s := 13) rfl (fun hsp13 => ?_) (fun hsp13 => ?_)
  · refine Z.yes (s := 13) (b := true) rfl hsp13 rfl ?_
    (try simp at hsp13)
    refine V4 ?_; refine V36 ?_; refine V20 ?_; refine V857 ?_; refine Z.only [1, 19] rfl ?_; refine V6 ?_; refine Z.cond rfl (fun hc1 => ?_) (fun hc1 => ?_)
    · (try simp at hc1)
      have hq : ¬ okC a b c d := by unfold okC; simp_all
      refine V196 ?_
      repeat (first | refine Z.rthen ?_ | refine Z.rblock ?_ | refine Z.rscope ?_)
      refine V162 ?_; refine ⟨_, rfl, ?_⟩
      (simp only [if_neg hq]; exact ⟨by trivial, Jn hs⟩)
    (exfalso; simp at hc1 <;> omega)
  refine Z.yes (s := 13) (b := false) rfl hsp13 rfl ?_
  (try simp at hsp13)
  refine V9 ?_; refine Z.yes (s := 13) (b := false) rfl rfl rfl ?_; refine V160 ?_; refine V57 ?_; clear hs; intro g16 w16 hs; refine V160 ?_; refine Z.ZO.call rfl rfl (by rfl) rfl rfl call77 rfl (rp_within _ _ _ [d] 63 _ (hs.blkSl J0) rfl J12 J12) ?_; rintro v1_13 w1_13 ⟨rfl, hy⟩; replace hs := U0 (hs.call hy); clear hy; refine V859 ?_; refine Z.yes (s := 13) (b := false) rfl rfl rfl ?_; refine V14 ?_; refine V857 ?_; refine Z.only [1, 19] rfl ?_; refine V6 ?_; refine Z.cond rfl (fun hc1 => ?_) (fun hc1 => ?_)
  · (try simp at hc1)
    have hq : ¬ okC a b c d := by unfold okC; simp_all
    refine V196 ?_
    repeat (first | refine Z.rthen ?_ | refine Z.rblock ?_ | refine Z.rscope ?_)
    refine V162 ?_; refine ⟨_, rfl, ?_⟩
    (simp only [if_neg hq]; exact ⟨by trivial, Jn hs⟩)
  (try simp at hc1)
  have hq : okC a b c d := by unfold okC; simp_all
  refine V862 ?_; refine Z.l rfl rfl (by rfl) (Z.keepS hs) (Z.Yd.buildL [(0, 1), (1, 1), (2, 1), (3, 1)] [.bool false, .bool false, .bool false, .bool false] rfl rfl J18) ?_; refine Z.l rfl rfl (by rfl) (Z.keepS hs) J124 ?_; refine Z.l rfl rfl (by rfl) (Z.keepS hs) (Z.Yd.buildL [(0, 4), (4, 1), (5, 4), (9, 1), (10, 4), (14, 1), (15, 1), (16, 1), (17, 1)] [.bool false, .bool false, .bool false, .bool false, .bool false, .int .i64 0, .int .i64 0, .int .i64 0, .int .i64 0, .int .i64 0, .int .i64 0, .int .i64 0, .int .i64 0, .int .i64 0, .int .i64 0, .int .i64 0, .int .i64 0, .int .i64 0] rfl rfl J18) ?_; refine V616 ?_; clear hs; intro g23 w23 hs; refine V468 ?_; refine ⟨_, rfl, ?_⟩
  (simp only [if_pos hq]; exact ⟨_, rfl, hs.sel [0] J12⟩)
theorem rp_update (g T : Nat) (m : RpV) (t a b c d h : Int) (w : World) (hs : St w (idsOf [Ent.blk g T m.cells.toArray]) w [Ent.blk g T m.cells.toArray]) (hm : m.ok) :
    Calls Tryz.prog 43 #[.pointer (some ⟨g, 0, none⟩), .int .i64 t, .agg #[.int .i64 a, .int .i64 b, .int .i64 c, .int .i64 d], .int .i64 h] w (Ret fun v w' => v = .int .i64 (updV m t a b c d h).2 ∧ St w (idsOf [Ent.blk g T m.cells.toArray]) w' [Ent.blk g T (updV m t a b c d h).1.cells.toArray]) := by
  generalize hM : idsOf [Ent.blk g T m.cells.toArray] = M at *; obtain ⟨h1, h2, h3, h4, h5, h6, h7, h8, h9, h10, h11⟩ := hm; replace hs : St w M w [Ent.blk g T #[.bool (m).reg, .bool (m).per, .bool (m).pow, .bool (m).fst, .bool true, .int .i64 (m).c0, .int .i64 (m).c1, .int .i64 (m).c2, .int .i64 (m).c3, .int .i64 (m).now, .int .i64 (m).b0, .int .i64 (m).b1, .int .i64 (m).b2, .int .i64 (m).b3, .int .i64 (m).head, .int .i64 (m).last, .int .i64 (m).lastP, .int .i64 (m).told]] := hs; refine Z.enter func43 rfl ntmps43 rfl rfl ?_; refine V91 ?_; clear hs; intro g6 w6 hs; refine V1 ?_; refine Z.only [0, 1, 3, 6] rfl ?_; refine V6 ?_; refine Z.scopeJ (ι := Unit) 0 rfl [] rfl (fun _ => [(8, [], .int .i64 (2 : Int))]) (fun _ wr => (¬ okU m t a b c d h) ∧ St w M wr [Ent.blk g T m.cells.toArray]) ?_ ?_
  · skip
    refine V151 ?_; refine Z.only [0, 1, 3, 6] rfl ?_; refine V214 ?_; refine Z.only [0, 1, 3, 6, 8] rfl ?_; refine V858 ?_; refine V62 ?_; refine Z.ZO.call rfl rfl (by rfl) rfl rfl call87 rfl (rp_none g m _ (hs.celOf J0)) ?_; rintro v3_1 w3_1 ⟨rfl, hy⟩; replace hs := U0 (hs.call hy); clear hy; refine V857 ?_; refine Z.only [0, 1, 3, 6, 8, 12] rfl ?_; refine V6 ?_; refine Z.cond rfl (fun h => absurd h J16) (fun hc3 => ?_); refine V463 ?_; refine Z.only [0, 1, 3, 6, 8] rfl ?_; refine V541 ?_; refine Z.ZO.call rfl rfl (by rfl) rfl rfl call89 rfl (rp_valid g m t _ (hs.celOf J0)) ?_; rintro v5_2 w5_2 ⟨rfl, hy⟩; replace hs := U0 (hs.call hy); clear hy; refine V11 ?_; refine Z.split (s := 17) rfl (fun hsp17 => ?_) (fun hsp17 => ?_)
    · refine Z.yes (s := 17) (b := true) rfl hsp17 rfl ?_
      (try simp at hsp17)
      refine V4 ?_; refine V485 ?_; refine Z.split (s := 22) rfl (fun hsp22 => ?_) (fun hsp22 => ?_)
      · refine Z.yes (s := 22) (b := true) rfl hsp22 rfl ?_
        (try simp at hsp22)
        refine V4 ?_; refine V36 ?_; refine V20 ?_; refine V857 ?_; refine Z.only [0, 1, 3, 6, 8, 27] rfl ?_; refine V6 ?_; refine Z.cond rfl (fun hc5 => ?_) (fun hc5 => ?_)
        · (try simp at hc5)
          have hno : ¬ okU m t a b c d h := by intro ⟨hh, hh2, hh3⟩; first | omega | exact absurd hh2 J72 | exact absurd hh3 J72 | simp_all
          refine V383 ?_; exact Z.meet () J6 ⟨by assumption, hs.sel [1] J12⟩
        (exfalso; simp at hc5 <;> omega)
      (exfalso; simp at hsp22 <;> omega)
    refine Z.yes (s := 17) (b := false) rfl hsp17 rfl ?_
    (try simp at hsp17)
    refine Z.l rfl rfl (by rfl) (Z.keepS hs) (Z.Yd.cutA rfl underlying37 sizeOf3) ?_; refine V438 ?_; refine V160 ?_; refine Z.ZO.call rfl rfl (by rfl) rfl rfl call77 rfl (rp_within (some ⟨g6, 0, none⟩) 4 4 [a, b, c, d] 1099511627776 _ (hs.blkSl J0) rfl J5 J5) ?_; rintro v5_6 w5_6 ⟨rfl, hy⟩; replace hs := U0 (hs.call hy); clear hy; refine V859 ?_; refine V438 ?_; refine V276 ?_; refine Z.split (s := 22) rfl (fun hsp22 => ?_) (fun hsp22 => ?_)
    · refine Z.yes (s := 22) (b := true) rfl hsp22 rfl ?_
      (try simp at hsp22)
      refine V4 ?_; refine V36 ?_; refine V20 ?_; refine V857 ?_; refine Z.only [0, 1, 3, 6, 8, 27] rfl ?_; refine V6 ?_; refine Z.cond rfl (fun hc5 => ?_) (fun hc5 => ?_)
      · (try simp at hc5)
        have hno : ¬ okU m t a b c d h := by intro ⟨hh, hh2, hh3⟩; first | omega | exact absurd hh2 J72 | exact absurd hh3 J72 | simp_all
        refine V383 ?_; exact Z.meet () J6 ⟨by assumption, hs.sel [1] J12⟩
      (exfalso; simp at hc5 <;> omega)
    refine Z.yes (s := 22) (b := false) rfl hsp22 rfl ?_
    (try simp at hsp22)
    refine V543 ?_; refine V160 ?_; refine V57 ?_; clear hs; intro g24 w24 hs; refine V160 ?_; refine Z.ZO.call rfl rfl (by rfl) rfl rfl call77 rfl (rp_within _ _ _ [h] 63 _ (hs.blkSl J0) rfl J12 J12) ?_; rintro v5_12 w5_12 ⟨rfl, hy⟩; replace hs := U0 (hs.call hy); clear hy; refine V543 ?_; refine V14 ?_; refine V857 ?_; refine Z.only [0, 1, 3, 6, 8, 27] rfl ?_; refine V6 ?_; refine Z.cond rfl (fun hc5 => ?_) (fun hc5 => ?_)
    · (try simp at hc5)
      have hno : ¬ okU m t a b c d h := by intro ⟨hh, hh2, hh3⟩; first | omega | exact absurd hh2 J72 | exact absurd hh3 J72 | simp_all
      refine V383 ?_; exact Z.meet () J6 ⟨by assumption, hs.sel [2] J12⟩
    (try simp at hc5)
    have hok : okU m t a b c d h := by unfold okU; first | (simp_all; done) | (refine ⟨by omega, ?_, ?_⟩ <;> simp_all)
    have eU : updV m t a b c d h = (updG m t a b c d h, 0) := if_pos hok; obtain ⟨⟨u1, u2⟩, ⟨u3, u4, u5, u6⟩, u7⟩ := (okU_iff m t a b c d h).1 hok; rw [eU]; refine V361 ?_; refine V96 ?_; clear hs; intro wd6 hs; refine V234 ?_; refine V579 ?_; refine Z.t 2 rfl rfl rfl (by rfl) J3 (Jk hs) (Z.Yd.fieldA (m := 10) rfl J3) ?_; refine Z.t 3 rfl rfl rfl (by rfl) J3 (Jk hs) (Z.Yd.loadA _ rfl isAgg37 (fun _ => Z.cellsBo (cs := m.cells) [.int .i64 (m).b0, .int .i64 (m).b1, .int .i64 (m).b2, .int .i64 (m).b3] J0 ⟨[_, _, _, _], rfl⟩) J100) ?_; refine Z.t 5 rfl rfl rfl (by rfl) J3 (Jk hs) J75 ?_; refine V260 ?_; refine Z.ZO.call rfl rfl (by rfl) rfl rfl call90 rfl (rp_group m.b0 m.b1 m.b2 m.b3 _) ?_; rintro v6_4 w6_4 ⟨rfl, hy⟩; replace hs := U0 (hs.call hy); clear hy; refine V69 ?_; refine V262 ?_; refine Z.ZO.call rfl rfl (by rfl) rfl rfl call90 rfl (rp_group a b c d _) ?_; rintro v6_6 w6_6 ⟨rfl, hy⟩; replace hs := U0 (hs.call hy); clear hy; refine V82 ?_; refine Z.tb [7, 8] J3 rfl (Jk hs) rfl ?_; refine V40 ?_; refine Z.only [0, 1, 3, 6, 9, 10] rfl ?_; refine V858 ?_; refine V259 ?_; refine Z.l rfl rfl (by rfl) (Z.keepS hs) J75 ?_; refine V245 ?_; refine V231 ?_; refine V183 ?_; clear hs; intro ws hs; replace hs := U1 hs; refine V12 ?_; refine V148 ?_; refine V2 ?_; refine V284 ?_; clear hs; intro ws hs; replace hs := U1 hs; replace hs := U2 hs; refine V12 ?_; refine V226 ?_; refine V183 ?_; clear hs; intro ws hs; replace hs := U1 hs; refine V857 ?_
    refine Z.only [0, 9, 10] rfl ?_; refine V30 ?_; obtain ⟨R, hR⟩ : ∃ R, R = (updG m t a b c d h).reg := ⟨_, rfl⟩; obtain ⟨Q, hQ⟩ : ∃ R, R = (updG m t a b c d h).per := ⟨_, rfl⟩; obtain ⟨X, hX⟩ : ∃ R, R = (updG m t a b c d h).pow := ⟨_, rfl⟩; have eA : updG m t a b c d h = { m with reg := R, per := Q, pow := X, now := t, b0 := a, b1 := b, b2 := c, b3 := d, head := h } := by rw [hR, hQ, hX]; rfl
    simp only [updG] at hR hQ hX; replace hs : St w M _ [Ent.blk g T ({ m with now := t, b0 := a, b1 := b, b2 := c, b3 := d, head := h } : RpV).cells.toArray] := hs.sel [2] J12; refine V18 ?_; refine V1 ?_; refine Z.only [0, 9, 10, 48] rfl ?_; refine V6 ?_; refine Z.cutt (ι := Unit) [0] rfl (fun _ => []) (fun _ wr => St w M wr [Ent.blk g T ({ m with reg := R, per := Q, now := t, b0 := a, b1 := b, b2 := c, b3 := d, head := h } : RpV).cells.toArray]) ?_ ?_
    · skip
      refine Z.cond rfl (fun hc8 => ?_) (fun hc8 => ?_)
      · (try simp at hc8)
        rw [if_pos J72] at hR hQ
        replace hs : St w M _ [Ent.blk g T #[.bool ({ m with now := t, b0 := a, b1 := b, b2 := c, b3 := d, head := h }).reg, .bool ({ m with now := t, b0 := a, b1 := b, b2 := c, b3 := d, head := h }).per, .bool ({ m with now := t, b0 := a, b1 := b, b2 := c, b3 := d, head := h }).pow, .bool ({ m with now := t, b0 := a, b1 := b, b2 := c, b3 := d, head := h }).fst, .bool true, .int .i64 ({ m with now := t, b0 := a, b1 := b, b2 := c, b3 := d, head := h }).c0, .int .i64 ({ m with now := t, b0 := a, b1 := b, b2 := c, b3 := d, head := h }).c1, .int .i64 ({ m with now := t, b0 := a, b1 := b, b2 := c, b3 := d, head := h }).c2, .int .i64 ({ m with now := t, b0 := a, b1 := b, b2 := c, b3 := d, head := h }).c3, .int .i64 ({ m with now := t, b0 := a, b1 := b, b2 := c, b3 := d, head := h }).now, .int .i64 ({ m with now := t, b0 := a, b1 := b, b2 := c, b3 := d, head := h }).b0, .int .i64 ({ m with now := t, b0 := a, b1 := b, b2 := c, b3 := d, head := h }).b1, .int .i64 ({ m with now := t, b0 := a, b1 := b, b2 := c, b3 := d, head := h }).b2, .int .i64 ({ m with now := t, b0 := a, b1 := b, b2 := c, b3 := d, head := h }).b3, .int .i64 ({ m with now := t, b0 := a, b1 := b, b2 := c, b3 := d, head := h }).head, .int .i64 ({ m with now := t, b0 := a, b1 := b, b2 := c, b3 := d, head := h }).last, .int .i64 ({ m with now := t, b0 := a, b1 := b, b2 := c, b3 := d, head := h }).lastP, .int .i64 ({ m with now := t, b0 := a, b1 := b, b2 := c, b3 := d, head := h }).told]] := hs; refine V42 ?_
        refine V277 ?_; refine V3 ?_; refine V3 ?_; refine V393 ?_; clear hs; intro ws hs; replace hs := U1 hs; refine V384 ?_; refine V8 ?_; refine V393 ?_; clear hs; intro ws hs; replace hs := U1 hs; refine V857 ?_; refine V175 ?_; refine V6 ?_; exact Z.meet () J6 (by rw [hR, hQ]; exact hs)
      (try simp at hc8)
      rw [if_neg J72] at hR hQ
      replace hs : St w M _ [Ent.blk g T #[.bool ({ m with now := t, b0 := a, b1 := b, b2 := c, b3 := d, head := h }).reg, .bool ({ m with now := t, b0 := a, b1 := b, b2 := c, b3 := d, head := h }).per, .bool ({ m with now := t, b0 := a, b1 := b, b2 := c, b3 := d, head := h }).pow, .bool ({ m with now := t, b0 := a, b1 := b, b2 := c, b3 := d, head := h }).fst, .bool true, .int .i64 ({ m with now := t, b0 := a, b1 := b, b2 := c, b3 := d, head := h }).c0, .int .i64 ({ m with now := t, b0 := a, b1 := b, b2 := c, b3 := d, head := h }).c1, .int .i64 ({ m with now := t, b0 := a, b1 := b, b2 := c, b3 := d, head := h }).c2, .int .i64 ({ m with now := t, b0 := a, b1 := b, b2 := c, b3 := d, head := h }).c3, .int .i64 ({ m with now := t, b0 := a, b1 := b, b2 := c, b3 := d, head := h }).now, .int .i64 ({ m with now := t, b0 := a, b1 := b, b2 := c, b3 := d, head := h }).b0, .int .i64 ({ m with now := t, b0 := a, b1 := b, b2 := c, b3 := d, head := h }).b1, .int .i64 ({ m with now := t, b0 := a, b1 := b, b2 := c, b3 := d, head := h }).b2, .int .i64 ({ m with now := t, b0 := a, b1 := b, b2 := c, b3 := d, head := h }).b3, .int .i64 ({ m with now := t, b0 := a, b1 := b, b2 := c, b3 := d, head := h }).head, .int .i64 ({ m with now := t, b0 := a, b1 := b, b2 := c, b3 := d, head := h }).last, .int .i64 ({ m with now := t, b0 := a, b1 := b, b2 := c, b3 := d, head := h }).lastP, .int .i64 ({ m with now := t, b0 := a, b1 := b, b2 := c, b3 := d, head := h }).told]] := hs; refine V141 ?_
      refine Z.cutt (ι := Unit) [0] rfl (fun _ => []) (fun _ wr => St w M wr [Ent.blk g T ({ m with reg := R, now := t, b0 := a, b1 := b, b2 := c, b3 := d, head := h } : RpV).cells.toArray]) ?_ ?_
      · skip
        refine Z.drawK (fun j => j != 27) mixed hs ?_; clear hs; intro wd10 hs; refine V87 ?_; refine V267 ?_; refine Z.t 5 rfl rfl rfl (by rfl) J3 (Jk hs) J29 ?_; refine Z.tb [6, 7, 8, 9, 10, 11, 12, 13] J3 rfl (Jk hs) rfl ?_; refine V558 ?_; refine Z.t 15 rfl rfl rfl (by rfl) J3 (Jk hs) (Z.Yd.fieldA (m := 5) rfl J3) ?_; refine Z.t 16 rfl rfl rfl (by rfl) J3 (Jk hs) (Z.Yd.fieldA (m := 1) rfl J3) ?_; refine Z.t 17 rfl rfl rfl (by rfl) J3 (Jk hs) J25 ?_; refine Z.tb [18] J3 rfl (Jk hs) rfl ?_; refine Z.t 19 rfl rfl rfl (by rfl) J3 (Jk hs) (Z.Yd.nilc rfl rfl) ?_; refine Z.t 20 rfl rfl rfl (by rfl) J3 (Jk hs) (Z.Yd.fieldA (m := 15) rfl J3) ?_; refine Z.t 21 rfl rfl rfl (by rfl) J3 (Jk hs) J25 ?_; refine Z.split (s := 68) rfl (fun hsp68 => ?_) (fun hsp68 => ?_)
        · refine Z.yes (s := 68) (b := true) rfl hsp68 rfl ?_
          (try simp at hsp68)
          refine Z.tnS 68 false 22 rfl rfl J3 rfl rfl J16 rfl (by rfl) (fun _ => (Jk hs)) ?_; refine Z.t 23 rfl rfl rfl (by rfl) J3 (Jk hs) (Z.Yd.pickT rfl rfl) ?_; refine V159 ?_; clear hs; intro ws hs; replace hs := U1 hs; refine V667 ?_; exact Z.meet () J6 (by rw [show R = true by rw [hR]; simp_all]; exact hs)
        refine Z.yes (s := 68) (b := false) rfl hsp68 rfl ?_
        (try simp at hsp68)
        refine Z.tn 22 rfl rfl J3 rfl J7 ?_; refine Z.ZO.call rfl rfl (by rfl) rfl rfl call91 rfl (rp_due g { m with now := t, b0 := a, b1 := b, b2 := c, b3 := d, head := h } m.c1 m.last _ (hs.celOf J0) ⟨by show 0 ≤ t; omega, u2⟩ h8) ?_; rintro v10_22 w10_22 ⟨rfl, hy⟩; replace hs := U0 (hs.call hy); clear hy; refine Z.tk (Dn := fun j => j != 27) (i := 22) (fun _ => (Jk hs)) ?_; refine Z.t 23 rfl rfl rfl (by rfl) J3 (Jk hs) (Z.Yd.pickF rfl rfl) ?_; refine V159 ?_; clear hs; intro ws hs; replace hs := U1 hs; refine V667 ?_; exact Z.meet () J6 (by rw [show R = dueV m.c1 m.last t by rw [hR]; simp_all; intro _; omega]; exact hs)
      clear hs; rintro _ w10 hs; refine V175 ?_
      replace hs : St w M w10 [Ent.blk g T #[.bool ({ m with reg := R, now := t, b0 := a, b1 := b, b2 := c, b3 := d, head := h }).reg, .bool ({ m with reg := R, now := t, b0 := a, b1 := b, b2 := c, b3 := d, head := h }).per, .bool ({ m with reg := R, now := t, b0 := a, b1 := b, b2 := c, b3 := d, head := h }).pow, .bool ({ m with reg := R, now := t, b0 := a, b1 := b, b2 := c, b3 := d, head := h }).fst, .bool true, .int .i64 ({ m with reg := R, now := t, b0 := a, b1 := b, b2 := c, b3 := d, head := h }).c0, .int .i64 ({ m with reg := R, now := t, b0 := a, b1 := b, b2 := c, b3 := d, head := h }).c1, .int .i64 ({ m with reg := R, now := t, b0 := a, b1 := b, b2 := c, b3 := d, head := h }).c2, .int .i64 ({ m with reg := R, now := t, b0 := a, b1 := b, b2 := c, b3 := d, head := h }).c3, .int .i64 ({ m with reg := R, now := t, b0 := a, b1 := b, b2 := c, b3 := d, head := h }).now, .int .i64 ({ m with reg := R, now := t, b0 := a, b1 := b, b2 := c, b3 := d, head := h }).b0, .int .i64 ({ m with reg := R, now := t, b0 := a, b1 := b, b2 := c, b3 := d, head := h }).b1, .int .i64 ({ m with reg := R, now := t, b0 := a, b1 := b, b2 := c, b3 := d, head := h }).b2, .int .i64 ({ m with reg := R, now := t, b0 := a, b1 := b, b2 := c, b3 := d, head := h }).b3, .int .i64 ({ m with reg := R, now := t, b0 := a, b1 := b, b2 := c, b3 := d, head := h }).head, .int .i64 ({ m with reg := R, now := t, b0 := a, b1 := b, b2 := c, b3 := d, head := h }).last, .int .i64 ({ m with reg := R, now := t, b0 := a, b1 := b, b2 := c, b3 := d, head := h }).lastP, .int .i64 ({ m with reg := R, now := t, b0 := a, b1 := b, b2 := c, b3 := d, head := h }).told]] := hs
      refine Z.drawK (fun j => j != 22) mixed hs ?_; clear hs; intro wd11 hs; refine V87 ?_; refine V496 ?_; refine Z.t 5 rfl rfl rfl (by rfl) J3 (Jk hs) J29 ?_; refine Z.tb [6, 7, 8] J3 rfl (Jk hs) rfl ?_; refine Z.t 9 rfl rfl rfl (by rfl) J3 (Jk hs) (Z.Yd.nilc rfl rfl) ?_; refine Z.t 10 rfl rfl rfl (by rfl) J3 (Jk hs) (Z.Yd.fieldA (m := 5) rfl J3) ?_; refine Z.t 11 rfl rfl rfl (by rfl) J3 (Jk hs) (Z.Yd.fieldA (m := 0) rfl J3) ?_; refine Z.t 12 rfl rfl rfl (by rfl) J3 (Jk hs) J25 ?_; refine Z.tb [13] J3 rfl (Jk hs) rfl ?_; refine V558 ?_; refine Z.t 15 rfl rfl rfl (by rfl) J3 (Jk hs) (Z.Yd.fieldA (m := 15) rfl J3) ?_; refine Z.t 16 rfl rfl rfl (by rfl) J3 (Jk hs) J25 ?_; refine Z.split (s := 90) rfl (fun hsp90 => ?_) (fun hsp90 => ?_)
      · refine Z.yes (s := 90) (b := true) rfl hsp90 rfl ?_
        (try simp at hsp90)
        refine Z.tnS 90 false 17 rfl rfl J3 rfl rfl J16 rfl (by rfl) (fun _ => (Jk hs)) ?_; refine Z.t 18 rfl rfl rfl (by rfl) J3 (Jk hs) (Z.Yd.pickT rfl rfl) ?_; refine V188 ?_; clear hs; intro ws hs; replace hs := U1 hs; refine V675 ?_; exact Z.meet () J6 (by rw [show Q = true by rw [hQ]; simp_all]; exact hs)
      refine Z.yes (s := 90) (b := false) rfl hsp90 rfl ?_
      (try simp at hsp90)
      refine Z.tn 17 rfl rfl J3 rfl J7 ?_; refine Z.ZO.call rfl rfl (by rfl) rfl rfl call91 rfl (rp_due g { m with reg := R, now := t, b0 := a, b1 := b, b2 := c, b3 := d, head := h } m.c0 m.last _ (hs.celOf J0) ⟨by show 0 ≤ t; omega, u2⟩ h8) ?_; rintro v11_17 w11_17 ⟨rfl, hy⟩; replace hs := U0 (hs.call hy); clear hy; refine Z.tk (Dn := fun j => j != 22) (i := 17) (fun _ => (Jk hs)) ?_; refine Z.t 18 rfl rfl rfl (by rfl) J3 (Jk hs) (Z.Yd.pickF rfl rfl) ?_; refine V188 ?_; clear hs; intro ws hs; replace hs := U1 hs; refine V675 ?_; exact Z.meet () J6 (by rw [show Q = dueV m.c0 m.last t by rw [hQ]; simp_all]; exact hs)
    clear hs; rintro _ w8 hs; refine V175 ?_
    replace hs : St w M w8 [Ent.blk g T #[.bool ({ m with reg := R, per := Q, now := t, b0 := a, b1 := b, b2 := c, b3 := d, head := h }).reg, .bool ({ m with reg := R, per := Q, now := t, b0 := a, b1 := b, b2 := c, b3 := d, head := h }).per, .bool ({ m with reg := R, per := Q, now := t, b0 := a, b1 := b, b2 := c, b3 := d, head := h }).pow, .bool ({ m with reg := R, per := Q, now := t, b0 := a, b1 := b, b2 := c, b3 := d, head := h }).fst, .bool true, .int .i64 ({ m with reg := R, per := Q, now := t, b0 := a, b1 := b, b2 := c, b3 := d, head := h }).c0, .int .i64 ({ m with reg := R, per := Q, now := t, b0 := a, b1 := b, b2 := c, b3 := d, head := h }).c1, .int .i64 ({ m with reg := R, per := Q, now := t, b0 := a, b1 := b, b2 := c, b3 := d, head := h }).c2, .int .i64 ({ m with reg := R, per := Q, now := t, b0 := a, b1 := b, b2 := c, b3 := d, head := h }).c3, .int .i64 ({ m with reg := R, per := Q, now := t, b0 := a, b1 := b, b2 := c, b3 := d, head := h }).now, .int .i64 ({ m with reg := R, per := Q, now := t, b0 := a, b1 := b, b2 := c, b3 := d, head := h }).b0, .int .i64 ({ m with reg := R, per := Q, now := t, b0 := a, b1 := b, b2 := c, b3 := d, head := h }).b1, .int .i64 ({ m with reg := R, per := Q, now := t, b0 := a, b1 := b, b2 := c, b3 := d, head := h }).b2, .int .i64 ({ m with reg := R, per := Q, now := t, b0 := a, b1 := b, b2 := c, b3 := d, head := h }).b3, .int .i64 ({ m with reg := R, per := Q, now := t, b0 := a, b1 := b, b2 := c, b3 := d, head := h }).head, .int .i64 ({ m with reg := R, per := Q, now := t, b0 := a, b1 := b, b2 := c, b3 := d, head := h }).last, .int .i64 ({ m with reg := R, per := Q, now := t, b0 := a, b1 := b, b2 := c, b3 := d, head := h }).lastP, .int .i64 ({ m with reg := R, per := Q, now := t, b0 := a, b1 := b, b2 := c, b3 := d, head := h }).told]] := hs
    refine V141 ?_; refine Z.cutt (ι := Unit) [] rfl (fun _ => []) (fun _ wr => St w M wr [Ent.blk g T ({ m with reg := R, per := Q, pow := X, now := t, b0 := a, b1 := b, b2 := c, b3 := d, head := h } : RpV).cells.toArray]) ?_ ?_
    · skip
      refine Z.drawK (fun j => j != 33) mixed hs ?_; clear hs; intro wd12 hs; refine V87 ?_; refine Z.t 4 rfl rfl rfl (by rfl) J3 (Jk hs) (Z.Yd.fieldA (m := 2) rfl J3) ?_; refine Z.t 5 rfl rfl rfl (by rfl) J3 (Jk hs) J29 ?_; refine Z.tb [6, 7] J3 rfl (Jk hs) rfl ?_; refine V477 ?_; refine Z.t 10 rfl rfl rfl (by rfl) J3 (Jk hs) (Z.Yd.fieldA (m := 3) rfl J3) ?_; refine Z.t 11 rfl rfl rfl (by rfl) J3 (Jk hs) J29 ?_; refine Z.tb [12, 13, 14, 15] J3 rfl (Jk hs) rfl ?_; refine Z.t 16 rfl rfl rfl (by rfl) J3 (Jk hs) (Z.Yd.nilc rfl rfl) ?_; refine Z.t 17 rfl rfl rfl (by rfl) J3 (Jk hs) (Z.Yd.fieldA (m := 5) rfl J3) ?_; refine V490 ?_; refine Z.t 19 rfl rfl rfl (by rfl) J3 (Jk hs) J25 ?_; refine Z.tb [20] J3 rfl (Jk hs) rfl ?_; refine Z.t 21 rfl rfl rfl (by rfl) J3 (Jk hs) (Z.Yd.nilc rfl rfl) ?_; refine Z.t 22 rfl rfl rfl (by rfl) J3 (Jk hs) (Z.Yd.fieldA (m := 16) rfl J3) ?_; refine Z.t 23 rfl rfl rfl (by rfl) J3 (Jk hs) J25 ?_; refine Z.split (s := 119) rfl (fun hsp119 => ?_) (fun hsp119 => ?_)
      · refine Z.yes (s := 119) (b := true) rfl hsp119 rfl ?_
        (try simp at hsp119)
        refine Z.tnS 119 false 24 rfl rfl J3 rfl rfl J16 rfl (by rfl) (fun _ => (Jk hs)) ?_; refine Z.t 25 rfl rfl rfl (by rfl) J3 (Jk hs) (Z.Yd.pickT rfl rfl) ?_; refine Z.tb [26, 27] J3 rfl (Jk hs) rfl ?_; refine Z.split (s := 132) rfl (fun hsp132 => ?_) (fun hsp132 => ?_)
        · refine Z.yes (s := 132) (b := true) rfl hsp132 rfl ?_
          (try simp at hsp132)
          refine Z.yes (s := 119) (b := true) rfl rfl rfl ?_; refine V415 ?_; clear hs; intro ws hs; replace hs := U1 hs; refine V341 ?_; refine V6 ?_; exact Z.meet () trivial (by rw [show X = true by rw [hX]; simp_all]; exact hs)
        (exfalso; simp at hsp132 <;> omega)
      refine Z.yes (s := 119) (b := false) rfl hsp119 rfl ?_
      (try simp at hsp119)
      refine Z.tn 24 rfl rfl J3 rfl J7 ?_; refine Z.ZO.call rfl rfl (by rfl) rfl rfl call91 rfl (rp_due g { m with reg := R, per := Q, now := t, b0 := a, b1 := b, b2 := c, b3 := d, head := h } m.c2 m.lastP _ (hs.celOf J0) ⟨by show 0 ≤ t; omega, u2⟩ h9) ?_; rintro v12_24 w12_24 ⟨rfl, hy⟩; replace hs := U0 (hs.call hy); clear hy; refine Z.tk (Dn := fun j => j != 33) (i := 24) (fun _ => (Jk hs)) ?_; refine Z.t 25 rfl rfl rfl (by rfl) J3 (Jk hs) (Z.Yd.pickF rfl rfl) ?_; refine Z.tb [26, 27] J3 rfl (Jk hs) rfl ?_; refine Z.split (s := 132) rfl (fun hsp132 => ?_) (fun hsp132 => ?_)
      · refine Z.yes (s := 132) (b := true) rfl hsp132 rfl ?_
        (try simp at hsp132)
        refine Z.yes (s := 119) (b := false) rfl rfl rfl ?_; refine V415 ?_; clear hs; intro ws hs; replace hs := U1 hs; refine V341 ?_; refine V6 ?_; exact Z.meet () trivial (by rw [show X = true by rw [hX]; simp_all]; exact hs)
      refine Z.yes (s := 132) (b := false) rfl hsp132 rfl ?_
      (try simp at hsp132)
      refine Z.yes (s := 119) (b := false) rfl rfl rfl ?_; refine Z.tn 28 rfl rfl J3 rfl J7 ?_; refine Z.ZO.call rfl rfl (by rfl) rfl rfl call92 rfl (rp_changed g { m with reg := R, per := Q, now := t, b0 := a, b1 := b, b2 := c, b3 := d, head := h } _ (hs.celOf J0) u7 h10) ?_; rintro v12_28 w12_28 ⟨rfl, hy⟩; replace hs := U0 (hs.call hy); clear hy; refine Z.tk (Dn := fun j => j != 33) (i := 28) (fun _ => (Jk hs)) ?_; refine Z.t 29 rfl rfl rfl (by rfl) J3 (Jk hs) (Z.Yd.pickF rfl rfl) ?_; refine V66 ?_; clear hs; intro ws hs; replace hs := U1 hs; refine V341 ?_; refine V6 ?_; exact Z.meet () trivial (by rw [show X = chgV m.c3 h m.told by rw [hX]; simp_all]; exact hs)
    clear hs; rintro _ w12 hs; refine Z.only [] rfl ?_; refine V141 ?_; refine V121 ?_; refine Z.only [8] rfl ?_; refine V90 ?_
    repeat (first | refine Z.rthen ?_ | refine Z.rblock ?_ | refine Z.rscope ?_ | refine Z.rjump ?_)
    refine V199 ?_; exact ⟨_, rfl, rfl, by rw [eA]; exact hs⟩
  clear hs; rintro ⟨⟩ w9 ⟨hno, hs⟩; refine Z.only [8] rfl ?_
  (try dsimp only at hs)
  refine V141 ?_; refine V862 ?_; refine V31 ?_; refine Z.only [8] rfl ?_; refine V90 ?_
  repeat (first | refine Z.rthen ?_ | refine Z.rblock ?_ | refine Z.rscope ?_)
  refine V199 ?_; exact ⟨_, rfl, by rw [show updV m t a b c d h = (m, 2) from if_neg hno], by rw [show updV m t a b c d h = (m, 2) from if_neg hno]; exact hs⟩

theorem rp_Copy (g : Nat) (m : RpV) (w : World) (hc : Cel w g m.cells) : Calls Tryz.prog 46 #[.pointer (some ⟨g, 0, none⟩)] w (Ret fun v w' => ∃ g2, v = .pointer (some ⟨g2, 0, none⟩) ∧ St w [] w' [Ent.blk g2 157 m.cells.toArray]) := by
  have hs := St.start w; refine Z.enter func46 rfl ntmps46 rfl rfl ?_; refine V0 ?_; have hone := rp_one m; refine V18 ?_; refine V857 ?_; refine V175 ?_; refine V268 ?_; refine Z.ZO.call rfl rfl (by rfl) rfl rfl call87 rfl (rp_none g m _ hc) ?_; rintro v1_1 w1_1 ⟨rfl, hy⟩; replace hs := U0 (hs.call hy); clear hy; refine V857 ?_; refine Z.only [0, 5] rfl ?_; refine V6 ?_; refine Z.cond rfl (fun h => absurd h J16) (fun hc1 => ?_); refine V862 ?_; refine V245 ?_; refine Z.l rfl rfl (by rfl) (Z.keepS hs) (Z.Yd.loadA _ rfl isAgg157 (fun _ => hc.agg J16) (by exact sizeOf157)) ?_; refine V2 ?_; refine Z.ZO.alloc rfl rfl (by rfl) zeroValue157 rfl hs ?_; clear hs; intro g3 w3 hs; refine V860 ?_; clear hs; intro ws hs; replace hs := U1 hs; replace hs := U2 hs; refine V857 ?_; refine Z.only [3] rfl ?_; refine V858 ?_; refine V186 ?_; exact ⟨_, rfl, _, rfl, hs⟩
def gps (a b c d : Int) : List Nat := (List.range 4).filter fun k => decide (0 < elt [a, b, c, d] (k : Int))
def GpA (a b c d : Int) (k : Nat) (args : Array Value) (Lx : List Ent) : Prop := args = #[.int .i64 (k : Int), .int .i64 (elt [a, b, c, d] (k : Int))] ∧ Lx = []
theorem flt_prefix {p : Nat → Bool} {j n : Nat} (hj : j < n) (hp : p j = true) : ((List.range j).filter p ++ [j]) <+: (List.range n).filter p := by
  have h1 : (List.range (j + 1)).filter p = (List.range j).filter p ++ [j] := by
    rw [List.range_succ, List.filter_append]; simp [hp]
  rw [← h1]; obtain ⟨k, rfl⟩ : ∃ k, n = (j + 1) + k := ⟨n - (j + 1), by omega⟩; exact ((List.range_add (n := j + 1) (m := k)) ▸ List.prefix_append _ _ : List.range (j + 1) <+: List.range (j + 1 + k)).filter p
theorem flt_skip {p : Nat → Bool} {j : Nat} (hp : p j = false) : (List.range (j + 1)).filter p = (List.range j).filter p := by
  rw [List.range_succ, List.filter_append]; simp [hp]
theorem flt_take {p : Nat → Bool} {j : Nat} (hp : p j = true) : (List.range (j + 1)).filter p = (List.range j).filter p ++ [j] := by
  rw [List.range_succ, List.filter_append]; simp [hp]
theorem gps_pre {a b c d : Int} {pre : List Nat} {x : Nat} (h : (pre ++ [x]) <+: gps a b c d) : (∀ y ∈ pre, y < x) ∧ x < 4 ∧ 0 < elt [a, b, c, d] (x : Int) ∧ (gps a b c d)[pre.length]? = some x ∧ pre.length < (gps a b c d).length := by
  have hp : (gps a b c d).Pairwise (· < ·) := List.Pairwise.sublist List.filter_sublist List.pairwise_lt_range; have h1 : (pre ++ [x]).Pairwise (· < ·) := List.Pairwise.sublist h.sublist hp; have hm : x ∈ gps a b c d := h.subset J16; have h2 := List.mem_filter.1 hm; obtain ⟨t, ht⟩ := h; refine ⟨fun y hy => (List.pairwise_append.1 h1).2.2 y hy x J16, by simpa using h2.1, by simpa using h2.2, ?_, ?_⟩
  · rw [← ht]; simp
  rw [← ht]; simp
theorem groups_seq (g T : Nat) (a b c d : Int) : SX.SeqC Tryz.prog 187 #[.pointer (some ⟨g, 0, none⟩)] (GpA a b c d) [Ent.blk g T #[.int .i64 a, .int .i64 b, .int .i64 c, .int .i64 d]] (fun _ _ => True) (gps a b c d) := by
  intro l w0 M I Ix W L0 _ hY hI hs; refine Z.enter func187 rfl ntmps187 rfl rfl ?_; refine Z.scope ?_; refine V141 ?_; refine Z.label ?_; refine V858 ?_; refine Z.l rfl rfl (by rfl) (Z.keepS hs) J75 ?_; refine V1 ?_; refine V589 ?_; refine V861 ?_; refine Z.loopk (ι := Nat × List Ent) [0, 5] rfl (fun j => [(6, [], .int .i64 (j.1 : Int))]) (fun j wr => (j.1 ≤ 4 ∧ I ((List.range j.1).filter fun k => decide (0 < elt [a, b, c, d] (k : Int))) j.2) ∧ St w0 M wr (j.2 ++ [Ent.blk g T #[.int .i64 a, .int .i64 b, .int .i64 c, .int .i64 d]])) (fun j => 4 - j.1) (0, L0) J6 ⟨⟨by simp only; omega, hI⟩, hs⟩ ?_; clear hs; rintro ⟨j, L1⟩ w1 ⟨⟨hj, hi⟩, hs⟩; refine V589 ?_
  (try dsimp only at hs)
  refine V121 ?_; refine Z.only [0, 5, 6, 7] rfl ?_; refine V210 ?_; refine Z.cond rfl (fun hc1 => ?_) (fun hc1 => ?_)
  · (try simp at hc1)
    have hlt : j < 4 := by omega
    have hgl : #[Value.int .i64 a, .int .i64 b, .int .i64 c, .int .i64 d][j]? = some (.int .i64 (elt [a, b, c, d] (j : Int))) := by
      have h4 : j = 0 ∨ j = 1 ∨ j = 2 ∨ j = 3 := by omega
      rcases h4 with rfl | rfl | rfl | rfl <;> rfl
    refine V454 ?_; refine Z.l rfl rfl (by rfl) (Z.keepS hs) (Z.Yd.idx1 rfl rfl underlying37 sizeOf3 isAgg3 (fun _ => ⟨by omega, by omega, hgl⟩)) ?_; refine V31 ?_; refine Z.only [0, 3, 4, 5, 6] rfl ?_; refine V333 ?_; refine Z.split (s := 12) rfl (fun hsp12 => ?_) (fun hsp12 => ?_)
    · refine Z.yes (s := 12) (b := true) rfl hsp12 rfl ?_
      (try simp at hsp12)
      refine V50 ?_; refine Z.yes (s := 12) (b := true) rfl rfl rfl ?_; refine V160 ?_; refine Z.ZO.yield rfl rfl (by rfl) rfl rfl rfl (hY _ ((List.range j).filter fun k => decide (0 < elt [a, b, c, d] (k : Int))) j _ _ L1 [] hi (flt_prefix hlt (by simpa using hsp12)) ⟨rfl, rfl⟩ hs) ?_; clear hs; rintro e wy3_6 (⟨rfl, Ly3_6, hiy3_6, hs⟩ | ⟨rfl, Ly3_6, hiy3_6, hs⟩)
      · refine ⟨_, rfl, ?_⟩
        refine V859 ?_; refine Z.yes (s := 12) (b := true) rfl rfl rfl ?_; refine V20 ?_; refine V857 ?_; refine Z.only [0, 5, 6, 18] rfl ?_; refine V6 ?_; refine Z.cond rfl (fun hc3 => ?_) (fun hc3 => ?_)
        · (exfalso; simp at hc3 <;> omega)
        (try simp at hc3)
        refine V392 ?_; refine V589 ?_; refine V6 ?_; exact Z.again (j + 1, Ly3_6) J13 ⟨⟨by simp only; omega, by simp only; rw [flt_take (by simpa using hsp12)]; exact hiy3_6⟩, hs⟩ J22
      refine ⟨_, rfl, ?_⟩; refine V859 ?_; refine Z.yes (s := 12) (b := true) rfl rfl rfl ?_; refine V20 ?_; refine V857 ?_; refine Z.only [0, 5, 6, 18] rfl ?_; refine V6 ?_; refine Z.cond rfl (fun hc3 => ?_) (fun hc3 => ?_)
      · (try simp at hc3)
        refine V467 ?_
        first
        | exact ⟨⟨_, rfl⟩, Ly3_6, .inr hiy3_6, hs⟩
        | exact ⟨⟨_, rfl⟩, L1, .inl (by obtain rfl : j = 4 := by omega
                                        exact hi), hs⟩
      (exfalso; simp at hc3 <;> omega)
    refine Z.yes (s := 12) (b := false) rfl hsp12 rfl ?_
    (try simp at hsp12)
    refine V4 ?_; refine V299 ?_; refine V14 ?_; refine V857 ?_; refine Z.only [0, 5, 6, 18] rfl ?_; refine V6 ?_; refine Z.cond rfl (fun hc3 => ?_) (fun hc3 => ?_)
    · (exfalso; simp at hc3 <;> omega)
    (try simp at hc3)
    refine V392 ?_; refine V589 ?_; refine V6 ?_; exact Z.again (j + 1, L1) J13 ⟨⟨by simp only; omega, by simp only; rw [flt_skip (by simpa using hsp12)]; exact hi⟩, hs⟩ J22
  (try simp at hc1)
  refine V10 ?_; refine Z.nscope ?_; refine Z.out0n trivial ?_
  first
  | exact ⟨⟨_, rfl⟩, Ly3_6, .inr hiy3_6, hs⟩
  | exact ⟨⟨_, rfl⟩, L1, .inl (by obtain rfl : j = 4 := by omega
                                  exact hi), hs⟩
theorem rp_Groups (g : Nat) (m : RpV) (w : World) (hc : Cel w g m.cells) : Calls Tryz.prog 148 #[.pointer (some ⟨g, 0, none⟩)] w (Ret fun v w' => ∃ g2, v = .func (.func 187) #[] #[.pointer (some ⟨g2, 0, none⟩)] ∧ St w [] w' [Ent.blk g2 37 #[.int .i64 m.b0, .int .i64 m.b1, .int .i64 m.b2, .int .i64 m.b3]]) := by
  have hs := St.start w; refine Z.enter func148 rfl ntmps148 rfl rfl ?_; refine V242 ?_; refine V2 ?_; refine V98 ?_; clear hs; intro g3 w3 hs; refine V857 ?_; refine V269 ?_; refine V268 ?_; refine Z.ZO.call rfl rfl (by rfl) rfl rfl call87 rfl (rp_none g m _ (hc.st (Jn hs))) ?_; rintro v2_1 w2_1 ⟨rfl, hy⟩; replace hs := U0 (hs.call hy); clear hy; refine V1 ?_; refine Z.only [0, 3, 6] rfl ?_; refine V6 ?_; refine Z.cond rfl (fun hc2 => ?_) (fun h => absurd h J16); refine V42 ?_; refine V324 ?_; refine V860 ?_; clear hs; intro ws hs; replace hs := U1 hs; replace hs := U2 hs; refine V857 ?_; refine Z.only [3] rfl ?_; refine V858 ?_; refine V215 ?_; exact ⟨_, rfl, _, rfl, hs⟩

abbrev RpV.bs (m : RpV) : List Int := [m.b0, m.b1, m.b2, m.b3]
def lvX (l : List Int) (pre : List Nat) (k : Nat) : Int := if k ∈ pre then levV (elt l (k : Int)) else 0
def xcs (b : Bool) (l : List Int) (pre : List Nat) : List Value := [.bool b, .int .i64 0, .int .i64 (lvX l pre 0), .int .i64 (lvX l pre 1), .int .i64 (lvX l pre 2), .int .i64 (lvX l pre 3)]
theorem xcs_set (l : List Int) (pre : List Nat) (x : Nat) (hx : x < 4) : (xcs false l pre).set (2 + (x : Int).toNat * 1) (.int .i64 (levV (elt l (x : Int)))) = xcs false l (pre ++ [x]) := by
  have e : ∀ k, lvX l (pre ++ [x]) k = if k = x then levV (elt l (x : Int)) else lvX l pre k := fun k => by
    unfold lvX
    by_cases h : k = x
    · subst h; simp
    simp [h]
  simp only [xcs, e]; have h4 : x = 0 ∨ x = 1 ∨ x = 2 ∨ x = 3 := by omega
  rcases h4 with rfl | rfl | rfl | rfl <;> rfl
@[simp] theorem xcs_len (b : Bool) (l : List Int) (pre : List Nat) : (xcs b l pre).length = 6 := rfl
theorem gps_len (a b c d : Int) : (gps a b c d).length ≤ 4 := by
  have := List.length_filter_le (fun k : Nat => decide (0 < elt [a, b, c, d] (k : Int))) (List.range 4)
  simpa [gps] using this
theorem xcs_get (b : Bool) (l : List Int) (pre : List Nat) (k : Nat) (hk : k < 4) : (xcs b l pre)[2 + k]? = some (.int .i64 (lvX l pre k)) := by
  have h4 : k = 0 ∨ k = 1 ∨ k = 2 ∨ k = 3 := by omega
  rcases h4 with rfl | rfl | rfl | rfl <;> rfl
theorem lvl_zero : lvl 0 = 0 := lvl_eq J5 (fun j hj => by omega) (fun j _ hj => by
  have h : ∀ k : Nat, 0 ≤ lim k := fun k => by
    induction k with
    | zero => simp [lim]
    | succ k ih =>
      cases k with
      | zero => simp [lim]
      | succ k => rw [lim_succ _ J5]; omega
  exact h j)
theorem lvX_all {a b c d : Int} (ha : 0 ≤ a) (hb : 0 ≤ b) (hc : 0 ≤ c) (hd : 0 ≤ d) (k : Nat) (hk : k < 4) : lvX [a, b, c, d] (gps a b c d) k = (lvl (elt [a, b, c, d] (k : Int)) : Int) := by
  have h0 : 0 ≤ elt [a, b, c, d] (k : Int) := by
    have h4 : k = 0 ∨ k = 1 ∨ k = 2 ∨ k = 3 := by omega
    rcases h4 with rfl | rfl | rfl | rfl <;> assumption
  unfold lvX levV gps
  by_cases h : 0 < elt [a, b, c, d] (k : Int)
  · rw [if_pos (by simp [hk, h]), if_neg J5]
  rw [if_neg (by simp [h]), show elt [a, b, c, d] (k : Int) = 0 by omega, lvl_zero]
  rfl
theorem sh_set (k : Nat) (v : Int) (hk : k < 4) : [Value.bool false, .int .i64 (k : Int), .int .i64 0, .int .i64 0, .int .i64 0, .int .i64 0].set (2 + (k : Int).toNat * 1) (.int .i64 v) = (RepV.short (k : Int) v).cells := by
  have h4 : k = 0 ∨ k = 1 ∨ k = 2 ∨ k = 3 := by omega
  rcases h4 with rfl | rfl | rfl | rfl <;> rfl
def statV (m : RpV) (room : Int) : RepV := if 1 < (gps m.b0 m.b1 m.b2 m.b3).length ∧ 4 ≤ room then ⟨true, 0, lvl m.b0, lvl m.b1, lvl m.b2, lvl m.b3⟩ else RepV.short (fstG m.b0 m.b1 m.b2 m.b3) (lvl (elt m.bs (fstG m.b0 m.b1 m.b2 m.b3)))
theorem statV_ok (m : RpV) (room : Int) (h : fstG m.b0 m.b1 m.b2 m.b3 ≠ 4) : (statV m room).ok := by
  have hb := fstG_bd m.b0 m.b1 m.b2 m.b3; have hl : ∀ x, 0 ≤ (lvl x : Int) ∧ (lvl x : Int) ≤ 63 := fun x => by have := (lvl_spec x).1; omega
  unfold statV
  split
  · exact ⟨⟨by simp, by simp⟩, by rw [if_pos rfl]; exact ⟨rfl, hl _, hl _, hl _, hl _⟩⟩
  obtain ⟨k, hk⟩ := Int.eq_ofNat_of_zero_le hb.1; rw [hk]; have h4 : k = 0 ∨ k = 1 ∨ k = 2 ∨ k = 3 := by omega
  refine ⟨⟨by simp only [RepV.short]; omega, by simp only [RepV.short]; omega⟩, ?_⟩; rw [if_neg (by simp [RepV.short])]; generalize elt m.bs (k : Int) = x
  rcases h4 with rfl | rfl | rfl | rfl
  all_goals
    refine ⟨fun j hj => ?_, hl x⟩; have hj4 : j = 0 ∨ j = 1 ∨ j = 2 ∨ j = 3 := by omega
    rcases hj4 with rfl | rfl | rfl | rfl <;> first | exact .inl rfl | exact .inr rfl
theorem rp_status (g : Nat) (m : RpV) (room : Int) (w : World) (hc : Cel w g m.cells) (hm : m.ok) (hf : fstG m.b0 m.b1 m.b2 m.b3 ≠ 4) :
    Calls Tryz.prog 96 #[.pointer (some ⟨g, 0, none⟩), .int .i64 room] w (Ret fun v w' => v = .agg (statV m room).cells.toArray ∧ St w [] w' []) := by
  have hs := St.start w; obtain ⟨-, -, h1, h2, h3, h4, -⟩ := hm; have hall := lvX_all h1.1 h2.1 h3.1 h4.1; have hb := fstG_bd m.b0 m.b1 m.b2 m.b3; obtain ⟨k, hk⟩ := Int.eq_ofNat_of_zero_le hb.1; have hk4 : k < 4 := by omega
  refine Z.enterM func96 rfl ntmps96 rfl rfl ?_; refine V304 ?_; refine V79 ?_; clear hs; intro g4 w4 hs; refine V857 ?_; refine Z.only [0, 1, 4] rfl ?_; refine V858 ?_; refine V2 ?_; refine V354 ?_; clear hs; intro g5 w5 hs; refine V183 ?_; clear hs; intro ws hs; replace hs := U1 hs; refine V157 ?_; refine V268 ?_; refine Z.ZO.call rfl rfl (by rfl) rfl rfl call148 rfl (rp_Groups g m _ (hc.st (Jn hs))) ?_; rintro v2_1 w2_1 ⟨g2, rfl, hy⟩; replace hs := U0 (hs.call hy); clear hy; refine V857 ?_; refine Z.only [0, 1, 4, 5, 11] rfl ?_; refine V861 ?_; refine Z.rangeFunc (ps := [12, 13]) (L0 := [Ent.blk g5 3 #[.int .i64 0], Ent.blk g4 86 (xcs false m.bs []).toArray]) (groups_seq g2 _ m.b0 m.b1 m.b2 m.b3) rfl call187 ((hs.sel [1, 2, 0] J12)) trivial (by rintro x args Lx ⟨rfl, rfl⟩; rfl) rfl (fun pre L => L = [Ent.blk g5 3 #[.int .i64 (pre.length : Int)], Ent.blk g4 86 (xcs false m.bs pre).toArray]) (fun _ _ => False) rfl ?_ ?_ ?_
  · clear hs
    rintro l0 Z0 pre x args W0 L0 Lx rfl hpre ⟨rfl, rfl⟩ hs; refine ⟨_, rfl, ?_⟩; refine V121 ?_; refine Z.only [0, 1, 4, 5, 6, 13] rfl ?_; refine V300 ?_; refine V1 ?_; refine Z.only [0, 1, 4, 5, 6, 7] rfl ?_; refine V6 ?_; refine Z.assigned [Ent.blk g5 3 #[.int .i64 (pre.length : Int)], Ent.blk g4 86 (xcs false m.bs pre).toArray] hs ?_; clear hs; intro Wb0 Zb0 hs; refine V171 ?_; refine V0 ?_; obtain ⟨hlt, hx4, hx0, -, hlen⟩ := gps_pre hpre; have hgl := gps_len m.b0 m.b1 m.b2 m.b3; replace hs := U6 hs; refine V18 ?_; refine V62 ?_; refine Z.ZO.call rfl rfl (by rfl) rfl rfl call149 rfl (clevel_any _ _) ?_; rintro v5_2 w5_2 ⟨rfl, hy⟩; replace hs := U0 (hs.call hy); clear hy; refine V50 ?_; refine V402 ?_; clear hs; intro ws hs; replace hs := U1 hs; refine V157 ?_; refine V300 ?_; rw [xcs_set m.bs pre x hx4] at hs; refine V9 ?_; refine V5 ?_; refine V183 ?_; clear hs; intro ws hs; replace hs := U1 hs; refine V157 ?_; refine V133 ?_; refine Z.rnorm [_, _] ?_ hs; simp
  · clear hs
    rintro Dd W0 L0 hi hs; subst hi; replace hs := U6 hs; refine V133 ?_; refine V30 ?_; have hgl := gps_len m.b0 m.b1 m.b2 m.b3; refine V9 ?_; refine V126 ?_; refine Z.only [0, 4, 29] rfl ?_; refine V6 ?_; refine Z.cond rfl (fun hc7 => ?_) (fun hc7 => ?_)
    · (try simp at hc7)
      have e : statV m room = ⟨true, 0, lvl m.b0, lvl m.b1, lvl m.b2, lvl m.b3⟩ := if_pos J5; refine V0 ?_; refine V3 ?_; refine V393 ?_; clear hs; intro ws hs; replace hs := U1 hs; refine V857 ?_; refine V74 ?_; refine V858 ?_; have e2 : (xcs false m.bs (gps m.b0 m.b1 m.b2 m.b3)).set 0 (Value.bool true) = (RepV.mk true 0 (lvl m.b0) (lvl m.b1) (lvl m.b2) (lvl m.b3)).cells := by
        simp only [xcs, hall 0 J5, hall 1 J5, hall 2 J5, hall 3 J5]
        rfl
      rw [e2] at hs; have hone : ∀ u ∈ (RepV.mk true 0 (lvl m.b0) (lvl m.b1) (lvl m.b2) (lvl m.b3)).cells, u.oneCell' = true := by simp [RepV.cells, Value.oneCell']
      refine V202 ?_; refine V860 ?_; clear hs; intro ws hs; replace hs := U1 hs; replace hs := U2 hs; refine V857 ?_; refine V426 ?_
      repeat (first | refine Z.rthen ?_ | refine Z.rblock ?_ | refine Z.rscope ?_)
      refine Z.outM1 (vs := [_]) (show St w [] _ ([_, _] ++ Ent.obj Dd (.deferred (some [])) :: [_]) from hs) (fun wr hs => J73) J73 ?_; clear hs; intro wr hs; refine ⟨_, rfl, ?_, Jn hs⟩; rw [e]
      rfl
    (try simp at hc7)
    have e : statV m room = RepV.short (fstG m.b0 m.b1 m.b2 m.b3) (lvl (elt m.bs (fstG m.b0 m.b1 m.b2 m.b3))) := if_neg J5; refine V862 ?_; refine V324 ?_; refine V2 ?_; refine Z.ZO.call rfl rfl (by rfl) rfl rfl call90 rfl (rp_group m.b0 m.b1 m.b2 m.b3 _) ?_; rintro v10_4 w10_4 ⟨rfl, hy⟩; replace hs := U0 (hs.call hy); clear hy; rw [hk]; refine V1 ?_; refine Z.only [4, 8] rfl ?_; refine V303 ?_; refine V134 ?_; refine V481 ?_; clear hs; intro g9 w9 hs; refine V860 ?_; clear hs; intro ws hs; replace hs := U1 hs; replace hs := U2 hs; refine V857 ?_; refine Z.only [4, 8, 9] rfl ?_; refine V858 ?_; refine V11 ?_; refine V19 ?_; refine V22 ?_; refine Z.l rfl rfl (by rfl) (Z.keepS hs) (Z.Yd.load rfl isAgg3 (fun hG => Z.cellB J0 (by rw [Z.nth_eq]; show _[0 + 2 + (k : Int).toNat * 1]? = _; rw [show 0 + 2 + (k : Int).toNat * 1 = 2 + k from by omega]; exact xcs_get _ _ _ k hk4))) ?_; refine V402 ?_; clear hs; intro ws hs; replace hs := U1 hs; refine V857 ?_; refine Z.only [4, 9] rfl ?_; refine V858 ?_; rw [sh_set k _ hk4, hall k hk4] at hs; have hone : ∀ u ∈ (RepV.short (k : Int) (lvl (elt m.bs (k : Int)))).cells, u.oneCell' = true := by simp [RepV.cells, Value.oneCell']
    refine V202 ?_; refine V860 ?_; clear hs; intro ws hs; replace hs := U1 hs; replace hs := U2 hs; refine V857 ?_; refine V426 ?_; refine Z.outM1 (vs := [_]) (show St w [] _ ([_, _, _] ++ Ent.obj Dd (.deferred (some [])) :: [_]) from hs) (fun wr hs => J73) J73 ?_; clear hs; intro wr hs; refine ⟨_, rfl, ?_, Jn hs⟩; rw [e]
    (rw [hk]; rfl)
  clear hs; rintro Dd c W0 L0 hi hs; exact hi.elim

end Go.Proofs.YtbojkoiopkaciaaGreat
