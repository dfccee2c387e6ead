/- Part 5 of the proofs that lead to the statement. -/
import Derived.Test.YtjejdlolgmhljaaY4
/- Reports: slices.IndexFunc, ContainsFunc over integers; within, index, group. -/
namespace Go.Proofs.Ytjejdlolgmhljaa
open Go.RowKit
set_option linter.unusedSimpArgs false
set_option linter.unusedVariables false
--newlaws

/-- the first place where p is true, or -1 -/
def idxW (p : Int → Bool) (l : List Int) : Int := match l.findIdx? p with | some i => (i : Int) | none => -1
theorem idxW_some {p : Int → Bool} {l : List Int} {k : Nat} (h0 : ∀ x ∈ l.take k, p x = false) (hk : k < l.length) (h1 : p l[k] = true) : idxW p l = (k : Int) := by
  have : l.findIdx? p = some k := by
    rw [List.findIdx?_eq_some_iff_getElem]
    refine ⟨hk, h1, fun j hj => ?_⟩
    have := h0 l[j] (List.mem_take_iff_getElem.2 ⟨j, by omega, rfl⟩)
    simp [this]
  unfold idxW
  rw [this]
theorem idxW_none {p : Int → Bool} {l : List Int} (h0 : ∀ x ∈ l, p x = false) : idxW p l = -1 := by
  have : l.findIdx? p = none := by
    rw [List.findIdx?_eq_none_iff]
    exact h0
  unfold idxW
  rw [this]
theorem idxW_any (p : Int → Bool) (l : List Int) : decide (0 ≤ idxW p l) = l.any p := by
  unfold idxW
  cases h : l.findIdx? p with
  | some i =>
    obtain ⟨h1, h2, -⟩ := List.findIdx?_eq_some_iff_getElem.1 h
    rw [List.any_eq_true.2 ⟨l[i], List.getElem_mem _, h2⟩]
    simp
  | none =>
    have h2 := List.findIdx?_eq_none_iff.1 h
    symm
    show l.any p = false
    rw [List.any_eq_false]
    intro x hx
    simpa using h2 x hx
theorem rp_indexf (A : Option Addr) (n c : Nat) (l : List Int) (k : Nat) (cap : Array Value) (p : Int → Bool) (w : World) (hx : Sl w A (ints .i64 l)) (hl : l.length = n) (hn : n ≤ 1000)
    (hk : ∀ args w, (callFunc k args).run Try.prog w = .ok (.enter k args) w) (hp : ∀ x W, SX.St w [] W [] → Calls Try.prog k (Value.int .i64 x :: cap.toList).toArray W (SX.Ret fun v w' => v = .bool (p x) ∧ SX.St W [] w' [])) :
    Calls Try.prog 54 #[.slice A n c, .func (.func k) #[] cap] w (SX.Ret fun v w' => v = .int .i64 (idxW p l) ∧ SX.St w [] w' []) := by
  have hs := SX.St.start w
  refine Z.enter Try.func54 rfl Try.ntmps54 rfl rfl ?_
  refine Z.seq ?_
  refine Z.region ?_
  refine Z.lb 1 rfl ?_
  refine Z.lnil ?_
  refine Z.only [0, 1] rfl ?_
  refine Z.nthen ?_
  refine Z.seq ?_
  refine Z.seq ?_
  refine Z.region ?_
  refine Z.lb 1 rfl ?_
  refine Z.l rfl rfl (by rfl) (Z.keepS hs) (Z.Yd.lenS rfl Try.underlying35) ?_
  refine Z.lb 1 rfl ?_
  refine Z.lnil ?_
  refine Z.only [0, 1, 7, 8] rfl ?_
  refine Z.nthen ?_
  refine Z.block ?_
  refine Z.loopk (ι := Nat) [0, 1, 7] rfl (fun k => [(8, [], .int .i64 (k : Int))]) (fun k wr => (k ≤ n ∧ ∀ x ∈ l.take k, p x = false) ∧ SX.St w [] wr []) (fun k => n - k) 0 (by refine ⟨?_, trivial⟩ <;> (first | rfl | (refine Z.lookv rfl ?_; simp; done) | (refine Z.lookv rfl ?_; simp; omega))) ⟨⟨by omega, by simp⟩, hs⟩ ?_
  clear hs
  rintro i w1 ⟨⟨hi, hj⟩, hs⟩
  refine Z.only [0, 1, 7, 8] rfl ?_
  refine Z.seq ?_
  refine Z.region ?_
  refine Z.lb 1 rfl ?_
  refine Z.lnil ?_
  refine Z.only [0, 1, 7, 8, 9] rfl ?_
  refine Z.nthen ?_
  refine Z.seq ?_
  refine Z.cond rfl (fun hc2 => ?_) (fun hc2 => ?_)
  · first
      | (exfalso; simp at hc2 <;> omega)
      | (
        (try simp at hc2)
        have hlt : i < l.length := by omega
        have hel : elt l (i : Int) = l[i] := by simp [elt, hlt]
        obtain ⟨b, off, rfl, hb0, hx2⟩ := Z.Sl.some hx (by simp [ints]; omega)
        refine Z.skip ?_
        refine Z.nthen ?_
        refine Z.seq ?_
        refine Z.block ?_
        refine Z.seq ?_
        refine Z.region ?_
        refine Z.lb 2 rfl ?_
        refine Z.lnil ?_
        refine Z.only [0, 1, 5, 7, 8] rfl ?_
        refine Z.nthen ?_
        refine Z.seq ?_
        refine Z.region ?_
        refine Z.lb 3 rfl ?_
        refine Z.l rfl rfl (by rfl) (Z.keepS hs) (Z.Yd.elem rfl rfl Try.underlying35 Try.sizeOf3 (fun hG => ⟨(by first | omega | (have hG' := Z.gh rfl hG; simp at hG'; omega)), (by first | omega | (have hG' := Z.gh rfl hG; simp at hG'; omega))⟩)) ?_
        refine Z.l rfl rfl (by rfl) (Z.keepS hs) (Z.Yd.load rfl Try.isAgg3 (fun hG => Z.cellS hx2 rfl (by first | omega | (have hG' := Z.gh rfl hG; simp at hG'; omega)) (by first | omega | (have hG' := Z.gh rfl hG; simp at hG'; omega)))) ?_
        refine Z.le rfl trivial ?_
        refine Z.ZO.call rfl rfl (by rfl) rfl rfl hk (by first | rfl | simp) (hp (elt l (i : Int)) _ hs) ?_
        rintro v4_5 w4_5 ⟨rfl, hy⟩
        replace hs := hs.call hy
        clear hy
        try simp only [List.cons_append, List.nil_append, List.append_nil] at hs
        refine Z.lnil ?_
        refine Z.only [0, 1, 5, 7, 8, 16] rfl ?_
        refine Z.nthen ?_
        refine Z.cond rfl (fun hc4 => ?_) (fun hc4 => ?_)
        · first
            | (exfalso; simp at hc4 <;> omega)
            | (
              (try simp at hc4)
              refine Z.seq ?_
              refine Z.region ?_
              refine Z.lb 2 rfl ?_
              refine Z.lnil ?_
              refine Z.only [4] rfl ?_
              refine Z.nthen ?_
              refine Z.ret ?_
              repeat (first | refine Z.rthen ?_ | refine Z.rblock ?_ | refine Z.rscope ?_)
              -- ret#0
              refine Z.out1 (by exact ⟨rfl, trivial⟩) ?_
              refine ⟨_, rfl, ?_, hs⟩
              rw [idxW_some hj hlt (by rw [← hel]; assumption)]
              )
        · first
            | (exfalso; simp at hc4 <;> omega)
            | (
              (try simp at hc4)
              refine Z.skip ?_
              refine Z.nblock ?_
              refine Z.nthen ?_
              refine Z.region ?_
              refine Z.l rfl rfl (by rfl) (Z.keepS hs) (Z.Yd.add rfl rfl (fun hG => Z.wi64 (by first | omega | (have hG' := Z.gh rfl hG; simp at hG'; omega)))) ?_
              refine Z.lb 1 rfl ?_
              refine Z.lnil ?_
              refine Z.only [0, 1, 7, 8] rfl ?_
              refine Z.nthen ?_
              refine Z.again (i + 1) (by refine ⟨?_, ?_, ?_, ?_, trivial⟩ <;> (first | rfl | (refine Z.lookv rfl ?_; simp; done) | (refine Z.lookv rfl ?_; simp; omega))) ⟨⟨by omega, fun x hm => ?_⟩, hs⟩ (by omega)
              rw [List.take_add_one, List.getElem?_eq_getElem hlt] at hm
              rcases List.mem_append.1 hm with hm | hm
              · exact hj x hm
              · obtain rfl : x = l[i] := by simpa using hm
                rw [← hel]; assumption
              )
        )
  · first
      | (exfalso; simp at hc2 <;> omega)
      | (
        (try simp at hc2)
        refine Z.exit ?_
        refine Z.xthen ?_
        refine Z.xthen ?_
        refine Z.xblock ?_
        refine Z.nthen ?_
        refine Z.seq ?_
        refine Z.region ?_
        refine Z.lb 1 rfl ?_
        refine Z.lnil ?_
        refine Z.only [4] rfl ?_
        refine Z.nthen ?_
        refine Z.ret ?_
        -- ret#1
        refine Z.out1 (by exact ⟨rfl, trivial⟩) ?_
        rw [List.take_of_length_le (by omega)] at hj
        refine ⟨_, rfl, ?_, hs⟩
        rw [idxW_none hj]
        )
theorem rp_containsf (A : Option Addr) (n c : Nat) (l : List Int) (k : Nat) (cap : Array Value) (p : Int → Bool) (w : World) (hx : Sl w A (ints .i64 l)) (hl : l.length = n) (hn : n ≤ 1000)
    (hk : ∀ args w, (callFunc k args).run Try.prog w = .ok (.enter k args) w) (hp : ∀ x W, SX.St w [] W [] → Calls Try.prog k (Value.int .i64 x :: cap.toList).toArray W (SX.Ret fun v w' => v = .bool (p x) ∧ SX.St W [] w' [])) :
    Calls Try.prog 39 #[.slice A n c, .func (.func k) #[] cap] w (SX.Ret fun v w' => v = .bool (l.any p) ∧ SX.St w [] w' []) := by
  have hs := SX.St.start w
  refine Z.enter Try.func39 rfl Try.ntmps39 rfl rfl ?_
  refine Z.seq ?_
  refine Z.region ?_
  refine Z.lb 1 rfl ?_
  refine Z.lnil ?_
  refine Z.only [0, 1] rfl ?_
  refine Z.nthen ?_
  refine Z.seq ?_
  refine Z.region ?_
  refine Z.lb 2 rfl ?_
  refine Z.le rfl trivial ?_
  refine Z.ZO.call rfl rfl (by rfl) rfl rfl Try.call54 rfl (rp_indexf A n c l k cap p _ hx hl hn hk hp) ?_
  rintro v1_2 w1_2 ⟨rfl, hy⟩
  replace hs := hs.call hy
  clear hy
  try simp only [List.cons_append, List.nil_append, List.append_nil] at hs
  refine Z.lb 2 rfl ?_
  refine Z.lnil ?_
  refine Z.only [4] rfl ?_
  refine Z.nthen ?_
  refine Z.ret ?_
  -- ret#0
  refine Z.out1 (by exact ⟨rfl, trivial⟩) ?_
  exact ⟨_, rfl, by rw [← idxW_any], hs⟩
theorem rp_within1 (g : Nat) (most x : Int) (w : World) (hc : Cel w g [.int .i64 most]) :
    Calls Try.prog 40 #[.int .i64 x, .pointer (some ⟨g, 0, none⟩)] w (SX.Ret fun v w' => v = .bool (decide (x < 0 ∨ most < x)) ∧ SX.St w [] w' []) := by
  have hs := SX.St.start w
  refine Z.enter Try.func40 rfl Try.ntmps40 rfl rfl ?_
  refine Z.seq ?_
  refine Z.region ?_
  refine Z.lb 1 rfl ?_
  refine Z.lnil ?_
  refine Z.only [0, 1] rfl ?_
  refine Z.nthen ?_
  refine Z.seq ?_
  refine Z.region ?_
  refine Z.lb 4 rfl ?_
  refine Z.l rfl rfl (by rfl) (Z.keepS hs) (Z.Yd.load rfl Try.isAgg3 (fun _ => Z.cellO hc.1 (by simp) (hc.2 0 _ rfl))) ?_
  refine Z.lb 3 rfl ?_
  refine Z.lnil ?_
  refine Z.only [3] rfl ?_
  refine Z.nthen ?_
  refine Z.ret ?_
  -- ret#0
  refine Z.out1 (by exact ⟨rfl, trivial⟩) ?_
  exact ⟨_, rfl, by congr 1; simp, hs⟩
def okW (most : Int) (l : List Int) : Prop := ∀ x ∈ l, 0 ≤ x ∧ x ≤ most
instance (most : Int) (l : List Int) : Decidable (okW most l) := by unfold okW; infer_instance
theorem rp_within (A : Option Addr) (n c : Nat) (l : List Int) (most : Int) (w : World) (hx : Sl w A (ints .i64 l)) (hl : l.length = n) (hn : n ≤ 1000) (hc : n ≤ c) :
    Calls Try.prog 23 #[.int .i64 most, .slice A n c] w (SX.Ret fun v w' => v = .bool (decide (okW most l)) ∧ SX.St w [] w' []) := by
  have hs := SX.St.start w
  refine Z.enter Try.func23 rfl Try.ntmps23 rfl rfl ?_
  refine Z.seq ?_
  refine Z.region ?_
  refine Z.le rfl trivial ?_
  refine Z.ZO.box rfl rfl (by rfl) rfl rfl hs ?_
  clear hs; intro g2 w2 hs
  refine Z.lb 1 rfl ?_
  refine Z.lnil ?_
  refine Z.only [1, 2] rfl ?_
  refine Z.nthen ?_
  refine Z.seq ?_
  refine Z.region ?_
  refine Z.lb 2 rfl ?_
  refine Z.l rfl rfl (by rfl) (Z.keepS hs) (Z.Yd.lenS rfl Try.underlying35) ?_
  refine Z.lb 1 rfl ?_
  refine Z.l rfl rfl (by rfl) (Z.keepS hs) (Z.Yd.lenS rfl Try.underlying35) ?_
  refine Z.l rfl rfl (by rfl) (Z.keepS hs) (Z.Yd.cut3 0 n n rfl rfl rfl rfl Try.underlying35 Try.sizeOf3 (fun hG => ⟨(by first | omega | (have hG' := Z.gh rfl hG; simp at hG'; omega)), (by first | omega | (have hG' := Z.gh rfl hG; simp at hG'; omega)), (by first | omega | (have hG' := Z.gh rfl hG; simp at hG'; omega)), (by first | omega | (have hG' := Z.gh rfl hG; simp at hG'; omega)), (by first | omega | (have hG' := Z.gh rfl hG; simp at hG'; omega))⟩)) ?_
  refine Z.lb 1 rfl ?_
  refine Z.le rfl trivial ?_
  refine Z.ZO.call rfl rfl (by rfl) rfl rfl Try.call39 rfl (rp_containsf _ n n l 40 _ (fun x ↦ decide (x < 0 ∨ most < x)) _ (by rw [slA_zero]; exact hx.st (hs.sub (List.nil_sublist _))) hl hn Try.call40 (fun x W hW ↦ rp_within1 g2 most x W (Cel.st (hs.celOf (by first | ((repeat (first | exact List.mem_cons_self | refine List.mem_cons_of_mem _ ?_ | refine List.mem_append_right _ ?_)); done) | fail)) hW))) ?_
  rintro v1_7 w1_7 ⟨rfl, hy⟩
  replace hs := hs.call hy
  clear hy
  try simp only [List.cons_append, List.nil_append, List.append_nil] at hs
  refine Z.lb 2 rfl ?_
  refine Z.lnil ?_
  refine Z.only [4] rfl ?_
  refine Z.nthen ?_
  refine Z.ret ?_
  -- ret#0
  refine Z.out1 (by exact ⟨rfl, trivial⟩) ?_
  refine ⟨_, rfl, ?_, hs.sub (List.nil_sublist _)⟩
  congr 1
  rw [Bool.eq_iff_iff, decide_eq_true_iff]
  unfold okW
  simp
def fstG (a b c d : Int) : Int := if 0 < a then 0 else if 0 < b then 1 else if 0 < c then 2 else if 0 < d then 3 else 4
theorem fstG_bd (a b c d : Int) : 0 ≤ fstG a b c d ∧ fstG a b c d ≤ 4 := by unfold fstG; split <;> (try split) <;> (try split) <;> (try split) <;> omega
theorem rp_group1 (x : Int) (w : World) : Calls Try.prog 42 #[.int .i64 x] w (SX.Ret fun v w' => v = .bool (decide (0 < x)) ∧ SX.St w [] w' []) := by
  have hs := SX.St.start w
  refine Z.enter Try.func42 rfl Try.ntmps42 rfl rfl ?_
  refine Z.seq ?_
  refine Z.region ?_
  refine Z.lb 1 rfl ?_
  refine Z.lnil ?_
  refine Z.only [0] rfl ?_
  refine Z.nthen ?_
  refine Z.seq ?_
  refine Z.region ?_
  refine Z.lb 3 rfl ?_
  refine Z.lnil ?_
  refine Z.only [2] rfl ?_
  refine Z.nthen ?_
  refine Z.ret ?_
  -- ret#0
  refine Z.out1 (by exact ⟨rfl, trivial⟩) ?_
  first | exact ⟨_, rfl, rfl, hs⟩ | exact ⟨_, rfl, rfl, hs.sub (List.nil_sublist _)⟩
theorem rp_index (A : Option Addr) (n c : Nat) (l : List Int) (k : Nat) (cap : Array Value) (p : Int → Bool) (w : World) (hx : Sl w A (ints .i64 l)) (hl : l.length = n) (hn : n ≤ 1000)
    (hk : ∀ args w, (callFunc k args).run Try.prog w = .ok (.enter k args) w) (hp : ∀ x W, SX.St w [] W [] → Calls Try.prog k (Value.int .i64 x :: cap.toList).toArray W (SX.Ret fun v w' => v = .bool (p x) ∧ SX.St W [] w' [])) :
    Calls Try.prog 41 #[.slice A n c, .func (.func k) #[] cap] w (SX.Ret fun v w' => v = .int .i64 (if 0 ≤ idxW p l then idxW p l else n) ∧ SX.St w [] w' []) := by
  have hs := SX.St.start w
  refine Z.enter Try.func41 rfl Try.ntmps41 rfl rfl ?_
  refine Z.seq ?_
  refine Z.region ?_
  refine Z.lb 1 rfl ?_
  refine Z.lnil ?_
  refine Z.only [0, 1] rfl ?_
  refine Z.nthen ?_
  refine Z.seq ?_
  refine Z.seq ?_
  refine Z.region ?_
  refine Z.lb 2 rfl ?_
  refine Z.le rfl trivial ?_
  refine Z.ZO.call rfl rfl (by rfl) rfl rfl Try.call54 rfl (rp_indexf A n c l k cap p _ hx hl hn hk hp) ?_
  rintro v1_2 w1_2 ⟨rfl, hy⟩
  replace hs := hs.call hy
  clear hy
  try simp only [List.cons_append, List.nil_append, List.append_nil] at hs
  refine Z.lb 1 rfl ?_
  refine Z.lnil ?_
  refine Z.only [0, 5] rfl ?_
  refine Z.nthen ?_
  refine Z.seq ?_
  refine Z.region ?_
  refine Z.lb 2 rfl ?_
  refine Z.lnil ?_
  refine Z.only [0, 5, 10] rfl ?_
  refine Z.nthen ?_
  refine Z.cond rfl (fun hc2 => ?_) (fun hc2 => ?_)
  · first
      | (exfalso; simp at hc2 <;> omega)
      | (
        (try simp at hc2)
        refine Z.seq ?_
        refine Z.region ?_
        refine Z.lb 2 rfl ?_
        refine Z.lnil ?_
        refine Z.only [4] rfl ?_
        refine Z.nthen ?_
        refine Z.ret ?_
        repeat (first | refine Z.rthen ?_ | refine Z.rblock ?_ | refine Z.rscope ?_)
        -- ret#0
        refine Z.out1 (by exact ⟨rfl, trivial⟩) ?_
        exact ⟨_, rfl, by rw [if_pos (by omega)], hs⟩
        )
  · first
      | (exfalso; simp at hc2 <;> omega)
      | (
        (try simp at hc2)
        refine Z.skip ?_
        refine Z.nthen ?_
        refine Z.seq ?_
        refine Z.region ?_
        refine Z.lb 1 rfl ?_
        refine Z.l rfl rfl (by rfl) (Z.keepS hs) (Z.Yd.lenS rfl Try.underlying35) ?_
        refine Z.lb 1 rfl ?_
        refine Z.lnil ?_
        refine Z.only [4] rfl ?_
        refine Z.nthen ?_
        refine Z.ret ?_
        -- ret#1
        refine Z.out1 (by exact ⟨rfl, trivial⟩) ?_
        exact ⟨_, rfl, by rw [if_neg (by omega)], hs⟩
        )
theorem fst_idx (a b c d : Int) : (if 0 ≤ idxW (fun x => decide (0 < x)) [a, b, c, d] then idxW (fun x => decide (0 < x)) [a, b, c, d] else (4 : Nat)) = fstG a b c d := by
  unfold idxW fstG
  by_cases h1 : 0 < a
  · simp [List.findIdx?_cons, h1]
  · by_cases h2 : 0 < b
    · simp [List.findIdx?_cons, h1, h2]
    · by_cases h3 : 0 < c
      · simp [List.findIdx?_cons, h1, h2, h3]
      · by_cases h4 : 0 < d
        · simp [List.findIdx?_cons, h1, h2, h3, h4]
        · simp [List.findIdx?_cons, h1, h2, h3, h4]
theorem rp_group (a b c d : Int) (w : World) : Calls Try.prog 26 #[.agg #[.int .i64 a, .int .i64 b, .int .i64 c, .int .i64 d]] w (SX.Ret fun v w' => v = .int .i64 (fstG a b c d) ∧ SX.St w [] w' []) := by
  have hs := SX.St.start w
  refine Z.enter Try.func26 rfl Try.ntmps26 rfl rfl ?_
  refine Z.seq ?_
  refine Z.region ?_
  refine Z.le rfl trivial ?_
  refine Z.ZO.box rfl rfl (by rfl) rfl rfl hs ?_
  clear hs; intro g1 w1 hs
  refine Z.lb 1 rfl ?_
  refine Z.lnil ?_
  refine Z.only [1] rfl ?_
  refine Z.nthen ?_
  refine Z.seq ?_
  refine Z.region ?_
  refine Z.l rfl rfl (by rfl) (Z.keepS hs) (Z.Yd.cutA rfl Try.underlying22 Try.sizeOf3) ?_
  refine Z.le rfl trivial ?_
  refine Z.ZO.call rfl rfl (by rfl) rfl rfl Try.call41 rfl (rp_index (some ⟨g1, 0, none⟩) 4 4 [a, b, c, d] 42 _ (fun x ↦ decide (0 < x)) _ (hs.blkSl (by first | ((repeat (first | exact List.mem_cons_self | refine List.mem_cons_of_mem _ ?_ | refine List.mem_append_right _ ?_)); done) | fail)) rfl (by omega) Try.call42 (fun x W hW ↦ rp_group1 x W)) ?_
  rintro v1_1 w1_1 ⟨rfl, hy⟩
  replace hs := hs.call hy
  clear hy
  try simp only [List.cons_append, List.nil_append, List.append_nil] at hs
  refine Z.lb 1 rfl ?_
  refine Z.lnil ?_
  refine Z.only [2] rfl ?_
  refine Z.nthen ?_
  refine Z.ret ?_
  -- ret#0
  refine Z.out1 (by exact ⟨rfl, trivial⟩) ?_
  exact ⟨_, rfl, by rw [fst_idx], hs.sub (List.nil_sublist _)⟩
end Go.Proofs.Ytjejdlolgmhljaa

/- Reports: the state and the steps, plainly; the small functions. -/
namespace Go.Proofs.Ytjejdlolgmhljaa
open Go.RowKit
set_option linter.unusedSimpArgs false
set_option linter.unusedVariables false
--newlaws

structure RpV where
  reg : Bool
  per : Bool
  pow : Bool
  fst : Bool
  c0 : Int
  c1 : Int
  c2 : Int
  c3 : Int
  now : Int
  b0 : Int
  b1 : Int
  b2 : Int
  b3 : Int
  head : Int
  last : Int
  lastP : Int
  told : Int
deriving DecidableEq
def RpV.cells (m : RpV) : List Value := [.bool m.reg, .bool m.per, .bool m.pow, .bool m.fst, .bool true, .int .i64 m.c0, .int .i64 m.c1, .int .i64 m.c2, .int .i64 m.c3, .int .i64 m.now, .int .i64 m.b0, .int .i64 m.b1, .int .i64 m.b2, .int .i64 m.b3, .int .i64 m.head, .int .i64 m.last, .int .i64 m.lastP, .int .i64 m.told]
def okC (a b c d : Int) : Prop := okW 1048576 [a, b, c] ∧ okW 63 [d]
instance (a b c d : Int) : Decidable (okC a b c d) := by unfold okC; infer_instance
theorem okC_iff (a b c d : Int) : okC a b c d ↔ (0 ≤ a ∧ a ≤ 1048576) ∧ (0 ≤ b ∧ b ≤ 1048576) ∧ (0 ≤ c ∧ c ≤ 1048576) ∧ 0 ≤ d ∧ d ≤ 63 := by
  unfold okC okW
  simp
  omega
structure RpV.ok (m : RpV) : Prop where
  cfg : okC m.c0 m.c1 m.c2 m.c3
  now : 0 ≤ m.now ∧ m.now < 1073741824
  by0 : 0 ≤ m.b0 ∧ m.b0 ≤ 1099511627776
  by1 : 0 ≤ m.b1 ∧ m.b1 ≤ 1099511627776
  by2 : 0 ≤ m.b2 ∧ m.b2 ≤ 1099511627776
  by3 : 0 ≤ m.b3 ∧ m.b3 ≤ 1099511627776
  head : 0 ≤ m.head ∧ m.head ≤ 63
  last : 0 ≤ m.last ∧ m.last < 1073741824
  lastP : 0 ≤ m.lastP ∧ m.lastP < 1073741824
  told : 0 ≤ m.told ∧ m.told ≤ 63
  full : m.reg = true ∨ m.per = true → fstG m.b0 m.b1 m.b2 m.b3 ≠ 4
def newR (a b c d : Int) : RpV := ⟨false, false, false, true, a, b, c, d, 0, 0, 0, 0, 0, 0, 0, 0, 0⟩
theorem newR_ok {a b c d : Int} (h : okC a b c d) : (newR a b c d).ok := by
  constructor <;> simp [newR, h]
def dueV (t s now : Int) : Bool := decide (0 < t ∧ t ≤ now - s)
def chgV (c head told : Int) : Bool := decide (0 < c ∧ c ≤ max (head - told) (told - head))
def okU (m : RpV) (t a b c d h : Int) : Prop := (m.now ≤ t ∧ t < 1073741824) ∧ okW 1099511627776 [a, b, c, d] ∧ okW 63 [h]
instance (m : RpV) (t a b c d h : Int) : Decidable (okU m t a b c d h) := by unfold okU; infer_instance
theorem okU_iff (m : RpV) (t a b c d h : Int) : okU m t a b c d h ↔ (m.now ≤ t ∧ t < 1073741824) ∧ ((0 ≤ a ∧ a ≤ 1099511627776) ∧ (0 ≤ b ∧ b ≤ 1099511627776) ∧ (0 ≤ c ∧ c ≤ 1099511627776) ∧ (0 ≤ d ∧ d ≤ 1099511627776)) ∧ 0 ≤ h ∧ h ≤ 63 := by
  unfold okU okW
  simp
def updG (m : RpV) (t a b c d h : Int) : RpV := { m with
  now := t, b0 := a, b1 := b, b2 := c, b3 := d, head := h
  reg := if fstG a b c d = 4 then false else m.reg || decide (fstG a b c d < fstG m.b0 m.b1 m.b2 m.b3) || dueV m.c1 m.last t
  per := if fstG a b c d = 4 then false else m.per || dueV m.c0 m.last t
  pow := m.pow || m.fst || dueV m.c2 m.lastP t || chgV m.c3 h m.told }
def updV (m : RpV) (t a b c d h : Int) : RpV × Int := if okU m t a b c d h then (updG m t a b c d h, 0) else (m, 2)
theorem RpV.ok.updG {m : RpV} (hm : m.ok) {t a b c d h : Int} (hu : okU m t a b c d h) : (updG m t a b c d h).ok := by
  obtain ⟨h1, h2, h3, h4, h5, h6, h7, h8, h9, h10, h11⟩ := hm
  obtain ⟨⟨u1, u2⟩, ⟨u3, u4, u5, u6⟩, u7⟩ := (okU_iff m t a b c d h).1 hu
  refine ⟨h1, ?_, u3, u4, u5, u6, u7, h8, h9, h10, ?_⟩
  · simp only [Go.Proofs.Ytjejdlolgmhljaa.updG]; omega
  · simp only [Go.Proofs.Ytjejdlolgmhljaa.updG]
    intro h hf
    simp [hf] at h
theorem RpV.ok.updV {m : RpV} (hm : m.ok) (t a b c d h : Int) : (updV m t a b c d h).1.ok := by
  unfold Go.Proofs.Ytjejdlolgmhljaa.updV
  split
  · exact hm.updG (by assumption)
  · exact hm

/-- a part of a block of ours, asz one value -/
theorem Cel.part {w0 : World} {M : List Nat} {L : List SX.Ent} {g : Nat} {cs : List Value} (h : Cel w0 g cs) (hM : g ∉ M) {i : Nat} (sub : List Value) (hsub : (cs.drop i).take sub.length = sub) : ∀ w, SX.Keep w0 M L w → ∀ (j : Nat) (u : Value), sub[j]? = some u → w.cell? ⟨g, i + j, none⟩ = some u := fun w hK j u hu => by
  refine Z.cellO h.1 hM (h.2 (i + j) u ?_) w hK
  rw [← hsub, List.getElem?_take] at hu
  split at hu
  · rwa [List.getElem?_drop] at hu
  · cases hu
theorem rp_none (g : Nat) (m : RpV) (w : World) (hc : Cel w g m.cells) : Calls Try.prog 24 #[.pointer (some ⟨g, 0, none⟩)] w (SX.Ret fun v w' => v = .bool false ∧ SX.St w [] w' []) := by
  have hs := SX.St.start w
  refine Z.enter Try.func24 rfl Try.ntmps24 rfl rfl ?_
  refine Z.seq ?_
  refine Z.region ?_
  refine Z.lb 1 rfl ?_
  refine Z.lnil ?_
  refine Z.only [0] rfl ?_
  refine Z.nthen ?_
  refine Z.seq ?_
  refine Z.region ?_
  refine Z.lb 1 rfl ?_
  refine Z.l rfl rfl (by rfl) (Z.keepS hs) (Z.Yd.ptrNil rfl rfl Try.underlying23) ?_
  refine Z.lb 2 rfl ?_
  refine Z.l rfl rfl (by rfl) (Z.keepS hs) (Z.Yd.nilc rfl rfl) ?_
  refine Z.l rfl rfl (by rfl) (Z.keepS hs) (Z.Yd.fieldA (m := 4) rfl (by kernel_rfl)) ?_
  refine Z.l rfl rfl (by rfl) (Z.keepS hs) (Z.Yd.load rfl Try.isAgg4 (fun _ => Z.cellO hc.1 (by simp) (hc.2 4 _ rfl))) ?_
  refine Z.lb 3 rfl ?_
  refine Z.lnil ?_
  refine Z.only [2] rfl ?_
  refine Z.nthen ?_
  refine Z.ret ?_
  -- ret#0
  refine Z.out1 (by exact ⟨rfl, trivial⟩) ?_
  exact ⟨_, rfl, rfl, hs⟩
theorem rp_valid (g : Nat) (m : RpV) (t : Int) (w : World) (hc : Cel w g m.cells) : Calls Try.prog 25 #[.pointer (some ⟨g, 0, none⟩), .int .i64 t] w (SX.Ret fun v w' => v = .bool (decide (m.now ≤ t ∧ t < 1073741824)) ∧ SX.St w [] w' []) := by
  have hs := SX.St.start w
  refine Z.enter Try.func25 rfl Try.ntmps25 rfl rfl ?_
  refine Z.seq ?_
  refine Z.region ?_
  refine Z.lb 1 rfl ?_
  refine Z.lnil ?_
  refine Z.only [0, 1] rfl ?_
  refine Z.nthen ?_
  refine Z.seq ?_
  refine Z.region ?_
  refine Z.lb 2 rfl ?_
  refine Z.l rfl rfl (by rfl) (Z.keepS hs) (Z.Yd.nilc rfl rfl) ?_
  refine Z.l rfl rfl (by rfl) (Z.keepS hs) (Z.Yd.fieldA (m := 9) rfl (by kernel_rfl)) ?_
  refine Z.l rfl rfl (by rfl) (Z.keepS hs) (Z.Yd.load rfl Try.isAgg3 (fun _ => Z.cellO hc.1 (by simp) (hc.2 9 _ rfl))) ?_
  refine Z.lb 6 rfl ?_
  refine Z.lnil ?_
  refine Z.only [4] rfl ?_
  refine Z.nthen ?_
  refine Z.ret ?_
  -- ret#0
  refine Z.out1 (by exact ⟨rfl, trivial⟩) ?_
  exact ⟨_, rfl, by congr 1; simp, hs⟩
theorem rp_due (g : Nat) (m : RpV) (t s : Int) (w : World) (hc : Cel w g m.cells) (hn : 0 ≤ m.now ∧ m.now < 1073741824) (hb : 0 ≤ s ∧ s < 1073741824) : Calls Try.prog 27 #[.pointer (some ⟨g, 0, none⟩), .int .i64 t, .int .i64 s] w (SX.Ret fun v w' => v = .bool (dueV t s m.now) ∧ SX.St w [] w' []) := by
  have hs := SX.St.start w
  refine Z.enter Try.func27 rfl Try.ntmps27 rfl rfl ?_
  refine Z.seq ?_
  refine Z.region ?_
  refine Z.lb 1 rfl ?_
  refine Z.lnil ?_
  refine Z.only [0, 1, 2] rfl ?_
  refine Z.nthen ?_
  refine Z.seq ?_
  refine Z.region ?_
  refine Z.lb 4 rfl ?_
  refine Z.l rfl rfl (by rfl) (Z.keepS hs) (Z.Yd.nilc rfl rfl) ?_
  refine Z.l rfl rfl (by rfl) (Z.keepS hs) (Z.Yd.fieldA (m := 9) rfl (by kernel_rfl)) ?_
  refine Z.l rfl rfl (by rfl) (Z.keepS hs) (Z.Yd.load rfl Try.isAgg3 (fun _ => Z.cellO hc.1 (by simp) (hc.2 9 _ rfl))) ?_
  refine Z.lb 1 rfl ?_
  refine Z.l rfl rfl (by rfl) (Z.keepS hs) (Z.Yd.sub rfl rfl (fun hG => Z.wi64 (by first | omega | (have hG' := Z.gh rfl hG; simp at hG'; omega)))) ?_
  refine Z.lb 4 rfl ?_
  refine Z.lnil ?_
  refine Z.only [6] rfl ?_
  refine Z.nthen ?_
  refine Z.ret ?_
  -- ret#0
  refine Z.out1 (by exact ⟨rfl, trivial⟩) ?_
  exact ⟨_, rfl, by unfold dueV; congr 1; simp, hs⟩
theorem rp_changed (g : Nat) (m : RpV) (w : World) (hc : Cel w g m.cells) (hh : 0 ≤ m.head ∧ m.head ≤ 63) (hb : 0 ≤ m.told ∧ m.told ≤ 63) : Calls Try.prog 28 #[.pointer (some ⟨g, 0, none⟩)] w (SX.Ret fun v w' => v = .bool (chgV m.c3 m.head m.told) ∧ SX.St w [] w' []) := by
  have hs := SX.St.start w
  refine Z.enter Try.func28 rfl Try.ntmps28 rfl rfl ?_
  refine Z.seq ?_
  refine Z.region ?_
  refine Z.lb 1 rfl ?_
  refine Z.lnil ?_
  refine Z.only [0] rfl ?_
  refine Z.nthen ?_
  refine Z.seq ?_
  refine Z.drawK (fun _ => true) mixed hs ?_
  clear hs; intro wd1 hs
  refine Z.tb [0] (by kernel_rfl) rfl ⟨_, hs, by first | (simp; done) | exact fun e he => List.mem_append_right _ he⟩ rfl ?_
  refine Z.t 1 rfl rfl rfl (by rfl) (by kernel_rfl) ⟨_, hs, by first | (simp; done) | exact fun e he => List.mem_append_right _ he⟩ (Z.Yd.nilc rfl rfl) ?_
  refine Z.t 2 rfl rfl rfl (by rfl) (by kernel_rfl) ⟨_, hs, by first | (simp; done) | exact fun e he => List.mem_append_right _ he⟩ (Z.Yd.fieldA (m := 5) rfl (by kernel_rfl)) ?_
  refine Z.t 3 rfl rfl rfl (by rfl) (by kernel_rfl) ⟨_, hs, by first | (simp; done) | exact fun e he => List.mem_append_right _ he⟩ (Z.Yd.fieldA (m := 3) rfl (by kernel_rfl)) ?_
  refine Z.t 4 rfl rfl rfl (by rfl) (by kernel_rfl) ⟨_, hs, by first | (simp; done) | exact fun e he => List.mem_append_right _ he⟩ (Z.Yd.load rfl Try.isAgg3 (fun _ => Z.cellO hc.1 (by simp) (hc.2 8 _ rfl))) ?_
  refine Z.tb [5, 6, 7] (by kernel_rfl) rfl ⟨_, hs, by first | (simp; done) | exact fun e he => List.mem_append_right _ he⟩ rfl ?_
  refine Z.t 8 rfl rfl rfl (by rfl) (by kernel_rfl) ⟨_, hs, by first | (simp; done) | exact fun e he => List.mem_append_right _ he⟩ (Z.Yd.nilc rfl rfl) ?_
  refine Z.t 9 rfl rfl rfl (by rfl) (by kernel_rfl) ⟨_, hs, by first | (simp; done) | exact fun e he => List.mem_append_right _ he⟩ (Z.Yd.fieldA (m := 14) rfl (by kernel_rfl)) ?_
  refine Z.t 10 rfl rfl rfl (by rfl) (by kernel_rfl) ⟨_, hs, by first | (simp; done) | exact fun e he => List.mem_append_right _ he⟩ (Z.Yd.load rfl Try.isAgg3 (fun _ => Z.cellO hc.1 (by simp) (hc.2 14 _ rfl))) ?_
  refine Z.tb [11] (by kernel_rfl) rfl ⟨_, hs, by first | (simp; done) | exact fun e he => List.mem_append_right _ he⟩ rfl ?_
  refine Z.t 12 rfl rfl rfl (by rfl) (by kernel_rfl) ⟨_, hs, by first | (simp; done) | exact fun e he => List.mem_append_right _ he⟩ (Z.Yd.nilc rfl rfl) ?_
  refine Z.t 13 rfl rfl rfl (by rfl) (by kernel_rfl) ⟨_, hs, by first | (simp; done) | exact fun e he => List.mem_append_right _ he⟩ (Z.Yd.fieldA (m := 17) rfl (by kernel_rfl)) ?_
  refine Z.t 14 rfl rfl rfl (by rfl) (by kernel_rfl) ⟨_, hs, by first | (simp; done) | exact fun e he => List.mem_append_right _ he⟩ (Z.Yd.load rfl Try.isAgg3 (fun _ => Z.cellO hc.1 (by simp) (hc.2 17 _ rfl))) ?_
  refine Z.t 15 rfl rfl rfl (by rfl) (by kernel_rfl) ⟨_, hs, by first | (simp; done) | exact fun e he => List.mem_append_right _ he⟩ (Z.Yd.sub rfl rfl (fun hG => Z.wi64 (by first | omega | (have hG' := Z.gh rfl hG; simp at hG'; omega)))) ?_
  refine Z.tb [16] (by kernel_rfl) rfl ⟨_, hs, by first | (simp; done) | exact fun e he => List.mem_append_right _ he⟩ rfl ?_
  refine Z.t 17 rfl rfl rfl (by rfl) (by kernel_rfl) ⟨_, hs, by first | (simp; done) | exact fun e he => List.mem_append_right _ he⟩ (Z.Yd.nilc rfl rfl) ?_
  refine Z.t 18 rfl rfl rfl (by rfl) (by kernel_rfl) ⟨_, hs, by first | (simp; done) | exact fun e he => List.mem_append_right _ he⟩ (Z.Yd.fieldA (m := 17) rfl (by kernel_rfl)) ?_
  refine Z.t 19 rfl rfl rfl (by rfl) (by kernel_rfl) ⟨_, hs, by first | (simp; done) | exact fun e he => List.mem_append_right _ he⟩ (Z.Yd.load rfl Try.isAgg3 (fun _ => Z.cellO hc.1 (by simp) (hc.2 17 _ rfl))) ?_
  refine Z.tb [20] (by kernel_rfl) rfl ⟨_, hs, by first | (simp; done) | exact fun e he => List.mem_append_right _ he⟩ rfl ?_
  refine Z.t 21 rfl rfl rfl (by rfl) (by kernel_rfl) ⟨_, hs, by first | (simp; done) | exact fun e he => List.mem_append_right _ he⟩ (Z.Yd.nilc rfl rfl) ?_
  refine Z.t 22 rfl rfl rfl (by rfl) (by kernel_rfl) ⟨_, hs, by first | (simp; done) | exact fun e he => List.mem_append_right _ he⟩ (Z.Yd.fieldA (m := 14) rfl (by kernel_rfl)) ?_
  refine Z.t 23 rfl rfl rfl (by rfl) (by kernel_rfl) ⟨_, hs, by first | (simp; done) | exact fun e he => List.mem_append_right _ he⟩ (Z.Yd.load rfl Try.isAgg3 (fun _ => Z.cellO hc.1 (by simp) (hc.2 14 _ rfl))) ?_
  refine Z.t 24 rfl rfl rfl (by rfl) (by kernel_rfl) ⟨_, hs, by first | (simp; done) | exact fun e he => List.mem_append_right _ he⟩ (Z.Yd.sub rfl rfl (fun hG => Z.wi64 (by first | omega | (have hG' := Z.gh rfl hG; simp at hG'; omega)))) ?_
  refine Z.t 25 rfl rfl rfl (by rfl) (by kernel_rfl) ⟨_, hs, by first | (simp; done) | exact fun e he => List.mem_append_right _ he⟩ (Z.Yd.max rfl rfl) ?_
  refine Z.tb [26] (by kernel_rfl) rfl ⟨_, hs, by first | (simp; done) | exact fun e he => List.mem_append_right _ he⟩ rfl ?_
  refine Z.t 27 rfl rfl rfl (by rfl) (by kernel_rfl) ⟨_, hs, by first | (simp; done) | exact fun e he => List.mem_append_right _ he⟩ (Z.Yd.nilc rfl rfl) ?_
  refine Z.t 28 rfl rfl rfl (by rfl) (by kernel_rfl) ⟨_, hs, by first | (simp; done) | exact fun e he => List.mem_append_right _ he⟩ (Z.Yd.fieldA (m := 5) rfl (by kernel_rfl)) ?_
  refine Z.t 29 rfl rfl rfl (by rfl) (by kernel_rfl) ⟨_, hs, by first | (simp; done) | exact fun e he => List.mem_append_right _ he⟩ (Z.Yd.fieldA (m := 3) rfl (by kernel_rfl)) ?_
  refine Z.t 30 rfl rfl rfl (by rfl) (by kernel_rfl) ⟨_, hs, by first | (simp; done) | exact fun e he => List.mem_append_right _ he⟩ (Z.Yd.load rfl Try.isAgg3 (fun _ => Z.cellO hc.1 (by simp) (hc.2 8 _ rfl))) ?_
  refine Z.tb [31, 32, 33] (by kernel_rfl) rfl ⟨_, hs, by first | (simp; done) | exact fun e he => List.mem_append_right _ he⟩ rfl ?_
  refine Z.td (by rfl) (by kernel_rfl) ?_
  refine Z.only [2] rfl ?_
  refine Z.nthen ?_
  refine Z.ret ?_
  -- ret#0
  refine Z.out1 (by exact ⟨rfl, trivial⟩) ?_
  exact ⟨_, rfl, by unfold chgV; congr 1; simp, hs⟩
theorem rp_buffer (a b c d : Bool) (w : World) : Calls Try.prog 32 #[.agg #[.bool a, .bool b, .bool c, .bool d]] w (SX.Ret fun v w' => v = .bool (a || b) ∧ SX.St w [] w' []) := by
  have hs := SX.St.start w
  refine Z.enter Try.func32 rfl Try.ntmps32 rfl rfl ?_
  refine Z.seq ?_
  refine Z.region ?_
  refine Z.le rfl trivial ?_
  refine Z.ZO.box rfl rfl (by rfl) rfl rfl hs ?_
  clear hs; intro g1 w1 hs
  refine Z.lb 1 rfl ?_
  refine Z.lnil ?_
  refine Z.only [1] rfl ?_
  refine Z.nthen ?_
  refine Z.seq ?_
  refine Z.region ?_
  refine Z.l rfl rfl (by rfl) (Z.keepS hs) (Z.Yd.fieldA (m := 0) rfl (by kernel_rfl)) ?_
  refine Z.l rfl rfl (by rfl) (Z.keepS hs) (by first | exact Z.Yd.load rfl Try.isAgg4 (fun _ => Z.cellB (by first | ((repeat (first | exact List.mem_cons_self | refine List.mem_cons_of_mem _ ?_ | refine List.mem_append_right _ ?_)); done) | fail) rfl) | exact Z.Yd.load rfl Try.isAgg4 (fun _ => Z.cellO (by assumption) (by simp) (by assumption)) | fail "load 1.1") ?_
  refine Z.lb 1 rfl ?_
  refine Z.l rfl rfl (by rfl) (Z.keepS hs) (Z.Yd.fieldA (m := 1) rfl (by kernel_rfl)) ?_
  refine Z.l rfl rfl (by rfl) (Z.keepS hs) (by first | exact Z.Yd.load rfl Try.isAgg4 (fun _ => Z.cellB (by first | ((repeat (first | exact List.mem_cons_self | refine List.mem_cons_of_mem _ ?_ | refine List.mem_append_right _ ?_)); done) | fail) rfl) | exact Z.Yd.load rfl Try.isAgg4 (fun _ => Z.cellO (by assumption) (by simp) (by assumption)) | fail "load 1.4") ?_
  refine Z.lb 2 rfl ?_
  refine Z.lnil ?_
  refine Z.only [2] rfl ?_
  refine Z.nthen ?_
  refine Z.ret ?_
  -- ret#0
  refine Z.out1 (by exact ⟨rfl, trivial⟩) ?_
  exact ⟨_, rfl, by cases a <;> rfl, hs.sub (List.nil_sublist _)⟩
theorem rp_pending (g : Nat) (m : RpV) (w : World) (hc : Cel w g m.cells) : Calls Try.prog 14 #[.pointer (some ⟨g, 0, none⟩)] w (SX.Ret fun v w' => v = .tuple #[.bool (m.reg || m.per), .bool m.pow] ∧ SX.St w [] w' []) := by
  have hs := SX.St.start w
  refine Z.enter Try.func14 rfl Try.ntmps14 rfl rfl ?_
  refine Z.seq ?_
  refine Z.region ?_
  refine Z.lb 2 rfl ?_
  refine Z.lnil ?_
  refine Z.only [0] rfl ?_
  refine Z.nthen ?_
  refine Z.seq ?_
  refine Z.seq ?_
  refine Z.region ?_
  refine Z.lb 1 rfl ?_
  refine Z.le rfl trivial ?_
  refine Z.ZO.call rfl rfl (by rfl) rfl rfl Try.call24 rfl (rp_none g m _ (hc.st hs)) ?_
  rintro v1_1 w1_1 ⟨rfl, hy⟩
  replace hs := hs.call hy
  clear hy
  try simp only [List.cons_append, List.nil_append, List.append_nil] at hs
  refine Z.lnil ?_
  refine Z.only [0, 5] rfl ?_
  refine Z.nthen ?_
  refine Z.cond rfl (fun h => absurd h (by simp)) (fun hc1 => ?_)
  refine Z.skip ?_
  refine Z.nthen ?_
  refine Z.seq ?_
  refine Z.drawK (fun _ => true) mixed hs ?_
  clear hs; intro wd3 hs
  refine Z.tb [0] (by kernel_rfl) rfl ⟨_, hs, by first | (simp; done) | exact fun e he => List.mem_append_right _ he⟩ rfl ?_
  refine Z.t 1 rfl rfl rfl (by rfl) (by kernel_rfl) ⟨_, hs, by first | (simp; done) | exact fun e he => List.mem_append_right _ he⟩ (Z.Yd.nilc rfl rfl) ?_
  refine Z.t 2 rfl rfl rfl (by rfl) (by kernel_rfl) ⟨_, hs, by first | (simp; done) | exact fun e he => List.mem_append_right _ he⟩ (Z.Yd.fieldA (m := 0) rfl (by kernel_rfl)) ?_
  refine Z.t 3 rfl rfl rfl (by rfl) (by kernel_rfl) ⟨_, hs, by first | (simp; done) | exact fun e he => List.mem_append_right _ he⟩ (Z.Yd.loadA _ rfl Try.isAgg64 (fun _ => hc.part (by simp) [.bool m.reg, .bool m.per, .bool m.pow, .bool m.fst] rfl) (by exact Try.sizeOf64)) ?_
  refine Z.tb [5] (by kernel_rfl) rfl ⟨_, hs, by first | (simp; done) | exact fun e he => List.mem_append_right _ he⟩ rfl ?_
  refine Z.t 6 rfl rfl rfl (by rfl) (by kernel_rfl) ⟨_, hs, by first | (simp; done) | exact fun e he => List.mem_append_right _ he⟩ (Z.Yd.nilc rfl rfl) ?_
  refine Z.t 7 rfl rfl rfl (by rfl) (by kernel_rfl) ⟨_, hs, by first | (simp; done) | exact fun e he => List.mem_append_right _ he⟩ (Z.Yd.fieldA (m := 0) rfl (by kernel_rfl)) ?_
  refine Z.t 8 rfl rfl rfl (by rfl) (by kernel_rfl) ⟨_, hs, by first | (simp; done) | exact fun e he => List.mem_append_right _ he⟩ (Z.Yd.fieldA (m := 2) rfl (by kernel_rfl)) ?_
  refine Z.t 9 rfl rfl rfl (by rfl) (by kernel_rfl) ⟨_, hs, by first | (simp; done) | exact fun e he => List.mem_append_right _ he⟩ (Z.Yd.load rfl Try.isAgg4 (fun _ => Z.cellO hc.1 (by simp) (hc.2 2 _ rfl))) ?_
  refine Z.tn 4 rfl rfl (by kernel_rfl) rfl trivial ?_
  refine Z.ZO.call rfl rfl (by rfl) rfl rfl Try.call32 rfl (rp_buffer m.reg m.per m.pow m.fst _) ?_
  rintro v3_4 w3_4 ⟨rfl, hy⟩
  replace hs := hs.call hy
  clear hy
  try simp only [List.cons_append, List.nil_append, List.append_nil] at hs
  refine Z.tk (Dn := fun _ => true) (i := 4) (fun _ => ⟨_, hs, by first | (simp; done) | exact fun e he => List.mem_append_right _ he⟩) ?_
  refine Z.tb [10, 11] (by kernel_rfl) rfl ⟨_, hs, by first | (simp; done) | exact fun e he => List.mem_append_right _ he⟩ rfl ?_
  refine Z.td (by rfl) (by kernel_rfl) ?_
  refine Z.only [2, 3] rfl ?_
  refine Z.nthen ?_
  refine Z.ret ?_
  -- ret#0
  refine Z.out2 (by exact ⟨rfl, rfl, trivial⟩) ?_
  first | exact ⟨_, rfl, rfl, hs⟩ | exact ⟨_, rfl, rfl, hs.sub (List.nil_sublist _)⟩
theorem rp_request (g : Nat) (m : RpV) (w : World) (hc : Cel w g m.cells) : Calls Try.prog 15 #[.pointer (some ⟨g, 0, none⟩)] w (SX.Ret fun v w' => v = .bool m.reg ∧ SX.St w [] w' []) := by
  have hs := SX.St.start w
  refine Z.enter Try.func15 rfl Try.ntmps15 rfl rfl ?_
  refine Z.seq ?_
  refine Z.region ?_
  refine Z.lb 1 rfl ?_
  refine Z.lnil ?_
  refine Z.only [0] rfl ?_
  refine Z.nthen ?_
  refine Z.seq ?_
  refine Z.region ?_
  refine Z.lb 1 rfl ?_
  refine Z.le rfl trivial ?_
  refine Z.ZO.call rfl rfl (by rfl) rfl rfl Try.call24 rfl (rp_none g m _ (hc.st hs)) ?_
  rintro v1_1 w1_1 ⟨rfl, hy⟩
  replace hs := hs.call hy
  clear hy
  try simp only [List.cons_append, List.nil_append, List.append_nil] at hs
  refine Z.lb 3 rfl ?_
  refine Z.l rfl rfl (by rfl) (Z.keepS hs) (Z.Yd.nilc rfl rfl) ?_
  refine Z.l rfl rfl (by rfl) (Z.keepS hs) (Z.Yd.fieldA (m := 0) rfl (by kernel_rfl)) ?_
  refine Z.l rfl rfl (by rfl) (Z.keepS hs) (Z.Yd.fieldA (m := 0) rfl (by kernel_rfl)) ?_
  refine Z.l rfl rfl (by rfl) (Z.keepS hs) (Z.Yd.load rfl Try.isAgg4 (fun _ => Z.cellO hc.1 (by simp) (hc.2 0 _ rfl))) ?_
  refine Z.lb 2 rfl ?_
  refine Z.lnil ?_
  refine Z.only [2] rfl ?_
  refine Z.nthen ?_
  refine Z.ret ?_
  -- ret#0
  refine Z.out1 (by exact ⟨rfl, trivial⟩) ?_
  exact ⟨_, rfl, by simp, hs⟩
end Go.Proofs.Ytjejdlolgmhljaa

/- Reports: New, Update, Copy, Same. -/
namespace Go.Proofs.Ytjejdlolgmhljaa
open Go.RowKit
set_option linter.unusedSimpArgs false
set_option linter.unusedVariables false
--newlaws

theorem rp_new (a b c d : Int) (w : World) : Calls Try.prog 8 #[.agg #[.int .i64 a, .int .i64 b, .int .i64 c, .int .i64 d]] w (SX.Ret fun v w' => if okC a b c d then ∃ g, v = .tuple #[.pointer (some ⟨g, 0, none⟩), .int .i64 0] ∧ SX.St w [] w' [SX.Ent.blk g 66 (newR a b c d).cells.toArray] else v = .tuple #[.pointer none, .int .i64 2] ∧ SX.St w [] w' []) := by
  have hs := SX.St.start w
  refine Z.enter Try.func8 rfl Try.ntmps8 rfl rfl ?_
  refine Z.seq ?_
  refine Z.region ?_
  refine Z.le rfl trivial ?_
  refine Z.ZO.box rfl rfl (by rfl) rfl rfl hs ?_
  clear hs; intro g1 w1 hs
  refine Z.lb 2 rfl ?_
  refine Z.lnil ?_
  refine Z.only [1] rfl ?_
  refine Z.nthen ?_
  refine Z.seq ?_
  refine Z.seq ?_
  refine Z.region ?_
  refine Z.l rfl rfl (by rfl) (Z.keepS hs) (Z.Yd.fieldA (m := 0) rfl (by kernel_rfl)) ?_
  refine Z.l rfl rfl (by rfl) (Z.keepS hs) (by first | exact Z.Yd.load rfl Try.isAgg3 (fun _ => Z.cellB (by first | ((repeat (first | exact List.mem_cons_self | refine List.mem_cons_of_mem _ ?_ | refine List.mem_append_right _ ?_)); done) | fail) rfl) | exact Z.Yd.load rfl Try.isAgg3 (fun _ => Z.cellO (by assumption) (by simp) (by assumption)) | fail "load 1.1") ?_
  refine Z.l rfl rfl (by rfl) (Z.keepS hs) (Z.Yd.fieldA (m := 1) rfl (by kernel_rfl)) ?_
  refine Z.l rfl rfl (by rfl) (Z.keepS hs) (by first | exact Z.Yd.load rfl Try.isAgg3 (fun _ => Z.cellB (by first | ((repeat (first | exact List.mem_cons_self | refine List.mem_cons_of_mem _ ?_ | refine List.mem_append_right _ ?_)); done) | fail) rfl) | exact Z.Yd.load rfl Try.isAgg3 (fun _ => Z.cellO (by assumption) (by simp) (by assumption)) | fail "load 1.3") ?_
  refine Z.l rfl rfl (by rfl) (Z.keepS hs) (Z.Yd.fieldA (m := 2) rfl (by kernel_rfl)) ?_
  refine Z.l rfl rfl (by rfl) (Z.keepS hs) (by first | exact Z.Yd.load rfl Try.isAgg3 (fun _ => Z.cellB (by first | ((repeat (first | exact List.mem_cons_self | refine List.mem_cons_of_mem _ ?_ | refine List.mem_append_right _ ?_)); done) | fail) rfl) | exact Z.Yd.load rfl Try.isAgg3 (fun _ => Z.cellO (by assumption) (by simp) (by assumption)) | fail "load 1.5") ?_
  refine Z.le rfl trivial ?_
  refine Z.ZO.litL (T' := 3) [(0, 1), (1, 1), (2, 1)] [.int .i64 0, .int .i64 0, .int .i64 0] rfl rfl (by rfl) rfl rfl (by intro W; kernel_rfl) hs ?_
  clear hs; intro g10 w10 hs
  refine Z.le rfl trivial ?_
  refine Z.ZO.call rfl rfl (by rfl) rfl rfl Try.call23 rfl (rp_within _ _ _ [a, b, c] 1048576 _ (hs.blkSl (by first | ((repeat (first | exact List.mem_cons_self | refine List.mem_cons_of_mem _ ?_ | refine List.mem_append_right _ ?_)); done) | fail)) rfl (by decide) (by decide)) ?_
  rintro v1_7 w1_7 ⟨rfl, hy⟩
  replace hs := hs.call hy
  clear hy
  try simp only [List.cons_append, List.nil_append, List.append_nil] at hs
  refine Z.lb 2 rfl ?_
  refine Z.l rfl rfl (by rfl) (Z.keepS hs) (Z.Yd.fieldA (m := 3) rfl (by kernel_rfl)) ?_
  refine Z.split (s := 13) rfl (fun hsp13 => ?_) (fun hsp13 => ?_)
  · first
      | (exfalso; simp at hsp13 <;> omega)
      | (
        refine Z.yes (s := 13) (b := true) rfl hsp13 rfl ?_
        (try simp at hsp13)
        refine Z.ls rfl rfl rfl (by rfl) ?_
        refine Z.ls rfl rfl rfl (by rfl) ?_
        refine Z.ls rfl rfl rfl (by rfl) ?_
        refine Z.ls rfl rfl rfl (by rfl) ?_
        refine Z.l rfl rfl (by rfl) (Z.keepS hs) (Z.Yd.pickT rfl rfl) ?_
        refine Z.lnil ?_
        refine Z.only [1, 19] rfl ?_
        refine Z.nthen ?_
        refine Z.cond rfl (fun hc1 => ?_) (fun hc1 => ?_)
        · first
            | (exfalso; simp at hc1 <;> omega)
            | (
              (try simp at hc1)
              have hq : ¬ okC a b c d := by unfold okC; simp_all
              refine Z.seq ?_
              refine Z.region ?_
              refine Z.lb 2 rfl ?_
              refine Z.lnil ?_
              refine Z.only [2, 3] rfl ?_
              refine Z.nthen ?_
              refine Z.ret ?_
              repeat (first | refine Z.rthen ?_ | refine Z.rblock ?_ | refine Z.rscope ?_)
              -- ret#0
              refine Z.out2 (by exact ⟨rfl, rfl, trivial⟩) ?_
              refine ⟨_, rfl, ?_⟩
              first
              | (simp only [if_neg hq]; exact ⟨by trivial, hs.sub (List.nil_sublist _)⟩)
              | (simp only [if_pos hq]; exact ⟨_, rfl, hs.sel [0] (by decide)⟩)
              )
        · first
            | (exfalso; simp at hc1 <;> omega)
            | (
              (try simp at hc1)
              have hq : okC a b c d := by unfold okC; simp_all
              refine Z.skip ?_
              refine Z.nthen ?_
              refine Z.seq ?_
              refine Z.region ?_
              refine Z.l rfl rfl (by rfl) (Z.keepS hs) (Z.Yd.buildL [(0, 1), (1, 1), (2, 1), (3, 1)] [.bool false, .bool false, .bool false, .bool false] rfl rfl (by intro w; kernel_rfl)) ?_
              refine Z.l rfl rfl (by rfl) (Z.keepS hs) (by first | exact Z.Yd.loadA _ rfl Try.isAgg28 (fun _ => Z.cellsB (by first | ((repeat (first | exact List.mem_cons_self | refine List.mem_cons_of_mem _ ?_ | refine List.mem_append_right _ ?_)); done) | fail)) (by exact Try.sizeOf28) | fail "load 3.1") ?_
              refine Z.l rfl rfl (by rfl) (Z.keepS hs) (Z.Yd.buildL [(0, 4), (4, 1), (5, 4), (9, 1), (10, 4), (14, 1), (15, 1), (16, 1), (17, 1)] [.bool false, .bool false, .bool false, .bool false, .bool false, .int .i64 0, .int .i64 0, .int .i64 0, .int .i64 0, .int .i64 0, .int .i64 0, .int .i64 0, .int .i64 0, .int .i64 0, .int .i64 0, .int .i64 0, .int .i64 0, .int .i64 0] rfl rfl (by intro w; kernel_rfl)) ?_
              refine Z.le rfl trivial ?_
              refine Z.ZO.box rfl rfl (by rfl) rfl rfl hs ?_
              clear hs; intro g23 w23 hs
              refine Z.lb 2 rfl ?_
              refine Z.lnil ?_
              refine Z.only [2, 3] rfl ?_
              refine Z.nthen ?_
              refine Z.ret ?_
              -- ret#1
              refine Z.out2 (by exact ⟨rfl, rfl, trivial⟩) ?_
              refine ⟨_, rfl, ?_⟩
              first
              | (simp only [if_neg hq]; exact ⟨by trivial, hs.sub (List.nil_sublist _)⟩)
              | (simp only [if_pos hq]; exact ⟨_, rfl, hs.sel [0] (by decide)⟩)
              )
        )
  · first
      | (exfalso; simp at hsp13 <;> omega)
      | (
        refine Z.yes (s := 13) (b := false) rfl hsp13 rfl ?_
        (try simp at hsp13)
        refine Z.l rfl rfl (by rfl) (Z.keepS hs) (by first | exact Z.Yd.load rfl Try.isAgg3 (fun _ => Z.cellB (by first | ((repeat (first | exact List.mem_cons_self | refine List.mem_cons_of_mem _ ?_ | refine List.mem_append_right _ ?_)); done) | fail) rfl) | exact Z.Yd.load rfl Try.isAgg3 (fun _ => Z.cellO (by assumption) (by simp) (by assumption)) | fail "load 1.11") ?_
        refine Z.yes (s := 13) (b := false) rfl rfl rfl ?_
        refine Z.le rfl (by exact ⟨rfl, trivial⟩) ?_
        refine Z.ZO.litL (T' := 3) [(0, 1)] [.int .i64 0] rfl rfl (by rfl) rfl rfl (by intro W; kernel_rfl) hs ?_
        clear hs; intro g16 w16 hs
        refine Z.le rfl (by exact ⟨rfl, trivial⟩) ?_
        refine Z.ZO.call rfl rfl (by rfl) rfl rfl Try.call23 rfl (rp_within _ _ _ [d] 63 _ (hs.blkSl (by first | ((repeat (first | exact List.mem_cons_self | refine List.mem_cons_of_mem _ ?_ | refine List.mem_append_right _ ?_)); done) | fail)) rfl (by decide) (by decide)) ?_
        rintro v1_13 w1_13 ⟨rfl, hy⟩
        replace hs := hs.call hy
        clear hy
        try simp only [List.cons_append, List.nil_append, List.append_nil] at hs
        refine Z.lb 1 rfl ?_
        refine Z.yes (s := 13) (b := false) rfl rfl rfl ?_
        refine Z.l rfl rfl (by rfl) (Z.keepS hs) (Z.Yd.pickF rfl rfl) ?_
        refine Z.lnil ?_
        refine Z.only [1, 19] rfl ?_
        refine Z.nthen ?_
        refine Z.cond rfl (fun hc1 => ?_) (fun hc1 => ?_)
        · first
            | (exfalso; simp at hc1 <;> omega)
            | (
              (try simp at hc1)
              have hq : ¬ okC a b c d := by unfold okC; simp_all
              refine Z.seq ?_
              refine Z.region ?_
              refine Z.lb 2 rfl ?_
              refine Z.lnil ?_
              refine Z.only [2, 3] rfl ?_
              refine Z.nthen ?_
              refine Z.ret ?_
              repeat (first | refine Z.rthen ?_ | refine Z.rblock ?_ | refine Z.rscope ?_)
              -- ret#2
              refine Z.out2 (by exact ⟨rfl, rfl, trivial⟩) ?_
              refine ⟨_, rfl, ?_⟩
              first
              | (simp only [if_neg hq]; exact ⟨by trivial, hs.sub (List.nil_sublist _)⟩)
              | (simp only [if_pos hq]; exact ⟨_, rfl, hs.sel [0] (by decide)⟩)
              )
        · first
            | (exfalso; simp at hc1 <;> omega)
            | (
              (try simp at hc1)
              have hq : okC a b c d := by unfold okC; simp_all
              refine Z.skip ?_
              refine Z.nthen ?_
              refine Z.seq ?_
              refine Z.region ?_
              refine Z.l rfl rfl (by rfl) (Z.keepS hs) (Z.Yd.buildL [(0, 1), (1, 1), (2, 1), (3, 1)] [.bool false, .bool false, .bool false, .bool false] rfl rfl (by intro w; kernel_rfl)) ?_
              refine Z.l rfl rfl (by rfl) (Z.keepS hs) (by first | exact Z.Yd.loadA _ rfl Try.isAgg28 (fun _ => Z.cellsB (by first | ((repeat (first | exact List.mem_cons_self | refine List.mem_cons_of_mem _ ?_ | refine List.mem_append_right _ ?_)); done) | fail)) (by exact Try.sizeOf28) | fail "load 3.1") ?_
              refine Z.l rfl rfl (by rfl) (Z.keepS hs) (Z.Yd.buildL [(0, 4), (4, 1), (5, 4), (9, 1), (10, 4), (14, 1), (15, 1), (16, 1), (17, 1)] [.bool false, .bool false, .bool false, .bool false, .bool false, .int .i64 0, .int .i64 0, .int .i64 0, .int .i64 0, .int .i64 0, .int .i64 0, .int .i64 0, .int .i64 0, .int .i64 0, .int .i64 0, .int .i64 0, .int .i64 0, .int .i64 0] rfl rfl (by intro w; kernel_rfl)) ?_
              refine Z.le rfl trivial ?_
              refine Z.ZO.box rfl rfl (by rfl) rfl rfl hs ?_
              clear hs; intro g23 w23 hs
              refine Z.lb 2 rfl ?_
              refine Z.lnil ?_
              refine Z.only [2, 3] rfl ?_
              refine Z.nthen ?_
              refine Z.ret ?_
              -- ret#3
              refine Z.out2 (by exact ⟨rfl, rfl, trivial⟩) ?_
              refine ⟨_, rfl, ?_⟩
              first
              | (simp only [if_neg hq]; exact ⟨by trivial, hs.sub (List.nil_sublist _)⟩)
              | (simp only [if_pos hq]; exact ⟨_, rfl, hs.sel [0] (by decide)⟩)
              )
        )
end Go.Proofs.Ytjejdlolgmhljaa
