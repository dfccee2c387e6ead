/- Control elements: panics and recover. -/
import Derived.Test.YteabcdmgklhijaaZe
import Derived.Test.YteabcdmgklhijaaFj
namespace Go.Proofs.Yteabcdmgklhijaa
open Go.RowKit
set_option linter.unusedSimpArgs false
set_option linter.unusedVariables false
--newlaws

/-- the panic with error e -/
def perr (e : Int) : List PanicEntry := Z.pe (.iface 32 (.int .i64 e))
/-- a call that panics with error e -/
def PanE (e : Int) (Φ : World → Prop) : Ending → World → Prop := Z.Pan fun c w' => c = perr e ∧ Φ w'

theorem must_ok (b : Bool) (e : Int) (w : World) (hb : b = true) : Calls Try.prog 35 #[.bool b, .int .i64 e] w (SX.Ret fun v w' => v = .tuple #[] ∧ SX.St w [] w' []) := by
  have hs := SX.St.start w
  subst hb
  refine Z.enter Try.func35 rfl Try.ntmps35 rfl rfl ?_
  refine Z.seq ?_
  refine Z.region ?_
  refine Z.lb 2 rfl ?_
  refine Z.lnil ?_
  refine Z.only [1, 5] rfl ?_
  refine Z.nthen ?_
  refine Z.cond rfl (fun h => absurd h (by simp)) (fun hc0 => ?_)
  refine Z.skip ?_
  -- ret#0
  refine Z.out0n trivial ?_
  first | exact ⟨_, rfl, rfl, hs⟩ | exact ⟨_, rfl, rfl, hs.sub (List.nil_sublist _)⟩
theorem must_bad (b : Bool) (e : Int) (w : World) (hb : b = false) : Calls Try.prog 35 #[.bool b, .int .i64 e] w (PanE e fun w' => SX.St w [] w' []) := by
  have hs := SX.St.start w
  subst hb
  refine Z.enter Try.func35 rfl Try.ntmps35 rfl rfl ?_
  refine Z.seq ?_
  refine Z.region ?_
  refine Z.lb 2 rfl ?_
  refine Z.lnil ?_
  refine Z.only [1, 5] rfl ?_
  refine Z.nthen ?_
  refine Z.cond rfl (fun hc0 => ?_) (fun h => absurd h (by simp))
  refine Z.region ?_
  refine Z.lb 1 rfl ?_
  refine Z.l rfl rfl (by rfl) (Z.keepS hs) (Z.Yd.iface rfl (by intro w; go_simp; try rfl)) ?_
  refine Z.le rfl trivial ?_
  refine Z.ZO.panic rfl rfl ?_
  -- ret#0
  refine Z.outp ?_
  exact ⟨_, rfl, rfl, hs⟩
theorem must_any (b : Bool) (e : Int) (w : World) : Calls Try.prog 35 #[.bool b, .int .i64 e] w (Z.Bo (fun v w' => b = true ∧ v = .tuple #[] ∧ SX.St w [] w' []) fun c w' => b = false ∧ c = perr e ∧ SX.St w [] w' []) := by
  cases b with
  | true => exact Z.Bo.ret ((must_ok true e w rfl).mono fun e w' ⟨v, h1, h2⟩ => ⟨v, h1, rfl, h2⟩)
  | false => exact Z.Bo.pan ((must_bad false e w rfl).mono fun e w' ⟨v, h1, h2⟩ => ⟨v, h1, rfl, h2⟩)
theorem got64_ok (x : Int) (w : World) : Calls Try.prog 50 #[.int .u64 x, .int .i64 0] w (SX.Ret fun v w' => v = .int .u64 x ∧ SX.St w [] w' []) := by
  have hs := SX.St.start w
  refine Z.enter Try.func50 rfl Try.ntmps50 rfl rfl ?_
  refine Z.seq ?_
  refine Z.region ?_
  refine Z.lb 1 rfl ?_
  refine Z.lnil ?_
  refine Z.only [0, 1] rfl ?_
  refine Z.nthen ?_
  refine Z.seq ?_
  refine Z.region ?_
  refine Z.lb 3 rfl ?_
  refine Z.le rfl trivial ?_
  refine Z.ZO.call rfl rfl (by rfl) rfl rfl Try.call35 rfl (must_ok _ 0 _ (by simp)) ?_
  rintro v1_3 w1_3 ⟨rfl, hy⟩
  replace hs := hs.call hy
  clear hy
  try simp only [List.cons_append, List.nil_append, List.append_nil] at hs
  refine Z.lnil ?_
  refine Z.only [0] rfl ?_
  refine Z.nthen ?_
  refine Z.seq ?_
  refine Z.region ?_
  refine Z.lb 2 rfl ?_
  refine Z.lnil ?_
  refine Z.only [4] rfl ?_
  refine Z.nthen ?_
  refine Z.ret ?_
  -- ret#0
  refine Z.out1 (by exact ⟨rfl, trivial⟩) ?_
  first | exact ⟨_, rfl, rfl, hs⟩ | exact ⟨_, rfl, rfl, hs.sub (List.nil_sublist _)⟩
theorem got64_bad (x e : Int) (w : World) (he : e ≠ 0) : Calls Try.prog 50 #[.int .u64 x, .int .i64 e] w (PanE e fun w' => SX.St w [] w' []) := by
  have hs := SX.St.start w
  refine Z.enter Try.func50 rfl Try.ntmps50 rfl rfl ?_
  refine Z.seq ?_
  refine Z.region ?_
  refine Z.lb 1 rfl ?_
  refine Z.lnil ?_
  refine Z.only [0, 1] rfl ?_
  refine Z.nthen ?_
  refine Z.seq ?_
  refine Z.region ?_
  refine Z.lb 3 rfl ?_
  refine Z.le rfl trivial ?_
  refine Z.ZO.callP rfl rfl rfl Try.call35 rfl (must_bad _ e _ (by simpa using he)) ?_
  rintro c1_3 w1_3 ⟨rfl, hy⟩
  replace hs := hs.call hy
  clear hy
  try simp only [List.cons_append, List.nil_append, List.append_nil] at hs
  repeat (first | refine Z.pthen ?_ | refine Z.pblock ?_ | refine Z.pscope ?_)
  -- ret#0
  refine Z.outp ?_
  exact ⟨_, rfl, rfl, hs⟩
/-- an error is caught: the cell of the error, and what clear does -/
theorem caught_pan (ge Te k : Nat) (cap : Array Value) (x : Value) (e : Int) (L L' : List SX.Ent) (w : World) (hs : SX.St w (SX.idsOf (SX.Ent.blk ge Te #[x] :: L)) w (SX.Ent.blk ge Te #[x] :: L)) (hk : ∀ args w, (callFunc k args).run Try.prog w = .ok (.enter k args) w)
    (hcl : ∀ W, SX.St W (SX.idsOf L) W L → Calls Try.prog k cap W (SX.Ret fun v w' => v = .tuple #[] ∧ SX.St W (SX.idsOf L) w' L')) :
    CallsDm Try.prog 44 #[.pointer (some ⟨ge, 0, none⟩), .func (.func k) #[] cap] (.panicking (perr e)) (.panicking [{ v := .iface 32 (.int .i64 e), recovered := true }]) w
      (fun v w' => v = .tuple #[] ∧ SX.St w (SX.idsOf (SX.Ent.blk ge Te #[x] :: L)) w' (SX.Ent.blk ge Te #[.int .i64 e] :: L')) := by
  generalize hM : SX.idsOf (SX.Ent.blk ge Te #[x] :: L) = M at *
  refine Z.enterRec (Z.rec_pan _) Try.func44 rfl Try.ntmps44 rfl rfl rfl rfl rfl rfl rfl rfl rfl rfl ?_
  refine Z.seq ?_
  refine Z.region ?_
  refine Z.lb 1 rfl ?_
  refine Z.l rfl rfl (by rfl) (Z.keepS hs) (Z.Yd.bin rfl rfl (by intro _ w; go_simp; try rfl)) ?_
  refine Z.lnil ?_
  refine Z.only [0, 1, 4, 9] rfl ?_
  refine Z.nthen ?_
  refine Z.cond rfl (fun hc1 => ?_) (fun h => absurd h (by simp))
  refine Z.seq ?_
  refine Z.region ?_
  refine Z.lb 1 rfl ?_
  refine Z.l rfl rfl (by rfl) (Z.keepS hs) (Z.Yd.assertYes rfl (by intro v w; kernel_rfl)) ?_
  refine Z.lb 5 rfl ?_
  refine Z.lnil ?_
  refine Z.only [0, 1, 4, 5, 6] rfl ?_
  refine Z.nthen ?_
  refine Z.seq ?_
  refine Z.seq ?_
  refine Z.region ?_
  refine Z.lb 2 rfl ?_
  refine Z.lnil ?_
  refine Z.only [0, 1, 4, 5, 16] rfl ?_
  refine Z.nthen ?_
  refine Z.cond rfl (fun h => absurd h (by simp)) (fun hc3 => ?_)
  refine Z.skip ?_
  refine Z.nthen ?_
  refine Z.seq ?_
  refine Z.region ?_
  refine Z.lb 1 rfl ?_
  refine Z.le rfl trivial ?_
  refine Z.ZO.call rfl rfl (by rfl) rfl rfl hk (by simp) (hcl _ (SX.St.lend (L1 := L) (L2 := [SX.Ent.blk ge Te #[x]]) (hs.rot (L1 := [_])))) ?_
  rintro v5 w5 ⟨rfl, hz⟩
  replace hs := SX.St.rot (L2 := [SX.Ent.blk ge Te #[x]]) ((SX.St.regain (L1 := L) (L2 := [SX.Ent.blk ge Te #[x]]) (hs.rot (L1 := [_]))) hz)
  refine Z.lnil ?_
  refine Z.only [0, 5] rfl ?_
  refine Z.nthen ?_
  refine Z.region ?_
  refine Z.lb 2 rfl ?_
  refine Z.l rfl rfl (by rfl) (Z.keepS hs) (Z.Yd.nilc rfl rfl) ?_
  refine Z.le rfl trivial ?_
  first | refine Z.ZO.store rfl rfl hs Try.sizeOf32 rfl rfl rfl (by first | exact SX.at0 | exact SX.at1 | exact SX.at2 | exact SX.at3 | exact SX.at4 | exact SX.at5 | exact Z.at6 | exact Z.at7 | exact Z.at8 | exact Z.at9 | exact Z.at10 | exact Z.at11 | exact Z.at12) (by first | (simp; done) | (simp; omega)) ?_ | refine Z.ZO.storeR rfl rfl hs Try.sizeOf32 rfl rfl rfl (by first | exact SX.at0 | exact SX.at1 | exact SX.at2 | exact SX.at3 | exact SX.at4 | exact SX.at5 | exact Z.at6 | exact Z.at7 | exact Z.at8 | exact Z.at9 | exact Z.at10 | exact Z.at11 | exact Z.at12) (by first | omega | (simp [ints_length]; done) | (simp [ints_length]; omega)) ?_
  clear hs; intro ws hs
  simp only [Nat.zero_add, Nat.add_zero, Nat.reduceAdd, Int.reduceToNat, Nat.reduceMul, List.set_cons_zero, List.set_cons_succ, List.setIfInBounds_toArray] at hs
  refine Z.lnil ?_
  refine Z.only [] rfl ?_
  -- ret#0
  refine Z.out0n trivial ?_
  first | exact ⟨_, rfl, rfl, hs⟩ | exact ⟨_, rfl, rfl, hs.sub (List.nil_sublist _)⟩
theorem caught_ret (ge k : Nat) (cap : Array Value) (w : World) :
    CallsDm Try.prog 44 #[.pointer (some ⟨ge, 0, none⟩), .func (.func k) #[] cap] .returning .returning w (fun v w' => v = .tuple #[] ∧ SX.St w [] w' []) := by
  have hs := SX.St.start w
  refine Z.enterRec (Z.rec_ret) Try.func44 rfl Try.ntmps44 rfl rfl rfl rfl rfl rfl rfl rfl rfl rfl ?_
  refine Z.seq ?_
  refine Z.region ?_
  refine Z.lb 1 rfl ?_
  refine Z.l rfl rfl (by rfl) (Z.keepS hs) (Z.Yd.bin rfl rfl (by intro _ w; go_simp; try rfl)) ?_
  refine Z.lnil ?_
  refine Z.only [0, 1, 4, 9] rfl ?_
  refine Z.nthen ?_
  refine Z.cond rfl (fun h => absurd h (by simp)) (fun hc1 => ?_)
  refine Z.skip ?_
  -- ret#0
  refine Z.out0n trivial ?_
  first | exact ⟨_, rfl, rfl, hs⟩ | exact ⟨_, rfl, rfl, hs.sub (List.nil_sublist _)⟩

/-- the fields of a level and of a group -/
theorem level_ok (n : Int) (w : World) (h : 0 ≤ n ∧ n ≤ 63) : Calls Try.prog 37 #[.int .i64 n] w (SX.Ret fun v w' => v = .agg #[.int .u64 n, .int .i64 6] ∧ SX.St w [] w' []) := by
  have hs := SX.St.start w
  refine Z.enter Try.func37 rfl Try.ntmps37 rfl rfl ?_
  refine Z.seq ?_
  refine Z.region ?_
  refine Z.le rfl trivial ?_
  refine Z.ZO.alloc rfl rfl (by rfl) Try.zeroValue68 rfl hs ?_
  clear hs; intro g2 w2 hs
  refine Z.lnil ?_
  refine Z.only [0, 2] rfl ?_
  refine Z.nthen ?_
  refine Z.seq ?_
  refine Z.region ?_
  refine Z.lb 6 rfl ?_
  refine Z.le rfl trivial ?_
  refine Z.ZO.call rfl rfl (by rfl) rfl rfl Try.call35 rfl (must_ok _ 2 _ (by simp; omega)) ?_
  rintro v1_6 w1_6 ⟨rfl, hy⟩
  replace hs := hs.call hy
  clear hy
  try simp only [List.cons_append, List.nil_append, List.append_nil] at hs
  refine Z.lnil ?_
  refine Z.only [0, 2] rfl ?_
  refine Z.nthen ?_
  refine Z.seq ?_
  refine Z.region ?_
  refine Z.lb 1 rfl ?_
  refine Z.l rfl rfl (by rfl) (Z.keepS hs) (Z.Yd.convI rfl ⟨_, Try.underlying3⟩ Try.underlying40 (fun hG => Z.wu64 (by first | omega | (have hG' := Z.gh rfl hG; simp at hG'; omega)))) ?_
  refine Z.l rfl rfl (by rfl) (Z.keepS hs) (Z.Yd.buildL [(0, 1), (1, 1)] [.int .u64 0, .int .i64 0] rfl rfl (by intro w; kernel_rfl)) ?_
  refine Z.le rfl trivial ?_
  refine Z.ZO.storeA rfl rfl hs rfl rfl (by kernel_rfl) (by simp [Value.oneCell']) (by first | exact SX.at0 | exact SX.at1 | exact SX.at2 | exact SX.at3 | exact SX.at4 | exact SX.at5 | exact Z.at6 | exact Z.at7 | exact Z.at8 | exact Z.at9 | exact Z.at10 | exact Z.at11 | exact Z.at12) (by rfl) ?_
  clear hs; intro ws hs
  simp only [Nat.zero_add, Nat.add_zero, Nat.reduceAdd, Int.reduceToNat, Nat.reduceMul, List.set_cons_zero, List.set_cons_succ, List.setIfInBounds_toArray] at hs
  refine Z.lnil ?_
  refine Z.only [2] rfl ?_
  refine Z.nthen ?_
  refine Z.ret ?_
  -- ret#0
  refine Z.out1 (by exact ⟨⟨_, rfl, Z.rvcA hs Try.isAgg68 (by first | ((repeat (first | exact List.mem_cons_self | refine List.mem_cons_of_mem _ ?_ | refine List.mem_append_right _ ?_)); done) | fail) (by exact Try.sizeOf68)⟩, trivial⟩) ?_
  first | exact ⟨_, rfl, rfl, hs⟩ | exact ⟨_, rfl, rfl, hs.sub (List.nil_sublist _)⟩
theorem level_bad (n : Int) (w : World) (h : ¬ (0 ≤ n ∧ n ≤ 63)) : Calls Try.prog 37 #[.int .i64 n] w (PanE 2 fun w' => SX.St w [] w' []) := by
  have hs := SX.St.start w
  refine Z.enter Try.func37 rfl Try.ntmps37 rfl rfl ?_
  refine Z.seq ?_
  refine Z.region ?_
  refine Z.le rfl trivial ?_
  refine Z.ZO.alloc rfl rfl (by rfl) Try.zeroValue68 rfl hs ?_
  clear hs; intro g2 w2 hs
  refine Z.lnil ?_
  refine Z.only [0, 2] rfl ?_
  refine Z.nthen ?_
  refine Z.seq ?_
  refine Z.region ?_
  refine Z.lb 6 rfl ?_
  refine Z.le rfl trivial ?_
  refine Z.ZO.callP rfl rfl rfl Try.call35 rfl (must_bad _ 2 _ (by simp; omega)) ?_
  rintro c1_6 w1_6 ⟨rfl, hy⟩
  replace hs := hs.call hy
  clear hy
  try simp only [List.cons_append, List.nil_append, List.append_nil] at hs
  repeat (first | refine Z.pthen ?_ | refine Z.pblock ?_ | refine Z.pscope ?_)
  -- ret#0
  refine Z.outp ?_
  exact ⟨_, rfl, rfl, hs.sub (List.nil_sublist _)⟩
theorem group_ok (n : Int) (w : World) (h : 0 ≤ n ∧ n ≤ 3) : Calls Try.prog 34 #[.int .i64 n] w (SX.Ret fun v w' => v = .agg #[.int .u64 n, .int .i64 2] ∧ SX.St w [] w' []) := by
  have hs := SX.St.start w
  refine Z.enter Try.func34 rfl Try.ntmps34 rfl rfl ?_
  refine Z.seq ?_
  refine Z.region ?_
  refine Z.le rfl trivial ?_
  refine Z.ZO.alloc rfl rfl (by rfl) Try.zeroValue68 rfl hs ?_
  clear hs; intro g2 w2 hs
  refine Z.lnil ?_
  refine Z.only [0, 2] rfl ?_
  refine Z.nthen ?_
  refine Z.seq ?_
  refine Z.region ?_
  refine Z.lb 6 rfl ?_
  refine Z.le rfl trivial ?_
  refine Z.ZO.call rfl rfl (by rfl) rfl rfl Try.call35 rfl (must_ok _ 2 _ (by simp; omega)) ?_
  rintro v1_6 w1_6 ⟨rfl, hy⟩
  replace hs := hs.call hy
  clear hy
  try simp only [List.cons_append, List.nil_append, List.append_nil] at hs
  refine Z.lnil ?_
  refine Z.only [0, 2] rfl ?_
  refine Z.nthen ?_
  refine Z.seq ?_
  refine Z.region ?_
  refine Z.lb 1 rfl ?_
  refine Z.l rfl rfl (by rfl) (Z.keepS hs) (Z.Yd.convI rfl ⟨_, Try.underlying3⟩ Try.underlying40 (fun hG => Z.wu64 (by first | omega | (have hG' := Z.gh rfl hG; simp at hG'; omega)))) ?_
  refine Z.l rfl rfl (by rfl) (Z.keepS hs) (Z.Yd.buildL [(0, 1), (1, 1)] [.int .u64 0, .int .i64 0] rfl rfl (by intro w; kernel_rfl)) ?_
  refine Z.le rfl trivial ?_
  refine Z.ZO.storeA rfl rfl hs rfl rfl (by kernel_rfl) (by simp [Value.oneCell']) (by first | exact SX.at0 | exact SX.at1 | exact SX.at2 | exact SX.at3 | exact SX.at4 | exact SX.at5 | exact Z.at6 | exact Z.at7 | exact Z.at8 | exact Z.at9 | exact Z.at10 | exact Z.at11 | exact Z.at12) (by rfl) ?_
  clear hs; intro ws hs
  simp only [Nat.zero_add, Nat.add_zero, Nat.reduceAdd, Int.reduceToNat, Nat.reduceMul, List.set_cons_zero, List.set_cons_succ, List.setIfInBounds_toArray] at hs
  refine Z.lnil ?_
  refine Z.only [2] rfl ?_
  refine Z.nthen ?_
  refine Z.ret ?_
  -- ret#0
  refine Z.out1 (by exact ⟨⟨_, rfl, Z.rvcA hs Try.isAgg68 (by first | ((repeat (first | exact List.mem_cons_self | refine List.mem_cons_of_mem _ ?_ | refine List.mem_append_right _ ?_)); done) | fail) (by exact Try.sizeOf68)⟩, trivial⟩) ?_
  first | exact ⟨_, rfl, rfl, hs⟩ | exact ⟨_, rfl, rfl, hs.sub (List.nil_sublist _)⟩
theorem group_bad (n : Int) (w : World) (h : ¬ (0 ≤ n ∧ n ≤ 3)) : Calls Try.prog 34 #[.int .i64 n] w (PanE 2 fun w' => SX.St w [] w' []) := by
  have hs := SX.St.start w
  refine Z.enter Try.func34 rfl Try.ntmps34 rfl rfl ?_
  refine Z.seq ?_
  refine Z.region ?_
  refine Z.le rfl trivial ?_
  refine Z.ZO.alloc rfl rfl (by rfl) Try.zeroValue68 rfl hs ?_
  clear hs; intro g2 w2 hs
  refine Z.lnil ?_
  refine Z.only [0, 2] rfl ?_
  refine Z.nthen ?_
  refine Z.seq ?_
  refine Z.region ?_
  refine Z.lb 6 rfl ?_
  refine Z.le rfl trivial ?_
  refine Z.ZO.callP rfl rfl rfl Try.call35 rfl (must_bad _ 2 _ (by simp; omega)) ?_
  rintro c1_6 w1_6 ⟨rfl, hy⟩
  replace hs := hs.call hy
  clear hy
  try simp only [List.cons_append, List.nil_append, List.append_nil] at hs
  repeat (first | refine Z.pthen ?_ | refine Z.pblock ?_ | refine Z.pscope ?_)
  -- ret#0
  refine Z.outp ?_
  exact ⟨_, rfl, rfl, hs.sub (List.nil_sublist _)⟩

theorem level_any (n : Int) (w : World) : Calls Try.prog 37 #[.int .i64 n] w (Z.Bo (fun v w' => (0 ≤ n ∧ n ≤ 63) ∧ v = .agg #[.int .u64 n, .int .i64 6] ∧ SX.St w [] w' []) fun c w' => ¬ (0 ≤ n ∧ n ≤ 63) ∧ c = perr 2 ∧ SX.St w [] w' []) := by
  by_cases h : 0 ≤ n ∧ n ≤ 63
  · exact Z.Bo.ret ((level_ok n w h).mono fun e w' ⟨v, h1, h2⟩ => ⟨v, h1, h, h2⟩)
  · exact Z.Bo.pan ((level_bad n w h).mono fun e w' ⟨v, h1, h2⟩ => ⟨v, h1, h, h2⟩)
/-- an element of LCID lc with data l -/
def IsPart (lc : Int) (l : List Int) (v : Value) (w w' : World) : Prop := ∃ B co, v = .agg #[.int .i64 lc, .slice B l.length l.length] ∧ SX.St w [] w' [SX.Ent.row (.slice B l.length co) 5 1 l.length (ints .u8 l)]

set_option maxRecDepth 100000 in
theorem built_ok (lc : Int) (A : Option Addr) (n c : Nat) (fs : List (Int × Int)) (w : World) (hx : Sx w [] A (fs.flatMap encF)) (hl : fs.length = n) (hn : n ≤ 1000) (hg : ∀ f ∈ fs, GoodF f) (h0 : chkA fs = 0) :
    Calls Try.prog 36 #[.int .i64 lc, .slice A n c] w (SX.Ret fun v w' => IsPart lc (pk (fs.flatMap fldF)) v w w') := by
  have hs := SX.St.start w
  have hfl := flatF_length h0
  have hpl := pk_length (fs.flatMap fldF)
  refine Z.enter Try.func36 rfl Try.ntmps36 rfl rfl ?_
  refine Z.seq ?_
  refine Z.region ?_
  refine Z.le rfl trivial ?_
  refine Z.ZO.alloc rfl rfl (by rfl) Try.zeroValue31 rfl hs ?_
  clear hs; intro g4 w4 hs
  refine Z.lnil ?_
  refine Z.only [0, 1, 4] rfl ?_
  refine Z.nthen ?_
  refine Z.seq ?_
  refine Z.region ?_
  refine Z.le rfl trivial ?_
  refine Z.ZO.alloc rfl rfl (by rfl) Try.zeroValue91 rfl hs ?_
  clear hs; intro g5 w5 hs
  refine Z.lnil ?_
  refine Z.only [0, 1, 4, 5] rfl ?_
  refine Z.nthen ?_
  refine Z.seq ?_
  refine Z.region ?_
  replace hs := WrL_start hs
  refine Z.l rfl rfl (by rfl) (Z.keepS hs) (Z.Yd.pure rfl) ?_
  refine Z.le rfl trivial ?_
  refine Z.ZO.call rfl rfl (by rfl) rfl rfl Try.call55 rfl (putAll_any g5 _ _ [] A n c fs _ hs.lend (hx.lent hs) hl hn (by simp) hg) ?_
  rintro v2_1 w2_1 ⟨sv1, rfl, hz⟩
  replace hs := hs.regain hz
  rw [h0]
  have er : resA [] fs = fs.flatMap fldF := by unfold resA; rw [if_pos h0]; rfl
  rw [er] at hs
  refine Z.lb 1 rfl ?_
  refine Z.le rfl trivial ?_
  refine Z.ZO.call rfl rfl (by rfl) rfl rfl Try.call35 rfl (must_ok _ 2 _ (by simp)) ?_
  rintro v2_3 w2_3 ⟨rfl, hy⟩
  replace hs := hs.call hy
  clear hy
  try simp only [List.cons_append, List.nil_append, List.append_nil] at hs
  refine Z.lnil ?_
  refine Z.only [0, 4, 5] rfl ?_
  refine Z.nthen ?_
  refine Z.seq ?_
  refine Z.region ?_
  refine Z.le rfl trivial ?_
  refine Z.ZO.call rfl rfl (by rfl) rfl rfl Try.call56 rfl (wbytes_any g5 _ sv1 _ _ hs.lend (by omega)) ?_
  rintro v3_0 w3_0 hz
  replace hs := hs.regain hz
  obtain ⟨B, co, rfl, hco, -, -⟩ := SX.row_slv hs (j := 0) rfl
  refine Z.lb 1 rfl ?_
  refine Z.lnil ?_
  refine Z.only [0, 4, 6] rfl ?_
  refine Z.nthen ?_
  refine Z.seq ?_
  refine Z.region ?_
  refine Z.lb 3 rfl ?_
  refine Z.l rfl rfl (by rfl) (Z.keepS hs) (Z.Yd.lenS rfl Try.underlying29) ?_
  refine Z.lb 1 rfl ?_
  refine Z.l rfl rfl (by rfl) (Z.keepS hs) (Z.Yd.lenS rfl Try.underlying29) ?_
  refine Z.l rfl rfl (by rfl) (Z.keepS hs) (Z.Yd.cut3 0 (pk (fs.flatMap fldF)).length (pk (fs.flatMap fldF)).length rfl rfl rfl rfl Try.underlying29 Try.sizeOf5 (fun hG => ⟨(by first | omega | (have hG' := Z.gh rfl hG; simp at hG'; omega)), (by first | omega | (have hG' := Z.gh rfl hG; simp at hG'; omega)), (by first | omega | (have hG' := Z.gh rfl hG; simp at hG'; omega)), (by first | omega | (have hG' := Z.gh rfl hG; simp at hG'; omega)), (by first | omega | (have hG' := Z.gh rfl hG; simp at hG'; omega))⟩)) ?_
  refine Z.l rfl rfl (by rfl) (Z.keepS hs) (Z.Yd.buildL [(0, 1), (1, 1)] [.int .i64 0, .slice none 0 0] rfl rfl (by intro w; kernel_rfl)) ?_
  rw [slA_zero]
  simp only [WrL, List.cons_append, List.nil_append] at hs
  refine Z.le rfl trivial ?_
  refine Z.ZO.storeA rfl rfl hs rfl rfl (by kernel_rfl) (by simp [Value.oneCell']) (by first | exact SX.at0 | exact SX.at1 | exact SX.at2 | exact SX.at3 | exact SX.at4 | exact SX.at5 | exact Z.at6 | exact Z.at7 | exact Z.at8 | exact Z.at9 | exact Z.at10 | exact Z.at11 | exact Z.at12) (by rfl) ?_
  clear hs; intro ws hs
  simp only [Nat.zero_add, Nat.add_zero, Nat.reduceAdd, Int.reduceToNat, Nat.reduceMul, List.set_cons_zero, List.set_cons_succ, List.setIfInBounds_toArray] at hs
  refine Z.lnil ?_
  refine Z.only [4] rfl ?_
  refine Z.nthen ?_
  refine Z.ret ?_
  -- ret#0
  refine Z.out1 (by exact ⟨⟨_, rfl, Z.rvcA hs Try.isAgg31 (by first | ((repeat (first | exact List.mem_cons_self | refine List.mem_cons_of_mem _ ?_ | refine List.mem_append_right _ ?_)); done) | fail) (by exact Try.sizeOf31)⟩, trivial⟩) ?_
  exact ⟨_, rfl, B, co, rfl, hs.sub (by simp)⟩
set_option maxRecDepth 100000 in
theorem built_bad (lc : Int) (A : Option Addr) (n c : Nat) (fs : List (Int × Int)) (w : World) (hx : Sx w [] A (fs.flatMap encF)) (hl : fs.length = n) (hn : n ≤ 1000) (hg : ∀ f ∈ fs, GoodF f) (h0 : chkA fs ≠ 0) :
    Calls Try.prog 36 #[.int .i64 lc, .slice A n c] w (PanE 2 fun w' => SX.St w [] w' []) := by
  have hs := SX.St.start w
  refine Z.enter Try.func36 rfl Try.ntmps36 rfl rfl ?_
  refine Z.seq ?_
  refine Z.region ?_
  refine Z.le rfl trivial ?_
  refine Z.ZO.alloc rfl rfl (by rfl) Try.zeroValue31 rfl hs ?_
  clear hs; intro g4 w4 hs
  refine Z.lnil ?_
  refine Z.only [0, 1, 4] rfl ?_
  refine Z.nthen ?_
  refine Z.seq ?_
  refine Z.region ?_
  refine Z.le rfl trivial ?_
  refine Z.ZO.alloc rfl rfl (by rfl) Try.zeroValue91 rfl hs ?_
  clear hs; intro g5 w5 hs
  refine Z.lnil ?_
  refine Z.only [0, 1, 4, 5] rfl ?_
  refine Z.nthen ?_
  refine Z.seq ?_
  refine Z.region ?_
  replace hs := WrL_start hs
  refine Z.l rfl rfl (by rfl) (Z.keepS hs) (Z.Yd.pure rfl) ?_
  refine Z.le rfl trivial ?_
  refine Z.ZO.call rfl rfl (by rfl) rfl rfl Try.call55 rfl (putAll_any g5 _ _ [] A n c fs _ hs.lend (hx.lent hs) hl hn (by simp) hg) ?_
  rintro v2_1 w2_1 ⟨sv1, rfl, hz⟩
  replace hs := hs.regain hz
  refine Z.lb 1 rfl ?_
  refine Z.le rfl trivial ?_
  refine Z.ZO.callP rfl rfl rfl Try.call35 rfl (must_bad _ 2 _ (by simpa using h0)) ?_
  rintro c2_3 w2_3 ⟨rfl, hy⟩
  replace hs := hs.call hy
  clear hy
  try simp only [List.cons_append, List.nil_append, List.append_nil] at hs
  repeat (first | refine Z.pthen ?_ | refine Z.pblock ?_ | refine Z.pscope ?_)
  -- ret#0
  refine Z.outp ?_
  exact ⟨_, rfl, rfl, hs.sub (List.nil_sublist _)⟩

/-- how the cell of an element is cleared -/
theorem elclear (gp : Nat) (a b : Value) (W : World) (hs : SX.St W (SX.idsOf [SX.Ent.blk gp 31 #[a, b]]) W [SX.Ent.blk gp 31 #[a, b]]) :
    Calls Try.prog 54 #[.pointer (some ⟨gp, 0, none⟩)] W (SX.Ret fun v w' => v = .tuple #[] ∧ SX.St W (SX.idsOf [SX.Ent.blk gp 31 #[a, b]]) w' [SX.Ent.blk gp 31 #[.int .i64 0, .slice none 0 0]]) := by
  generalize SX.idsOf [SX.Ent.blk gp 31 #[a, b]] = M at *
  refine Z.enter Try.func54 rfl Try.ntmps54 rfl rfl ?_
  refine Z.region ?_
  refine Z.l rfl rfl (by rfl) (Z.keepS hs) (Z.Yd.buildL [(0, 1), (1, 1)] [.int .i64 0, .slice none 0 0] rfl rfl (by intro w; kernel_rfl)) ?_
  refine Z.le rfl trivial ?_
  refine Z.ZO.storeA rfl rfl hs rfl rfl (by kernel_rfl) (by simp [Value.oneCell']) (by first | exact SX.at0 | exact SX.at1 | exact SX.at2 | exact SX.at3 | exact SX.at4 | exact SX.at5 | exact Z.at6 | exact Z.at7 | exact Z.at8 | exact Z.at9 | exact Z.at10 | exact Z.at11 | exact Z.at12) (by rfl) ?_
  clear hs; intro ws hs
  simp only [Nat.zero_add, Nat.add_zero, Nat.reduceAdd, Int.reduceToNat, Nat.reduceMul, List.set_cons_zero, List.set_cons_succ, List.setIfInBounds_toArray] at hs
  refine Z.lnil ?_
  refine Z.only [] rfl ?_
  -- ret#0
  refine Z.out0n trivial ?_
  first | exact ⟨_, rfl, rfl, hs⟩ | exact ⟨_, rfl, rfl, hs.sub (List.nil_sublist _)⟩
set_option maxRecDepth 100000 in
theorem element_ok (k : Nat) (cap : Array Value) (lc : Int) (l : List Int) (w : World) (hk : ∀ args w, (callFunc k args).run Try.prog w = .ok (.enter k args) w)
    (hof : ∀ W L, SX.St w [] W L → Calls Try.prog k cap W (SX.Ret fun v w' => IsPart lc l v W w')) :
    Calls Try.prog 32 #[.func (.func k) #[] cap] w (SX.Ret fun v w' => ∃ u, v = .tuple #[u, .int .i64 0] ∧ IsPart lc l u w w') := by
  have hs := SX.St.start w
  refine Z.enterD Try.func32 rfl Try.ntmps32 rfl rfl ?_
  refine Z.seq ?_
  refine Z.region ?_
  refine Z.le rfl trivial ?_
  refine Z.ZO.alloc rfl rfl (by rfl) Try.zeroValue31 rfl hs ?_
  clear hs; intro g2 w2 hs
  refine Z.le rfl trivial ?_
  refine Z.ZO.alloc rfl rfl (by rfl) Try.zeroValue32 rfl hs ?_
  clear hs; intro g3 w3 hs
  refine Z.lnil ?_
  refine Z.only [0, 2, 3] rfl ?_
  refine Z.nthen ?_
  refine Z.seq ?_
  refine Z.region ?_
  refine Z.lb 1 rfl ?_
  refine Z.le rfl trivial ?_
  refine Z.ZO.defer rfl rfl rfl rfl ?_
  refine Z.lnil ?_
  refine Z.only [0, 2, 3] rfl ?_
  refine Z.nthen ?_
  refine Z.seq ?_
  refine Z.region ?_
  refine Z.lb 1 rfl ?_
  refine Z.le rfl trivial ?_
  refine Z.ZO.call rfl rfl (by rfl) rfl rfl hk (by first | rfl | simp) (hof _ _ hs) ?_
  rintro v2_1 w2_1 ⟨B, co, rfl, hy⟩
  replace hs := hs.call hy
  clear hy
  try simp only [List.cons_append, List.nil_append, List.append_nil] at hs
  refine Z.le rfl trivial ?_
  refine Z.ZO.storeA rfl rfl hs rfl rfl (by kernel_rfl) (by simp [Value.oneCell']) (by first | exact SX.at0 | exact SX.at1 | exact SX.at2 | exact SX.at3 | exact SX.at4 | exact SX.at5 | exact Z.at6 | exact Z.at7 | exact Z.at8 | exact Z.at9 | exact Z.at10 | exact Z.at11 | exact Z.at12) (by rfl) ?_
  clear hs; intro ws hs
  simp only [Nat.zero_add, Nat.add_zero, Nat.reduceAdd, Int.reduceToNat, Nat.reduceMul, List.set_cons_zero, List.set_cons_succ, List.setIfInBounds_toArray] at hs
  refine Z.le rfl trivial ?_
  first | refine Z.ZO.store rfl rfl hs Try.sizeOf32 rfl rfl rfl (by first | exact SX.at0 | exact SX.at1 | exact SX.at2 | exact SX.at3 | exact SX.at4 | exact SX.at5 | exact Z.at6 | exact Z.at7 | exact Z.at8 | exact Z.at9 | exact Z.at10 | exact Z.at11 | exact Z.at12) (by first | (simp; done) | (simp; omega)) ?_ | refine Z.ZO.storeR rfl rfl hs Try.sizeOf32 rfl rfl rfl (by first | exact SX.at0 | exact SX.at1 | exact SX.at2 | exact SX.at3 | exact SX.at4 | exact SX.at5 | exact Z.at6 | exact Z.at7 | exact Z.at8 | exact Z.at9 | exact Z.at10 | exact Z.at11 | exact Z.at12) (by first | omega | (simp [ints_length]; done) | (simp [ints_length]; omega)) ?_
  clear hs; intro ws hs
  simp only [Nat.zero_add, Nat.add_zero, Nat.reduceAdd, Int.reduceToNat, Nat.reduceMul, List.set_cons_zero, List.set_cons_succ, List.setIfInBounds_toArray] at hs
  refine Z.lnil ?_
  refine Z.only [2, 3] rfl ?_
  refine Z.nthen ?_
  refine Z.ret ?_
  -- ret#0
  refine Z.outDr Try.call44 (caught_ret g3 _ _ _) ?_
  rintro vD wD ⟨rfl, hy⟩
  replace hs := hs.call hy
  refine ⟨[_, _], (by exact ⟨⟨_, rfl, Z.rvcA hs Try.isAgg31 (by first | ((repeat (first | exact List.mem_cons_self | refine List.mem_cons_of_mem _ ?_ | refine List.mem_append_right _ ?_)); done) | fail) (by exact Try.sizeOf31)⟩, ⟨_, rfl, Z.rvc hs Try.isAgg32 (by first | ((repeat (first | exact List.mem_cons_self | refine List.mem_cons_of_mem _ ?_ | refine List.mem_append_right _ ?_)); done) | fail) rfl⟩, trivial⟩), ?_⟩
  exact ⟨_, rfl, _, rfl, B, co, rfl, hs.sel [0] (by decide)⟩
set_option maxRecDepth 100000 in
theorem element_bad (k : Nat) (cap : Array Value) (e : Int) (w : World) (hk : ∀ args w, (callFunc k args).run Try.prog w = .ok (.enter k args) w)
    (hof : ∀ W L, SX.St w [] W L → Calls Try.prog k cap W (PanE e fun w' => SX.St W [] w' [])) :
    Calls Try.prog 32 #[.func (.func k) #[] cap] w (SX.Ret fun v w' => v = .tuple #[.agg #[.int .i64 0, .slice none 0 0], .int .i64 e] ∧ SX.St w [] w' []) := by
  have hs := SX.St.start w
  refine Z.enterD Try.func32 rfl Try.ntmps32 rfl rfl ?_
  refine Z.seq ?_
  refine Z.region ?_
  refine Z.le rfl trivial ?_
  refine Z.ZO.alloc rfl rfl (by rfl) Try.zeroValue31 rfl hs ?_
  clear hs; intro g2 w2 hs
  refine Z.le rfl trivial ?_
  refine Z.ZO.alloc rfl rfl (by rfl) Try.zeroValue32 rfl hs ?_
  clear hs; intro g3 w3 hs
  refine Z.lnil ?_
  refine Z.only [0, 2, 3] rfl ?_
  refine Z.nthen ?_
  refine Z.seq ?_
  refine Z.region ?_
  refine Z.lb 1 rfl ?_
  refine Z.le rfl trivial ?_
  refine Z.ZO.defer rfl rfl rfl rfl ?_
  refine Z.lnil ?_
  refine Z.only [0, 2, 3] rfl ?_
  refine Z.nthen ?_
  refine Z.seq ?_
  refine Z.region ?_
  refine Z.lb 1 rfl ?_
  refine Z.le rfl trivial ?_
  refine Z.ZO.callP rfl rfl rfl hk (by first | rfl | simp) (hof _ _ hs) ?_
  rintro c2_1 w2_1 ⟨rfl, hy⟩
  replace hs := hs.call hy
  clear hy
  try simp only [List.cons_append, List.nil_append, List.append_nil] at hs
  repeat (first | refine Z.pthen ?_ | refine Z.pblock ?_ | refine Z.pscope ?_)
  -- ret#0
  refine Z.outDp Try.call44 (caught_pan g3 _ _ _ _ _ [SX.Ent.blk g2 _ _] _ _ (hs.lend (L2 := [])) Try.call54 (fun W hW ↦ elclear g2 _ _ W hW)) ?_
  rintro vD wD ⟨rfl, hz⟩
  replace hs := hs.regain (L2 := []) hz
  refine ⟨[_, _], (by exact ⟨⟨_, rfl, Z.rvcA hs Try.isAgg31 (by first | ((repeat (first | exact List.mem_cons_self | refine List.mem_cons_of_mem _ ?_ | refine List.mem_append_right _ ?_)); done) | fail) (by exact Try.sizeOf31)⟩, ⟨_, rfl, Z.rvc hs Try.isAgg32 (by first | ((repeat (first | exact List.mem_cons_self | refine List.mem_cons_of_mem _ ?_ | refine List.mem_append_right _ ?_)); done) | fail) rfl⟩, trivial⟩), ?_⟩
  exact ⟨_, rfl, rfl, hs.sub (List.nil_sublist _)⟩
end Go.Proofs.Yteabcdmgklhijaa
