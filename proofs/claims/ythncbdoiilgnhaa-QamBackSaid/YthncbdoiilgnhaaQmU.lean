/- QamSofts: the walk. -/
import Derived.Test.YthncbdoiilgnhaaQmT
namespace Go.Proofs.Ythncbdoiilgnhaa
open Go.RowKit
set_option linter.unusedSimpArgs false
set_option linter.unusedVariables false

theorem softs_long (m : Int) (A : Option Addr) (n c : Nat) (w : World) (hn : 100 < n) :
    Calls Try.prog 6 #[.int .i64 m, .slice A n c] w (SX.Ret fun v w' => v = .bool true ∧ SX.St w [] w' []) := by
  have hs := SX.St.start w
  refine Z.enter Try.func6 rfl Try.ntmps6 rfl rfl ?_
  refine Z.seq ?_
  refine Z.region ?_
  refine Z.lb 1 rfl ?_
  refine Z.lnil ?_
  refine Z.only [0, 1] rfl ?_
  refine Z.nthen ?_
  refine Z.seq ?_
  refine Z.seq ?_
  refine Z.region ?_
  refine Z.lb 1 rfl ?_
  refine Z.l rfl rfl (by rfl) (Z.keepS hs) (Z.Yd.lenS rfl Try.underlying25) ?_
  refine Z.lb 1 rfl ?_
  refine Z.lnil ?_
  refine Z.only [0, 1, 17] rfl ?_
  refine Z.nthen ?_
  refine Z.cond rfl (fun hc1 => ?_) (fun h => absurd h (by simp; omega))
  refine Z.seq ?_
  refine Z.region ?_
  refine Z.le rfl trivial ?_
  refine Z.ZO.call rfl rfl (by rfl) rfl rfl Try.call10 rfl (known_any _) ?_
  rintro v2_0 w2_0 ⟨rfl, hy⟩
  replace hs := hs.call hy
  clear hy
  try simp only [List.cons_append, List.nil_append, List.append_nil] at hs
  refine Z.lb 1 rfl ?_
  refine Z.lnil ?_
  refine Z.only [4] rfl ?_
  refine Z.nthen ?_
  refine Z.ret ?_
  repeat (first | refine Z.rthen ?_ | refine Z.rblock ?_ | refine Z.rscope ?_)
  -- ret#0
  refine Z.out1 (by exact ⟨rfl, trivial⟩) ?_
  first | exact ⟨_, rfl, rfl, hs⟩ | exact ⟨_, rfl, rfl, hs.sub (List.nil_sublist _)⟩
set_option maxRecDepth 100000 in
theorem softs_arg (m : Int) (A : Option Addr) (n c : Nat) (w : World) (hb : vm m = false) (hn : n ≤ 100) :
    Calls Try.prog 6 #[.int .i64 m, .slice A n c] w (SX.Ret fun v w' => v = .bool true ∧ SX.St w [] w' []) := by
  have hs := SX.St.start w
  refine Z.enter Try.func6 rfl Try.ntmps6 rfl rfl ?_
  refine Z.seq ?_
  refine Z.region ?_
  refine Z.lb 1 rfl ?_
  refine Z.lnil ?_
  refine Z.only [0, 1] rfl ?_
  refine Z.nthen ?_
  refine Z.seq ?_
  refine Z.seq ?_
  refine Z.region ?_
  refine Z.lb 1 rfl ?_
  refine Z.l rfl rfl (by rfl) (Z.keepS hs) (Z.Yd.lenS rfl Try.underlying25) ?_
  refine Z.lb 1 rfl ?_
  refine Z.lnil ?_
  refine Z.only [0, 1, 17] rfl ?_
  refine Z.nthen ?_
  refine Z.cond rfl (fun h => absurd h (by simp; omega)) (fun hc1 => ?_)
  refine Z.skip ?_
  refine Z.nthen ?_
  refine Z.seq ?_
  refine Z.region ?_
  refine Z.lb 2 rfl ?_
  refine Z.le rfl trivial ?_
  refine Z.ZO.call rfl rfl (by rfl) rfl rfl Try.call17 rfl (demod_arg A n c m _ hb) ?_
  rintro v3_2 w3_2 ⟨rfl, hy⟩
  replace hs := hs.call hy
  clear hy
  try simp only [List.cons_append, List.nil_append, List.append_nil] at hs
  refine Z.lb 5 rfl ?_
  refine Z.lnil ?_
  refine Z.only [0, 1, 5, 6] rfl ?_
  refine Z.nthen ?_
  refine Z.seq ?_
  refine Z.region ?_
  refine Z.lb 2 rfl ?_
  refine Z.le rfl trivial ?_
  refine Z.ZO.call rfl rfl (by rfl) rfl rfl Try.call18 rfl (decide_bad A n c m 2 _ (by decide) (fun W L hW ↦ demod_arg A n c m W hb)) ?_
  rintro v4_2 w4_2 ⟨rfl, hy⟩
  replace hs := hs.call hy
  clear hy
  try simp only [List.cons_append, List.nil_append, List.append_nil] at hs
  refine Z.lb 5 rfl ?_
  refine Z.lnil ?_
  refine Z.only [0, 1, 5, 6, 7, 8] rfl ?_
  refine Z.nthen ?_
  refine Z.seq ?_
  refine Z.region ?_
  refine Z.lb 1 rfl ?_
  refine Z.lnil ?_
  refine Z.only [0, 1, 5, 6, 7, 8, 9] rfl ?_
  refine Z.nthen ?_
  refine Z.seq ?_
  refine Z.seq ?_
  refine Z.region ?_
  refine Z.lb 1 rfl ?_
  refine Z.le rfl trivial ?_
  refine Z.ZO.call rfl rfl (by rfl) rfl rfl Try.call12 rfl (rvalid_any m _) ?_
  rintro v6_1 w6_1 ⟨rfl, hy⟩
  replace hs := hs.call hy
  clear hy
  try simp only [List.cons_append, List.nil_append, List.append_nil] at hs
  rw [hb]
  refine Z.lb 1 rfl ?_
  refine Z.lnil ?_
  refine Z.only [0, 1, 5, 6, 7, 8, 9, 33] rfl ?_
  refine Z.nthen ?_
  refine Z.cond rfl (fun hc6 => ?_) (fun h => absurd h (by simp))
  refine Z.region ?_
  refine Z.lb 1 rfl ?_
  refine Z.lnil ?_
  refine Z.only [0, 1, 5, 6, 7, 8, 9] rfl ?_
  refine Z.nthen ?_
  refine Z.seq ?_
  refine Z.seq ?_
  refine Z.region ?_
  refine Z.lb 2 rfl ?_
  refine Z.lnil ?_
  refine Z.only [0, 1, 5, 6, 7, 8, 9, 38] rfl ?_
  refine Z.nthen ?_
  refine Z.cond rfl (fun hc10 => ?_) (fun h => absurd h (by simp))
  refine Z.seq ?_
  refine Z.region ?_
  refine Z.lb 4 rfl ?_
  refine Z.yes (s := 42) (b := true) rfl ((by decide)) rfl ?_
  refine Z.lb 1 rfl ?_
  refine Z.l rfl rfl (by rfl) (Z.keepS hs) (Z.Yd.lenS rfl Try.underlying38) ?_
  refine Z.lb 1 rfl ?_
  refine Z.yes (s := 42) (b := true) rfl rfl rfl ?_
  refine Z.l rfl rfl (by rfl) (Z.keepS hs) (Z.Yd.pickT rfl rfl) ?_
  refine Z.lb 1 rfl ?_
  refine Z.yes (s := 47) (b := true) rfl ((by decide)) rfl ?_
  refine Z.lb 3 rfl ?_
  refine Z.yes (s := 47) (b := true) rfl rfl rfl ?_
  refine Z.l rfl rfl (by rfl) (Z.keepS hs) (Z.Yd.pickT rfl rfl) ?_
  refine Z.lb 1 rfl ?_
  refine Z.yes (s := 52) (b := true) rfl ((by decide)) rfl ?_
  refine Z.lb 1 rfl ?_
  refine Z.l rfl rfl (by rfl) (Z.keepS hs) (Z.Yd.lenS rfl Try.underlying23) ?_
  refine Z.lb 1 rfl ?_
  refine Z.yes (s := 52) (b := true) rfl rfl rfl ?_
  refine Z.l rfl rfl (by rfl) (Z.keepS hs) (Z.Yd.pickT rfl rfl) ?_
  refine Z.lb 1 rfl ?_
  refine Z.yes (s := 57) (b := true) rfl ((by decide)) rfl ?_
  refine Z.le rfl (by exact ⟨rfl, trivial⟩) ?_
  refine Z.ZO.call rfl rfl (by rfl) rfl rfl Try.call10 rfl (known_any _) ?_
  rintro v11_19 w11_19 ⟨rfl, hy⟩
  replace hs := hs.call hy
  clear hy
  try simp only [List.cons_append, List.nil_append, List.append_nil] at hs
  refine Z.l rfl rfl (by rfl) (Z.keepS hs) (Z.Yd.pickT rfl rfl) ?_
  refine Z.lb 1 rfl ?_
  refine Z.lnil ?_
  refine Z.only [4] rfl ?_
  refine Z.nthen ?_
  refine Z.ret ?_
  repeat (first | refine Z.rthen ?_ | refine Z.rblock ?_ | refine Z.rscope ?_)
  -- ret#0
  refine Z.out1 (by exact ⟨rfl, trivial⟩) ?_
  first | exact ⟨_, rfl, rfl, hs⟩ | exact ⟨_, rfl, rfl, hs.sub (List.nil_sublist _)⟩
set_option maxRecDepth 100000 in
theorem softs_range (m : Int) (A : Option Addr) (n c : Nat) (ps : List (Int × Int)) (w : World) (hr : Sl w A (pcells ps)) (hl : ps.length = n) (hn : n ≤ 100) (hm : vm m = true) (hb : ps.any (fun p => !ins p) = true) :
    Calls Try.prog 6 #[.int .i64 m, .slice A n c] w (SX.Ret fun v w' => v = .bool true ∧ SX.St w [] w' []) := by
  have hs := SX.St.start w
  have hall : ps.all ins = false := by
    rw [List.all_eq_false]
    obtain ⟨p, hp, h⟩ := List.any_eq_true.1 hb
    exact ⟨p, hp, by simpa using h⟩
  refine Z.enter Try.func6 rfl Try.ntmps6 rfl rfl ?_
  refine Z.seq ?_
  refine Z.region ?_
  refine Z.lb 1 rfl ?_
  refine Z.lnil ?_
  refine Z.only [0, 1] rfl ?_
  refine Z.nthen ?_
  refine Z.seq ?_
  refine Z.seq ?_
  refine Z.region ?_
  refine Z.lb 1 rfl ?_
  refine Z.l rfl rfl (by rfl) (Z.keepS hs) (Z.Yd.lenS rfl Try.underlying25) ?_
  refine Z.lb 1 rfl ?_
  refine Z.lnil ?_
  refine Z.only [0, 1, 17] rfl ?_
  refine Z.nthen ?_
  refine Z.cond rfl (fun h => absurd h (by simp; omega)) (fun hc1 => ?_)
  refine Z.skip ?_
  refine Z.nthen ?_
  refine Z.seq ?_
  refine Z.region ?_
  refine Z.lb 2 rfl ?_
  refine Z.le rfl trivial ?_
  refine Z.ZO.call rfl rfl (by rfl) rfl rfl Try.call17 rfl (demod_range A n c m ps _ (hr.st hs) hl (by omega) hm hb) ?_
  rintro v3_2 w3_2 ⟨rfl, hy⟩
  replace hs := hs.call hy
  clear hy
  try simp only [List.cons_append, List.nil_append, List.append_nil] at hs
  refine Z.lb 5 rfl ?_
  refine Z.lnil ?_
  refine Z.only [0, 1, 5, 6] rfl ?_
  refine Z.nthen ?_
  refine Z.seq ?_
  refine Z.region ?_
  refine Z.lb 2 rfl ?_
  refine Z.le rfl trivial ?_
  refine Z.ZO.call rfl rfl (by rfl) rfl rfl Try.call18 rfl (decide_bad A n c m 6 _ (by decide) (fun W L hW ↦ demod_range A n c m ps W ((hr.st hs).st hW) hl (by omega) hm hb)) ?_
  rintro v4_2 w4_2 ⟨rfl, hy⟩
  replace hs := hs.call hy
  clear hy
  try simp only [List.cons_append, List.nil_append, List.append_nil] at hs
  refine Z.lb 5 rfl ?_
  refine Z.lnil ?_
  refine Z.only [0, 1, 5, 6, 7, 8] rfl ?_
  refine Z.nthen ?_
  refine Z.seq ?_
  refine Z.region ?_
  refine Z.lb 1 rfl ?_
  refine Z.lnil ?_
  refine Z.only [0, 1, 5, 6, 7, 8, 9] rfl ?_
  refine Z.nthen ?_
  refine Z.seq ?_
  refine Z.seq ?_
  refine Z.region ?_
  refine Z.lb 1 rfl ?_
  refine Z.le rfl trivial ?_
  refine Z.ZO.call rfl rfl (by rfl) rfl rfl Try.call12 rfl (rvalid_any m _) ?_
  rintro v6_1 w6_1 ⟨rfl, hy⟩
  replace hs := hs.call hy
  clear hy
  try simp only [List.cons_append, List.nil_append, List.append_nil] at hs
  rw [hm]
  refine Z.lb 1 rfl ?_
  refine Z.lnil ?_
  refine Z.only [0, 1, 5, 6, 7, 8, 9, 33] rfl ?_
  refine Z.nthen ?_
  refine Z.cond rfl (fun h => absurd h (by simp)) (fun hc6 => ?_)
  refine Z.seq ?_
  refine Z.region ?_
  refine Z.lb 1 rfl ?_
  refine Z.le rfl trivial ?_
  refine Z.ZO.call rfl rfl (by rfl) rfl rfl Try.call16 rfl (rinside_any A n c ps _ (hr.st hs) hl (by omega)) ?_
  rintro v8_1 w8_1 ⟨rfl, hy⟩
  replace hs := hs.call hy
  clear hy
  try simp only [List.cons_append, List.nil_append, List.append_nil] at hs
  rw [hall]
  refine Z.lb 1 rfl ?_
  refine Z.lnil ?_
  refine Z.only [0, 1, 5, 6, 7, 8, 9, 36] rfl ?_
  refine Z.nthen ?_
  refine Z.cond rfl (fun hc8 => ?_) (fun h => absurd h (by simp))
  refine Z.region ?_
  refine Z.lb 1 rfl ?_
  refine Z.lnil ?_
  refine Z.only [0, 1, 5, 6, 7, 8, 9] rfl ?_
  refine Z.nthen ?_
  refine Z.seq ?_
  refine Z.seq ?_
  refine Z.region ?_
  refine Z.lb 2 rfl ?_
  refine Z.lnil ?_
  refine Z.only [0, 1, 5, 6, 7, 8, 9, 38] rfl ?_
  refine Z.nthen ?_
  refine Z.cond rfl (fun hc10 => ?_) (fun h => absurd h (by simp))
  refine Z.seq ?_
  refine Z.region ?_
  refine Z.lb 4 rfl ?_
  refine Z.yes (s := 42) (b := true) rfl ((by decide)) rfl ?_
  refine Z.lb 1 rfl ?_
  refine Z.l rfl rfl (by rfl) (Z.keepS hs) (Z.Yd.lenS rfl Try.underlying38) ?_
  refine Z.lb 1 rfl ?_
  refine Z.yes (s := 42) (b := true) rfl rfl rfl ?_
  refine Z.l rfl rfl (by rfl) (Z.keepS hs) (Z.Yd.pickT rfl rfl) ?_
  refine Z.lb 1 rfl ?_
  refine Z.yes (s := 47) (b := true) rfl ((by decide)) rfl ?_
  refine Z.lb 3 rfl ?_
  refine Z.yes (s := 47) (b := true) rfl rfl rfl ?_
  refine Z.l rfl rfl (by rfl) (Z.keepS hs) (Z.Yd.pickT rfl rfl) ?_
  refine Z.lb 1 rfl ?_
  refine Z.yes (s := 52) (b := true) rfl ((by decide)) rfl ?_
  refine Z.lb 1 rfl ?_
  refine Z.l rfl rfl (by rfl) (Z.keepS hs) (Z.Yd.lenS rfl Try.underlying23) ?_
  refine Z.lb 1 rfl ?_
  refine Z.yes (s := 52) (b := true) rfl rfl rfl ?_
  refine Z.l rfl rfl (by rfl) (Z.keepS hs) (Z.Yd.pickT rfl rfl) ?_
  refine Z.lb 1 rfl ?_
  refine Z.yes (s := 57) (b := true) rfl ((by decide)) rfl ?_
  refine Z.le rfl (by exact ⟨rfl, trivial⟩) ?_
  refine Z.ZO.call rfl rfl (by rfl) rfl rfl Try.call10 rfl (known_any _) ?_
  rintro v11_19 w11_19 ⟨rfl, hy⟩
  replace hs := hs.call hy
  clear hy
  try simp only [List.cons_append, List.nil_append, List.append_nil] at hs
  refine Z.l rfl rfl (by rfl) (Z.keepS hs) (Z.Yd.pickT rfl rfl) ?_
  refine Z.lb 1 rfl ?_
  refine Z.lnil ?_
  refine Z.only [4] rfl ?_
  refine Z.nthen ?_
  refine Z.ret ?_
  repeat (first | refine Z.rthen ?_ | refine Z.rblock ?_ | refine Z.rscope ?_)
  -- ret#0
  refine Z.out1 (by exact ⟨rfl, trivial⟩) ?_
  first | exact ⟨_, rfl, rfl, hs⟩ | exact ⟨_, rfl, rfl, hs.sub (List.nil_sublist _)⟩

theorem dml_take {n : Nat} {ps : List (Int × Int)} {i : Nat} (h : i < ps.length) : dml n (ps.take (i + 1)) = dml n (ps.take i) ++ ilv n (ptAt ps (i : Nat)) n := by rw [take_pt h, dml_snoc]
set_option maxRecDepth 100000 in
theorem softs_ok (A : Option Addr) (np c n : Nat) (ps : List (Int × Int)) (w : World) (hr : Sl w A (pcells ps)) (hl : ps.length = np) (hnp : np ≤ 100) (hn : 1 ≤ n) (hn3 : n ≤ 3) (hm : vm ((2 * n : Nat) : Int) = true) (hi : ∀ p ∈ ps, ins p = true) :
    Calls Try.prog 6 #[.int .i64 ((2 * n : Nat) : Int), .slice A np c] w (SX.Ret fun v w' => v = .bool true ∧ SX.St w [] w' []) := by
  have hs := SX.St.start w
  have hall : ps.all ins = true := List.all_eq_true.2 hi
  have hdl := dml_length n ps
  have hb : np * (2 * n) ≤ 100 * 6 := Nat.mul_le_mul hnp (by omega)
  obtain ⟨N, hN⟩ : ∃ N, N = np * (2 * n) := ⟨_, rfl⟩
  rw [hl] at hdl
  refine Z.enter Try.func6 rfl Try.ntmps6 rfl rfl ?_
  refine Z.seq ?_
  refine Z.region ?_
  refine Z.lb 1 rfl ?_
  refine Z.lnil ?_
  refine Z.only [0, 1] rfl ?_
  refine Z.nthen ?_
  refine Z.seq ?_
  refine Z.seq ?_
  refine Z.region ?_
  refine Z.lb 1 rfl ?_
  refine Z.l rfl rfl (by rfl) (Z.keepS hs) (Z.Yd.lenS rfl Try.underlying25) ?_
  refine Z.lb 1 rfl ?_
  refine Z.lnil ?_
  refine Z.only [0, 1, 17] rfl ?_
  refine Z.nthen ?_
  refine Z.cond rfl (fun h => absurd h (by simp; omega)) (fun hc1 => ?_)
  refine Z.skip ?_
  refine Z.nthen ?_
  refine Z.seq ?_
  refine Z.region ?_
  refine Z.lb 2 rfl ?_
  refine Z.le rfl trivial ?_
  refine Z.ZO.call rfl rfl (by rfl) rfl rfl Try.call17 rfl (demod_ok A np c n ps _ (hr.st hs) hl (by omega) hn hn3 hi) ?_
  rintro v3_2 w3_2 ⟨sv, rfl, hy⟩
  replace hs := hs.call hy
  clear hy
  try simp only [List.cons_append, List.nil_append, List.append_nil] at hs
  obtain ⟨Ad, cd, rfl, -, -, -⟩ := SX.row_slv hs (j := 0) rfl
  refine Z.lb 5 rfl ?_
  refine Z.lnil ?_
  refine Z.only [0, 1, 5, 6] rfl ?_
  refine Z.nthen ?_
  refine Z.seq ?_
  refine Z.region ?_
  refine Z.lb 2 rfl ?_
  refine Z.le rfl trivial ?_
  refine Z.ZO.call rfl rfl (by rfl) rfl rfl Try.call18 rfl (decide_ok A np c n ps _ (hr.st (hs.sub (List.nil_sublist _))) hl (by omega) hn hn3 hi) ?_
  rintro v4_2 w4_2 ⟨B, co, rfl, hy⟩
  replace hs := hs.call hy
  clear hy
  try simp only [List.cons_append, List.nil_append, List.append_nil] at hs
  rw [← hN] at hs hdl hb ⊢
  refine Z.lb 5 rfl ?_
  refine Z.lnil ?_
  refine Z.only [0, 1, 5, 6, 7, 8] rfl ?_
  refine Z.nthen ?_
  refine Z.seq ?_
  refine Z.region ?_
  refine Z.lb 1 rfl ?_
  refine Z.lnil ?_
  refine Z.only [0, 1, 5, 6, 7, 8, 9] rfl ?_
  refine Z.nthen ?_
  refine Z.seq ?_
  refine Z.seq ?_
  refine Z.region ?_
  refine Z.lb 1 rfl ?_
  refine Z.le rfl trivial ?_
  refine Z.ZO.call rfl rfl (by rfl) rfl rfl Try.call12 rfl (rvalid_any _ _) ?_
  rintro v6_1 w6_1 ⟨rfl, hy⟩
  replace hs := hs.call hy
  clear hy
  try simp only [List.cons_append, List.nil_append, List.append_nil] at hs
  rw [hm]
  refine Z.lb 1 rfl ?_
  refine Z.lnil ?_
  refine Z.only [0, 1, 5, 6, 7, 8, 9, 33] rfl ?_
  refine Z.nthen ?_
  refine Z.cond rfl (fun h => absurd h (by simp)) (fun hc6 => ?_)
  refine Z.seq ?_
  refine Z.region ?_
  refine Z.lb 1 rfl ?_
  refine Z.le rfl trivial ?_
  refine Z.ZO.call rfl rfl (by rfl) rfl rfl Try.call16 rfl (rinside_any A np c ps _ (hr.st (hs.sub (List.nil_sublist _))) hl (by omega)) ?_
  rintro v8_1 w8_1 ⟨rfl, hy⟩
  replace hs := hs.call hy
  clear hy
  try simp only [List.cons_append, List.nil_append, List.append_nil] at hs
  rw [hall]
  refine Z.lb 1 rfl ?_
  refine Z.lnil ?_
  refine Z.only [0, 1, 5, 6, 7, 8, 9, 36] rfl ?_
  refine Z.nthen ?_
  refine Z.cond rfl (fun h => absurd h (by simp)) (fun hc8 => ?_)
  refine Z.skip ?_
  refine Z.nthen ?_
  refine Z.seq ?_
  refine Z.seq ?_
  refine Z.region ?_
  refine Z.lb 2 rfl ?_
  refine Z.lnil ?_
  refine Z.only [0, 1, 5, 6, 7, 8, 9, 38] rfl ?_
  refine Z.nthen ?_
  refine Z.cond rfl (fun h => absurd h (by simp)) (fun hc10 => ?_)
  refine Z.skip ?_
  refine Z.nthen ?_
  refine Z.seq ?_
  refine Z.region ?_
  refine Z.lb 1 rfl ?_
  refine Z.lnil ?_
  refine Z.only [0, 1, 5, 6, 7, 8, 10] rfl ?_
  refine Z.nthen ?_
  refine Z.seq ?_
  refine Z.region ?_
  refine Z.lb 1 rfl ?_
  refine Z.lnil ?_
  refine Z.only [0, 1, 5, 6, 7, 8, 10, 11] rfl ?_
  replace hs : SX.St w [] _ [SX.Ent.row (.slice B N co) 5 1 N (ints .u8 ((dml n ps).map sgn)), SX.Ent.row (.slice Ad N cd) 3 1 N (ints .i64 (dml n ps))] := hs.sel [0, 1] (by decide)
  replace hs := hs.nil 3 1
  refine Z.nthen ?_
  refine Z.seq ?_
  refine Z.seq ?_
  refine Z.region ?_
  refine Z.lb 1 rfl ?_
  refine Z.lnil ?_
  refine Z.only [0, 1, 5, 6, 7, 8, 10, 11, 12] rfl ?_
  refine Z.nthen ?_
  refine Z.block ?_
  refine Z.loopk (ι := Nat × Value) [0, 1, 5, 6, 7, 8, 11] rfl (fun k => [(10, [], k.2), (12, [], .int .i64 (k.1 : Int))]) (fun k wr => k.1 ≤ np ∧ SX.St w [] wr [SX.Ent.row k.2 3 1 (k.1 * (2 * n)) (ints .i64 (dml n (ps.take k.1))), SX.Ent.row (.slice B N co) 5 1 N (ints .u8 ((dml n ps).map sgn)), SX.Ent.row (.slice Ad N cd) 3 1 N (ints .i64 (dml n ps))]) (fun k => np - k.1) (0, .slice none 0 0) (by refine ⟨?_, ?_, trivial⟩ <;> (first | rfl | (refine Z.lookv rfl ?_; simp; done) | (refine Z.lookv rfl ?_; simp; omega))) ⟨by omega, by simpa [dml, ints] using hs⟩ ?_
  clear hs
  rintro ⟨k, sw⟩ w1 ⟨hkn, hs⟩
  refine Z.only [0, 1, 5, 6, 7, 8, 10, 11, 12] rfl ?_
  dsimp only at hs
  dsimp only at hkn
  refine Z.seq ?_
  refine Z.seq ?_
  refine Z.region ?_
  refine Z.lb 2 rfl ?_
  refine Z.l rfl rfl (by rfl) (Z.keepS hs) (Z.Yd.lenS rfl Try.underlying25) ?_
  refine Z.lb 1 rfl ?_
  refine Z.lnil ?_
  refine Z.only [0, 1, 5, 6, 7, 8, 10, 11, 12, 63] rfl ?_
  refine Z.nthen ?_
  refine Z.cond rfl (fun hc15 => ?_) (fun hc15 => ?_)
  · first
      | (exfalso; simp at hc15 <;> omega)
      | (
        (try simp at hc15)
        have hx := hr.sx
        obtain ⟨b, off, rfl, hx⟩ := hx.some (by rw [pcells_length]; omega)
        have hf : ps[k]? = some (ptAt ps (k : Int)) := by
          rw [List.getElem?_eq_getElem (by omega)]
          simp [ptAt, show k < ps.length by omega]
        have hip := hi _ (List.mem_of_getElem? hf)
        have hil := ilv_length n (ptAt ps (k : Int)) n
        have hkb : k * (2 * n) ≤ 100 * 6 := Nat.mul_le_mul (by omega) (by omega)
        refine Z.skip ?_
        refine Z.nthen ?_
        refine Z.seq ?_
        refine Z.block ?_
        refine Z.region ?_
        refine Z.lb 4 rfl ?_
        refine Z.l rfl rfl (by rfl) (Z.keepS hs) (Z.Yd.elem rfl rfl Try.underlying25 Try.sizeOf32 (fun hG => ⟨(by first | omega | (have hG' := Z.gh rfl hG; simp at hG'; omega)), (by first | omega | (have hG' := Z.gh rfl hG; simp at hG'; omega))⟩)) ?_
        refine Z.l rfl rfl (by rfl) (Z.keepS hs) (Z.Yd.loadA _ rfl Try.isAgg32 (fun _ => Z.cellsX (enc := fun p : Int × Int => [Value.int .i64 p.1, .int .i64 p.2]) (s := 2) [.int .i64 (ptAt ps (k : Int)).1, .int .i64 (ptAt ps (k : Int)).2] hx (fun _ => rfl) hf rfl) (by exact Try.sizeOf32)) ?_
        refine Z.le rfl trivial ?_
        refine Z.ZO.call rfl rfl (by rfl) rfl rfl Try.call19 rfl (rsofts_any n (ptAt ps (k : Int)) _ hn hn3 hip) ?_
        rintro v17_6 w17_6 hy
        replace hs := hs.call hy
        clear hy
        try simp only [List.cons_append, List.nil_append, List.append_nil] at hs
        obtain ⟨As, cs, rfl, -, -, -⟩ := SX.row_slv hs (j := 0) rfl
        refine Z.le rfl trivial ?_
        refine Z.ZO.appendG (i0 := Try.t3) (size := 1) (bytes := 8) rfl rfl (by rfl) hs Try.underlying38 (by kernel_rfl) rfl rfl rfl rfl (by decide) rfl rfl (by first | exact SX.at0 | exact SX.at1 | exact SX.at2 | exact SX.at3 | exact SX.at4 | exact SX.at5 | exact Z.at6 | exact Z.at7 | exact Z.at8 | exact Z.at9 | exact Z.at10 | exact Z.at11 | exact Z.at12) (SX.row_slB hs (j := 0) rfl) (by first | rfl | (simp [ints_length]; done) | (simp [ints_length]; omega)) (by first | exact Z.ints_one | simp [Value.oneCell']) (by unfold maxLen; omega) (by omega) ?_
        clear hs; intro v73 w73 hs
        simp only [List.set_cons_zero, List.set_cons_succ] at hs
        refine Z.lb 1 rfl ?_
        refine Z.lnil ?_
        refine Z.only [0, 1, 5, 6, 7, 8, 10, 11, 12] rfl ?_
        refine Z.nblock ?_
        refine Z.nthen ?_
        refine Z.region ?_
        refine Z.lb 1 rfl ?_
        refine Z.l rfl rfl (by rfl) (Z.keepS hs) (Z.Yd.add rfl rfl (fun hG => Z.wi64 (by first | omega | (have hG' := Z.gh rfl hG; simp at hG'; omega)))) ?_
        refine Z.lb 1 rfl ?_
        refine Z.lnil ?_
        refine Z.only [0, 1, 5, 6, 7, 8, 10, 11, 12] rfl ?_
        refine Z.nthen ?_
        have e : ints .i64 (dml n (ps.take k)) ++ ints .i64 (ilv n (ptAt ps (k : Int)) n) = ints .i64 (dml n (ps.take (k + 1))) := by rw [dml_take (by omega)]; simp [ints]
        rw [e, show k * (2 * n) + 2 * n = (k + 1) * (2 * n) from by rw [Nat.add_mul, Nat.one_mul]] at hs
        exact Z.again (k + 1, _) (by refine ⟨?_, ?_, ?_, ?_, ?_, ?_, ?_, ?_, ?_, trivial⟩ <;> (first | rfl | (refine Z.lookv rfl ?_; simp; done) | (refine Z.lookv rfl ?_; simp; omega))) ⟨by simp only; omega, hs.tl⟩ (by simp only; omega)
        )
  · first
      | (exfalso; simp at hc15 <;> omega)
      | (
        (try simp at hc15)
        refine Z.exit ?_
        refine Z.xthen ?_
        refine Z.xthen ?_
        refine Z.xblock ?_
        refine Z.nthen ?_
        refine Z.seq ?_
        refine Z.seq ?_
        refine Z.region ?_
        refine Z.lb 1 rfl ?_
        refine Z.lnil ?_
        refine Z.only [5, 6, 7, 8, 10, 11, 13] rfl ?_
        obtain rfl : k = np := by omega
        rw [List.take_of_length_le (by omega), ← hN] at hs
        obtain ⟨Aw, cw, rfl, -, -, -⟩ := SX.row_slv hs (j := 0) rfl
        replace hs := hs.nil 5 1
        refine Z.nthen ?_
        refine Z.block ?_
        refine Z.loopk (ι := Nat × Value) [5, 6, 7, 8, 10] rfl (fun k => [(11, [], k.2), (13, [], .int .i64 (k.1 : Int))]) (fun k2 wr => k2.1 ≤ N ∧ SX.St w [] wr [SX.Ent.row k2.2 5 1 k2.1 (ints .u8 (((dml n ps).take k2.1).map sgn)), SX.Ent.row (.slice Aw N cw) 3 1 N (ints .i64 (dml n ps)), SX.Ent.row (.slice B N co) 5 1 N (ints .u8 ((dml n ps).map sgn)), SX.Ent.row (.slice Ad N cd) 3 1 N (ints .i64 (dml n ps))]) (fun k2 => N - k2.1) (0, .slice none 0 0) (by refine ⟨?_, ?_, trivial⟩ <;> (first | rfl | (refine Z.lookv rfl ?_; simp; done) | (refine Z.lookv rfl ?_; simp; omega))) ⟨by omega, by simpa [ints] using hs⟩ ?_
        clear hs
        rintro ⟨k2, sh⟩ w2 ⟨hk2, hs⟩
        refine Z.only [5, 6, 7, 8, 10, 11, 13] rfl ?_
        dsimp only at hs
        dsimp only at hk2
        refine Z.seq ?_
        refine Z.seq ?_
        refine Z.region ?_
        refine Z.lb 2 rfl ?_
        refine Z.l rfl rfl (by rfl) (Z.keepS hs) (Z.Yd.lenS rfl Try.underlying38) ?_
        refine Z.lb 1 rfl ?_
        refine Z.lnil ?_
        refine Z.only [5, 6, 7, 8, 10, 11, 13, 77] rfl ?_
        refine Z.nthen ?_
        refine Z.cond rfl (fun hc19 => ?_) (fun hc19 => ?_)
        · first
            | (exfalso; simp at hc19 <;> omega)
            | (
              (try simp at hc19)
              obtain ⟨gw, cw', e0, -, -⟩ := row_form (j := 1) hs rfl (by omega)
              simp only [Value.slice.injEq, true_and] at e0
              obtain ⟨rfl, rfl⟩ := e0
              have hwk : (dml n ps)[k2]? = some (elt (dml n ps) (k2 : Int)) := by
                rw [List.getElem?_eq_getElem (by omega)]
                simp [elt, show k2 < (dml n ps).length by omega]
              refine Z.skip ?_
              refine Z.nthen ?_
              refine Z.seq ?_
              refine Z.block ?_
              refine Z.seq ?_
              refine Z.region ?_
              refine Z.lb 1 rfl ?_
              refine Z.lnil ?_
              refine Z.only [5, 6, 7, 8, 10, 11, 13, 14] rfl ?_
              refine Z.nthen ?_
              refine Z.seq ?_
              refine Z.seq ?_
              refine Z.region ?_
              refine Z.lb 2 rfl ?_
              refine Z.l rfl rfl (by rfl) (Z.keepS hs) (Z.Yd.elem rfl rfl Try.underlying38 Try.sizeOf3 (fun hG => ⟨(by first | omega | (have hG' := Z.gh rfl hG; simp at hG'; omega)), (by first | omega | (have hG' := Z.gh rfl hG; simp at hG'; omega))⟩)) ?_
              refine Z.l rfl rfl (by rfl) (Z.keepS hs) (by first | exact Z.Yd.load rfl Try.isAgg3 (fun hG => Z.cellR (by first | ((repeat (first | exact List.mem_cons_self | refine List.mem_cons_of_mem _ ?_ | refine List.mem_append_right _ ?_)); done) | fail) (Z.ints_at (by first | omega | (have hG' := Z.gh rfl hG; simp at hG'; omega)) (by first | omega | (have hG' := Z.gh rfl hG; simp at hG'; omega)))) | exact Z.Yd.load rfl Try.isAgg3 (fun hG => Z.cellXi (by assumption) (by first | omega | (have hG' := Z.gh rfl hG; simp at hG'; omega)) (by first | omega | (have hG' := Z.gh rfl hG; simp at hG'; omega))) | exact Z.Yd.load rfl Try.isAgg3 (fun hG => Z.cellS (by assumption) rfl (by first | omega | (have hG' := Z.gh rfl hG; simp at hG'; omega)) (by first | omega | (have hG' := Z.gh rfl hG; simp at hG'; omega))) | fail "load 22.3") ?_
              refine Z.lb 1 rfl ?_
              refine Z.lnil ?_
              refine Z.only [5, 6, 7, 8, 10, 11, 13, 14, 84] rfl ?_
              refine Z.nthen ?_
              refine Z.cond rfl (fun hc22 => ?_) (fun hc22 => ?_)
              · first
                  | (exfalso; simp at hc22 <;> omega)
                  | (
                    (try simp at hc22)
                    refine Z.region ?_
                    refine Z.lb 1 rfl ?_
                    refine Z.lnil ?_
                    refine Z.only [5, 6, 7, 8, 10, 11, 13, 14] rfl ?_
                    refine Z.nthen ?_
                    refine Z.region ?_
                    refine Z.lb 2 rfl ?_
                    refine Z.le rfl trivial ?_
                    refine Z.ZO.lit rfl rfl (by rfl) rfl (by intro W; go_simp; exact rfl) hs ?_
                    clear hs; intro g87 w87 hs
                    refine Z.le rfl trivial ?_
                    refine Z.ZO.append (i0 := Try.t5) (size := 1) (bytes := 1) rfl rfl (by rfl) hs Try.underlying23 (by kernel_rfl) rfl rfl rfl rfl (by decide) rfl rfl (by first | exact SX.at0 | exact SX.at1 | exact SX.at2 | exact SX.at3 | exact SX.at4 | exact SX.at5 | exact Z.at6 | exact Z.at7 | exact Z.at8 | exact Z.at9 | exact Z.at10 | exact Z.at11 | exact Z.at12) (by first | exact SX.at0 | exact SX.at1 | exact SX.at2 | exact SX.at3 | exact SX.at4 | exact SX.at5 | exact Z.at6 | exact Z.at7 | exact Z.at8 | exact Z.at9 | exact Z.at10 | exact Z.at11 | exact Z.at12) (by first | rfl | simp) (by simp [Value.oneCell']) (by decide) (by unfold maxLen; omega) (by omega) ?_
                    clear hs; intro g88 cap88 w88 hs
                    simp only [List.set_cons_zero, List.set_cons_succ, List.eraseIdx_cons_zero, List.eraseIdx_cons_succ] at hs
                    refine Z.lb 1 rfl ?_
                    refine Z.lnil ?_
                    refine Z.only [5, 6, 7, 8, 10, 11, 13] rfl ?_
                    refine Z.nblock ?_
                    refine Z.nthen ?_
                    refine Z.region ?_
                    refine Z.lb 1 rfl ?_
                    refine Z.l rfl rfl (by rfl) (Z.keepS hs) (Z.Yd.add rfl rfl (fun hG => Z.wi64 (by first | omega | (have hG' := Z.gh rfl hG; simp at hG'; omega)))) ?_
                    refine Z.lb 1 rfl ?_
                    refine Z.lnil ?_
                    refine Z.only [5, 6, 7, 8, 10, 11, 13] rfl ?_
                    refine Z.nthen ?_
                    have e : ints .u8 (((dml n ps).take k2).map sgn) ++ [.int .u8 (sgn (elt (dml n ps) (k2 : Int)))] = ints .u8 (((dml n ps).take (k2 + 1)).map sgn) := by
                      rw [List.take_add_one, hwk]
                      simp [ints]
                    first
                    | (rw [show sgn (elt (dml n ps) (k2 : Int)) = 1 from by unfold sgn; rw [if_pos (by omega)]] at e
                       rw [e] at hs
                       exact Z.again (k2 + 1, _) (by refine ⟨?_, ?_, ?_, ?_, ?_, ?_, ?_, trivial⟩ <;> (first | rfl | (refine Z.lookv rfl ?_; simp; done) | (refine Z.lookv rfl ?_; simp; omega))) ⟨by simp only; omega, hs⟩ (by simp only; omega))
                    | (rw [show sgn (elt (dml n ps) (k2 : Int)) = 0 from by unfold sgn; rw [if_neg (by omega)]] at e
                       rw [e] at hs
                       exact Z.again (k2 + 1, _) (by refine ⟨?_, ?_, ?_, ?_, ?_, ?_, ?_, trivial⟩ <;> (first | rfl | (refine Z.lookv rfl ?_; simp; done) | (refine Z.lookv rfl ?_; simp; omega))) ⟨by simp only; omega, hs⟩ (by simp only; omega))
                    )
              · first
                  | (exfalso; simp at hc22 <;> omega)
                  | (
                    (try simp at hc22)
                    refine Z.skip ?_
                    refine Z.nthen ?_
                    refine Z.region ?_
                    refine Z.lb 2 rfl ?_
                    refine Z.le rfl trivial ?_
                    refine Z.ZO.lit rfl rfl (by rfl) rfl (by intro W; go_simp; exact rfl) hs ?_
                    clear hs; intro g87 w87 hs
                    refine Z.le rfl trivial ?_
                    refine Z.ZO.append (i0 := Try.t5) (size := 1) (bytes := 1) rfl rfl (by rfl) hs Try.underlying23 (by kernel_rfl) rfl rfl rfl rfl (by decide) rfl rfl (by first | exact SX.at0 | exact SX.at1 | exact SX.at2 | exact SX.at3 | exact SX.at4 | exact SX.at5 | exact Z.at6 | exact Z.at7 | exact Z.at8 | exact Z.at9 | exact Z.at10 | exact Z.at11 | exact Z.at12) (by first | exact SX.at0 | exact SX.at1 | exact SX.at2 | exact SX.at3 | exact SX.at4 | exact SX.at5 | exact Z.at6 | exact Z.at7 | exact Z.at8 | exact Z.at9 | exact Z.at10 | exact Z.at11 | exact Z.at12) (by first | rfl | simp) (by simp [Value.oneCell']) (by decide) (by unfold maxLen; omega) (by omega) ?_
                    clear hs; intro g88 cap88 w88 hs
                    simp only [List.set_cons_zero, List.set_cons_succ, List.eraseIdx_cons_zero, List.eraseIdx_cons_succ] at hs
                    refine Z.lb 1 rfl ?_
                    refine Z.lnil ?_
                    refine Z.only [5, 6, 7, 8, 10, 11, 13] rfl ?_
                    refine Z.nblock ?_
                    refine Z.nthen ?_
                    refine Z.region ?_
                    refine Z.lb 1 rfl ?_
                    refine Z.l rfl rfl (by rfl) (Z.keepS hs) (Z.Yd.add rfl rfl (fun hG => Z.wi64 (by first | omega | (have hG' := Z.gh rfl hG; simp at hG'; omega)))) ?_
                    refine Z.lb 1 rfl ?_
                    refine Z.lnil ?_
                    refine Z.only [5, 6, 7, 8, 10, 11, 13] rfl ?_
                    refine Z.nthen ?_
                    have e : ints .u8 (((dml n ps).take k2).map sgn) ++ [.int .u8 (sgn (elt (dml n ps) (k2 : Int)))] = ints .u8 (((dml n ps).take (k2 + 1)).map sgn) := by
                      rw [List.take_add_one, hwk]
                      simp [ints]
                    first
                    | (rw [show sgn (elt (dml n ps) (k2 : Int)) = 1 from by unfold sgn; rw [if_pos (by omega)]] at e
                       rw [e] at hs
                       exact Z.again (k2 + 1, _) (by refine ⟨?_, ?_, ?_, ?_, ?_, ?_, ?_, trivial⟩ <;> (first | rfl | (refine Z.lookv rfl ?_; simp; done) | (refine Z.lookv rfl ?_; simp; omega))) ⟨by simp only; omega, hs⟩ (by simp only; omega))
                    | (rw [show sgn (elt (dml n ps) (k2 : Int)) = 0 from by unfold sgn; rw [if_neg (by omega)]] at e
                       rw [e] at hs
                       exact Z.again (k2 + 1, _) (by refine ⟨?_, ?_, ?_, ?_, ?_, ?_, ?_, trivial⟩ <;> (first | rfl | (refine Z.lookv rfl ?_; simp; done) | (refine Z.lookv rfl ?_; simp; omega))) ⟨by simp only; omega, hs⟩ (by simp only; omega))
                    )
              )
        · first
            | (exfalso; simp at hc19 <;> omega)
            | (
              (try simp at hc19)
              refine Z.exit ?_
              refine Z.xthen ?_
              refine Z.xthen ?_
              refine Z.xblock ?_
              refine Z.nthen ?_
              refine Z.seq ?_
              refine Z.region ?_
              obtain rfl : k2 = N := by omega
              rw [List.take_of_length_le (by omega)] at hs
              obtain ⟨Ah, ch, rfl, -, -, -⟩ := SX.row_slv hs (j := 0) rfl
              refine Z.l rfl rfl (by rfl) (Z.keepS hs) (Z.Yd.pure rfl) ?_
              refine Z.lb 4 rfl ?_
              refine Z.yes (s := 91) (b := true) rfl ((by decide)) rfl ?_
              refine Z.le rfl (by exact ⟨rfl, trivial⟩) ?_
              refine Z.ZO.call rfl rfl (by rfl) rfl rfl Try.call20 rfl (sameI_any Ad Aw _ _ cd cw (dml n ps) (dml n ps) _ (SX.row_slB hs (j := 3) rfl) (SX.row_slB hs (j := 1) rfl) hdl hdl (by omega) (by omega)) ?_
              rintro v25_5 w25_5 ⟨rfl, hy⟩
              replace hs := hs.call hy
              clear hy
              try simp only [List.cons_append, List.nil_append, List.append_nil] at hs
              refine Z.l rfl rfl (by rfl) (Z.keepS hs) (Z.Yd.pickT rfl rfl) ?_
              refine Z.lb 1 rfl ?_
              refine Z.yes (s := 96) (b := true) rfl ((by simp)) rfl ?_
              refine Z.lb 2 rfl ?_
              refine Z.yes (s := 96) (b := true) rfl rfl rfl ?_
              refine Z.l rfl rfl (by rfl) (Z.keepS hs) (Z.Yd.pickT rfl rfl) ?_
              refine Z.lb 3 rfl ?_
              refine Z.yes (s := 100) (b := true) rfl ((by decide)) rfl ?_
              refine Z.le rfl (by exact ⟨rfl, trivial⟩) ?_
              refine Z.ZO.call rfl rfl (by rfl) rfl rfl Try.call21 rfl (sameB_any B Ah _ _ _ ch ((dml n ps).map sgn) ((dml n ps).map sgn) _ (SX.row_slB hs (j := 2) rfl) (SX.row_slB hs (j := 0) rfl) (by simpa using hdl) (by simpa using hdl) rfl (by omega)) ?_
              rintro v25_14 w25_14 ⟨rfl, hy⟩
              replace hs := hs.call hy
              clear hy
              try simp only [List.cons_append, List.nil_append, List.append_nil] at hs
              refine Z.l rfl rfl (by rfl) (Z.keepS hs) (Z.Yd.pickT rfl rfl) ?_
              refine Z.lb 1 rfl ?_
              refine Z.yes (s := 105) (b := true) rfl ((by decide)) rfl ?_
              refine Z.le rfl (by exact ⟨rfl, trivial⟩) ?_
              refine Z.ZO.call rfl rfl (by rfl) rfl rfl Try.call10 rfl (known_any _) ?_
              rintro v25_17 w25_17 ⟨rfl, hy⟩
              replace hs := hs.call hy
              clear hy
              try simp only [List.cons_append, List.nil_append, List.append_nil] at hs
              refine Z.l rfl rfl (by rfl) (Z.keepS hs) (Z.Yd.pickT rfl rfl) ?_
              refine Z.lb 1 rfl ?_
              refine Z.lnil ?_
              refine Z.only [4] rfl ?_
              refine Z.nthen ?_
              refine Z.ret ?_
              -- ret#0
              refine Z.out1 (by exact ⟨rfl, trivial⟩) ?_
              first | exact ⟨_, rfl, rfl, hs⟩ | exact ⟨_, rfl, rfl, hs.sub (List.nil_sublist _)⟩
              )
        )

theorem rd_points {W : World} {A : Option Addr} {n c : Nat} (z : Rd Try.prog W 25 [.slice A n c]) : ∃ ps : List (Int × Int), ps.length = n ∧ n ≤ maxLen ∧ Sl W A (pcells ps) := by
  have c2 : Try.prog.cellsOf 32 = 2 := by kernel_rfl
  obtain ⟨xs, h1, h2, h3, h4, h5⟩ := Rd.rows (fun p : Int × Int => [Value.int .i64 p.1, .int .i64 p.2]) (fun _ => True) Try.underlying25 (by rw [c2]; decide)
    (fun r hr => by
      obtain ⟨x, y, h, -, -⟩ := rd_point hr
      exact ⟨(x, y), h, trivial⟩) (fun x => c2.symm) z
  exact ⟨xs, h1, Nat.le_trans h2 h3, h5⟩
theorem qamSofts_rd (a0 : Int) (a1 : Option Addr) (len1 cap1 : Nat) (w : World) (z0 : Rd Try.prog w 22 (Value.int .i64 a0).cells.toList) (z1 : Rd Try.prog w 25 (Value.slice a1 len1 cap1).cells.toList) :
    Calls Try.prog 6 #[.int .i64 a0, .slice a1 len1 cap1] w fun e w' => e = .returned (.bool true) ∧ Below w.heap.size w w' := by
  obtain ⟨ps, h1, h2, h3⟩ := rd_points z1
  have key : Calls Try.prog 6 #[.int .i64 a0, .slice a1 len1 cap1] w (SX.Ret fun v w' => v = .bool true ∧ SX.St w [] w' []) := by
    by_cases hl : 100 < len1
    · exact softs_long a0 a1 len1 cap1 w hl
    · by_cases hv : vm a0 = true
      · cases hi : ps.any (fun p => !ins p) with
        | true => exact softs_range a0 a1 len1 cap1 ps w h3 h1 (by omega) hv hi
        | false =>
          have hall : ∀ p ∈ ps, ins p = true := by simpa using hi
          have hm : a0 = 2 ∨ a0 = 4 ∨ a0 = 6 := by simp [vm] at hv; omega
          obtain ⟨n, hn, hn3, rfl⟩ : ∃ n : Nat, 1 ≤ n ∧ n ≤ 3 ∧ a0 = ((2 * n : Nat) : Int) := by
            rcases hm with rfl | rfl | rfl
            · exact ⟨1, by omega, by omega, rfl⟩
            · exact ⟨2, by omega, by omega, rfl⟩
            · exact ⟨3, by omega, by omega, rfl⟩
          exact softs_ok a1 len1 cap1 n ps w h3 h1 (by omega) hn hn3 hv hall
      · exact softs_arg a0 a1 len1 cap1 w (by simpa using hv) (by omega)
  refine key.mono ?_
  rintro e w' ⟨v, rfl, rfl, h⟩
  exact ⟨rfl, h.below⟩
end Go.Proofs.Ythncbdoiilgnhaa
