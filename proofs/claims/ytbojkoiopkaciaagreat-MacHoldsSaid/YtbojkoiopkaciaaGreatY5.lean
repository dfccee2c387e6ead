/- Part 5 of the proofs that lead to the statement. -/
import Derived.Test.YtbojkoiopkaciaaGreatY4
import Derived.Test.YtbojkoiopkaciaaGreatRows
/- MAC PDUs: a length field read. -/
namespace Go.Proofs.YtbojkoiopkaciaaGreat
open Go.RowKit
set_option linter.unusedSimpArgs false
set_option linter.unusedVariables false
--newlaws

def lnE (l : List Int) (p : Nat) : Int := if ¬ p < l.length then 5 else if byB l p < 128 then (if byB l p = 0 then 9 else 0) else if ¬ p + 1 < l.length then 5 else if 127 < byB l p % 128 * 256 + byB l (p + 1) then 0 else 9
def lnV (l : List Int) (p : Nat) : Int := if byB l p < 128 then byB l p else byB l p % 128 * 256 + byB l (p + 1)
def lnP (l : List Int) (p : Nat) : Nat := if byB l p < 128 then p + 1 else p + 2
abbrev LenR (g T : Nat) (sv : Value) (l : List Int) (p : Nat) (w : World) : Ending → World → Prop := Z.Bo (fun v w' => lnE l p = 0 ∧ v = .int .i64 (lnV l p) ∧ SX.St w (SX.idsOf (RdL g T sv l (8 * p))) w' (RdL g T sv l (8 * lnP l p))) fun c w' => lnE l p ≠ 0 ∧ c = mperr (lnE l p) ∧ ∃ a', SX.St w (SX.idsOf (RdL g T sv l (8 * p))) w' (RdL g T sv l a')
set_option maxRecDepth 100000 in
theorem ml_none (g T : Nat) (sv : Value) (l : List Int) (p : Nat) (w : World) (hs : SX.St w (SX.idsOf (RdL g T sv l (8 * p))) w (RdL g T sv l (8 * p))) (hl : l.length ≤ 1000000) (hb : ∀ x ∈ l, 0 ≤ x ∧ x < 256) (hp : p ≤ l.length) (h : ¬ p < l.length) :
    Calls Tryz.prog 165 #[.agg #[.pointer (some ⟨g, 0, none⟩)]] w (MPan 5 fun w' => ∃ a', SX.St w (SX.idsOf (RdL g T sv l (8 * p))) w' (RdL g T sv l a')) := by
  generalize hM : SX.idsOf (RdL g T sv l (8 * p)) = M at *
  refine Z.enter Tryz.func165 rfl Tryz.ntmps165 rfl rfl ?_
  refine Z.g90 ?_
  clear hs; intro g1 w1 hs
  refine Z.g1 ?_
  refine Z.only [1] rfl ?_
  refine Z.g150 ?_
  refine Z.drawP [SX.Ent.blk g1 190 #[.pointer (some ⟨g, 0, none⟩)]] (fun _ => true) mixed hs ?_
  clear hs; intro wd1 hs
  refine Z.tXP 1 [1, 2, 3, 5] (fun _ _ _ _ _ h => h) rfl rfl rfl (by rfl) Z.b4 ⟨_, hs, Z.b2⟩ Z.b27 ?_
  refine Z.forkP [0, 4] rfl Z.b4 rfl ⟨⟨_, _, rfl, rfl, trivial, ?_⟩, ⟨_, _, rfl, rfl, trivial, ?_⟩, trivial⟩
  · skip
    refine Z.g55 ?_
    rintro v1_0 w1_0 ⟨rfl, hy⟩
    replace hs := Z.w1 (hs.call hy); clear hy
    refine Z.tkP (Dn := fun _ => true) (i := 0) (fun _ => ⟨_, hs, Z.b2⟩) ?_
    refine Z.forkP [2, 4] rfl Z.b4 rfl ⟨⟨_, _, rfl, rfl, trivial, ?_⟩, ⟨_, _, rfl, rfl, trivial, ?_⟩, trivial⟩
    · skip
      replace hs : SX.St w M _ (RdL g T sv l (8 * p) ++ [_]) := hs.rot (L1 := [_])
      refine Z.ZO.callP rfl rfl rfl Tryz.call162 rfl (mm_bits_bad g T sv l (8 * p) 1 _ hs.lend hl hb Z.b9 Z.b9 Z.b9) ?_
      rintro c1_2 w1_2 ⟨rfl, a', hz⟩
      replace hs := hs.regain hz
      repeat (first | refine Z.pthen ?_ | refine Z.pblock ?_ | refine Z.pscope ?_)
      refine Z.outp ?_
      exact ⟨_, rfl, rfl, _, hs.sub (List.sublist_append_left _ _)⟩
    skip
    refine Z.g79 ?_
    clear hs; intro g3 w3 hs
    refine Z.tkP (Dn := fun _ => true) (i := 4) (fun _ => ⟨_, hs, Z.b2⟩) ?_
    replace hs : SX.St w M _ (RdL g T sv l (8 * p) ++ [_, _]) := hs.rot (L1 := [_, _])
    refine Z.tnP 2 rfl rfl Z.b4 rfl trivial ?_
    refine Z.ZO.callP rfl rfl rfl Tryz.call162 rfl (mm_bits_bad g T sv l (8 * p) 1 _ hs.lend hl hb Z.b9 Z.b9 Z.b9) ?_
    rintro c1_2 w1_2 ⟨rfl, a', hz⟩
    replace hs := hs.regain hz
    repeat (first | refine Z.pthen ?_ | refine Z.pblock ?_ | refine Z.pscope ?_)
    refine Z.outp ?_
    exact ⟨_, rfl, rfl, _, hs.sub (List.sublist_append_left _ _)⟩
  skip
  refine Z.g79 ?_
  clear hs; intro g3 w3 hs
  refine Z.tkP (Dn := fun _ => true) (i := 4) (fun _ => ⟨_, hs, Z.b2⟩) ?_
  refine Z.tnP 0 rfl rfl Z.b4 rfl trivial ?_
  refine Z.g55 ?_
  rintro v1_0 w1_0 ⟨rfl, hy⟩
  replace hs := Z.w1 (hs.call hy); clear hy
  refine Z.tkP (Dn := fun _ => true) (i := 0) (fun _ => ⟨_, hs, Z.b2⟩) ?_
  replace hs : SX.St w M _ (RdL g T sv l (8 * p) ++ [_, _]) := hs.rot (L1 := [_, _])
  refine Z.tnP 2 rfl rfl Z.b4 rfl trivial ?_
  refine Z.ZO.callP rfl rfl rfl Tryz.call162 rfl (mm_bits_bad g T sv l (8 * p) 1 _ hs.lend hl hb Z.b9 Z.b9 Z.b9) ?_
  rintro c1_2 w1_2 ⟨rfl, a', hz⟩
  replace hs := hs.regain hz
  repeat (first | refine Z.pthen ?_ | refine Z.pblock ?_ | refine Z.pscope ?_)
  refine Z.outp ?_
  exact ⟨_, rfl, rfl, _, hs.sub (List.sublist_append_left _ _)⟩
set_option maxHeartbeats 1000000 in
set_option maxRecDepth 100000 in
theorem ml_short (g T : Nat) (sv : Value) (l : List Int) (p : Nat) (w : World) (hs : SX.St w (SX.idsOf (RdL g T sv l (8 * p))) w (RdL g T sv l (8 * p))) (hl : l.length ≤ 1000000) (hb : ∀ x ∈ l, 0 ≤ x ∧ x < 256) (h : p < l.length) (h1 : byB l p < 128) :
    Calls Tryz.prog 165 #[.agg #[.pointer (some ⟨g, 0, none⟩)]] w (Z.Bo (fun v w' => byB l p ≠ 0 ∧ v = .int .i64 (byB l p) ∧ SX.St w (SX.idsOf (RdL g T sv l (8 * p))) w' (RdL g T sv l (8 * (p + 1)))) fun c w' => byB l p = 0 ∧ c = mperr 9 ∧ ∃ a', SX.St w (SX.idsOf (RdL g T sv l (8 * p))) w' (RdL g T sv l a')) := by
  generalize hM : SX.idsOf (RdL g T sv l (8 * p)) = M at *
  obtain ⟨-, -, -, f4, f5, -⟩ := head_get hb h
  have h0 := byB_bd hb h
  have e1 : getV l (8 * p) ((1 : Nat) : Int) = 0 := by
    have : getV l (8 * p) 1 = 0 := by rw [f4]; omega
    exact this
  have e2 : getV l (8 * p + 1) ((7 : Nat) : Int) = byB l p := by
    have : getV l (8 * p + 1) 7 = byB l p := by rw [f5]; omega
    exact this
  refine Z.enter Tryz.func165 rfl Tryz.ntmps165 rfl rfl ?_
  refine Z.g90 ?_
  clear hs; intro g1 w1 hs
  refine Z.g1 ?_
  refine Z.g217 ?_
  clear hs; intro wd1 hs
  refine Z.t 1 rfl rfl rfl (by rfl) Z.b4 ⟨_, hs, Z.b2⟩ Z.b27 ?_
  refine Z.fork2 0 4 rfl rfl rfl Z.b4 rfl rfl trivial trivial ?_ ?_
  · skip
    refine Z.g55 ?_
    rintro v1_0 w1_0 ⟨rfl, hy⟩
    replace hs := Z.w1 (hs.call hy); clear hy
    refine Z.g147 ?_
    refine Z.fork2 2 4 rfl rfl rfl Z.b4 rfl rfl trivial trivial ?_ ?_
    · skip
      replace hs : SX.St w M _ (RdL g T sv l (8 * p) ++ [_]) := hs.rot (L1 := [_])
      refine Z.g54 ?_
      rintro v1_2 w1_2 ⟨rfl, hz⟩
      replace hs := hs.regain hz
      rw [e1]
      simp only [RdL, List.cons_append, List.nil_append] at hs
      refine Z.g146 ?_
      refine Z.tn 4 rfl rfl Z.b4 rfl trivial ?_
      refine Z.g79 ?_
      clear hs; intro g3 w3 hs
      refine Z.g83 ?_
      refine Z.g105 ?_
      clear hs; intro ws hs
      replace hs := Z.w0 hs
      replace hs := Z.w3 hs
      refine Z.g246 ?_
      replace hs : SX.St w M _ (RdL g T sv l (8 * p + 1) ++ [SX.Ent.blk g3 _ _, SX.Ent.blk g1 _ _]) := hs.sel [1, 2, 0, 3] Z.b12
      refine Z.g3 ?_
      refine Z.g199 ?_
      rintro v2_3 w2_3 ⟨rfl, hz⟩
      replace hs := hs.regain hz
      rw [e2]
      simp only [RdL, List.cons_append, List.nil_append] at hs
      refine Z.g253 ?_
      refine Z.split (s := 15) rfl (fun hsp15 => ?_) (fun hsp15 => ?_)
      · refine Z.yes (s := 15) (b := true) rfl hsp15 rfl ?_
        (try simp at hsp15)
        refine Z.g160 ?_
        refine Z.g3 ?_
        refine Z.ZO.callB rfl rfl (by rfl) rfl rfl Tryz.call109 rfl (mm_must_any _ 9 _) ?_ ?_
        · skip
          rintro v3_14 w3_14 ⟨hm, rfl, hy⟩
          replace hs := Z.w1 (hs.call hy); clear hy
          refine Z.g122 ?_
          refine Z.g52 ?_
          exact .inl ⟨_, rfl, by first | omega | simp_all, rfl, hs.sel [0, 1] Z.b12⟩
        skip
        rintro c3_14 w3_14 ⟨hm, rfl, hy⟩
        replace hs := Z.w1 (hs.call hy); clear hy
        repeat (first | refine Z.pthen ?_ | refine Z.pblock ?_ | refine Z.pscope ?_)
        refine Z.outp ?_
        exact .inr ⟨_, rfl, by first | omega | simp_all, rfl, _, hs.sel [0, 1] Z.b12⟩
      refine Z.yes (s := 15) (b := false) rfl hsp15 rfl ?_
      (try simp at hsp15)
      refine Z.g66 ?_
      refine Z.g3 ?_
      refine Z.ZO.callB rfl rfl (by rfl) rfl rfl Tryz.call109 rfl (mm_must_any _ 9 _) ?_ ?_
      · skip
        rintro v3_14 w3_14 ⟨hm, rfl, hy⟩
        replace hs := Z.w1 (hs.call hy); clear hy
        refine Z.g122 ?_
        refine Z.g52 ?_
        exact .inl ⟨_, rfl, by first | omega | simp_all, rfl, hs.sel [0, 1] Z.b12⟩
      skip
      rintro c3_14 w3_14 ⟨hm, rfl, hy⟩
      replace hs := Z.w1 (hs.call hy); clear hy
      repeat (first | refine Z.pthen ?_ | refine Z.pblock ?_ | refine Z.pscope ?_)
      refine Z.outp ?_
      exact .inr ⟨_, rfl, by first | omega | simp_all, rfl, _, hs.sel [0, 1] Z.b12⟩
    skip
    refine Z.g79 ?_
    clear hs; intro g3 w3 hs
    refine Z.g83 ?_
    replace hs : SX.St w M _ (RdL g T sv l (8 * p) ++ [_, _]) := hs.rot (L1 := [_, _])
    refine Z.g141 ?_
    refine Z.g54 ?_
    rintro v1_2 w1_2 ⟨rfl, hz⟩
    replace hs := hs.regain hz
    rw [e1]
    simp only [RdL, List.cons_append, List.nil_append] at hs
    refine Z.g146 ?_
    refine Z.g105 ?_
    clear hs; intro ws hs
    replace hs := Z.w0 hs
    replace hs := Z.w3 hs
    refine Z.g246 ?_
    replace hs : SX.St w M _ (RdL g T sv l (8 * p + 1) ++ [SX.Ent.blk g3 _ _, SX.Ent.blk g1 _ _]) := hs.sel [0, 1, 2, 3] Z.b12
    refine Z.g3 ?_
    refine Z.g199 ?_
    rintro v2_3 w2_3 ⟨rfl, hz⟩
    replace hs := hs.regain hz
    rw [e2]
    simp only [RdL, List.cons_append, List.nil_append] at hs
    refine Z.g253 ?_
    refine Z.split (s := 15) rfl (fun hsp15 => ?_) (fun hsp15 => ?_)
    · refine Z.yes (s := 15) (b := true) rfl hsp15 rfl ?_
      (try simp at hsp15)
      refine Z.g160 ?_
      refine Z.g3 ?_
      refine Z.ZO.callB rfl rfl (by rfl) rfl rfl Tryz.call109 rfl (mm_must_any _ 9 _) ?_ ?_
      · skip
        rintro v3_14 w3_14 ⟨hm, rfl, hy⟩
        replace hs := Z.w1 (hs.call hy); clear hy
        refine Z.g122 ?_
        refine Z.g52 ?_
        exact .inl ⟨_, rfl, by first | omega | simp_all, rfl, hs.sel [0, 1] Z.b12⟩
      skip
      rintro c3_14 w3_14 ⟨hm, rfl, hy⟩
      replace hs := Z.w1 (hs.call hy); clear hy
      repeat (first | refine Z.pthen ?_ | refine Z.pblock ?_ | refine Z.pscope ?_)
      refine Z.outp ?_
      exact .inr ⟨_, rfl, by first | omega | simp_all, rfl, _, hs.sel [0, 1] Z.b12⟩
    refine Z.yes (s := 15) (b := false) rfl hsp15 rfl ?_
    (try simp at hsp15)
    refine Z.g66 ?_
    refine Z.g3 ?_
    refine Z.ZO.callB rfl rfl (by rfl) rfl rfl Tryz.call109 rfl (mm_must_any _ 9 _) ?_ ?_
    · skip
      rintro v3_14 w3_14 ⟨hm, rfl, hy⟩
      replace hs := Z.w1 (hs.call hy); clear hy
      refine Z.g122 ?_
      refine Z.g52 ?_
      exact .inl ⟨_, rfl, by first | omega | simp_all, rfl, hs.sel [0, 1] Z.b12⟩
    skip
    rintro c3_14 w3_14 ⟨hm, rfl, hy⟩
    replace hs := Z.w1 (hs.call hy); clear hy
    repeat (first | refine Z.pthen ?_ | refine Z.pblock ?_ | refine Z.pscope ?_)
    refine Z.outp ?_
    exact .inr ⟨_, rfl, by first | omega | simp_all, rfl, _, hs.sel [0, 1] Z.b12⟩
  skip
  refine Z.g79 ?_
  clear hs; intro g3 w3 hs
  refine Z.g83 ?_
  refine Z.tn 0 rfl rfl Z.b4 rfl trivial ?_
  refine Z.g55 ?_
  rintro v1_0 w1_0 ⟨rfl, hy⟩
  replace hs := Z.w1 (hs.call hy); clear hy
  refine Z.g147 ?_
  replace hs : SX.St w M _ (RdL g T sv l (8 * p) ++ [_, _]) := hs.rot (L1 := [_, _])
  refine Z.g141 ?_
  refine Z.g54 ?_
  rintro v1_2 w1_2 ⟨rfl, hz⟩
  replace hs := hs.regain hz
  rw [e1]
  simp only [RdL, List.cons_append, List.nil_append] at hs
  refine Z.g146 ?_
  refine Z.g105 ?_
  clear hs; intro ws hs
  replace hs := Z.w0 hs
  replace hs := Z.w3 hs
  refine Z.g246 ?_
  replace hs : SX.St w M _ (RdL g T sv l (8 * p + 1) ++ [SX.Ent.blk g3 _ _, SX.Ent.blk g1 _ _]) := hs.sel [0, 1, 2, 3] Z.b12
  refine Z.g3 ?_
  refine Z.g199 ?_
  rintro v2_3 w2_3 ⟨rfl, hz⟩
  replace hs := hs.regain hz
  rw [e2]
  simp only [RdL, List.cons_append, List.nil_append] at hs
  refine Z.g253 ?_
  refine Z.split (s := 15) rfl (fun hsp15 => ?_) (fun hsp15 => ?_)
  · refine Z.yes (s := 15) (b := true) rfl hsp15 rfl ?_
    (try simp at hsp15)
    refine Z.g160 ?_
    refine Z.g3 ?_
    refine Z.ZO.callB rfl rfl (by rfl) rfl rfl Tryz.call109 rfl (mm_must_any _ 9 _) ?_ ?_
    · skip
      rintro v3_14 w3_14 ⟨hm, rfl, hy⟩
      replace hs := Z.w1 (hs.call hy); clear hy
      refine Z.g122 ?_
      refine Z.g52 ?_
      exact .inl ⟨_, rfl, by first | omega | simp_all, rfl, hs.sel [0, 1] Z.b12⟩
    skip
    rintro c3_14 w3_14 ⟨hm, rfl, hy⟩
    replace hs := Z.w1 (hs.call hy); clear hy
    repeat (first | refine Z.pthen ?_ | refine Z.pblock ?_ | refine Z.pscope ?_)
    refine Z.outp ?_
    exact .inr ⟨_, rfl, by first | omega | simp_all, rfl, _, hs.sel [0, 1] Z.b12⟩
  refine Z.yes (s := 15) (b := false) rfl hsp15 rfl ?_
  (try simp at hsp15)
  refine Z.g66 ?_
  refine Z.g3 ?_
  refine Z.ZO.callB rfl rfl (by rfl) rfl rfl Tryz.call109 rfl (mm_must_any _ 9 _) ?_ ?_
  · skip
    rintro v3_14 w3_14 ⟨hm, rfl, hy⟩
    replace hs := Z.w1 (hs.call hy); clear hy
    refine Z.g122 ?_
    refine Z.g52 ?_
    exact .inl ⟨_, rfl, by first | omega | simp_all, rfl, hs.sel [0, 1] Z.b12⟩
  skip
  rintro c3_14 w3_14 ⟨hm, rfl, hy⟩
  replace hs := Z.w1 (hs.call hy); clear hy
  repeat (first | refine Z.pthen ?_ | refine Z.pblock ?_ | refine Z.pscope ?_)
  refine Z.outp ?_
  exact .inr ⟨_, rfl, by first | omega | simp_all, rfl, _, hs.sel [0, 1] Z.b12⟩
set_option maxHeartbeats 1000000 in
set_option maxRecDepth 100000 in
theorem ml_cut (g T : Nat) (sv : Value) (l : List Int) (p : Nat) (w : World) (hs : SX.St w (SX.idsOf (RdL g T sv l (8 * p))) w (RdL g T sv l (8 * p))) (hl : l.length ≤ 1000000) (hb : ∀ x ∈ l, 0 ≤ x ∧ x < 256) (h : p < l.length) (h1 : ¬ byB l p < 128) (h2 : ¬ p + 1 < l.length) :
    Calls Tryz.prog 165 #[.agg #[.pointer (some ⟨g, 0, none⟩)]] w (MPan 5 fun w' => ∃ a', SX.St w (SX.idsOf (RdL g T sv l (8 * p))) w' (RdL g T sv l a')) := by
  generalize hM : SX.idsOf (RdL g T sv l (8 * p)) = M at *
  obtain ⟨-, -, -, f4, f5, -⟩ := head_get hb h
  have h0 := byB_bd hb h
  have e1 : getV l (8 * p) ((1 : Nat) : Int) = 1 := by
    have : getV l (8 * p) 1 = 1 := by rw [f4]; omega
    exact this
  refine Z.enter Tryz.func165 rfl Tryz.ntmps165 rfl rfl ?_
  refine Z.g90 ?_
  clear hs; intro g1 w1 hs
  refine Z.g1 ?_
  refine Z.g217 ?_
  clear hs; intro wd1 hs
  refine Z.t 1 rfl rfl rfl (by rfl) Z.b4 ⟨_, hs, Z.b2⟩ Z.b27 ?_
  refine Z.fork2 0 4 rfl rfl rfl Z.b4 rfl rfl trivial trivial ?_ ?_
  · skip
    refine Z.g55 ?_
    rintro v1_0 w1_0 ⟨rfl, hy⟩
    replace hs := Z.w1 (hs.call hy); clear hy
    refine Z.g147 ?_
    refine Z.fork2 2 4 rfl rfl rfl Z.b4 rfl rfl trivial trivial ?_ ?_
    · skip
      replace hs : SX.St w M _ (RdL g T sv l (8 * p) ++ [_]) := hs.rot (L1 := [_])
      refine Z.g54 ?_
      rintro v1_2 w1_2 ⟨rfl, hz⟩
      replace hs := hs.regain hz
      rw [e1]
      simp only [RdL, List.cons_append, List.nil_append] at hs
      refine Z.g67 ?_
      refine Z.tn 4 rfl rfl Z.b4 rfl trivial ?_
      refine Z.g79 ?_
      clear hs; intro g3 w3 hs
      refine Z.g83 ?_
      refine Z.g105 ?_
      clear hs; intro ws hs
      replace hs := Z.w0 hs
      replace hs := Z.w3 hs
      refine Z.g246 ?_
      replace hs : SX.St w M _ (RdL g T sv l (8 * p + 1) ++ [SX.Ent.blk g3 _ _, SX.Ent.blk g1 _ _]) := hs.sel [1, 2, 0, 3] Z.b12
      refine Z.g3 ?_
      refine Z.g208 ?_
      rintro c2_3 w2_3 ⟨rfl, a', hz⟩
      replace hs := hs.regain hz
      repeat (first | refine Z.pthen ?_ | refine Z.pblock ?_ | refine Z.pscope ?_)
      refine Z.outp ?_
      exact ⟨_, rfl, rfl, _, hs.sub (List.sublist_append_left _ _)⟩
    skip
    refine Z.g79 ?_
    clear hs; intro g3 w3 hs
    refine Z.g83 ?_
    replace hs : SX.St w M _ (RdL g T sv l (8 * p) ++ [_, _]) := hs.rot (L1 := [_, _])
    refine Z.g141 ?_
    refine Z.g54 ?_
    rintro v1_2 w1_2 ⟨rfl, hz⟩
    replace hs := hs.regain hz
    rw [e1]
    simp only [RdL, List.cons_append, List.nil_append] at hs
    refine Z.g67 ?_
    refine Z.g105 ?_
    clear hs; intro ws hs
    replace hs := Z.w0 hs
    replace hs := Z.w3 hs
    refine Z.g246 ?_
    replace hs : SX.St w M _ (RdL g T sv l (8 * p + 1) ++ [SX.Ent.blk g3 _ _, SX.Ent.blk g1 _ _]) := hs.sel [0, 1, 2, 3] Z.b12
    refine Z.g3 ?_
    refine Z.g208 ?_
    rintro c2_3 w2_3 ⟨rfl, a', hz⟩
    replace hs := hs.regain hz
    repeat (first | refine Z.pthen ?_ | refine Z.pblock ?_ | refine Z.pscope ?_)
    refine Z.outp ?_
    exact ⟨_, rfl, rfl, _, hs.sub (List.sublist_append_left _ _)⟩
  skip
  refine Z.g79 ?_
  clear hs; intro g3 w3 hs
  refine Z.g83 ?_
  refine Z.tn 0 rfl rfl Z.b4 rfl trivial ?_
  refine Z.g55 ?_
  rintro v1_0 w1_0 ⟨rfl, hy⟩
  replace hs := Z.w1 (hs.call hy); clear hy
  refine Z.g147 ?_
  replace hs : SX.St w M _ (RdL g T sv l (8 * p) ++ [_, _]) := hs.rot (L1 := [_, _])
  refine Z.g141 ?_
  refine Z.g54 ?_
  rintro v1_2 w1_2 ⟨rfl, hz⟩
  replace hs := hs.regain hz
  rw [e1]
  simp only [RdL, List.cons_append, List.nil_append] at hs
  refine Z.g67 ?_
  refine Z.g105 ?_
  clear hs; intro ws hs
  replace hs := Z.w0 hs
  replace hs := Z.w3 hs
  refine Z.g246 ?_
  replace hs : SX.St w M _ (RdL g T sv l (8 * p + 1) ++ [SX.Ent.blk g3 _ _, SX.Ent.blk g1 _ _]) := hs.sel [0, 1, 2, 3] Z.b12
  refine Z.g3 ?_
  refine Z.g208 ?_
  rintro c2_3 w2_3 ⟨rfl, a', hz⟩
  replace hs := hs.regain hz
  repeat (first | refine Z.pthen ?_ | refine Z.pblock ?_ | refine Z.pscope ?_)
  refine Z.outp ?_
  exact ⟨_, rfl, rfl, _, hs.sub (List.sublist_append_left _ _)⟩
set_option maxHeartbeats 1000000 in
set_option maxRecDepth 100000 in
theorem ml_long (g T : Nat) (sv : Value) (l : List Int) (p : Nat) (w : World) (hs : SX.St w (SX.idsOf (RdL g T sv l (8 * p))) w (RdL g T sv l (8 * p))) (hl : l.length ≤ 1000000) (hb : ∀ x ∈ l, 0 ≤ x ∧ x < 256) (h : p < l.length) (h1 : ¬ byB l p < 128) (h2 : p + 1 < l.length) (V : Int) (hV : byB l p % 128 * 256 + byB l (p + 1) = V) :
    Calls Tryz.prog 165 #[.agg #[.pointer (some ⟨g, 0, none⟩)]] w (Z.Bo (fun v w' => 127 < V ∧ v = .int .i64 V ∧ SX.St w (SX.idsOf (RdL g T sv l (8 * p))) w' (RdL g T sv l (8 * (p + 2)))) fun c w' => ¬ 127 < V ∧ c = mperr 9 ∧ ∃ a', SX.St w (SX.idsOf (RdL g T sv l (8 * p))) w' (RdL g T sv l a')) := by
  generalize hM : SX.idsOf (RdL g T sv l (8 * p)) = M at *
  obtain ⟨-, -, -, f4, f5, -⟩ := head_get hb h
  have f6 := long_get hb h2
  have h0 := byB_bd hb h
  have h0' := byB_bd hb h2
  have e1 : getV l (8 * p) ((1 : Nat) : Int) = 1 := by
    have : getV l (8 * p) 1 = 1 := by rw [f4]; omega
    exact this
  have e2 : getV l (8 * p + 1) ((15 : Nat) : Int) = V := by
    rw [← hV]
    exact f6
  have hV0 : 0 ≤ V := by omega
  refine Z.enter Tryz.func165 rfl Tryz.ntmps165 rfl rfl ?_
  refine Z.g90 ?_
  clear hs; intro g1 w1 hs
  refine Z.g1 ?_
  refine Z.g217 ?_
  clear hs; intro wd1 hs
  refine Z.t 1 rfl rfl rfl (by rfl) Z.b4 ⟨_, hs, Z.b2⟩ Z.b27 ?_
  refine Z.fork2 0 4 rfl rfl rfl Z.b4 rfl rfl trivial trivial ?_ ?_
  · skip
    refine Z.g55 ?_
    rintro v1_0 w1_0 ⟨rfl, hy⟩
    replace hs := Z.w1 (hs.call hy); clear hy
    refine Z.g147 ?_
    refine Z.fork2 2 4 rfl rfl rfl Z.b4 rfl rfl trivial trivial ?_ ?_
    · skip
      replace hs : SX.St w M _ (RdL g T sv l (8 * p) ++ [_]) := hs.rot (L1 := [_])
      refine Z.g54 ?_
      rintro v1_2 w1_2 ⟨rfl, hz⟩
      replace hs := hs.regain hz
      rw [e1]
      simp only [RdL, List.cons_append, List.nil_append] at hs
      refine Z.g67 ?_
      refine Z.tn 4 rfl rfl Z.b4 rfl trivial ?_
      refine Z.g79 ?_
      clear hs; intro g3 w3 hs
      refine Z.g83 ?_
      refine Z.g105 ?_
      clear hs; intro ws hs
      replace hs := Z.w0 hs
      replace hs := Z.w3 hs
      refine Z.g246 ?_
      replace hs : SX.St w M _ (RdL g T sv l (8 * p + 1) ++ [SX.Ent.blk g3 _ _, SX.Ent.blk g1 _ _]) := hs.sel [1, 2, 0, 3] Z.b12
      refine Z.g3 ?_
      refine Z.g197 ?_
      rintro v2_3 w2_3 ⟨rfl, hz⟩
      replace hs := hs.regain hz
      rw [e2]
      simp only [RdL, List.cons_append, List.nil_append] at hs
      refine Z.g253 ?_
      refine Z.split (s := 15) rfl (fun hsp15 => ?_) (fun hsp15 => ?_)
      · refine Z.yes (s := 15) (b := true) rfl hsp15 rfl ?_
        (try simp at hsp15)
        refine Z.g215 ?_
        rintro v3_8 w3_8 ⟨rfl, hy⟩
        replace hs := Z.w1 (hs.call hy); clear hy
        refine Z.g94 ?_
        refine Z.g3 ?_
        refine Z.ZO.callB rfl rfl (by rfl) rfl rfl Tryz.call109 rfl (mm_must_any _ 9 _) ?_ ?_
        · skip
          rintro v3_14 w3_14 ⟨hm, rfl, hy⟩
          replace hs := Z.w1 (hs.call hy); clear hy
          refine Z.g122 ?_
          refine Z.g52 ?_
          exact .inl ⟨_, rfl, by first | omega | (simp at hm <;> omega), rfl, hs.sel [0, 1] Z.b12⟩
        skip
        rintro c3_14 w3_14 ⟨hm, rfl, hy⟩
        replace hs := Z.w1 (hs.call hy); clear hy
        repeat (first | refine Z.pthen ?_ | refine Z.pblock ?_ | refine Z.pscope ?_)
        refine Z.outp ?_
        exact .inr ⟨_, rfl, by first | omega | (simp at hm <;> omega), rfl, _, hs.sel [0, 1] Z.b12⟩
      refine Z.yes (s := 15) (b := false) rfl hsp15 rfl ?_
      (try simp at hsp15)
      refine Z.g66 ?_
      refine Z.g3 ?_
      refine Z.ZO.callB rfl rfl (by rfl) rfl rfl Tryz.call109 rfl (mm_must_any _ 9 _) ?_ ?_
      · skip
        rintro v3_14 w3_14 ⟨hm, rfl, hy⟩
        replace hs := Z.w1 (hs.call hy); clear hy
        refine Z.g122 ?_
        refine Z.g52 ?_
        exact .inl ⟨_, rfl, by first | omega | (simp at hm <;> omega), rfl, hs.sel [0, 1] Z.b12⟩
      skip
      rintro c3_14 w3_14 ⟨hm, rfl, hy⟩
      replace hs := Z.w1 (hs.call hy); clear hy
      repeat (first | refine Z.pthen ?_ | refine Z.pblock ?_ | refine Z.pscope ?_)
      refine Z.outp ?_
      exact .inr ⟨_, rfl, by first | omega | (simp at hm <;> omega), rfl, _, hs.sel [0, 1] Z.b12⟩
    skip
    refine Z.g79 ?_
    clear hs; intro g3 w3 hs
    refine Z.g83 ?_
    replace hs : SX.St w M _ (RdL g T sv l (8 * p) ++ [_, _]) := hs.rot (L1 := [_, _])
    refine Z.g141 ?_
    refine Z.g54 ?_
    rintro v1_2 w1_2 ⟨rfl, hz⟩
    replace hs := hs.regain hz
    rw [e1]
    simp only [RdL, List.cons_append, List.nil_append] at hs
    refine Z.g67 ?_
    refine Z.g105 ?_
    clear hs; intro ws hs
    replace hs := Z.w0 hs
    replace hs := Z.w3 hs
    refine Z.g246 ?_
    replace hs : SX.St w M _ (RdL g T sv l (8 * p + 1) ++ [SX.Ent.blk g3 _ _, SX.Ent.blk g1 _ _]) := hs.sel [0, 1, 2, 3] Z.b12
    refine Z.g3 ?_
    refine Z.g197 ?_
    rintro v2_3 w2_3 ⟨rfl, hz⟩
    replace hs := hs.regain hz
    rw [e2]
    simp only [RdL, List.cons_append, List.nil_append] at hs
    refine Z.g253 ?_
    refine Z.split (s := 15) rfl (fun hsp15 => ?_) (fun hsp15 => ?_)
    · refine Z.yes (s := 15) (b := true) rfl hsp15 rfl ?_
      (try simp at hsp15)
      refine Z.g215 ?_
      rintro v3_8 w3_8 ⟨rfl, hy⟩
      replace hs := Z.w1 (hs.call hy); clear hy
      refine Z.g94 ?_
      refine Z.g3 ?_
      refine Z.ZO.callB rfl rfl (by rfl) rfl rfl Tryz.call109 rfl (mm_must_any _ 9 _) ?_ ?_
      · skip
        rintro v3_14 w3_14 ⟨hm, rfl, hy⟩
        replace hs := Z.w1 (hs.call hy); clear hy
        refine Z.g122 ?_
        refine Z.g52 ?_
        exact .inl ⟨_, rfl, by first | omega | (simp at hm <;> omega), rfl, hs.sel [0, 1] Z.b12⟩
      skip
      rintro c3_14 w3_14 ⟨hm, rfl, hy⟩
      replace hs := Z.w1 (hs.call hy); clear hy
      repeat (first | refine Z.pthen ?_ | refine Z.pblock ?_ | refine Z.pscope ?_)
      refine Z.outp ?_
      exact .inr ⟨_, rfl, by first | omega | (simp at hm <;> omega), rfl, _, hs.sel [0, 1] Z.b12⟩
    refine Z.yes (s := 15) (b := false) rfl hsp15 rfl ?_
    (try simp at hsp15)
    refine Z.g66 ?_
    refine Z.g3 ?_
    refine Z.ZO.callB rfl rfl (by rfl) rfl rfl Tryz.call109 rfl (mm_must_any _ 9 _) ?_ ?_
    · skip
      rintro v3_14 w3_14 ⟨hm, rfl, hy⟩
      replace hs := Z.w1 (hs.call hy); clear hy
      refine Z.g122 ?_
      refine Z.g52 ?_
      exact .inl ⟨_, rfl, by first | omega | (simp at hm <;> omega), rfl, hs.sel [0, 1] Z.b12⟩
    skip
    rintro c3_14 w3_14 ⟨hm, rfl, hy⟩
    replace hs := Z.w1 (hs.call hy); clear hy
    repeat (first | refine Z.pthen ?_ | refine Z.pblock ?_ | refine Z.pscope ?_)
    refine Z.outp ?_
    exact .inr ⟨_, rfl, by first | omega | (simp at hm <;> omega), rfl, _, hs.sel [0, 1] Z.b12⟩
  skip
  refine Z.g79 ?_
  clear hs; intro g3 w3 hs
  refine Z.g83 ?_
  refine Z.tn 0 rfl rfl Z.b4 rfl trivial ?_
  refine Z.g55 ?_
  rintro v1_0 w1_0 ⟨rfl, hy⟩
  replace hs := Z.w1 (hs.call hy); clear hy
  refine Z.g147 ?_
  replace hs : SX.St w M _ (RdL g T sv l (8 * p) ++ [_, _]) := hs.rot (L1 := [_, _])
  refine Z.g141 ?_
  refine Z.g54 ?_
  rintro v1_2 w1_2 ⟨rfl, hz⟩
  replace hs := hs.regain hz
  rw [e1]
  simp only [RdL, List.cons_append, List.nil_append] at hs
  refine Z.g67 ?_
  refine Z.g105 ?_
  clear hs; intro ws hs
  replace hs := Z.w0 hs
  replace hs := Z.w3 hs
  refine Z.g246 ?_
  replace hs : SX.St w M _ (RdL g T sv l (8 * p + 1) ++ [SX.Ent.blk g3 _ _, SX.Ent.blk g1 _ _]) := hs.sel [0, 1, 2, 3] Z.b12
  refine Z.g3 ?_
  refine Z.g197 ?_
  rintro v2_3 w2_3 ⟨rfl, hz⟩
  replace hs := hs.regain hz
  rw [e2]
  simp only [RdL, List.cons_append, List.nil_append] at hs
  refine Z.g253 ?_
  refine Z.split (s := 15) rfl (fun hsp15 => ?_) (fun hsp15 => ?_)
  · refine Z.yes (s := 15) (b := true) rfl hsp15 rfl ?_
    (try simp at hsp15)
    refine Z.g215 ?_
    rintro v3_8 w3_8 ⟨rfl, hy⟩
    replace hs := Z.w1 (hs.call hy); clear hy
    refine Z.g94 ?_
    refine Z.g3 ?_
    refine Z.ZO.callB rfl rfl (by rfl) rfl rfl Tryz.call109 rfl (mm_must_any _ 9 _) ?_ ?_
    · skip
      rintro v3_14 w3_14 ⟨hm, rfl, hy⟩
      replace hs := Z.w1 (hs.call hy); clear hy
      refine Z.g122 ?_
      refine Z.g52 ?_
      exact .inl ⟨_, rfl, by first | omega | (simp at hm <;> omega), rfl, hs.sel [0, 1] Z.b12⟩
    skip
    rintro c3_14 w3_14 ⟨hm, rfl, hy⟩
    replace hs := Z.w1 (hs.call hy); clear hy
    repeat (first | refine Z.pthen ?_ | refine Z.pblock ?_ | refine Z.pscope ?_)
    refine Z.outp ?_
    exact .inr ⟨_, rfl, by first | omega | (simp at hm <;> omega), rfl, _, hs.sel [0, 1] Z.b12⟩
  refine Z.yes (s := 15) (b := false) rfl hsp15 rfl ?_
  (try simp at hsp15)
  refine Z.g66 ?_
  refine Z.g3 ?_
  refine Z.ZO.callB rfl rfl (by rfl) rfl rfl Tryz.call109 rfl (mm_must_any _ 9 _) ?_ ?_
  · skip
    rintro v3_14 w3_14 ⟨hm, rfl, hy⟩
    replace hs := Z.w1 (hs.call hy); clear hy
    refine Z.g122 ?_
    refine Z.g52 ?_
    exact .inl ⟨_, rfl, by first | omega | (simp at hm <;> omega), rfl, hs.sel [0, 1] Z.b12⟩
  skip
  rintro c3_14 w3_14 ⟨hm, rfl, hy⟩
  replace hs := Z.w1 (hs.call hy); clear hy
  repeat (first | refine Z.pthen ?_ | refine Z.pblock ?_ | refine Z.pscope ?_)
  refine Z.outp ?_
  exact .inr ⟨_, rfl, by first | omega | (simp at hm <;> omega), rfl, _, hs.sel [0, 1] Z.b12⟩
theorem mm_length (g T : Nat) (sv : Value) (l : List Int) (p : Nat) (w : World) (hs : SX.St w (SX.idsOf (RdL g T sv l (8 * p))) w (RdL g T sv l (8 * p))) (hl : l.length ≤ 1000000) (hb : ∀ x ∈ l, 0 ≤ x ∧ x < 256) (hp : p ≤ l.length) :
    Calls Tryz.prog 165 #[.agg #[.pointer (some ⟨g, 0, none⟩)]] w (LenR g T sv l p w) := by
  by_cases h : p < l.length
  · by_cases h1 : byB l p < 128
    · have eE : lnE l p = if byB l p = 0 then 9 else 0 := by unfold lnE; rw [if_neg (fun k => k h), if_pos h1]
      have eV : lnV l p = byB l p := by unfold lnV; rw [if_pos h1]
      have eP : lnP l p = p + 1 := by unfold lnP; rw [if_pos h1]
      unfold LenR
      rw [eE, eV, eP]
      refine (ml_short g T sv l p w hs hl hb h h1).mono ?_
      rintro e w' (⟨v, rfl, q1, q2, q3⟩ | ⟨c, rfl, q1, q2, q3⟩)
      · exact .inl ⟨v, rfl, if_neg q1, q2, q3⟩
      rw [if_pos q1]
      exact .inr ⟨c, rfl, by decide, q2, q3⟩
    by_cases h2 : p + 1 < l.length
    · have eE : lnE l p = if 127 < byB l p % 128 * 256 + byB l (p + 1) then 0 else 9 := by unfold lnE; rw [if_neg (fun k => k h), if_neg h1, if_neg (fun k => k h2)]
      have eV : lnV l p = byB l p % 128 * 256 + byB l (p + 1) := by unfold lnV; rw [if_neg h1]
      have eP : lnP l p = p + 2 := by unfold lnP; rw [if_neg h1]
      unfold LenR
      rw [eE, eV, eP]
      refine (ml_long g T sv l p w hs hl hb h h1 h2 _ rfl).mono ?_
      rintro e w' (⟨v, rfl, q1, q2, q3⟩ | ⟨c, rfl, q1, q2, q3⟩)
      · exact .inl ⟨v, rfl, if_pos q1, q2, q3⟩
      rw [if_neg q1]
      exact .inr ⟨c, rfl, by decide, q2, q3⟩
    have eE : lnE l p = 5 := by unfold lnE; rw [if_neg (fun k => k h), if_neg h1, if_pos h2]
    refine Z.Bo.pan ((ml_cut g T sv l p w hs hl hb h h1 h2).mono ?_)
    rintro e w' ⟨c, rfl, q1, q2⟩
    exact ⟨c, rfl, by rw [eE]; decide, by rw [eE]; exact q1, q2⟩
  have eE : lnE l p = 5 := by unfold lnE; rw [if_pos h]
  refine Z.Bo.pan ((ml_none g T sv l p w hs hl hb hp h).mono ?_)
  rintro e w' ⟨c, rfl, q1, q2⟩
  exact ⟨c, rfl, by rw [eE]; decide, by rw [eE]; exact q1, q2⟩
end Go.Proofs.YtbojkoiopkaciaaGreat

/- MAC PDUs: the subheaders read. -/
namespace Go.Proofs.YtbojkoiopkaciaaGreat
open Go.RowKit
set_option linter.unusedSimpArgs false
set_option linter.unusedVariables false
--newlaws

theorem mm_bits_any (g T : Nat) (sv : Value) (l : List Int) (a n : Nat) (w : World) (hs : SX.St w (SX.idsOf (RdL g T sv l a)) w (RdL g T sv l a)) (hl : l.length ≤ 1000000) (hb : ∀ x ∈ l, 0 ≤ x ∧ x < 256) (ha : a ≤ 8 * l.length) (hn : n ≤ 32) :
    Calls Tryz.prog 162 #[.agg #[.pointer (some ⟨g, 0, none⟩)], .int .i64 (n : Int)] w (Z.Bo (fun v w' => a + n ≤ 8 * l.length ∧ v = .int .i64 (getV l a n) ∧ SX.St w (SX.idsOf (RdL g T sv l a)) w' (RdL g T sv l (a + n))) fun c w' => ¬ a + n ≤ 8 * l.length ∧ c = mperr 5 ∧ ∃ a', SX.St w (SX.idsOf (RdL g T sv l a)) w' (RdL g T sv l a')) := by
  by_cases h : a + n ≤ 8 * l.length
  · exact Z.Bo.ret ((mm_bits_ok g T sv l a n w hs hl hb h hn).mono fun e w' ⟨v, h1, h2⟩ => ⟨v, h1, h, h2⟩)
  exact Z.Bo.pan ((mm_bits_bad g T sv l a n w hs hl hb ha h hn).mono fun e w' ⟨v, h1, h2⟩ => ⟨v, h1, h, h2⟩)
def hdBad (b : Int) (cnt : Nat) (data part : Bool) : Prop :=
  ¬ (b / 64 = 0 ∧ (sduB (b % 32) ∨ ctlN (b % 32) ≠ 0 ∨ b % 32 = 31)) ∨ (ctlN (b % 32) ≠ 0 ∧ data = true) ∨ (b % 32 = 31 ∧ b / 32 % 2 = 1 ∧ (part = true ∨ ¬ cnt < 2))
instance (b : Int) (cnt : Nat) (data part : Bool) : Decidable (hdBad b cnt data part) := by unfold hdBad; infer_instance
def hGo (l : List Int) : Nat → Nat → List (Int × Int) → Bool → Bool → Int × List (Int × Int) × Nat
  | 0, _, _, _, _ => (5, [], 0)
  | F + 1, p, acc, data, part =>
    if ¬ p < l.length then (5, [], 0)
    else if hdBad (byB l p) acc.length data part then (9, [], 0)
    else if byB l p / 32 % 2 = 1 then
      if sduB (byB l p % 32) then
        if lnE l (p + 1) ≠ 0 then (lnE l (p + 1), [], 0)
        else hGo l F (lnP l (p + 1)) (acc ++ [(byB l p % 32, lnV l (p + 1))]) (data || decide (sduB (byB l p % 32))) (part || decide (byB l p % 32 ≠ 31))
      else hGo l F (p + 1) (acc ++ [(byB l p % 32, -1)]) (data || decide (sduB (byB l p % 32))) (part || decide (byB l p % 32 ≠ 31))
    else (0, acc ++ [(byB l p % 32, -1)], p + 1)
def encH (h : Int × Int) : List Value := [.int .i64 h.1, .int .i64 h.2]
theorem encH_len (h : Int × Int) : (encH h).length = 2 := rfl
theorem lnP_le {l : List Int} {p : Nat} (h : lnE l p = 0) : p < lnP l p ∧ lnP l p ≤ l.length := by
  unfold lnE at h
  unfold lnP
  by_cases h1 : p < l.length
  · rw [if_neg (fun k => k h1)] at h
    by_cases h2 : byB l p < 128
    · rw [if_pos h2]; omega
    rw [if_neg h2] at h ⊢
    by_cases h3 : p + 1 < l.length
    · omega
    rw [if_pos h3] at h; cases h
  rw [if_pos h1] at h; cases h
theorem bad7 {b : Int} {cnt : Nat} {data part : Bool} (h : (decide (sduB (b % 32)) || decide (ctlN (b % 32) ≠ 0) || b % 32 == 31) = false) : hdBad b cnt data part := by
  refine .inl fun hh => ?_
  simp at h
  rcases hh.2 with h1 | h1 | h1
  · exact h.1.1 h1
  · exact h1 h.1.2
  exact h.2 h1
theorem bad7n {b : Int} {cnt : Nat} {data part : Bool} (h : ¬ b / 64 = 0) : hdBad b cnt data part := .inl fun hh => h hh.1
theorem bad8 {b : Int} {cnt : Nat} {data part : Bool} (h : (!decide (ctlN (b % 32) ≠ 0) || !data) = false) : hdBad b cnt data part := by
  simp at h
  exact .inr (.inl h)
theorem bad9 {b : Int} {cnt : Nat} {data part : Bool} (h : (b % 32 != 31 || !b / 32 % 2 == 1 || !part && decide ((cnt : Int) < 2)) = false) : hdBad b cnt data part := by
  simp at h
  refine .inr (.inr ⟨h.1.1, h.1.2, ?_⟩)
  have h2 := h.2
  cases part
  · exact .inr (by have := h2 rfl; omega)
  exact .inl rfl
theorem good_hd {b : Int} {cnt : Nat} {data part : Bool} (h0 : b / 64 = 0) (h7 : (decide (sduB (b % 32)) || decide (ctlN (b % 32) ≠ 0) || b % 32 == 31) = true) (h8 : (!decide (ctlN (b % 32) ≠ 0) || !data) = true) (h9 : (b % 32 != 31 || !b / 32 % 2 == 1 || !part && decide ((cnt : Int) < 2)) = true) : ¬ hdBad b cnt data part := by
  simp at h7 h8 h9
  rintro (h | h | ⟨h1, h2, h3⟩)
  · exact h ⟨h0, by simpa [or_assoc] using h7⟩
  · rcases h8 with h8 | h8
    · exact h.1 h8
    rw [h8] at h; cases h.2
  rcases h9 with (h9 | h9) | ⟨h9, h10⟩
  · exact h9 h1
  · exact h9 h2
  rcases h3 with h3 | h3
  · rw [h9] at h3; cases h3
  omega
theorem pan_hd {b : Int} {cnt : Nat} {data part : Bool} {X R : Int × List (Int × Int) × Nat} (hG : (if hdBad b cnt data part then (9, [], 0) else X) = R) (h : hdBad b cnt data part) : R.1 ≠ 0 ∧ mperr 9 = mperr R.1 := by
  rw [if_pos h] at hG
  subst hG
  exact ⟨by decide, rfl⟩
theorem pan_end {l : List Int} {F p : Nat} {acc : List (Int × Int)} {data part : Bool} {R : Int × List (Int × Int) × Nat} (hG : hGo l (F + 1) p acc data part = R) (h : ¬ p < l.length) : R.1 ≠ 0 ∧ mperr 5 = mperr R.1 := by
  rw [hGo, if_pos h] at hG
  subst hG
  exact ⟨by decide, rfl⟩
theorem pan_ln {b : Int} {l : List Int} {p : Nat} {X Y Z1 R : Int × List (Int × Int) × Nat} (hG : (if b / 32 % 2 = 1 then if sduB (b % 32) then if lnE l (p + 1) ≠ 0 then (lnE l (p + 1), [], 0) else X else Y else Z1) = R) (h12 : sduB (b % 32) ∧ b / 32 % 2 = 1) (h : lnE l (p + 1) ≠ 0) : R.1 ≠ 0 ∧ mperr (lnE l (p + 1)) = mperr R.1 := by
  rw [if_pos h12.2, if_pos h12.1, if_pos h] at hG
  subst hG
  exact ⟨h, rfl⟩
theorem not_at {p n : Nat} (h : ¬ 8 * p + 2 ≤ 8 * n) : ¬ p < n := by omega
set_option maxHeartbeats 2000000 in
set_option maxRecDepth 100000 in
theorem mm_heads (g T : Nat) (sv : Value) (l : List Int) (w : World) (hs : SX.St w (SX.idsOf (RdL g T sv l (8 * 0))) w (RdL g T sv l (8 * 0))) (hl : l.length ≤ 1000000) (hb : ∀ x ∈ l, 0 ≤ x ∧ x < 256) (R : Int × List (Int × Int) × Nat) (hR : hGo l (l.length + 1) 0 [] false false = R) :
    Calls Tryz.prog 111 #[.agg #[.pointer (some ⟨g, 0, none⟩)]] w (Z.Bo (fun v w' => R.1 = 0 ∧ R.2.2 ≤ l.length ∧ R.2.1.length ≤ l.length ∧ SX.St w (SX.idsOf (RdL g T sv l (8 * 0))) w' (RdL g T sv l (8 * R.2.2) ++ [SX.Ent.row v 194 2 R.2.1.length (R.2.1.flatMap encH)])) fun c w' => R.1 ≠ 0 ∧ c = mperr R.1 ∧ ∃ a', SX.St w (SX.idsOf (RdL g T sv l (8 * 0))) w' (RdL g T sv l a')) := by
  generalize hM : SX.idsOf (RdL g T sv l (8 * 0)) = M at *
  refine Z.enter Tryz.func111 rfl Tryz.ntmps111 rfl rfl ?_
  refine Z.g90 ?_
  clear hs; intro g1 w1 hs
  refine Z.g231 ?_
  replace hs : SX.St w M _ (RdL g T sv l (8 * 0) ++ [SX.Ent.row (.slice none 0 0) 194 2 0 (([] : List (Int × Int)).flatMap encH), SX.Ent.blk g1 190 #[.pointer (some ⟨g, 0, none⟩)]]) := SX.St.rot (L1 := [_, _]) (hs.nil 194 2)
  refine Z.g18 ?_
  refine Z.g1 ?_
  refine Z.only [1, 2, 3, 4] rfl ?_
  refine Z.g60 ?_
  refine Z.g248 ?_
  refine Z.g210 ?_
  refine Z.loopk (ι := Nat × List (Int × Int) × Bool × Bool × Bool × Value) [1] rfl (fun x => [(2, [], x.2.2.2.2.2), (3, [], .bool x.2.2.1), (4, [], .bool x.2.2.2.1), (5, [], .bool x.2.2.2.2.1)]) (fun x wr => (x.1 ≤ l.length ∧ x.2.1.length ≤ x.1 ∧ (x.2.2.2.2.1 = true → ∃ F, l.length + 1 ≤ F + x.1 ∧ hGo l F x.1 x.2.1 x.2.2.1 x.2.2.2.1 = R) ∧ (x.2.2.2.2.1 = false → R = (0, x.2.1, x.1))) ∧ SX.St w M wr (RdL g T sv l (8 * x.1) ++ [SX.Ent.row x.2.2.2.2.2 194 2 x.2.1.length (x.2.1.flatMap encH), SX.Ent.blk g1 190 #[.pointer (some ⟨g, 0, none⟩)]])) (fun x => l.length - x.1) (0, [], false, false, true, .slice none 0 0) Z.b10 ⟨⟨Nat.zero_le _, Nat.zero_le _, fun _ => ⟨l.length + 1, by simp only; omega, hR⟩, fun h => by cases h⟩, hs⟩ ?_
  clear hs
  rintro ⟨p, acc, data, part, more, vo⟩ w3 ⟨⟨hp, hac, hmo, hno⟩, hs⟩
  refine Z.only [1, 2, 3, 4, 5] rfl ?_
  (try dsimp only at hs)
  dsimp only at hp hac hmo hno hs
  obtain ⟨Av, cv, rfl, -, -, -⟩ := SX.row_slv hs (j := 2) rfl
  refine Z.seq ?_
  refine Z.g120 ?_
  refine Z.only [1, 2, 3, 4, 12] rfl ?_
  refine Z.g313 ?_
  refine Z.cond rfl (fun hc3 => ?_) (fun hc3 => ?_)
  · (try simp at hc3)
    obtain ⟨F, hF, hG⟩ := hmo Z.b63
    obtain ⟨F, rfl⟩ : ∃ F', F = F' + 1 := ⟨F - 1, by omega⟩
    refine Z.skip ?_
    refine Z.g210 ?_
    refine Z.seq ?_
    refine Z.drawP [SX.Ent.blk g1 190 #[.pointer (some ⟨g, 0, none⟩)]] (fun _ => true) mixed hs ?_
    clear hs; intro wd4 hs
    refine Z.tXP 0 [0, 1, 3, 5, 6, 7, 8] (fun _ _ _ _ _ h => h) rfl rfl rfl (by rfl) Z.b4 ⟨_, hs, Z.b2⟩ Z.b27 ?_
    refine Z.tXP 2 [2, 3, 5, 6, 7, 8] (fun _ _ _ _ _ h => h) rfl rfl rfl (by rfl) Z.b4 ⟨_, hs, Z.b2⟩ Z.b27 ?_
    refine Z.tXP 4 [4, 5, 6, 7, 8] (fun _ _ _ _ _ h => h) rfl rfl rfl (by rfl) Z.b4 ⟨_, hs, Z.b2⟩ Z.b27 ?_
    refine Z.tnP 1 rfl rfl Z.b4 rfl trivial ?_
    refine Z.ZO.callB rfl rfl (by rfl) rfl rfl Tryz.call162 rfl (mm_bits_any g T sv l (8 * p) 2 _ hs.lend hl hb Z.b9 Z.b9) ?_ ?_
    · skip
      rintro v4_1 w4_1 ⟨hq, rfl, hz⟩
      replace hs := hs.regain hz
      have hpl : p < l.length := by omega
      rw [hGo, if_neg (fun k => k hpl)] at hG
      obtain ⟨f1, f2, f3, -, -, -⟩ := head_get hb hpl
      have hbd := byB_bd hb hpl
      obtain ⟨b, hbe⟩ : ∃ b, byB l p = b := ⟨_, rfl⟩
      rw [hbe] at f1 f2 f3 hG hbd
      have k1 : getV l (8 * p) ((2 : Nat) : Int) = b / 64 := f1
      have k2 : getV l (8 * p + 2) ((1 : Nat) : Int) = b / 32 % 2 := f2
      have k3 : getV l (8 * p + 2 + 1) ((5 : Nat) : Int) = b % 32 := f3
      rw [k1]
      refine Z.tkP (Dn := fun _ => true) (i := 1) (fun _ => ⟨_, hs, Z.b2⟩) ?_
      refine Z.tnP 3 rfl rfl Z.b4 rfl trivial ?_
      refine Z.ZO.call rfl rfl (by rfl) rfl rfl Tryz.call162 rfl (mm_bits_ok g T sv l (8 * p + 2) 1 _ hs.lend hl hb Z.b9 Z.b9) ?_
      rintro v4_3 w4_3 ⟨rfl, hz⟩
      replace hs := hs.regain hz
      rw [k2]
      refine Z.tkP (Dn := fun _ => true) (i := 3) (fun _ => ⟨_, hs, Z.b2⟩) ?_
      refine Z.tnP 5 rfl rfl Z.b4 rfl trivial ?_
      refine Z.ZO.call rfl rfl (by rfl) rfl rfl Tryz.call162 rfl (mm_bits_ok g T sv l (8 * p + 2 + 1) 5 _ hs.lend hl hb Z.b9 Z.b9) ?_
      rintro v4_5 w4_5 ⟨rfl, hz⟩
      replace hs := hs.regain hz
      rw [k3]
      refine Z.tkP (Dn := fun _ => true) (i := 5) (fun _ => ⟨_, hs, Z.b2⟩) ?_
      refine Z.tXP 6 [6, 7, 8] (fun _ _ _ _ _ h => h) rfl rfl rfl (by rfl) Z.b4 ⟨_, hs, Z.b2⟩ (Z.Yd.pure rfl) ?_
      refine Z.tXP 7 [7, 8] (fun _ _ _ _ _ h => h) rfl rfl rfl (by rfl) Z.b4 ⟨_, hs, Z.b2⟩ (Z.Yd.pure rfl) ?_
      refine Z.tXP 8 [8] (fun _ _ _ _ _ h => h) rfl rfl rfl (by rfl) Z.b4 ⟨_, hs, Z.b2⟩ (Z.Yd.pure rfl) ?_
      refine Z.tdP (by rfl) Z.b4 ?_
      refine Z.only [1, 2, 3, 4, 6, 7, 8] rfl ?_
      refine Z.g92 ?_
      refine Z.g314 ?_
      refine Z.only [1, 2, 3, 4, 5, 6, 8] rfl ?_
      refine Z.g30 ?_
      refine Z.g32 ?_
      refine Z.ZO.call rfl rfl (by rfl) rfl rfl Tryz.call163 rfl (mc_Control _ _) ?_
      rintro v6_1 w6_1 ⟨rfl, hy⟩
      replace hs := Z.w1 (hs.call hy); clear hy
      refine Z.g212 ?_
      refine Z.only [1, 2, 3, 4, 5, 6, 8, 10] rfl ?_
      refine Z.g30 ?_
      refine Z.lb 4 rfl ?_
      refine Z.split (s := 28) rfl (fun hsp28 => ?_) (fun hsp28 => ?_)
      · refine Z.yes (s := 28) (b := true) rfl hsp28 rfl ?_
        (try simp at hsp28)
        refine Z.g117 ?_
        refine Z.ZO.call rfl rfl (by rfl) rfl rfl Tryz.call164 rfl (mc_sdu _ _) ?_
        rintro v7_4 w7_4 ⟨rfl, hy⟩
        replace hs := Z.w1 (hs.call hy); clear hy
        refine Z.lb 7 rfl ?_
        refine Z.yes (s := 28) (b := true) rfl rfl rfl ?_
        refine Z.g15 ?_
        refine Z.g3 ?_
        refine Z.ZO.callB rfl rfl (by rfl) rfl rfl Tryz.call109 rfl (mm_must_any _ 9 _) ?_ ?_
        · skip
          rintro v7_13 w7_13 ⟨hm7, rfl, hy⟩
          replace hs := Z.w1 (hs.call hy); clear hy
          refine Z.g314 ?_
          refine Z.only [1, 2, 3, 4, 5, 8, 10] rfl ?_
          refine Z.g30 ?_
          refine Z.g18 ?_
          refine Z.lb 5 rfl ?_
          refine Z.g3 ?_
          refine Z.ZO.callB rfl rfl (by rfl) rfl rfl Tryz.call109 rfl (mm_must_any _ 9 _) ?_ ?_
          · skip
            rintro v8_6 w8_6 ⟨hm8, rfl, hy⟩
            replace hs := Z.w1 (hs.call hy); clear hy
            refine Z.g314 ?_
            refine Z.only [1, 2, 3, 4, 5, 8] rfl ?_
            refine Z.g30 ?_
            refine Z.lb 11 rfl ?_
            refine Z.l rfl rfl (by rfl) (Z.keepS hs) (Z.Yd.lenS rfl Tryz.underlying191) ?_
            refine Z.g221 ?_
            refine Z.g3 ?_
            refine Z.ZO.callB rfl rfl (by rfl) rfl rfl Tryz.call109 rfl (mm_must_any _ 9 _) ?_ ?_
            · skip
              rintro v9_15 w9_15 ⟨hm9, rfl, hy⟩
              replace hs := Z.w1 (hs.call hy); clear hy
              refine Z.g314 ?_
              refine Z.only [1, 2, 3, 4, 5, 8] rfl ?_
              refine Z.g30 ?_
              have hnb : ¬ hdBad b acc.length data part := good_hd hsp28 hm7 hm8 hm9
              rw [if_neg hnb] at hG
              rw [show 8 * p + 2 + 1 + 5 = 8 * (p + 1) from by omega] at hs
              refine Z.g18 ?_
              refine Z.l rfl rfl (by rfl) (Z.keepS hs) (Z.Yd.buildL [(0, 1), (1, 1)] [.int .i64 0, .int .i64 0] rfl rfl Z.b15) ?_
              refine Z.g3 ?_
              refine Z.ZO.alloc rfl rfl (by rfl) Tryz.zeroValue194 rfl hs ?_
              clear hs; intro g11 w11 hs
              refine Z.g124 ?_
              clear hs; intro ws hs
              replace hs := Z.w0 hs
              replace hs := Z.w3 hs
              refine Z.g314 ?_
              refine Z.only [1, 2, 3, 4, 5, 8, 11] rfl ?_
              refine Z.g92 ?_
              refine Z.split (s := 66) rfl (fun hsp66 => ?_) (fun hsp66 => ?_)
              · refine Z.yes (s := 66) (b := true) rfl hsp66 rfl ?_
                (try simp at hsp66)
                have e3 : (data || decide (sduB (b % 32))) = true := by rw [hsp66]; rfl
                refine Z.g43 ?_
                refine Z.g15 ?_
                refine Z.lb 7 rfl ?_
                refine Z.g314 ?_
                refine Z.only [1, 2, 3, 4, 5, 8, 11] rfl ?_
                refine Z.g159 ?_
                refine Z.ZO.call rfl rfl (by rfl) rfl rfl Tryz.call164 rfl (mc_sdu _ _) ?_
                rintro v12_1 w12_1 ⟨rfl, hy⟩
                replace hs := Z.w1 (hs.call hy); clear hy
                refine Z.g247 ?_
                refine Z.only [1, 2, 3, 4, 5, 11, 79] rfl ?_
                refine Z.g313 ?_
                refine Z.cond rfl (fun hc12 => ?_) (fun hc12 => ?_)
                · (try simp at hc12)
                  refine Z.region ?_
                  refine Z.l rfl rfl (by rfl) (Z.keepS hs) Z.b27 ?_
                  replace hs : SX.St w M _ (RdL g T sv l (8 * (p + 1)) ++ [_, _, _]) := hs.rot (L1 := [_])
                  refine Z.g3 ?_
                  refine Z.ZO.callB rfl rfl (by rfl) rfl rfl Tryz.call165 rfl (mm_length g T sv l (p + 1) _ hs.lend hl hb Z.b9) ?_ ?_
                  · skip
                    rintro v13_1 w13_1 ⟨hln, rfl, hz⟩
                    replace hs := hs.regain hz
                    simp only [RdL, List.cons_append, List.nil_append] at hs
                    refine Z.g9 ?_
                    refine Z.g156 ?_
                    clear hs; intro ws hs
                    replace hs := Z.w0 hs
                    refine Z.g314 ?_
                    refine Z.only [1, 2, 3, 4, 5, 11] rfl ?_
                    refine Z.g121 ?_
                    try simp only [RdL, List.cons_append, List.nil_append] at hs
                    refine Z.g245 ?_
                    clear hs; intro g85 w85 hs
                    refine Z.g3 ?_
                    refine Z.g87 ?_
                    clear hs; intro g86 cap86 w86 hs
                    simp only [List.set_cons_zero, List.set_cons_succ, List.eraseIdx_cons_zero, List.eraseIdx_cons_succ] at hs
                    refine Z.g248 ?_
                    refine Z.nblock ?_
                    refine Z.g313 ?_
                    have hpa : (part || decide (b % 32 ≠ 31)) = (part || b % 32 != 31) := congrArg (part || ·) (by rw [Bool.eq_iff_iff]; simp)
                    have eL : ∀ n : Int, (acc ++ [(b % 32, n)]).length = acc.length + 1 := fun n => by simp
                    have eF : ∀ n : Int, acc.flatMap encH ++ [Value.int .i64 (b % 32), Value.int .i64 n] = (acc ++ [(b % 32, n)]).flatMap encH := fun n => by simp [encH]
                    rw [eF, ← eL] at hs
                    rw [hpa, e3] at hG
                    by_cases hm : b / 32 % 2 = 1
                    · rw [if_pos hm] at hG
                      rw [if_pos hc12.1, if_neg (fun k => k hln)] at hG
                      have hle := lnP_le hln
                      exact Z.again (lnP l (p + 1), acc ++ [(b % 32, lnV l (p + 1))], _, (part || b % 32 != 31), (b / 32 % 2 == 1), _) Z.b11 ⟨⟨hle.2, by simp only [eL]; omega, fun _ => ⟨F, by simp only; omega, hG⟩, fun h => by simp [hm] at h⟩, hs.sel [0, 1, 2, 3] Z.b12⟩ Z.b21
                    rw [if_neg hm] at hG
                    exact absurd hc12.2 hm
                  skip
                  rintro c13_1 w13_1 ⟨hln, rfl, a', hz⟩
                  repeat (first | refine Z.pthen ?_ | refine Z.pblock ?_ | refine Z.pscope ?_)
                  refine Z.outp ?_
                  exact .inr ⟨_, rfl, (pan_ln hG hc12 hln).1, (pan_ln hG hc12 hln).2, _, (hs.regain hz).sub (List.sublist_append_left _ _)⟩
                (try simp at hc12)
                refine Z.skip ?_
                refine Z.g121 ?_
                try simp only [RdL, List.cons_append, List.nil_append] at hs
                refine Z.g245 ?_
                clear hs; intro g85 w85 hs
                refine Z.g3 ?_
                refine Z.g87 ?_
                clear hs; intro g86 cap86 w86 hs
                simp only [List.set_cons_zero, List.set_cons_succ, List.eraseIdx_cons_zero, List.eraseIdx_cons_succ] at hs
                refine Z.g248 ?_
                refine Z.nblock ?_
                refine Z.g313 ?_
                have hpa : (part || decide (b % 32 ≠ 31)) = (part || b % 32 != 31) := congrArg (part || ·) (by rw [Bool.eq_iff_iff]; simp)
                have eL : ∀ n : Int, (acc ++ [(b % 32, n)]).length = acc.length + 1 := fun n => by simp
                have eF : ∀ n : Int, acc.flatMap encH ++ [Value.int .i64 (b % 32), Value.int .i64 n] = (acc ++ [(b % 32, n)]).flatMap encH := fun n => by simp [encH]
                rw [eF, ← eL] at hs
                rw [hpa, e3] at hG
                by_cases hm : b / 32 % 2 = 1
                · rw [if_pos hm] at hG
                  rw [if_neg (fun k => hc12 k hm)] at hG
                  exact Z.again (p + 1, acc ++ [(b % 32, -1)], _, (part || b % 32 != 31), (b / 32 % 2 == 1), _) Z.b11 ⟨⟨by simp only; omega, by simp only [eL]; omega, fun _ => ⟨F, by simp only; omega, hG⟩, fun h => by simp [hm] at h⟩, hs.sel [1, 2, 3, 4] Z.b12⟩ Z.b21
                rw [if_neg hm] at hG
                exact Z.again (p + 1, acc ++ [(b % 32, -1)], _, (part || b % 32 != 31), (b / 32 % 2 == 1), _) Z.b11 ⟨⟨by simp only; omega, by simp only [eL]; omega, fun h => by simp [hm] at h, fun _ => hG.symm⟩, hs.sel [1, 2, 3, 4] Z.b12⟩ Z.b21
              refine Z.yes (s := 66) (b := false) rfl hsp66 rfl ?_
              (try simp at hsp66)
              have e3 : (data || decide (sduB (b % 32))) = decide (sduB (b % 32)) := by rw [hsp66]; rfl
              refine Z.g117 ?_
              refine Z.ZO.call rfl rfl (by rfl) rfl rfl Tryz.call164 rfl (mc_sdu _ _) ?_
              rintro v11_3 w11_3 ⟨rfl, hy⟩
              replace hs := Z.w1 (hs.call hy); clear hy
              refine Z.g13 ?_
              refine Z.lb 7 rfl ?_
              refine Z.g314 ?_
              refine Z.only [1, 2, 3, 4, 5, 8, 11] rfl ?_
              refine Z.g159 ?_
              refine Z.ZO.call rfl rfl (by rfl) rfl rfl Tryz.call164 rfl (mc_sdu _ _) ?_
              rintro v12_1 w12_1 ⟨rfl, hy⟩
              replace hs := Z.w1 (hs.call hy); clear hy
              refine Z.g247 ?_
              refine Z.only [1, 2, 3, 4, 5, 11, 79] rfl ?_
              refine Z.g313 ?_
              refine Z.cond rfl (fun hc12 => ?_) (fun hc12 => ?_)
              · (try simp at hc12)
                refine Z.region ?_
                refine Z.l rfl rfl (by rfl) (Z.keepS hs) Z.b27 ?_
                replace hs : SX.St w M _ (RdL g T sv l (8 * (p + 1)) ++ [_, _, _]) := hs.rot (L1 := [_])
                refine Z.g3 ?_
                refine Z.ZO.callB rfl rfl (by rfl) rfl rfl Tryz.call165 rfl (mm_length g T sv l (p + 1) _ hs.lend hl hb Z.b9) ?_ ?_
                · skip
                  rintro v13_1 w13_1 ⟨hln, rfl, hz⟩
                  replace hs := hs.regain hz
                  simp only [RdL, List.cons_append, List.nil_append] at hs
                  refine Z.g9 ?_
                  refine Z.g156 ?_
                  clear hs; intro ws hs
                  replace hs := Z.w0 hs
                  refine Z.g314 ?_
                  refine Z.only [1, 2, 3, 4, 5, 11] rfl ?_
                  refine Z.g121 ?_
                  try simp only [RdL, List.cons_append, List.nil_append] at hs
                  refine Z.g245 ?_
                  clear hs; intro g85 w85 hs
                  refine Z.g3 ?_
                  refine Z.g87 ?_
                  clear hs; intro g86 cap86 w86 hs
                  simp only [List.set_cons_zero, List.set_cons_succ, List.eraseIdx_cons_zero, List.eraseIdx_cons_succ] at hs
                  refine Z.g248 ?_
                  refine Z.nblock ?_
                  refine Z.g313 ?_
                  have hpa : (part || decide (b % 32 ≠ 31)) = (part || b % 32 != 31) := congrArg (part || ·) (by rw [Bool.eq_iff_iff]; simp)
                  have eL : ∀ n : Int, (acc ++ [(b % 32, n)]).length = acc.length + 1 := fun n => by simp
                  have eF : ∀ n : Int, acc.flatMap encH ++ [Value.int .i64 (b % 32), Value.int .i64 n] = (acc ++ [(b % 32, n)]).flatMap encH := fun n => by simp [encH]
                  rw [eF, ← eL] at hs
                  rw [hpa, e3] at hG
                  by_cases hm : b / 32 % 2 = 1
                  · rw [if_pos hm] at hG
                    rw [if_pos hc12.1, if_neg (fun k => k hln)] at hG
                    have hle := lnP_le hln
                    exact Z.again (lnP l (p + 1), acc ++ [(b % 32, lnV l (p + 1))], _, (part || b % 32 != 31), (b / 32 % 2 == 1), _) Z.b11 ⟨⟨hle.2, by simp only [eL]; omega, fun _ => ⟨F, by simp only; omega, hG⟩, fun h => by simp [hm] at h⟩, hs.sel [0, 1, 2, 3] Z.b12⟩ Z.b21
                  rw [if_neg hm] at hG
                  exact absurd hc12.2 hm
                skip
                rintro c13_1 w13_1 ⟨hln, rfl, a', hz⟩
                repeat (first | refine Z.pthen ?_ | refine Z.pblock ?_ | refine Z.pscope ?_)
                refine Z.outp ?_
                exact .inr ⟨_, rfl, (pan_ln hG hc12 hln).1, (pan_ln hG hc12 hln).2, _, (hs.regain hz).sub (List.sublist_append_left _ _)⟩
              (try simp at hc12)
              refine Z.skip ?_
              refine Z.g121 ?_
              try simp only [RdL, List.cons_append, List.nil_append] at hs
              refine Z.g245 ?_
              clear hs; intro g85 w85 hs
              refine Z.g3 ?_
              refine Z.g87 ?_
              clear hs; intro g86 cap86 w86 hs
              simp only [List.set_cons_zero, List.set_cons_succ, List.eraseIdx_cons_zero, List.eraseIdx_cons_succ] at hs
              refine Z.g248 ?_
              refine Z.nblock ?_
              refine Z.g313 ?_
              have hpa : (part || decide (b % 32 ≠ 31)) = (part || b % 32 != 31) := congrArg (part || ·) (by rw [Bool.eq_iff_iff]; simp)
              have eL : ∀ n : Int, (acc ++ [(b % 32, n)]).length = acc.length + 1 := fun n => by simp
              have eF : ∀ n : Int, acc.flatMap encH ++ [Value.int .i64 (b % 32), Value.int .i64 n] = (acc ++ [(b % 32, n)]).flatMap encH := fun n => by simp [encH]
              rw [eF, ← eL] at hs
              rw [hpa, e3] at hG
              by_cases hm : b / 32 % 2 = 1
              · rw [if_pos hm] at hG
                rw [if_neg (fun k => hc12 k hm)] at hG
                exact Z.again (p + 1, acc ++ [(b % 32, -1)], _, (part || b % 32 != 31), (b / 32 % 2 == 1), _) Z.b11 ⟨⟨by simp only; omega, by simp only [eL]; omega, fun _ => ⟨F, by simp only; omega, hG⟩, fun h => by simp [hm] at h⟩, hs.sel [1, 2, 3, 4] Z.b12⟩ Z.b21
              rw [if_neg hm] at hG
              exact Z.again (p + 1, acc ++ [(b % 32, -1)], _, (part || b % 32 != 31), (b / 32 % 2 == 1), _) Z.b11 ⟨⟨by simp only; omega, by simp only [eL]; omega, fun h => by simp [hm] at h, fun _ => hG.symm⟩, hs.sel [1, 2, 3, 4] Z.b12⟩ Z.b21
            skip
            rintro c9_15 w9_15 ⟨hm9, rfl, hy⟩
            replace hs := Z.w1 (hs.call hy); clear hy
            repeat (first | refine Z.pthen ?_ | refine Z.pblock ?_ | refine Z.pscope ?_)
            refine Z.outp ?_
            exact .inr ⟨_, rfl, (pan_hd hG (bad9 hm9)).1, (pan_hd hG (bad9 hm9)).2, _, hs.sub (List.sublist_append_left _ _)⟩
          skip
          rintro c8_6 w8_6 ⟨hm8, rfl, hy⟩
          replace hs := Z.w1 (hs.call hy); clear hy
          repeat (first | refine Z.pthen ?_ | refine Z.pblock ?_ | refine Z.pscope ?_)
          refine Z.outp ?_
          exact .inr ⟨_, rfl, (pan_hd hG (bad8 hm8)).1, (pan_hd hG (bad8 hm8)).2, _, hs.sub (List.sublist_append_left _ _)⟩
        skip
        rintro c7_13 w7_13 ⟨hm7, rfl, hy⟩
        replace hs := Z.w1 (hs.call hy); clear hy
        repeat (first | refine Z.pthen ?_ | refine Z.pblock ?_ | refine Z.pscope ?_)
        refine Z.outp ?_
        exact .inr ⟨_, rfl, (pan_hd hG (bad7 hm7)).1, (pan_hd hG (bad7 hm7)).2, _, hs.sub (List.sublist_append_left _ _)⟩
      refine Z.yes (s := 28) (b := false) rfl hsp28 rfl ?_
      (try simp at hsp28)
      refine Z.g43 ?_
      refine Z.g43 ?_
      refine Z.g200 ?_
      refine Z.g43 ?_
      refine Z.lsU rfl rfl rfl (by rfl) ?_
      refine Z.g200 ?_
      refine Z.g13 ?_
      refine Z.g3 ?_
      refine Z.ZO.callB rfl rfl (by rfl) rfl rfl Tryz.call109 rfl (mm_must_any _ 9 _) ?_ ?_
      · skip
        rintro v7_13 w7_13 ⟨hm7, rfl, hy⟩
        replace hs := Z.w1 (hs.call hy); clear hy
        refine Z.g314 ?_
        refine Z.only [1, 2, 3, 4, 5, 8, 10] rfl ?_
        refine Z.g30 ?_
        exact absurd hm7 Z.b17
      skip
      rintro c7_13 w7_13 ⟨hm7, rfl, hy⟩
      replace hs := Z.w1 (hs.call hy); clear hy
      repeat (first | refine Z.pthen ?_ | refine Z.pblock ?_ | refine Z.pscope ?_)
      refine Z.outp ?_
      exact .inr ⟨_, rfl, (pan_hd hG (bad7n hsp28)).1, (pan_hd hG (bad7n hsp28)).2, _, hs.sub (List.sublist_append_left _ _)⟩
    skip
    rintro c4_1 w4_1 ⟨hq, rfl, a', hz⟩
    repeat (first | refine Z.pthen ?_ | refine Z.pblock ?_ | refine Z.pscope ?_)
    refine Z.outp ?_
    exact .inr ⟨_, rfl, (pan_end hG (not_at hq)).1, (pan_end hG (not_at hq)).2, _, (hs.regain hz).sub (List.sublist_append_left _ _)⟩
  (try simp at hc3)
  refine Z.g211 ?_
  refine Z.g31 ?_
  refine Z.g33 ?_
  refine Z.g52 ?_
  have hRR := hno (by simp_all)
  subst hRR
  exact .inl ⟨_, rfl, rfl, hp, by simp only; omega, hs.sub Z.b17⟩
end Go.Proofs.YtbojkoiopkaciaaGreat

/- MAC PDUs: Build, plain parts. -/
namespace Go.Proofs.YtbojkoiopkaciaaGreat
open Go.RowKit
set_option linter.unusedSimpArgs false
set_option linter.unusedVariables false
--newlaws

theorem mm_headI (g T : Nat) (sv : Value) (acc : List Int) (x : Int) (b : Bool) (w : World) (hs : SX.St w (SX.idsOf (WrL g T sv (unb acc))) w (WrL g T sv (unb acc))) (hx : 0 ≤ x ∧ x < 32) (ha : acc.length ≤ 100000) :
    Calls Tryz.prog 123 #[.int .i64 x, .bool b, .pointer (some ⟨g, 0, none⟩)] w (SX.Ret fun v w' => ∃ sv', v = .tuple #[] ∧ SX.St w (SX.idsOf (WrL g T sv (unb acc))) w' (WrL g T sv' (unb (acc ++ [x + if b then 32 else 0])))) := by
  obtain ⟨n, rfl⟩ := Int.eq_ofNat_of_zero_le hx.1
  exact mm_head g T sv acc n b w hs Z.b9 ha
def fmOf (n : Nat) : Int × Int × Int := if n ≤ 127 then (0, 7, 127) else (1, 15, 32767)
def lnF (n : Nat) : List (Int × Int) := [((fmOf n).1, 1), ((n : Int), (fmOf n).2.1)]
theorem lnF_ok {n : Nat} (h : n ≤ 32767) : (∀ f ∈ lnF n, GoodF f) ∧ chkA (lnF n) = 0 ∧ (lnF n).flatMap fldF = unb (lenF n) := by
  unfold lnF fmOf lenF
  by_cases h1 : n ≤ 127
  · rw [if_pos h1, if_pos h1]
    refine ⟨?_, ?_, ?_⟩
    · intro f hf
      simp only [List.mem_cons, List.mem_nil_iff, or_false] at hf
      unfold GoodF
      rcases hf with rfl | rfl
      · decide
      simp only; omega
    · have e1 : chkF (0, 1) = 0 := by decide
      have e2 : chkF ((n : Int), 7) = 0 := by
        unfold chkF quoF
        simp only [Int.toNat_natCast]
        rw [if_neg Z.b9, if_pos Z.b41]
      simp only [chkA, e1, e2, if_true]
    have := len_short ⟨n, by omega⟩
    simpa [fldF, unb] using this
  rw [if_neg h1, if_neg h1]
  refine ⟨?_, ?_, ?_⟩
  · intro f hf
    simp only [List.mem_cons, List.mem_nil_iff, or_false] at hf
    unfold GoodF
    rcases hf with rfl | rfl
    · decide
    simp only; omega
  · have e1 : chkF (1, 1) = 0 := by decide
    have e2 : chkF ((n : Int), 15) = 0 := by
      unfold chkF quoF
      simp only [Int.toNat_natCast]
      rw [if_neg Z.b9, if_pos Z.b41]
    simp only [chkA, e1, e2, if_true]
  have h2 := len_long (n := n) Z.b9
  have e1 : (128 + (n : Int) / 256).toNat = 128 + n / 256 := by omega
  have e2 : ((n : Int) % 256).toNat = n % 256 := by omega
  simpa [fldF, unb, e1, e2] using h2
theorem fm_ext {q : MpV} (h : sduB q.lc) : extP q.plain = if q.l.length ≤ 127 then 1 else 2 := by
  have e1 : q.plain.1 = q.lc := rfl
  have e2 : q.plain.2 = q.l := rfl
  unfold extP
  rw [e1, e2, if_pos h]
  by_cases h1 : q.l.length ≤ 127
  · rw [if_pos h1, if_neg Z.b9]
  rw [if_neg h1, if_pos Z.b9]
theorem ext_pos {q : MpV} : 0 < extP q.plain ↔ sduB q.lc := by
  constructor
  · intro h
    by_cases h1 : sduB q.lc
    · exact h1
    have := ext_no (p := q.plain) h1
    omega
  intro h
  rw [fm_ext h]
  split <;> omega
theorem hdsR_bd {a : Bool} : ∀ {r : List Prt}, (∀ p ∈ r, (1 ≤ p.1 ∧ p.1 ≤ 30) ∧ p.2.length ≤ 32767) → ∀ x ∈ hdsR r a, 0 ≤ x ∧ x < 256
  | [], _, x, hx => by cases hx
  | p :: r, h, x, hx => by
    rw [hdsR_cons] at hx
    have hp := h p Z.b17
    rcases List.mem_append.1 hx with h1 | h1
    · split at h1
      · obtain rfl : x = p.1 := by simpa using h1
        omega
      rcases List.mem_cons.1 h1 with rfl | h2
      · omega
      split at h2
      · exact (lenF_bd hp.2).1 x h2
      cases h2
    exact hdsR_bd (fun q hq => h q (by simp [hq])) x h1
def headB (r : List Prt) (f : Nat) (tr : Bool) : List Int := List.replicate f 63 ++ hdsR r tr ++ if tr then [31] else []
theorem headB_bd {r : List Prt} {f : Nat} {tr : Bool} (h : ∀ p ∈ r, (1 ≤ p.1 ∧ p.1 ≤ 30) ∧ p.2.length ≤ 32767) : ∀ x ∈ headB r f tr, 0 ≤ x ∧ x < 256 := by
  intro x hx
  unfold headB at hx
  rcases List.mem_append.1 hx with hx | hx
  · rcases List.mem_append.1 hx with hx | hx
    · have := (List.mem_replicate.1 hx).2; omega
    exact hdsR_bd h x hx
  split at hx
  · have : x = 31 := by simpa using hx
    omega
  cases hx
theorem join_few (r : List Prt) (d : Nat) : joinB r d (-1) = headB r d false ++ datR r := by simp [joinB, headB]
theorem join_tr (r : List Prt) (a : Nat) : joinB r 0 (a : Int) = headB r 0 true ++ datR r ++ List.replicate a 0 := by simp [joinB, headB]
theorem headB_len_t (r : List Prt) : ((headB r 0 true ++ datR r).length : Int) = totP r + 1 := by
  have := hds_true r
  simp [headB]
  omega
theorem headB_len_f (r : List Prt) (d : Nat) (h : r ≠ []) : ((headB r d false ++ datR r).length : Int) = needP r + d := by
  have := hds_false r h
  simp [headB]
  omega
end Go.Proofs.YtbojkoiopkaciaaGreat

/- MAC PDUs: parsing, plainly. -/
namespace Go.Proofs.YtbojkoiopkaciaaGreat
open Go.RowKit
set_option linter.unusedSimpArgs false
set_option linter.unusedVariables false

def ptN (l : List Int) (p : Nat) (x n : Int) (last : Bool) : Int := if ctlN x ≠ 0 then ctlN x else if last then (l.length : Int) - p else n
def ptGo (l : List Int) : List (Int × Int) → Nat → List Prt → Int × List Prt
  | [], _, acc => if acc = [] then (9, []) else (0, acc)
  | h :: hs, p, acc => if h.1 = 31 then ptGo l hs p acc
    else if ¬ p + (ptN l p h.1 h.2 hs.isEmpty).toNat ≤ l.length then (5, [])
    else if hs.isEmpty = true ∧ ¬ (0 < (ptN l p h.1 h.2 hs.isEmpty).toNat ∧ p + (ptN l p h.1 h.2 hs.isEmpty).toNat = l.length) then (9, [])
    else ptGo l hs (p + (ptN l p h.1 h.2 hs.isEmpty).toNat) (acc ++ [(h.1, (l.drop p).take (ptN l p h.1 h.2 hs.isEmpty).toNat)])
def hdV (l : List Int) : Int × List (Int × Int) × Nat := hGo l (l.length + 1) 0 [] false false
def parV (l : List Int) : Int × List Prt := if 16384 < l.length then (4, []) else if (hdV l).1 ≠ 0 then ((hdV l).1, []) else ptGo l (hdV l).2.1 (hdV l).2.2 []
def hdT (h : Int × Int) : Prop := sduB h.1 ∨ ctlN h.1 ≠ 0 ∨ h.1 = 31
def hdG (h : Int × Int) : Prop := hdT h ∧ (sduB h.1 → 1 ≤ h.2 ∧ h.2 ≤ 32767)
theorem lnV_bd {l : List Int} (hb : ∀ x ∈ l, 0 ≤ x ∧ x < 256) {p : Nat} (h : lnE l p = 0) : 1 ≤ lnV l p ∧ lnV l p ≤ 32767 := by
  unfold lnE at h
  unfold lnV
  by_cases h1 : p < l.length
  · have b1 := byB_bd hb h1
    rw [if_neg (fun k => k h1)] at h
    by_cases h2 : byB l p < 128
    · rw [if_pos h2] at h ⊢
      by_cases h3 : byB l p = 0
      · rw [if_pos h3] at h; cases h
      omega
    rw [if_neg h2] at h ⊢
    by_cases h3 : p + 1 < l.length
    · have b2 := byB_bd hb h3
      rw [if_neg (fun k => k h3)] at h
      by_cases h4 : 127 < byB l p % 128 * 256 + byB l (p + 1)
      · omega
      rw [if_neg h4] at h; cases h
    rw [if_pos h3] at h; cases h
  rw [if_pos h1] at h; cases h
theorem hGo_good {l : List Int} (hb : ∀ x ∈ l, 0 ≤ x ∧ x < 256) : ∀ (F p : Nat) (acc : List (Int × Int)) (d pt : Bool), (∀ h ∈ acc, hdG h) → (hGo l F p acc d pt).1 = 0 → ∃ a h, (hGo l F p acc d pt).2.1 = a ++ [h] ∧ (∀ x ∈ a, hdG x) ∧ hdT h
  | 0, _, _, _, _ => by intro _ h; cases h
  | F + 1, p, acc, d, pt => by
    intro ha
    rw [hGo]
    by_cases h1 : p < l.length
    · rw [if_neg (fun k => k h1)]
      by_cases h2 : hdBad (byB l p) acc.length d pt
      · rw [if_pos h2]; intro h; exact absurd h Z.b12
      rw [if_neg h2]
      have hT : sduB (byB l p % 32) ∨ ctlN (byB l p % 32) ≠ 0 ∨ byB l p % 32 = 31 := by
        unfold hdBad at h2
        exact (Classical.not_not.1 (fun k => h2 (.inl k))).2
      by_cases h3 : byB l p / 32 % 2 = 1
      · rw [if_pos h3]
        by_cases h4 : sduB (byB l p % 32)
        · rw [if_pos h4]
          by_cases h5 : lnE l (p + 1) = 0
          · rw [if_neg (fun k => k h5)]
            refine hGo_good hb F _ _ _ _ ?_
            intro x hx
            rcases List.mem_append.1 hx with h | h
            · exact ha x h
            obtain rfl : x = _ := by simpa using h
            exact ⟨.inl h4, fun _ => lnV_bd hb h5⟩
          rw [if_pos h5]; intro h; exact absurd h h5
        rw [if_neg h4]
        refine hGo_good hb F _ _ _ _ ?_
        intro x hx
        rcases List.mem_append.1 hx with h | h
        · exact ha x h
        obtain rfl : x = _ := by simpa using h
        exact ⟨hT, fun h => absurd h h4⟩
      rw [if_neg h3]
      intro _
      exact ⟨acc, _, rfl, ha, hT⟩
    rw [if_pos h1]; intro h; exact absurd h Z.b12
theorem dropc {l : List Int} {p : Nat} {b : Int} {X : List Int} (h : l.drop p = b :: X) : p < l.length ∧ byB l p = b ∧ l.drop (p + 1) = X := by
  have hp : p < l.length := by
    rcases Nat.lt_or_ge p l.length with h1 | h1
    · exact h1
    rw [List.drop_of_length_le h1] at h; cases h
  rw [drop_elt hp] at h
  injection h with h1 h2
  exact ⟨hp, h1, h2⟩
theorem ln_of {l : List Int} {p n : Nat} {X : List Int} (h : l.drop p = lenF n ++ X) (hn : 1 ≤ n ∧ n ≤ 32767) : lnE l p = 0 ∧ lnV l p = n ∧ lnP l p = p + (lenF n).length ∧ l.drop (lnP l p) = X := by
  unfold lenF at h ⊢
  by_cases h1 : n ≤ 127
  · rw [if_pos h1] at h ⊢
    obtain ⟨a, b, c⟩ := dropc h
    have e : lnP l p = p + 1 := by unfold lnP; rw [b, if_pos Z.b9]
    refine ⟨?_, ?_, e, by rw [e]; exact c⟩
    · unfold lnE; rw [if_neg (fun k => k a), b, if_pos Z.b9, if_neg Z.b9]
    unfold lnV; rw [b, if_pos Z.b9]
  rw [if_neg h1] at h ⊢
  obtain ⟨a, b, c⟩ := dropc h
  obtain ⟨a2, b2, c2⟩ := dropc c
  have e : lnP l p = p + 2 := by unfold lnP; rw [b, if_neg Z.b9]
  refine ⟨?_, ?_, e, by rw [e]; exact c2⟩
  · unfold lnE; rw [if_neg (fun k => k a), b, if_neg Z.b9, if_neg (fun k => k a2), b2, if_pos Z.b9]
  unfold lnV; rw [b, b2, if_neg Z.b9]; omega
def hdO (a : Bool) : List Prt → List (Int × Int)
  | [] => if a then [(31, -1)] else []
  | p :: r => (p.1, if r.isEmpty && !a then -1 else if sduB p.1 then (p.2.length : Int) else -1) :: hdO a r
theorem hGo_parts {l : List Int} {a : Bool} {X : List Int} : ∀ (r : List Prt) (F p : Nat) (acc : List (Int × Int)) (d pt : Bool), r.length + 1 ≤ F → l.drop p = hdsR r a ++ ((if a then [31] else []) ++ X) → vldP d r = true → (r ≠ [] ∨ a = true) →
    hGo l F p acc d pt = (0, acc ++ hdO a r, p + (hdsR r a).length + (if a then 1 else 0))
  | [], F, p, acc, d, pt, hF, hd, hv, hr => by
    have ha : a = true := by rcases hr with h | h; exact absurd rfl h; exact h
    subst ha
    obtain ⟨F, rfl⟩ : ∃ F', F = F' + 1 := ⟨F - 1, by simp at hF; omega⟩
    obtain ⟨h1, h2, -⟩ := dropc (b := 31) (X := X) (by simpa [hdsR] using hd)
    rw [hGo, if_neg (fun k => k h1), h2, if_neg (by unfold hdBad; simp [ctlN]), if_neg Z.b12]
    simp [hdO, hdsR]
  | q :: r, F, p, acc, d, pt, hF, hd, hv, hr => by
    obtain ⟨F, rfl⟩ : ∃ F', F = F' + 1 := ⟨F - 1, by simp at hF; omega⟩
    have hF' : r.length + 1 ≤ F := by simp at hF; omega
    obtain ⟨⟨q1, q2⟩, q3⟩ := vldP_mem hv q Z.b17
    rw [vldP_cons] at hv
    have hty : sduB q.1 ∨ ctlN q.1 ≠ 0 := by
      by_cases h : sduB q.1
      · exact .inl h
      rw [if_neg h] at hv; simp at hv; exact .inr hv.1.1.2
    have hcd : ¬ (ctlN q.1 ≠ 0 ∧ d = true) := by
      rintro ⟨h1, h2⟩
      by_cases h : sduB q.1
      · exact h1 (sdu_ctl h)
      rw [if_neg h] at hv; simp [h2] at hv
    have h31 : q.1 ≠ 31 := by omega
    rw [hdsR_cons] at hd
    by_cases hla : (r.isEmpty && !a) = true
    · rw [if_pos hla] at hd
      obtain ⟨h1, h2, -⟩ := dropc (b := q.1) (X := hdsR r a ++ ((if a then [31] else []) ++ X)) (by simpa using hd)
      have hre : r = [] ∧ a = false := by simpa using hla
      obtain ⟨rfl, rfl⟩ := hre
      have e1 : q.1 % 32 = q.1 := by omega
      have e2 : q.1 / 64 = 0 := by omega
      have e3 : ¬ q.1 / 32 % 2 = 1 := by omega
      have hnb : ¬ hdBad q.1 acc.length d pt := by
        unfold hdBad
        rw [e1, e2]
        rintro (h | h | h)
        · exact h ⟨rfl, by rcases hty with h | h; exact .inl h; exact .inr (.inl h)⟩
        · exact hcd h
        exact h31 h.1
      rw [hGo, if_neg (fun k => k h1), h2, if_neg hnb, if_neg e3, e1]
      simp [hdO, hdsR]
    rw [if_neg hla] at hd
    obtain ⟨h1, h2, h3⟩ := dropc (b := q.1 + 32) (X := (if sduB q.1 then lenF q.2.length else []) ++ (hdsR r a ++ ((if a then [31] else []) ++ X))) (by simpa using hd)
    have hra : r ≠ [] ∨ a = true := by
      cases a
      · left; intro h; subst h; exact hla rfl
      exact .inr rfl
    have e1 : (q.1 + 32) % 32 = q.1 := by omega
    have e2 : (q.1 + 32) / 64 = 0 := by omega
    have e3 : (q.1 + 32) / 32 % 2 = 1 := by omega
    have hnb : ¬ hdBad (q.1 + 32) acc.length d pt := by
      unfold hdBad
      rw [e1, e2]
      rintro (h | h | h)
      · exact h ⟨rfl, by rcases hty with h | h; exact .inl h; exact .inr (.inl h)⟩
      · exact hcd h
      exact h31 h.1
    rw [hGo, if_neg (fun k => k h1), h2, if_neg hnb, if_pos e3, e1]
    have eO : hdO a (q :: r) = (q.1, if sduB q.1 then (q.2.length : Int) else -1) :: hdO a r := by rw [hdO, if_neg hla]
    rw [eO, hdsR_cons, if_neg hla]
    by_cases hsd : sduB q.1
    · rw [if_pos hsd] at hv h3 ⊢
      simp only [Bool.and_eq_true, decide_eq_true_eq] at hv
      obtain ⟨l1, l2, l3, l4⟩ := ln_of h3 ⟨hv.1.1, q3⟩
      rw [if_neg (by rw [l1]; decide), l2, l3]
      rw [l3] at l4
      rw [hGo_parts r F _ _ _ _ hF' l4 (by simpa [hsd] using hv.2) hra]
      simp [hsd]
      omega
    rw [if_neg hsd] at hv h3 ⊢
    simp only [Bool.and_eq_true, Bool.not_eq_true', decide_eq_true_eq] at hv
    rw [hGo_parts r F _ _ _ _ hF' (by simpa using h3) (by simpa [hsd, hv.1.1.1] using hv.2) hra]
    simp [hsd]
    omega
theorem hGo_front {l : List Int} {X : List Int} : ∀ (f F p : Nat) (acc : List (Int × Int)), acc.length + f ≤ 2 → l.drop p = List.replicate f 63 ++ X → hGo l (F + f) p acc false false = hGo l F (p + f) (acc ++ List.replicate f (31, -1)) false false ∧ l.drop (p + f) = X
  | 0, F, p, acc, _, h => by simpa using h
  | f + 1, F, p, acc, ha, h => by
    rw [List.replicate_succ, List.cons_append] at h
    obtain ⟨h1, h2, h3⟩ := dropc h
    obtain ⟨k1, k2⟩ := hGo_front f F (p + 1) (acc ++ [(31, -1)]) Z.b41 h3
    have hnb : ¬ hdBad 63 acc.length false false := by
      unfold hdBad
      rintro (h | h | h)
      · exact h ⟨by decide, .inr (.inr Z.b12)⟩
      · exact absurd h.2 Z.b12
      rcases h.2.2 with h | h
      · cases h
      omega
    have e1 : ¬ sduB ((63 : Int) % 32) := by decide
    have e : hGo l (F + (f + 1)) p acc false false = hGo l (F + f) (p + 1) (acc ++ [(31, -1)]) false false := by
      rw [← Nat.add_assoc, hGo, if_neg (fun k => k h1), h2, if_neg hnb, if_pos Z.b12, if_neg e1]
      rfl
    rw [e, k1, List.append_assoc, List.replicate_succ]
    exact ⟨by rw [show p + 1 + f = p + (f + 1) from by omega]; rfl, by rw [← k2]; congr 1; omega⟩
theorem ptGo_front {l : List Int} {hs : List (Int × Int)} {p : Nat} {acc : List Prt} : ∀ f : Nat, ptGo l (List.replicate f (31, -1) ++ hs) p acc = ptGo l hs p acc
  | 0 => rfl
  | f + 1 => by
    rw [List.replicate_succ, List.cons_append, ptGo, if_pos rfl]
    exact ptGo_front f
theorem hdO_empty {a : Bool} {r : List Prt} : (hdO a r).isEmpty = (r.isEmpty && !a) := by
  cases r with
  | nil => cases a <;> rfl
  | cons q r => rfl
theorem ptGo_parts {l : List Int} {a : Bool} {Y : List Int} (hY : a = false → Y = []) : ∀ (r : List Prt) (p : Nat) (acc : List Prt) (d : Bool), vldP d r = true → l.drop p = datR r ++ Y → (r ≠ [] ∨ acc ≠ []) → ptGo l (hdO a r) p acc = (0, acc ++ r)
  | [], p, acc, d, hv, hd, hr => by
    have ha : acc ≠ [] := by rcases hr with h | h; exact absurd rfl h; exact h
    cases a
    · simp [hdO, ptGo, ha]
    simp [hdO, ptGo, ha]
  | q :: r, p, acc, d, hv, hd, hr => by
    obtain ⟨⟨q1, q2⟩, q3⟩ := vldP_mem hv q Z.b17
    rw [vldP_cons] at hv
    rw [datR_cons, List.append_assoc] at hd
    have hlen := congrArg List.length hd
    rw [List.length_drop, List.length_append] at hlen
    have hq0 : 1 ≤ q.2.length := by
      by_cases h : sduB q.1
      · rw [if_pos h] at hv; simp at hv; exact hv.1.1
      rw [if_neg h] at hv
      simp at hv
      have h2 := hv.1.2
      have h3 := hv.1.1.2
      have h4 := ctlN_bd q.1
      omega
    obtain ⟨n, hn⟩ : ∃ n : Int, (if r.isEmpty && !a then -1 else if sduB q.1 then (q.2.length : Int) else -1) = n := ⟨_, rfl⟩
    have hk : (ptN l p q.1 n (hdO a r).isEmpty).toNat = q.2.length := by
      unfold ptN
      by_cases h : sduB q.1
      · rw [if_neg (by simpa using sdu_ctl h), hdO_empty]
        by_cases hla : (r.isEmpty && !a) = true
        · rw [if_pos hla]
          have hre : r = [] ∧ a = false := by simpa using hla
          obtain ⟨rfl, hf⟩ := hre
          rw [hY hf] at hlen
          simp [datR] at hlen
          omega
        rw [if_neg hla] at hn
        rw [if_neg hla, ← hn, if_pos h]
        rfl
      rw [if_neg h] at hv
      simp at hv
      rw [if_pos (by exact hv.1.1.2), ← hv.1.2]
      rfl
    have ht : (l.drop p).take q.2.length = q.2 := by rw [hd]; simp
    have hdr : l.drop (p + q.2.length) = datR r ++ Y := by rw [← List.drop_drop, hd]; simp
    rw [hdO, hn, ptGo, if_neg Z.b21]
    simp only [hk, ht]
    rw [if_neg Z.b9, if_neg]
    · have hv' : ∃ d', vldP d' r = true := by
        by_cases h : sduB q.1
        · rw [if_pos h] at hv; simp at hv; exact ⟨_, hv.2⟩
        rw [if_neg h] at hv; simp at hv; exact ⟨_, hv.2⟩
      obtain ⟨d', hv'⟩ := hv'
      rw [ptGo_parts hY r _ _ d' hv' hdr (.inr Z.b17)]
      simp
    rintro ⟨h1, h2⟩
    rw [hdO_empty] at h1
    have hre : r = [] ∧ a = false := by simpa using h1
    obtain ⟨rfl, hf⟩ := hre
    rw [hY hf] at hlen
    simp [datR] at hlen
    exact h2 ⟨by omega, by omega⟩
theorem hds_len (a : Bool) : ∀ r : List Prt, r.length ≤ (hdsR r a).length
  | [] => Nat.zero_le _
  | q :: r => by
    have := hds_len a r
    rw [hdsR_cons]
    split <;> simp <;> omega
theorem par_join {r : List Prt} (hr : r ≠ []) (hv : vldP false r = true) {a : Bool} {f M : Nat} (hf : f ≤ 2) (hM : a = false → M = 0) (hl : (headB r f a ++ datR r ++ List.replicate M (0 : Int)).length ≤ 16384) :
    parV (headB r f a ++ datR r ++ List.replicate M 0) = (0, r) := by
  obtain ⟨l, hle⟩ : ∃ l, headB r f a ++ datR r ++ List.replicate M (0 : Int) = l := ⟨_, rfl⟩
  rw [hle] at hl ⊢
  have h0 : l.drop 0 = List.replicate f 63 ++ (hdsR r a ++ ((if a then [31] else []) ++ (datR r ++ List.replicate M 0))) := by
    rw [List.drop_zero, ← hle]
    simp [headB]
  have hlen := congrArg List.length h0
  have hhl := hds_len a r
  rw [List.drop_zero, List.length_append, List.length_append, List.length_replicate] at hlen
  obtain ⟨F, hF⟩ : ∃ F, l.length + 1 = F + f := ⟨l.length + 1 - f, by omega⟩
  obtain ⟨g1, g2⟩ := hGo_front f F 0 [] (by simpa using hf) h0
  have g3 := hGo_parts r F (0 + f) ([] ++ List.replicate f (31, -1)) false false Z.b9 g2 hv (.inl hr)
  have hV : hdV l = (0, List.replicate f (31, -1) ++ hdO a r, 0 + f + (hdsR r a).length + (if a then 1 else 0)) := by
    unfold hdV
    rw [hF, g1, g3, List.nil_append]
  have hd : l.drop (0 + f + (hdsR r a).length + (if a then 1 else 0)) = datR r ++ List.replicate M 0 := by
    rw [Nat.add_assoc, ← List.drop_drop, g2, ← List.drop_drop, List.drop_left]
    cases a <;> simp
  unfold parV
  rw [if_neg Z.b9, hV]
  simp only
  rw [if_neg Z.b17, ptGo_front, ptGo_parts (fun h => by rw [hM h]; rfl) r _ [] false hv hd (.inl hr)]
  rfl
theorem par_build {size : Int} {r : List Prt} (h : (bldV size r).2 = 0) : parV (bldV size r).1 = (0, r) := by
  by_cases h1 : (1 ≤ size ∧ size ≤ 16384) ∧ okN r
  · by_cases h2 : size - needP r < 0
    · rw [bld_long h1 h2] at h; exact absurd h Z.b12
    obtain ⟨d, hd⟩ : ∃ d : Nat, size - needP r = (d : Int) := ⟨(size - needP r).toNat, by omega⟩
    by_cases h3 : d ≤ 2
    · rw [bld_few h1 hd h3]
      have hl := headB_len_f r d h1.2.1
      simp only [join_few]
      have := par_join (a := false) (f := d) (M := 0) h1.2.1 h1.2.2 h3 (fun _ => rfl) (by simp only [List.replicate_zero, List.append_nil]; omega)
      simpa using this
    have hnt := need_tot r
    rw [bld_pad h1 Z.b9]
    obtain ⟨M, hM⟩ : ∃ M : Nat, size - (totP r + 1) = (M : Int) := ⟨(size - (totP r + 1)).toNat, by omega⟩
    have hl := headB_len_t r
    rw [hM]
    simp only [join_tr]
    exact par_join (a := true) (f := 0) (M := M) h1.2.1 h1.2.2 Z.b9 (fun h => by cases h) (by rw [List.length_append, List.length_replicate]; omega)
  rw [bld_arg h1] at h; exact absurd h Z.b12
end Go.Proofs.YtbojkoiopkaciaaGreat

/- MAC PDUs: a part read. -/
namespace Go.Proofs.YtbojkoiopkaciaaGreat
open Go.RowKit
set_option linter.unusedSimpArgs false
set_option linter.unusedVariables false
--newlaws

abbrev PtR (g T : Nat) (sv : Value) (l : List Int) (p : Nat) (x : Int) (last : Bool) (k : Nat) (w : World) : Ending → World → Prop := Z.Bo (fun v w' => (p + k ≤ l.length ∧ (last = true → 0 < k ∧ p + k = l.length)) ∧ ∃ B co, v = .agg #[.int .i64 x, .slice B k k] ∧ SX.St w (SX.idsOf (RdL g T sv l (8 * p))) w' (RdL g T sv l (8 * (p + k)) ++ [SX.Ent.row (.slice B k co) 5 1 k (ints .u8 ((l.drop p).take k))])) fun c w' => (¬ p + k ≤ l.length ∨ last = true ∧ ¬ (0 < k ∧ p + k = l.length)) ∧ c = mperr (if p + k ≤ l.length then 9 else 5) ∧ ∃ a', SX.St w (SX.idsOf (RdL g T sv l (8 * p))) w' (RdL g T sv l a')
theorem mm_gotb_any (x : Value) (e : Int) (w : World) : Calls Tryz.prog 167 #[x, .int .i64 e] w (Z.Bo (fun v w' => e = 0 ∧ v = x ∧ SX.St w [] w' []) fun c w' => e ≠ 0 ∧ c = mperr e ∧ SX.St w [] w' []) := by
  by_cases h : e = 0
  · subst h; exact Z.Bo.ret ((mm_gotb_ok x w).mono fun e w' ⟨v, h1, h2⟩ => ⟨v, h1, rfl, h2⟩)
  exact Z.Bo.pan ((mm_gotb_bad x e w h).mono fun e w' ⟨v, h1, h2⟩ => ⟨v, h1, h, h2⟩)
set_option maxHeartbeats 1000000 in
set_option maxRecDepth 100000 in
theorem mm_part_mid (g T : Nat) (sv : Value) (l : List Int) (p : Nat) (x n : Int) (k : Nat) (w : World) (hs : SX.St w (SX.idsOf (RdL g T sv l (8 * p))) w (RdL g T sv l (8 * p))) (hl : l.length ≤ 1000000) (hb : ∀ x ∈ l, 0 ≤ x ∧ x < 256) (hp : p ≤ l.length) (hk : ptN l p x n false = k) :
    Calls Tryz.prog 112 #[.agg #[.pointer (some ⟨g, 0, none⟩)], .agg #[.int .i64 x, .int .i64 n], .bool false] w (PtR g T sv l p x false k w) := by
  unfold PtR
  generalize hM : SX.idsOf (RdL g T sv l (8 * p)) = M at *
  obtain ⟨c, hc⟩ : ∃ c : Bool, decide (ctlN x ≠ 0) = c := ⟨_, rfl⟩
  have hkT : c = true → ctlN x = (k : Int) := fun h => by rw [← hk]; unfold ptN; rw [if_pos (by subst h; simpa using hc)]
  have hkF : c = false → n = (k : Int) := fun h => by rw [← hk]; unfold ptN; rw [if_neg (by subst h; simpa using hc)]; rfl
  have hgb : gbE l (8 * p) (k : Int) = 0 → p + k ≤ l.length := fun h => by
    rcases Nat.lt_or_ge l.length (p + k) with h1 | h1
    · rw [gb_bad hp Z.b9] at h; cases h
    exact h1
  have hgc : gbE l (8 * p) (k : Int) ≠ 0 → ¬ p + k ≤ l.length := fun h h1 => h (gb_ok hb h1).1
  refine Z.enter Tryz.func112 rfl Tryz.ntmps112 rfl rfl ?_
  refine Z.g90 ?_
  clear hs; intro g3 w3 hs
  refine Z.g3 ?_
  refine Z.g17 ?_
  clear hs; intro g4 w4 hs
  refine Z.g254 ?_
  clear hs; intro g6 w6 hs
  refine Z.g314 ?_
  refine Z.only [2, 3, 4, 6] rfl ?_
  refine Z.g263 ?_
  refine Z.ZO.call rfl rfl (by rfl) rfl rfl Tryz.call163 rfl (mc_Control _ _) ?_
  rintro v1_2 w1_2 ⟨rfl, hy⟩
  replace hs := Z.w1 (hs.call hy); clear hy
  rw [hc]
  refine Z.g212 ?_
  refine Z.only [2, 3, 4, 6, 7, 8] rfl ?_
  refine Z.g313 ?_
  refine Z.g35 ?_
  refine Z.g0 ?_
  refine Z.lb 6 rfl ?_
  refine Z.g314 ?_
  refine Z.only [2, 3, 4, 6, 7, 8, 16] rfl ?_
  refine Z.g313 ?_
  refine Z.cond rfl (fun h => absurd h (by cases c <;> simp)) (fun hc2 => ?_)
  refine Z.g0 ?_
  refine Z.g247 ?_
  refine Z.only [2, 3, 4, 6, 7, 26] rfl ?_
  refine Z.g313 ?_
  refine Z.cond rfl (fun hc4 => ?_) (fun hc4 => ?_)
  · (try simp at hc4)
    obtain rfl : c = false := by simpa using hc4
    obtain rfl := hkF rfl
    refine Z.region ?_
    refine Z.g140 ?_
    refine Z.g1 ?_
    refine Z.only [2, 3, 4, 6, 7] rfl ?_
    refine Z.nblock ?_
    refine Z.g30 ?_
    refine Z.g86 ?_
    refine Z.g64 ?_
    replace hs : SX.St w M _ (RdL g T sv l (8 * p) ++ [_, _, _]) := hs.rot (L1 := [_, _, _])
    refine Z.g3 ?_
    refine Z.g144 ?_
    rintro v6_3 w6_3 ⟨so, rfl, hz⟩
    replace hs := hs.regain hz
    refine Z.g63 ?_
    refine Z.ZO.callB rfl rfl (by rfl) rfl rfl Tryz.call167 rfl (mm_gotb_any _ _ _) ?_ ?_
    · skip
      rintro v6_6 w6_6 ⟨hE, rfl, hy⟩
      replace hs := Z.w1 (hs.call hy); clear hy
      have hpk := hgb hE
      obtain ⟨-, gv, ga⟩ := gb_ok hb hpk
      rw [gv, ga] at hs
      have hlk : ((l.drop p).take k).length = k := by rw [List.length_take, List.length_drop]; omega
      rw [hlk] at hs
      obtain ⟨B, co, rfl, hco, -, -⟩ := SX.row_slv hs (j := 2) rfl
      refine Z.g261 ?_
      refine Z.yes (s := 40) (b := true) rfl (Z.b17) rfl ?_
      refine Z.g2 ?_
      refine Z.g8 ?_
      refine Z.g200 ?_
      refine Z.g15 ?_
      refine Z.g3 ?_
      refine Z.ZO.call rfl rfl (by rfl) rfl rfl Tryz.call109 rfl (mm_must_ok _ 9 _ Z.b17) ?_
      rintro v7_12 w7_12 ⟨rfl, hy⟩
      replace hs := Z.w1 (hs.call hy); clear hy
      try simp only [RdL, List.cons_append, List.nil_append] at hs
      refine Z.g314 ?_
      refine Z.g185 ?_
      clear hs; intro wd8 hs
      refine Z.g12 ?_
      refine Z.g7 ?_
      clear hs; intro ws hs
      replace hs := Z.w0 hs
      replace hs := Z.w3 hs
      refine Z.g96 ?_
      refine Z.out1 Z.b36 ?_
      exact .inl ⟨_, rfl, ⟨hpk, fun h => by cases h⟩, B, co, by rw [slA_zero]; rfl, hs.sel [0, 1, 2] Z.b12⟩
    skip
    rintro c6_6 w6_6 ⟨hE, rfl, hy⟩
    replace hs := Z.w1 (hs.call hy); clear hy
    repeat (first | refine Z.pthen ?_ | refine Z.pblock ?_ | refine Z.pscope ?_)
    refine Z.outp ?_
    exact .inr ⟨_, rfl, .inl (hgc hE), by rw [if_neg (hgc hE), gb_bad hp (hgc hE)], _, hs.sub ((List.sublist_append_left _ _).trans (List.sublist_append_left _ _))⟩
  (try simp at hc4)
  obtain rfl : c = true := by simpa using hc4
  rw [hkT rfl]
  refine Z.g71 ?_
  refine Z.g30 ?_
  refine Z.g86 ?_
  refine Z.g64 ?_
  replace hs : SX.St w M _ (RdL g T sv l (8 * p) ++ [_, _, _]) := hs.rot (L1 := [_, _, _])
  refine Z.g3 ?_
  refine Z.g144 ?_
  rintro v6_3 w6_3 ⟨so, rfl, hz⟩
  replace hs := hs.regain hz
  refine Z.g63 ?_
  refine Z.ZO.callB rfl rfl (by rfl) rfl rfl Tryz.call167 rfl (mm_gotb_any _ _ _) ?_ ?_
  · skip
    rintro v6_6 w6_6 ⟨hE, rfl, hy⟩
    replace hs := Z.w1 (hs.call hy); clear hy
    have hpk := hgb hE
    obtain ⟨-, gv, ga⟩ := gb_ok hb hpk
    rw [gv, ga] at hs
    have hlk : ((l.drop p).take k).length = k := by rw [List.length_take, List.length_drop]; omega
    rw [hlk] at hs
    obtain ⟨B, co, rfl, hco, -, -⟩ := SX.row_slv hs (j := 2) rfl
    refine Z.g261 ?_
    refine Z.yes (s := 40) (b := true) rfl (Z.b17) rfl ?_
    refine Z.g2 ?_
    refine Z.g8 ?_
    refine Z.g200 ?_
    refine Z.g15 ?_
    refine Z.g3 ?_
    refine Z.ZO.call rfl rfl (by rfl) rfl rfl Tryz.call109 rfl (mm_must_ok _ 9 _ Z.b17) ?_
    rintro v7_12 w7_12 ⟨rfl, hy⟩
    replace hs := Z.w1 (hs.call hy); clear hy
    try simp only [RdL, List.cons_append, List.nil_append] at hs
    refine Z.g314 ?_
    refine Z.g185 ?_
    clear hs; intro wd8 hs
    refine Z.g12 ?_
    refine Z.g7 ?_
    clear hs; intro ws hs
    replace hs := Z.w0 hs
    replace hs := Z.w3 hs
    refine Z.g96 ?_
    refine Z.out1 Z.b36 ?_
    exact .inl ⟨_, rfl, ⟨hpk, fun h => by cases h⟩, B, co, by rw [slA_zero]; rfl, hs.sel [0, 1, 2] Z.b12⟩
  skip
  rintro c6_6 w6_6 ⟨hE, rfl, hy⟩
  replace hs := Z.w1 (hs.call hy); clear hy
  repeat (first | refine Z.pthen ?_ | refine Z.pblock ?_ | refine Z.pscope ?_)
  refine Z.outp ?_
  exact .inr ⟨_, rfl, .inl (hgc hE), by rw [if_neg (hgc hE), gb_bad hp (hgc hE)], _, hs.sub ((List.sublist_append_left _ _).trans (List.sublist_append_left _ _))⟩
set_option maxHeartbeats 1000000 in
set_option maxRecDepth 100000 in
theorem mm_part_last (g T : Nat) (sv : Value) (l : List Int) (p : Nat) (x n : Int) (k : Nat) (w : World) (hs : SX.St w (SX.idsOf (RdL g T sv l (8 * p))) w (RdL g T sv l (8 * p))) (hl : l.length ≤ 1000000) (hb : ∀ x ∈ l, 0 ≤ x ∧ x < 256) (hp : p ≤ l.length) (hk : ptN l p x n true = k) :
    Calls Tryz.prog 112 #[.agg #[.pointer (some ⟨g, 0, none⟩)], .agg #[.int .i64 x, .int .i64 n], .bool true] w (PtR g T sv l p x true k w) := by
  unfold PtR
  generalize hM : SX.idsOf (RdL g T sv l (8 * p)) = M at *
  obtain ⟨c, hc⟩ : ∃ c : Bool, decide (ctlN x ≠ 0) = c := ⟨_, rfl⟩
  have hkT : c = true → ctlN x = (k : Int) := fun h => by rw [← hk]; unfold ptN; rw [if_pos (by subst h; simpa using hc)]
  have hkF : c = false → (l.length : Int) - p = (k : Int) := fun h => by rw [← hk]; unfold ptN; rw [if_neg (by subst h; simpa using hc)]; rfl
  have hgb : gbE l (8 * p) (k : Int) = 0 → p + k ≤ l.length := fun h => by
    rcases Nat.lt_or_ge l.length (p + k) with h1 | h1
    · rw [gb_bad hp Z.b9] at h; cases h
    exact h1
  have hgc : gbE l (8 * p) (k : Int) ≠ 0 → ¬ p + k ≤ l.length := fun h h1 => h (gb_ok hb h1).1
  refine Z.enter Tryz.func112 rfl Tryz.ntmps112 rfl rfl ?_
  refine Z.g90 ?_
  clear hs; intro g3 w3 hs
  refine Z.g3 ?_
  refine Z.g17 ?_
  clear hs; intro g4 w4 hs
  refine Z.g254 ?_
  clear hs; intro g6 w6 hs
  refine Z.g314 ?_
  refine Z.only [2, 3, 4, 6] rfl ?_
  refine Z.g263 ?_
  refine Z.ZO.call rfl rfl (by rfl) rfl rfl Tryz.call163 rfl (mc_Control _ _) ?_
  rintro v1_2 w1_2 ⟨rfl, hy⟩
  replace hs := Z.w1 (hs.call hy); clear hy
  rw [hc]
  refine Z.g212 ?_
  refine Z.only [2, 3, 4, 6, 7, 8] rfl ?_
  refine Z.g313 ?_
  refine Z.g35 ?_
  refine Z.g0 ?_
  refine Z.lb 6 rfl ?_
  refine Z.g314 ?_
  refine Z.only [2, 3, 4, 6, 7, 8, 16] rfl ?_
  refine Z.g313 ?_
  refine Z.cond rfl (fun hc2 => ?_) (fun hc2 => ?_)
  · (try simp at hc2)
    obtain rfl : c = false := by simpa using hc2
    refine Z.region ?_
    refine Z.g86 ?_
    replace hs : SX.St w M _ (RdL g T sv l (8 * p) ++ [_, _, _]) := hs.rot (L1 := [_, _, _])
    refine Z.g3 ?_
    refine Z.ZO.call rfl rfl (by rfl) rfl rfl Tryz.call166 rfl (rleft_any g T sv l (8 * p) _ hs.lend hl Z.b9) ?_
    rintro v3_2 w3_2 ⟨rfl, hz⟩
    replace hs := hs.regain hz
    have e8 : (8 * l.length : Int) - ((8 * p : Nat) : Int) = ((8 * k : Nat) : Int) := by have := hkF rfl; omega
    rw [e8]
    refine Z.l rfl rfl (by rfl) (Z.keepS hs) (Z.Yd.quo rfl rfl Z.b54 Z.b58) ?_
    refine Z.g1 ?_
    refine Z.only [2, 3, 4, 6, 7] rfl ?_
    refine Z.nblock ?_
    refine Z.g30 ?_
    rw [show ((8 * k : Nat) : Int) / 8 = (k : Int) from by omega]
    refine Z.g86 ?_
    refine Z.g64 ?_
    replace hs : SX.St w M _ (RdL g T sv l (8 * p) ++ [_, _, _]) := hs
    refine Z.g3 ?_
    refine Z.g144 ?_
    rintro v6_3 w6_3 ⟨so, rfl, hz⟩
    replace hs := hs.regain hz
    refine Z.g63 ?_
    refine Z.ZO.callB rfl rfl (by rfl) rfl rfl Tryz.call167 rfl (mm_gotb_any _ _ _) ?_ ?_
    · skip
      rintro v6_6 w6_6 ⟨hE, rfl, hy⟩
      replace hs := Z.w1 (hs.call hy); clear hy
      have hpk := hgb hE
      obtain ⟨-, gv, ga⟩ := gb_ok hb hpk
      rw [gv, ga] at hs
      have hlk : ((l.drop p).take k).length = k := by rw [List.length_take, List.length_drop]; omega
      rw [hlk] at hs
      obtain ⟨B, co, rfl, hco, -, -⟩ := SX.row_slv hs (j := 2) rfl
      refine Z.g261 ?_
      refine Z.yes (s := 40) (b := false) rfl (Z.b17) rfl ?_
      refine Z.g221 ?_
      refine Z.g86 ?_
      simp only [RdL, List.cons_append, List.nil_append] at hs
      refine Z.yes (s := 40) (b := false) rfl rfl rfl ?_
      refine Z.split (s := 43) rfl (fun hsp43 => ?_) (fun hsp43 => ?_)
      · refine Z.yes (s := 43) (b := true) rfl hsp43 rfl ?_
        (try simp at hsp43)
        refine Z.g117 ?_
        refine Z.ZO.call rfl rfl (by rfl) rfl rfl Tryz.call166 rfl (rleft_any g T sv l (8 * (p + k)) _ hs.lend hl Z.b9) ?_
        rintro v7_8 w7_8 ⟨rfl, hz⟩
        replace hs := hs.regain hz
        refine Z.g64 ?_
        refine Z.yes (s := 43) (b := true) rfl rfl rfl ?_
        refine Z.g15 ?_
        refine Z.g257 ?_
        refine Z.ZO.callB rfl rfl (by rfl) rfl rfl Tryz.call109 rfl (mm_must_any _ 9 _) ?_ ?_
        · skip
          rintro v7_12 w7_12 ⟨hm, rfl, hy⟩
          replace hs := Z.w1 (hs.call hy); clear hy
          try simp only [RdL, List.cons_append, List.nil_append] at hs
          refine Z.g314 ?_
          refine Z.g185 ?_
          clear hs; intro wd8 hs
          refine Z.g12 ?_
          refine Z.g7 ?_
          clear hs; intro ws hs
          replace hs := Z.w0 hs
          replace hs := Z.w3 hs
          refine Z.g96 ?_
          refine Z.out1 Z.b36 ?_
          exact .inl ⟨_, rfl, ⟨hpk, fun _ => ⟨hsp43, by simp at hm; omega⟩⟩, B, co, by rw [slA_zero]; rfl, hs.sel [0, 1, 2] Z.b12⟩
        skip
        rintro c7_12 w7_12 ⟨hm, rfl, hy⟩
        replace hs := Z.w1 (hs.call hy); clear hy
        repeat (first | refine Z.pthen ?_ | refine Z.pblock ?_ | refine Z.pscope ?_)
        refine Z.outp ?_
        exact .inr ⟨_, rfl, .inr ⟨rfl, by first | omega | (simp at hm <;> omega)⟩, by rw [if_pos hpk], _, hs.sub (List.sublist_append_left _ _)⟩
      refine Z.yes (s := 43) (b := false) rfl hsp43 rfl ?_
      (try simp at hsp43)
      refine Z.g43 ?_
      refine Z.g43 ?_
      refine Z.g13 ?_
      refine Z.g257 ?_
      refine Z.ZO.callB rfl rfl (by rfl) rfl rfl Tryz.call109 rfl (mm_must_any _ 9 _) ?_ ?_
      · skip
        rintro v7_12 w7_12 ⟨hm, rfl, hy⟩
        replace hs := Z.w1 (hs.call hy); clear hy
        try simp only [RdL, List.cons_append, List.nil_append] at hs
        refine Z.g314 ?_
        refine Z.g185 ?_
        clear hs; intro wd8 hs
        refine Z.g12 ?_
        refine Z.g7 ?_
        clear hs; intro ws hs
        replace hs := Z.w0 hs
        replace hs := Z.w3 hs
        refine Z.g96 ?_
        refine Z.out1 Z.b36 ?_
        (simp at hm; done)
      skip
      rintro c7_12 w7_12 ⟨hm, rfl, hy⟩
      replace hs := Z.w1 (hs.call hy); clear hy
      repeat (first | refine Z.pthen ?_ | refine Z.pblock ?_ | refine Z.pscope ?_)
      refine Z.outp ?_
      exact .inr ⟨_, rfl, .inr ⟨rfl, by first | omega | (simp at hm <;> omega)⟩, by rw [if_pos hpk], _, hs.sub (List.sublist_append_left _ _)⟩
    skip
    rintro c6_6 w6_6 ⟨hE, rfl, hy⟩
    replace hs := Z.w1 (hs.call hy); clear hy
    repeat (first | refine Z.pthen ?_ | refine Z.pblock ?_ | refine Z.pscope ?_)
    refine Z.outp ?_
    exact .inr ⟨_, rfl, .inl (hgc hE), by rw [if_neg (hgc hE), gb_bad hp (hgc hE)], _, hs.sub ((List.sublist_append_left _ _).trans (List.sublist_append_left _ _))⟩
  (try simp at hc2)
  obtain rfl : c = true := by simpa using hc2
  refine Z.g0 ?_
  refine Z.g247 ?_
  refine Z.only [2, 3, 4, 6, 7, 26] rfl ?_
  refine Z.g313 ?_
  refine Z.cond rfl (fun h => absurd h Z.b17) (fun hc4 => ?_)
  refine Z.g71 ?_
  refine Z.g30 ?_
  rw [hkT rfl]
  refine Z.g86 ?_
  refine Z.g64 ?_
  replace hs : SX.St w M _ (RdL g T sv l (8 * p) ++ [_, _, _]) := hs.rot (L1 := [_, _, _])
  refine Z.g3 ?_
  refine Z.g144 ?_
  rintro v6_3 w6_3 ⟨so, rfl, hz⟩
  replace hs := hs.regain hz
  refine Z.g63 ?_
  refine Z.ZO.callB rfl rfl (by rfl) rfl rfl Tryz.call167 rfl (mm_gotb_any _ _ _) ?_ ?_
  · skip
    rintro v6_6 w6_6 ⟨hE, rfl, hy⟩
    replace hs := Z.w1 (hs.call hy); clear hy
    have hpk := hgb hE
    obtain ⟨-, gv, ga⟩ := gb_ok hb hpk
    rw [gv, ga] at hs
    have hlk : ((l.drop p).take k).length = k := by rw [List.length_take, List.length_drop]; omega
    rw [hlk] at hs
    obtain ⟨B, co, rfl, hco, -, -⟩ := SX.row_slv hs (j := 2) rfl
    refine Z.g261 ?_
    refine Z.yes (s := 40) (b := false) rfl (Z.b17) rfl ?_
    refine Z.g221 ?_
    refine Z.g86 ?_
    simp only [RdL, List.cons_append, List.nil_append] at hs
    refine Z.yes (s := 40) (b := false) rfl rfl rfl ?_
    refine Z.split (s := 43) rfl (fun hsp43 => ?_) (fun hsp43 => ?_)
    · refine Z.yes (s := 43) (b := true) rfl hsp43 rfl ?_
      (try simp at hsp43)
      refine Z.g117 ?_
      refine Z.ZO.call rfl rfl (by rfl) rfl rfl Tryz.call166 rfl (rleft_any g T sv l (8 * (p + k)) _ hs.lend hl Z.b9) ?_
      rintro v7_8 w7_8 ⟨rfl, hz⟩
      replace hs := hs.regain hz
      refine Z.g64 ?_
      refine Z.yes (s := 43) (b := true) rfl rfl rfl ?_
      refine Z.g15 ?_
      refine Z.g257 ?_
      refine Z.ZO.callB rfl rfl (by rfl) rfl rfl Tryz.call109 rfl (mm_must_any _ 9 _) ?_ ?_
      · skip
        rintro v7_12 w7_12 ⟨hm, rfl, hy⟩
        replace hs := Z.w1 (hs.call hy); clear hy
        try simp only [RdL, List.cons_append, List.nil_append] at hs
        refine Z.g314 ?_
        refine Z.g185 ?_
        clear hs; intro wd8 hs
        refine Z.g12 ?_
        refine Z.g7 ?_
        clear hs; intro ws hs
        replace hs := Z.w0 hs
        replace hs := Z.w3 hs
        refine Z.g96 ?_
        refine Z.out1 Z.b36 ?_
        exact .inl ⟨_, rfl, ⟨hpk, fun _ => ⟨hsp43, by simp at hm; omega⟩⟩, B, co, by rw [slA_zero]; rfl, hs.sel [0, 1, 2] Z.b12⟩
      skip
      rintro c7_12 w7_12 ⟨hm, rfl, hy⟩
      replace hs := Z.w1 (hs.call hy); clear hy
      repeat (first | refine Z.pthen ?_ | refine Z.pblock ?_ | refine Z.pscope ?_)
      refine Z.outp ?_
      exact .inr ⟨_, rfl, .inr ⟨rfl, by first | omega | (simp at hm <;> omega)⟩, by rw [if_pos hpk], _, hs.sub (List.sublist_append_left _ _)⟩
    refine Z.yes (s := 43) (b := false) rfl hsp43 rfl ?_
    (try simp at hsp43)
    refine Z.g43 ?_
    refine Z.g43 ?_
    refine Z.g13 ?_
    refine Z.g257 ?_
    refine Z.ZO.callB rfl rfl (by rfl) rfl rfl Tryz.call109 rfl (mm_must_any _ 9 _) ?_ ?_
    · skip
      rintro v7_12 w7_12 ⟨hm, rfl, hy⟩
      replace hs := Z.w1 (hs.call hy); clear hy
      try simp only [RdL, List.cons_append, List.nil_append] at hs
      refine Z.g314 ?_
      refine Z.g185 ?_
      clear hs; intro wd8 hs
      refine Z.g12 ?_
      refine Z.g7 ?_
      clear hs; intro ws hs
      replace hs := Z.w0 hs
      replace hs := Z.w3 hs
      refine Z.g96 ?_
      refine Z.out1 Z.b36 ?_
      (simp at hm; done)
    skip
    rintro c7_12 w7_12 ⟨hm, rfl, hy⟩
    replace hs := Z.w1 (hs.call hy); clear hy
    repeat (first | refine Z.pthen ?_ | refine Z.pblock ?_ | refine Z.pscope ?_)
    refine Z.outp ?_
    exact .inr ⟨_, rfl, .inr ⟨rfl, by first | omega | (simp at hm <;> omega)⟩, by rw [if_pos hpk], _, hs.sub (List.sublist_append_left _ _)⟩
  skip
  rintro c6_6 w6_6 ⟨hE, rfl, hy⟩
  replace hs := Z.w1 (hs.call hy); clear hy
  repeat (first | refine Z.pthen ?_ | refine Z.pblock ?_ | refine Z.pscope ?_)
  refine Z.outp ?_
  exact .inr ⟨_, rfl, .inl (hgc hE), by rw [if_neg (hgc hE), gb_bad hp (hgc hE)], _, hs.sub ((List.sublist_append_left _ _).trans (List.sublist_append_left _ _))⟩
end Go.Proofs.YtbojkoiopkaciaaGreat

/- MAC PDUs: Parse. -/
namespace Go.Proofs.YtbojkoiopkaciaaGreat
open Go.RowKit
set_option linter.unusedSimpArgs false
set_option linter.unusedVariables false
--newlaws

def rowsQ (qs : List (MpV × Nat)) : List SX.Ent := qs.map fun x => SX.Ent.row (.slice x.1.B x.1.l.length x.2) 5 1 x.1.l.length (ints .u8 x.1.l)
def cellsQ (qs : List (MpV × Nat)) : List Value := qs.flatMap fun x => x.1.cells
def plainQ (qs : List (MpV × Nat)) : List Prt := qs.map fun x => x.1.plain
def ParR (R : Int × List Prt) (v : Value) (w w' : World) : Prop := ∃ qs sv, v = .tuple #[sv, .int .i64 R.1] ∧ plainQ qs = R.2 ∧ SX.St w [] w' (SX.Ent.row sv 77 2 qs.length (cellsQ qs) :: rowsQ qs)
theorem ParR.fail {e : Int} {w w' : World} (hs : SX.St w [] w' []) : ParR (e, []) (.tuple #[.slice none 0 0, .int .i64 e]) w w' := ⟨[], _, rfl, rfl, hs.nil _ 2⟩
theorem mm_clearP (gp T : Nat) (a : Value) (W : World) (hs : SX.St W (SX.idsOf [SX.Ent.blk gp T #[a]]) W [SX.Ent.blk gp T #[a]]) :
    Calls Tryz.prog 108 #[.pointer (some ⟨gp, 0, none⟩)] W (SX.Ret fun v w' => v = .tuple #[] ∧ SX.St W (SX.idsOf [SX.Ent.blk gp T #[a]]) w' [SX.Ent.blk gp T #[.slice none 0 0]]) := by
  generalize SX.idsOf [SX.Ent.blk gp T #[a]] = M at *
  refine Z.enter Tryz.func108 rfl Tryz.ntmps108 rfl rfl ?_
  refine Z.region ?_
  refine Z.g3 ?_
  refine Z.g116 ?_
  clear hs; intro ws hs
  replace hs := Z.w0 hs
  refine Z.g153 ?_
  refine Z.g128 ?_
  exact ⟨_, rfl, rfl, hs⟩
theorem mm_part (g T : Nat) (sv : Value) (l : List Int) (p : Nat) (x n : Int) (la : Bool) (k : Nat) (w : World) (hs : SX.St w (SX.idsOf (RdL g T sv l (8 * p))) w (RdL g T sv l (8 * p))) (hl : l.length ≤ 1000000) (hb : ∀ x ∈ l, 0 ≤ x ∧ x < 256) (hp : p ≤ l.length) (hk : ptN l p x n la = k) :
    Calls Tryz.prog 112 #[.agg #[.pointer (some ⟨g, 0, none⟩)], .agg #[.int .i64 x, .int .i64 n], .bool la] w (PtR g T sv l p x la k w) := by
  cases la
  · exact mm_part_mid g T sv l p x n k w hs hl hb hp hk
  exact mm_part_last g T sv l p x n k w hs hl hb hp hk
theorem ptN_nat {l : List Int} {p : Nat} {a : List (Int × Int)} {z : Int × Int} {i : Nat} {h : Int × Int} (hp : p ≤ l.length) (ha : ∀ x ∈ a, hdG x) (hz : hdT z) (hh : (a ++ [z])[i]? = some h) (h31 : h.1 ≠ 31) {la : Bool} (hla : la = decide (i + 1 = (a ++ [z]).length)) : ∃ k : Nat, ptN l p h.1 h.2 la = k := by
  have hn : 0 ≤ ptN l p h.1 h.2 la := by
    unfold ptN
    by_cases hc : ctlN h.1 ≠ 0
    · rw [if_pos hc]; exact (ctlN_bd h.1).1
    rw [if_neg hc]
    by_cases hl : la = true
    · rw [if_pos hl]; omega
    rw [if_neg hl]
    have hi : i < (a ++ [z]).length := (List.getElem?_eq_some_iff.1 hh).1
    have hne : i + 1 ≠ (a ++ [z]).length := fun e => hl (by rw [hla, decide_eq_true e])
    rw [List.length_append, List.length_singleton] at hi hne
    rw [List.getElem?_append_left Z.b9] at hh
    obtain ⟨hT, hG⟩ := ha h (List.mem_of_getElem? hh)
    rcases hT with h1 | h1 | h1
    · have := hG h1; omega
    · exact absurd h1 hc
    exact absurd h1 h31
  exact ⟨_, (Int.toNat_of_nonneg hn).symm⟩
theorem _root_.Go.Proofs.YtbojkoiopkaciaaGreat.SX.St.tailU {w0 w : World} {M : List Nat} {A Q : List SX.Ent} {r : SX.Ent} (h : SX.St w0 M w (A ++ [r] ++ Q)) : SX.St w0 M w (A ++ (Q ++ [r])) := h.perm (by rw [List.append_assoc]; exact (List.perm_append_comm).append_left _)
theorem drop_emp {α : Type} {H : List α} {i : Nat} (hi : i < H.length) : (H.drop (i + 1)).isEmpty = decide (i + 1 = H.length) := by
  rw [Bool.eq_iff_iff]
  simp
  omega
theorem drop_at {α : Type} {H : List α} {i : Nat} {h : α} (hh : H[i]? = some h) : H.drop i = h :: H.drop (i + 1) := by
  obtain ⟨hi, hq⟩ := List.getElem?_eq_some_iff.1 hh
  rw [List.drop_eq_getElem_cons hi, hq]
set_option maxHeartbeats 4000000 in
set_option maxRecDepth 100000 in
theorem mc_Parse (A : Option Addr) (n c : Nat) (l : List Int) (w : World) (hx : Sl w A (ints .u8 l)) (hl : l.length = n) (hn : n ≤ 100000) (hb : ∀ x ∈ l, 0 ≤ x ∧ x < 256) :
    Calls Tryz.prog 54 #[.slice A n c] w (SX.Ret fun v w' => ParR (parV l) v w w') := by
  have hs := SX.St.start w
  obtain ⟨R, hR⟩ : ∃ R, parV l = R := ⟨_, rfl⟩
  rw [hR]
  obtain ⟨⟨E0, H, P0⟩, hV⟩ : ∃ V, hdV l = V := ⟨_, rfl⟩
  have hgd : E0 = 0 → ∃ a z, H = a ++ [z] ∧ (∀ x ∈ a, hdG x) ∧ hdT z := fun h => by
    have := hGo_good hb (l.length + 1) 0 [] false false Z.b17
    rw [show hGo l (l.length + 1) 0 [] false false = _ from hV] at this
    exact this h
  unfold parV at hR
  rw [hV] at hR
  simp only at hR
  have hz0 : A = none → n = 0 := fun hA => by
    subst hA
    rcases Nat.eq_zero_or_pos n with h0 | h0
    · exact h0
    obtain ⟨b, off, e, -⟩ := hx Z.b74
    cases e
  refine Z.enterD Tryz.func54 rfl Tryz.ntmps54 rfl rfl ?_
  refine Z.g230 ?_
  refine Z.ZO.alloc rfl rfl (by rfl) Tryz.zeroValue47 rfl hs ?_
  clear hs; intro g2 w2 hs
  refine Z.g184 ?_
  clear hs; intro g3 w3 hs
  refine Z.g314 ?_
  refine Z.only [0, 2, 3] rfl ?_
  refine Z.g30 ?_
  refine Z.g95 ?_
  refine Z.only [0, 2, 3] rfl ?_
  refine Z.g30 ?_
  refine Z.g64 ?_
  refine Z.g104 ?_
  refine Z.g32 ?_
  refine Z.ZO.callB rfl rfl (by rfl) rfl rfl Tryz.call109 rfl (mm_must_any _ 4 _) ?_ ?_
  · skip
    rintro v2_3 w2_3 ⟨hm2, rfl, hy⟩
    replace hs := Z.w1 (hs.call hy); clear hy
    rw [if_neg (by simp at hm2; omega)] at hR
    refine Z.g314 ?_
    refine Z.only [0, 2, 3] rfl ?_
    refine Z.g30 ?_
    refine Z.g32 ?_
    refine Z.ZO.call rfl rfl (by rfl) rfl rfl Tryz.call110 rfl (newreader_any A n c l _ ((hx.st (hs.sub (List.nil_sublist _))).sx) hl Z.b9 hz0) ?_
    rintro v3_1 w3_1 ⟨gr, sv, rfl, hy⟩
    replace hs := Z.w1 (hs.call hy); clear hy
    refine Z.l rfl rfl (by rfl) (Z.keepS hs) (Z.Yd.buildL [(0, 1)] [.pointer none] rfl rfl Z.b15) ?_
    refine Z.g3 ?_
    refine Z.ZO.alloc rfl rfl (by rfl) Tryz.zeroValue190 rfl hs ?_
    clear hs; intro g4 w4 hs
    refine Z.g124 ?_
    clear hs; intro ws hs
    replace hs := Z.w0 hs
    replace hs := Z.w3 hs
    refine Z.g255 ?_
    refine Z.l rfl rfl (by rfl) (Z.keepS hs) Z.b27 ?_
    replace hs : SX.St w [] _ (RdL gr 242 sv l (8 * 0) ++ [_, _, _]) := hs.rot (L1 := [_])
    refine Z.g3 ?_
    refine Z.ZO.callB rfl rfl (by rfl) rfl rfl Tryz.call111 rfl (mm_heads gr _ sv l _ hs.lend Z.b9 hb _ hV) ?_ ?_
    · skip
      rintro v4_1 w4_1 ⟨hE, hP, hHl, hz⟩
      replace hs := hs.regain hz
      simp only [RdL, List.cons_append, List.nil_append] at hE hP hHl hs
      obtain ⟨Ah, ch, rfl, -, -, -⟩ := SX.row_slv hs (j := 2) rfl
      rw [if_neg (fun h => h hE)] at hR
      obtain ⟨a0, z0, rfl, hga, hgz⟩ := hgd hE
      obtain ⟨H, hH⟩ : ∃ H, a0 ++ [z0] = H := ⟨_, rfl⟩
      rw [hH] at hR hHl hs
      rw [hH]
      replace hs := hs.nil 77 2
      refine Z.g1 ?_
      refine Z.only [2, 3, 4, 5] rfl ?_
      refine Z.g123 ?_
      refine Z.l rfl rfl (by rfl) (Z.keepS hs) (Z.Yd.lenS rfl Tryz.underlying191) ?_
      refine Z.g1 ?_
      refine Z.only [2, 3, 4, 5, 18, 19, 20] rfl ?_
      refine Z.g210 ?_
      refine Z.loopk (ι := Nat × Nat × List (MpV × Nat) × Value) [2, 3, 4, 5, 18, 19] rfl (fun x => [(20, [], .int .i64 (x.1 : Int))]) (fun x wr => (x.1 ≤ H.length ∧ x.2.1 ≤ l.length ∧ x.2.2.1.length ≤ x.1 ∧ ptGo l (H.drop x.1) x.2.1 (plainQ x.2.2.1) = R) ∧ SX.St w [] wr ((RdL gr 242 sv l (8 * x.2.1) ++ [SX.Ent.row (.slice Ah H.length ch) 194 2 H.length (H.flatMap encH), SX.Ent.row x.2.2.2 77 2 x.2.2.1.length (cellsQ x.2.2.1), SX.Ent.blk g4 190 #[.pointer (some ⟨gr, 0, none⟩)], SX.Ent.blk g3 31 #[.int .i64 0], SX.Ent.blk g2 47 #[x.2.2.2]]) ++ rowsQ x.2.2.1)) (fun x => H.length - x.1) (0, P0, [], .slice none 0 0) Z.b6 ⟨⟨Nat.zero_le _, hP, Nat.zero_le _, by simpa [plainQ] using hR⟩, (hs.sel [1, 2, 3, 0, 6, 4, 5] Z.b12)⟩ ?_
      clear hs
      rintro ⟨i, p, qs, svo⟩ w6 ⟨⟨hi, hp, hqi, hgo⟩, hs⟩
      refine Z.only [2, 3, 4, 5, 18, 19, 20] rfl ?_
      (try dsimp only at hs)
      dsimp only at hi hp hqi hgo
      simp only [RdL, List.cons_append, List.nil_append] at hs
      obtain ⟨Ao, co, rfl, -, -, -⟩ := SX.row_slv hs (j := 3) rfl
      refine Z.g120 ?_
      refine Z.only [2, 3, 4, 5, 18, 19, 20, 21] rfl ?_
      refine Z.g150 ?_
      refine Z.cond rfl (fun hc6 => ?_) (fun hc6 => ?_)
      · (try simp at hc6)
        obtain ⟨h, hh⟩ : ∃ h, H[i]? = some h := ⟨_, List.getElem?_eq_getElem Z.b9⟩
        have hdr := drop_at hh
        rw [hdr, ptGo] at hgo
        obtain ⟨gh, ch', e9, -, -⟩ := row_form (j := 2) hs rfl Z.b9
        cases e9
        have hone : ∀ u ∈ encH h, u.oneCell' = true := by simp [encH, Value.oneCell']
        refine Z.g91 ?_
        refine Z.g182 ?_
        refine Z.l rfl rfl (by rfl) (Z.keepS hs) (Z.Yd.elem rfl rfl Tryz.underlying191 Tryz.sizeOf194 (fun hG => ⟨Z.b3, Z.b3⟩)) ?_
        refine Z.l rfl rfl (by rfl) (Z.keepS hs) (Z.Yd.loadA _ rfl Tryz.isAgg194 (fun _ => Z.cellsRf Z.b0 encH_len hh rfl) (by exact Tryz.sizeOf194)) ?_
        refine Z.g3 ?_
        refine Z.ZO.alloc rfl rfl (by rfl) Tryz.zeroValue194 rfl hs ?_
        clear hs; intro g7 w7 hs
        refine Z.g32 ?_
        refine Z.g7 ?_
        clear hs; intro ws hs
        replace hs := Z.w0 hs
        replace hs := Z.w3 hs
        refine Z.g314 ?_
        refine Z.only [2, 3, 4, 5, 6, 7, 18, 19, 20] rfl ?_
        refine Z.g30 ?_
        refine Z.g97 ?_
        refine Z.g1 ?_
        refine Z.only [2, 3, 4, 5, 6, 7, 18, 19, 20, 27] rfl ?_
        refine Z.g313 ?_
        refine Z.cond rfl (fun hc8 => ?_) (fun hc8 => ?_)
        · (try simp at hc8)
          refine Z.drawP [SX.Ent.blk g4 190 #[.pointer (some ⟨gr, 0, none⟩)], SX.Ent.blk g2 47 #[.slice Ao qs.length co], SX.Ent.blk g7 194 (encH h).toArray] (fun j => j != 11) mixed hs ?_
          clear hs; intro wd9 hs
          refine Z.tXD 0 [0, 10, 11] (fun _ _ _ _ h => Z.leaves_put Z.b4 h) rfl rfl rfl (by rfl) Z.b4 ⟨_, hs, Z.b2⟩ Z.b39 ?_
          refine Z.tXD 1 [1, 8, 9, 10, 11] (fun _ _ _ _ h => Z.leaves_put Z.b4 h) rfl rfl rfl (by rfl) Z.b4 ⟨_, hs, Z.b2⟩ Z.b27 ?_
          refine Z.tXD 2 [2, 8, 9, 10, 11] (fun _ _ _ _ h => Z.leaves_put Z.b4 h) rfl rfl rfl (by rfl) Z.b4 ⟨_, hs, Z.b2⟩ (Z.Yd.loadA _ rfl Tryz.isAgg194 (fun _ => Z.cellsB (cs := encH h) Z.b0) (by exact Tryz.sizeOf194)) ?_
          refine Z.tXD 3 [3, 7, 8, 9, 10, 11] (fun _ _ _ _ h => Z.leaves_put Z.b4 h) rfl rfl rfl (by rfl) Z.b4 ⟨_, hs, Z.b2⟩ (Z.Yd.pure rfl) ?_
          refine Z.tXD 4 [4, 5, 6, 7, 8, 9, 10, 11] (fun _ _ _ _ h => Z.leaves_put Z.b4 h) rfl rfl rfl (by rfl) Z.b4 ⟨_, hs, Z.b2⟩ (Z.Yd.pure rfl) ?_
          refine Z.tXD 5 [5, 6, 7, 8, 9, 10, 11] (fun _ _ _ _ h => Z.leaves_put Z.b4 h) rfl rfl rfl (by rfl) Z.b4 ⟨_, hs, Z.b2⟩ (Z.Yd.lenS rfl Tryz.underlying191) ?_
          refine Z.tXD 6 [6, 7, 8, 9, 10, 11] (fun _ _ _ _ h => Z.leaves_put Z.b4 h) rfl rfl rfl (by rfl) Z.b4 ⟨_, hs, Z.b2⟩ (Z.Yd.sub rfl rfl (fun hG => Z.wi64 Z.b3)) ?_
          refine Z.tXD 7 [7, 8, 9, 10, 11] (fun _ _ _ _ h => Z.leaves_put Z.b4 h) rfl rfl rfl (by rfl) Z.b4 ⟨_, hs, Z.b2⟩ (Z.Yd.pure rfl) ?_
          have ela : ((i : Int) == (H.length : Int) - 1) = decide (i + 1 = H.length) := by rw [Bool.eq_iff_iff]; simp; omega
          obtain ⟨k, hk⟩ := ptN_nat hp hga hgz (by rw [hH]; exact hh) hc8 (la := ((i : Int) == (H.length : Int) - 1)) (by rw [ela, hH])
          rw [if_neg hc8, drop_emp Z.b9, ← ela, hk, Int.toNat_natCast] at hgo
          replace hs : SX.St w [] _ (RdL gr 242 sv l (8 * p) ++ (_ :: _ :: _ :: _ :: _ :: _ :: rowsQ qs)) := hs.selT (L1 := [_, _, _, _, _, _, _, _]) [1, 2, 3, 4, 5, 6, 7, 0] Z.b12
          refine Z.tnP 8 rfl rfl Z.b4 rfl trivial ?_
          refine Z.ZO.callB rfl rfl (by rfl) rfl rfl Tryz.call112 rfl (mm_part gr _ sv l p h.1 h.2 _ k _ hs.lend Z.b9 hb hp hk) ?_ ?_
          · skip
            rintro v9_8 w9_8 ⟨⟨hpk, hpl⟩, B, cB, rfl, hz⟩
            replace hs := hs.regain hz
            simp only [RdL, List.cons_append, List.nil_append] at hs
            rw [if_neg (fun hh => hh hpk), if_neg (fun hh => hh.2 (hpl hh.1))] at hgo
            obtain ⟨D, hD⟩ : ∃ D, (l.drop p).take k = D := ⟨_, rfl⟩
            have hlk : D.length = k := by rw [← hD, List.length_take, List.length_drop]; omega
            rw [hD] at hgo hs
            subst hlk
            refine Z.tkP (Dn := fun j => j != 11) (i := 8) (fun _ => ⟨_, hs, Z.b2⟩) ?_
            refine Z.tnP 9 rfl rfl Z.b4 rfl trivial ?_
            refine Z.g69 ?_
            clear hs; intro g37 w37 hs
            refine Z.tkP (Dn := fun j => j != 11) (i := 9) (fun _ => ⟨_, hs, Z.b2⟩) ?_
            refine Z.tnP 10 rfl rfl Z.b4 rfl trivial ?_
            refine Z.g88 ?_
            clear hs; intro g38 cap38 w38 hs
            simp only [List.set_cons_zero, List.set_cons_succ, List.eraseIdx_cons_zero, List.eraseIdx_cons_succ] at hs
            refine Z.tkP (Dn := fun j => j != 11) (i := 10) (fun _ => ⟨_, hs, Z.b2⟩) ?_
            refine Z.tnP 11 rfl rfl Z.b4 rfl trivial ?_
            refine Z.g116 ?_
            clear hs; intro ws hs
            replace hs := Z.w0 hs
            refine Z.tkP (Dn := fun j => j != 11) (i := 11) (fun h => absurd h Z.b12) ?_
            refine Z.tdP (by rfl) Z.b4 ?_
            refine Z.only [2, 3, 4, 5, 18, 19, 20] rfl ?_
            refine Z.g180 ?_
            refine Z.only [2, 3, 4, 5, 18, 19, 20] rfl ?_
            refine Z.g313 ?_
            have e1 : (qs ++ [((⟨h.1, B, D.length, D⟩ : MpV), cB)]).length = qs.length + 1 := by simp
            have e2 : cellsQ (qs ++ [((⟨h.1, B, D.length, D⟩ : MpV), cB)]) = cellsQ qs ++ [.int .i64 h.1, .slice B D.length D.length] := by simp [cellsQ, MpV.cells]
            have e3 : rowsQ (qs ++ [((⟨h.1, B, D.length, D⟩ : MpV), cB)]) = rowsQ qs ++ [SX.Ent.row (.slice B D.length cB) 5 1 D.length (ints .u8 D)] := by simp [rowsQ]
            have e4 : plainQ (qs ++ [((⟨h.1, B, D.length, D⟩ : MpV), cB)]) = plainQ qs ++ [(h.1, D)] := by simp [plainQ, MpV.plain]
            have hs2 := SX.St.tailU (A := [_, _, _, _, _, _, _]) (Q := rowsQ qs) (hs.selT (L1 := [_, _, _, _, _, _, _, _, _]) [0, 1, 3, 4, 5, 6, 7, 2] Z.b12)
            rw [← e4] at hgo
            rw [← e1, ← e2, ← e3] at hs2
            exact Z.again (i + 1, p + D.length, qs ++ [((⟨h.1, B, D.length, D⟩ : MpV), cB)], _) Z.b13 ⟨⟨by simp only; omega, hpk, by simp only [e1]; omega, hgo⟩, hs2⟩ Z.b21
          skip
          rintro c9_8 w9_8 ⟨hbad, rfl, a', hz⟩
          replace hs := (hs.regain hz).sel [5, 6] Z.b12
          have hgo' : R = (if p + k ≤ l.length then 9 else 5, []) := by
            rw [← hgo]
            by_cases hpk : p + k ≤ l.length
            · rw [if_neg (fun hh => hh hpk), if_pos (hbad.resolve_left (fun hh => hh hpk)), if_pos hpk]
            rw [if_pos hpk, if_neg hpk]
          subst hgo'
          repeat (first | refine Z.pthen ?_ | refine Z.pblock ?_ | refine Z.pscope ?_)
          refine Z.g107 ?_
          rintro vD wD ⟨rfl, hz⟩
          replace hs := hs.regain (L2 := []) hz
          refine ⟨[_, _], Z.b47, ?_⟩
          exact ⟨_, rfl, ParR.fail (hs.sub (List.nil_sublist _))⟩
        (try simp at hc8)
        refine Z.g235 ?_
        refine Z.only [2, 3, 4, 5, 18, 19, 20] rfl ?_
        refine Z.g313 ?_
        rw [if_pos hc8] at hgo
        exact Z.again (i + 1, p, qs, .slice Ao qs.length co) Z.b13 ⟨⟨by simp only; omega, hp, by simp only; omega, hgo⟩, hs.tl⟩ Z.b21
      (try simp at hc6)
      refine Z.g211 ?_
      refine Z.g179 ?_
      refine Z.g25 ?_
      refine Z.g32 ?_
      refine Z.ZO.callB rfl rfl (by rfl) rfl rfl Tryz.call109 rfl (mm_must_any _ 9 _) ?_ ?_
      · skip
        rintro v11_3 w11_3 ⟨hm11, rfl, hy⟩
        replace hs := Z.w1 (hs.call hy); clear hy
        have hqp : 0 < qs.length := by simp at hm11; omega
        rw [List.drop_of_length_le Z.b9, ptGo, if_neg (by intro hh; rw [plainQ, List.map_eq_nil_iff] at hh; subst hh; simp at hqp)] at hgo
        subst hgo
        refine Z.g314 ?_
        refine Z.only [2, 3] rfl ?_
        refine Z.g30 ?_
        refine Z.g179 ?_
        refine Z.g3 ?_
        refine Z.g116 ?_
        clear hs; intro ws hs
        replace hs := Z.w0 hs
        refine Z.g237 ?_
        clear hs; intro ws hs
        replace hs := Z.w0 hs
        refine Z.g314 ?_
        refine Z.g126 ?_
        refine Z.outDr Tryz.call107 (mm_caught_ret g3 _ _ _) ?_
        rintro vD wD ⟨rfl, hy⟩
        replace hs := hs.call hy
        refine ⟨[_, _], Z.b47, ?_⟩
        exact ⟨_, rfl, qs, _, rfl, rfl, hs.selT (L1 := [_, _, _, _, _, _, _]) [3] Z.b12⟩
      skip
      rintro c11_3 w11_3 ⟨hm11, rfl, hy⟩
      replace hs := Z.w1 (hs.call hy); clear hy
      rw [List.drop_of_length_le Z.b9, ptGo, if_pos (by rw [plainQ, List.map_eq_nil_iff]; simpa using hm11)] at hgo
      subst hgo
      replace hs := hs.sel [5, 6] Z.b12
      repeat (first | refine Z.pthen ?_ | refine Z.pblock ?_ | refine Z.pscope ?_)
      refine Z.g107 ?_
      rintro vD wD ⟨rfl, hz⟩
      replace hs := hs.regain (L2 := []) hz
      refine ⟨[_, _], Z.b47, ?_⟩
      exact ⟨_, rfl, ParR.fail (hs.sub (List.nil_sublist _))⟩
    skip
    rintro c4_1 w4_1 ⟨hE, rfl, a', hz⟩
    simp only at hE
    rw [if_pos hE] at hR
    subst hR
    replace hs := (hs.regain hz).sel [2, 3] Z.b12
    repeat (first | refine Z.pthen ?_ | refine Z.pblock ?_ | refine Z.pscope ?_)
    refine Z.g107 ?_
    rintro vD wD ⟨rfl, hz⟩
    replace hs := hs.regain (L2 := []) hz
    refine ⟨[_, _], Z.b47, ?_⟩
    exact ⟨_, rfl, ParR.fail (hs.sub (List.nil_sublist _))⟩
  skip
  rintro c2_3 w2_3 ⟨hm2, rfl, hy⟩
  replace hs := Z.w1 (hs.call hy); clear hy
  rw [if_pos (by simp at hm2; omega)] at hR
  subst hR
  replace hs := hs.sel [0, 1] Z.b12
  repeat (first | refine Z.pthen ?_ | refine Z.pblock ?_ | refine Z.pscope ?_)
  refine Z.g107 ?_
  rintro vD wD ⟨rfl, hz⟩
  replace hs := hs.regain (L2 := []) hz
  refine ⟨[_, _], Z.b47, ?_⟩
  exact ⟨_, rfl, ParR.fail (hs.sub (List.nil_sublist _))⟩
end Go.Proofs.YtbojkoiopkaciaaGreat

/- MAC PDUs compared; the law's small functions. -/
namespace Go.Proofs.YtbojkoiopkaciaaGreat
open Go.RowKit
set_option linter.unusedSimpArgs false
set_option linter.unusedVariables false
--newlaws

theorem mp_at {ps : List MpV} {i : Nat} {q : MpV} (h : ps[i]? = some q) : (ps.map MpV.plain)[i]? = some q.plain := by rw [List.getElem?_map, h]; rfl
theorem mp_ne {l k : List Prt} {i : Nat} {x y : Prt} (hx : l[i]? = some x) (hy : k[i]? = some y) (h : x ≠ y) : l ≠ k := fun e => by
  subst e
  rw [hx] at hy
  exact h (Option.some.inj hy)
set_option maxRecDepth 100000 in
theorem mr_Same (A B : Option Addr) (n c m d : Nat) (ps ks : List MpV) (w : World) (hx : Sl w A (ps.flatMap MpV.cells)) (hy : Sl w B (ks.flatMap MpV.cells)) (hl : ps.length = n) (hk : ks.length = m) (hn : n ≤ 9223372036854775807)
    (hB : ∀ q ∈ ps, Sl w q.B (ints .u8 q.l)) (hC : ∀ q ∈ ks, Sl w q.B (ints .u8 q.l)) (hb : ∀ q ∈ ps, ∀ x ∈ q.l, 0 ≤ x ∧ x < 256) (hc : ∀ q ∈ ks, ∀ x ∈ q.l, 0 ≤ x ∧ x < 256) :
    Calls Tryz.prog 24 #[.slice A n c, .slice B m d] w (SX.Ret fun v w' => v = .bool (decide (ps.map MpV.plain = ks.map MpV.plain)) ∧ SX.St w [] w' []) := by
  have hs := SX.St.start w
  refine Z.enter Tryz.func24 rfl Tryz.ntmps24 rfl rfl ?_
  refine Z.g243 ?_
  refine Z.g123 ?_
  refine Z.g25 ?_
  refine Z.g64 ?_
  refine Z.g258 ?_
  refine Z.only [0, 1, 10] rfl ?_
  refine Z.g313 ?_
  refine Z.cond rfl (fun hc1 => ?_) (fun hc1 => ?_)
  · (try simp at hc1)
    refine Z.g120 ?_
    refine Z.g62 ?_
    repeat (first | refine Z.rthen ?_ | refine Z.rblock ?_ | refine Z.rscope ?_)
    refine Z.g52 ?_
    refine ⟨_, rfl, ?_, hs.sub (List.nil_sublist _)⟩
    exact congrArg Value.bool (decide_eq_false (fun h => by have hlk := congrArg List.length h; simp at hlk; omega)).symm
  (try simp at hc1)
  refine Z.g183 ?_
  refine Z.g1 ?_
  refine Z.only [0, 1, 5] rfl ?_
  refine Z.g210 ?_
  refine Z.loopk (ι := Nat) [0, 1] rfl (fun i => [(5, [], .int .i64 (i : Int))]) (fun i wr => (i ≤ n ∧ n = m ∧ (ps.map MpV.plain).take i = (ks.map MpV.plain).take i) ∧ SX.St w [] wr []) (fun i => n - i) 0 Z.b6 ⟨⟨by omega, by first | omega | simp_all, rfl⟩, hs⟩ ?_
  clear hs
  rintro i w4 ⟨⟨hi, hnm, ht⟩, hs⟩
  refine Z.only [0, 1, 5] rfl ?_
  refine Z.seq ?_
  refine Z.g0 ?_
  refine Z.g22 ?_
  refine Z.g258 ?_
  refine Z.only [0, 1, 5, 14] rfl ?_
  refine Z.g313 ?_
  refine Z.cond rfl (fun hc4 => ?_) (fun hc4 => ?_)
  · (try simp at hc4)
    obtain ⟨b, off, rfl, hb0, hx2⟩ := Z.Sl.some hx Z.b66
    obtain ⟨b', off', rfl, hb0', hy2⟩ := Z.Sl.some hy Z.b66
    obtain ⟨x, hxi⟩ : ∃ f, ps[i]? = some f := ⟨_, List.getElem?_eq_getElem Z.b9⟩
    obtain ⟨y, hyi⟩ : ∃ f, ks[i]? = some f := ⟨_, List.getElem?_eq_getElem Z.b9⟩
    have hxm := List.mem_of_getElem? hxi
    have hym := List.mem_of_getElem? hyi
    have hse := Z.str_eq (hb x hxm) (hc y hym)
    refine Z.g91 ?_
    refine Z.g99 ?_
    clear hs; intro wd6 hs
    refine Z.tb [0, 1] Z.b4 rfl ⟨_, hs, Z.b2⟩ rfl ?_
    refine Z.t 2 rfl rfl rfl (by rfl) Z.b4 ⟨_, hs, Z.b2⟩ (Z.Yd.elem rfl rfl Tryz.underlying47 Tryz.sizeOf77 (fun hG => ⟨Z.b3, Z.b3⟩)) ?_
    refine Z.t 3 rfl rfl rfl (by rfl) Z.b4 ⟨_, hs, Z.b2⟩ (Z.Yd.fieldA (m := 0) rfl Z.b4) ?_
    refine Z.t 4 rfl rfl rfl (by rfl) Z.b4 ⟨_, hs, Z.b2⟩ (Z.Yd.load rfl Tryz.isAgg3 (fun _ => Z.cellXf hx2.sx mp_len hxi rfl)) ?_
    refine Z.tb [5, 6] Z.b4 rfl ⟨_, hs, Z.b2⟩ rfl ?_
    refine Z.t 7 rfl rfl rfl (by rfl) Z.b4 ⟨_, hs, Z.b2⟩ (Z.Yd.elem rfl rfl Tryz.underlying47 Tryz.sizeOf77 (fun hG => ⟨Z.b3, Z.b3⟩)) ?_
    refine Z.t 8 rfl rfl rfl (by rfl) Z.b4 ⟨_, hs, Z.b2⟩ (Z.Yd.fieldA (m := 0) rfl Z.b4) ?_
    refine Z.t 9 rfl rfl rfl (by rfl) Z.b4 ⟨_, hs, Z.b2⟩ (Z.Yd.load rfl Tryz.isAgg3 (fun _ => Z.cellXf hy2.sx mp_len hyi rfl)) ?_
    refine Z.tb [10, 11, 12, 13] Z.b4 rfl ⟨_, hs, Z.b2⟩ rfl ?_
    refine Z.t 14 rfl rfl rfl (by rfl) Z.b4 ⟨_, hs, Z.b2⟩ (Z.Yd.elem rfl rfl Tryz.underlying47 Tryz.sizeOf77 (fun hG => ⟨Z.b3, Z.b3⟩)) ?_
    refine Z.t 15 rfl rfl rfl (by rfl) Z.b4 ⟨_, hs, Z.b2⟩ (Z.Yd.fieldA (m := 1) rfl Z.b4) ?_
    refine Z.t 16 rfl rfl rfl (by rfl) Z.b4 ⟨_, hs, Z.b2⟩ (Z.Yd.load rfl Tryz.isAgg48 (fun _ => Z.cellXf hx2.sx mp_len hxi rfl)) ?_
    refine Z.t 17 rfl rfl rfl (by rfl) Z.b4 ⟨_, hs, Z.b2⟩ (Z.Yd.b2s rfl Tryz.underlying48 Tryz.underlying5 Tryz.underlying9 rfl (fun W hW => by obtain ⟨R, hR, _⟩ := hW; exact (hB x hxm).st hR)) ?_
    refine Z.tb [18, 19] Z.b4 rfl ⟨_, hs, Z.b2⟩ rfl ?_
    refine Z.t 20 rfl rfl rfl (by rfl) Z.b4 ⟨_, hs, Z.b2⟩ (Z.Yd.elem rfl rfl Tryz.underlying47 Tryz.sizeOf77 (fun hG => ⟨Z.b3, Z.b3⟩)) ?_
    refine Z.t 21 rfl rfl rfl (by rfl) Z.b4 ⟨_, hs, Z.b2⟩ (Z.Yd.fieldA (m := 1) rfl Z.b4) ?_
    refine Z.t 22 rfl rfl rfl (by rfl) Z.b4 ⟨_, hs, Z.b2⟩ (Z.Yd.load rfl Tryz.isAgg48 (fun _ => Z.cellXf hy2.sx mp_len hyi rfl)) ?_
    refine Z.t 23 rfl rfl rfl (by rfl) Z.b4 ⟨_, hs, Z.b2⟩ (Z.Yd.b2s rfl Tryz.underlying48 Tryz.underlying5 Tryz.underlying9 rfl (fun W hW => by obtain ⟨R, hR, _⟩ := hW; exact (hC y hym).st hR)) ?_
    refine Z.t 24 rfl rfl rfl (by rfl) Z.b4 ⟨_, hs, Z.b2⟩ (Z.Yd.bin rfl rfl Z.b69) ?_
    refine Z.tb [25] Z.b4 rfl ⟨_, hs, Z.b2⟩ rfl ?_
    refine Z.g68 ?_
    refine Z.only [0, 1, 5, 42] rfl ?_
    refine Z.g313 ?_
    refine Z.cond rfl (fun hc6 => ?_) (fun hc6 => ?_)
    · (try simp at hc6)
      refine Z.g120 ?_
      refine Z.g62 ?_
      repeat (first | refine Z.rthen ?_ | refine Z.rblock ?_ | refine Z.rscope ?_)
      refine Z.g52 ?_
      refine ⟨_, rfl, ?_, hs.sub (List.nil_sublist _)⟩
      exact congrArg Value.bool (decide_eq_false (fun h => mp_ne (mp_at hxi) (mp_at hyi) (fun e => hc6.elim (fun k => k (congrArg Prod.fst e)) (fun k => k (congrArg Prod.snd e))) h)).symm
    (try simp at hc6)
    refine Z.g71 ?_
    refine Z.g226 ?_
    refine Z.only [0, 1, 5] rfl ?_
    refine Z.g313 ?_
    exact Z.again (i + 1) Z.b16 ⟨⟨by omega, hnm, by rw [plain_take hxi, plain_take hyi, ht, show x.plain = y.plain from Prod.ext hc6.1 hc6.2]⟩, hs⟩ Z.b9
  (try simp at hc4)
  refine Z.g244 ?_
  refine Z.g52 ?_
  refine ⟨_, rfl, ?_, hs.sub (List.nil_sublist _)⟩
  exact congrArg Value.bool (decide_eq_true (by rwa [List.take_of_length_le Z.b41, List.take_of_length_le Z.b41] at ht)).symm
end Go.Proofs.YtbojkoiopkaciaaGreat

/- MAC PDUs: Build. -/
namespace Go.Proofs.YtbojkoiopkaciaaGreat
open Go.RowKit
set_option linter.unusedSimpArgs false
set_option linter.unusedVariables false
--newlaws

set_option maxRecDepth 100000 in
theorem mb_size (size : Int) (A : Option Addr) (n c : Nat) (w : World) (h : ¬ (1 ≤ size ∧ size ≤ 16384)) :
    Calls Tryz.prog 68 #[.int .i64 size, .slice A n c] w (SX.Ret fun v w' => v = .tuple #[.slice none 0 0, .int .i64 2] ∧ SX.St w [] w' []) := by
  have hs := SX.St.start w
  refine Z.g240 ?_
  clear hs; intro g4 w4 hs
  refine Z.g184 ?_
  clear hs; intro g5 w5 hs
  refine Z.g260 ?_
  refine Z.g95 ?_
  refine Z.g142 ?_
  refine Z.g30 ?_
  refine Z.lb 6 rfl ?_
  refine Z.g3 ?_
  refine Z.ZO.callP rfl rfl rfl Tryz.call109 rfl (mm_must_bad _ 2 _ Z.b41) ?_
  rintro c2_6 w2_6 ⟨rfl, hy⟩
  replace hs := Z.w1 (hs.call hy); clear hy
  replace hs := hs.sel [0, 1] Z.b12
  repeat (first | refine Z.pthen ?_ | refine Z.pblock ?_ | refine Z.pscope ?_)
  refine Z.g163 ?_
  rintro vD wD ⟨rfl, hz⟩
  replace hs := hs.regain (L2 := []) hz
  refine ⟨[_, _], Z.b26, ?_⟩
  exact ⟨_, rfl, rfl, hs.sub (List.nil_sublist _)⟩
set_option maxRecDepth 100000 in
theorem mb_need (size : Int) (A : Option Addr) (n c : Nat) (ps : List MpV) (w : World) (hx : Sl w A (ps.flatMap MpV.cells)) (hl : ps.length = n) (hn : n ≤ 100) (hf : ∀ q ∈ ps, q.l.length ≤ 100000) (h : 1 ≤ size ∧ size ≤ 16384) (hno : ¬ okN (ps.map MpV.plain)) :
    Calls Tryz.prog 68 #[.int .i64 size, .slice A n c] w (SX.Ret fun v w' => v = .tuple #[.slice none 0 0, .int .i64 2] ∧ SX.St w [] w' []) := by
  have hs := SX.St.start w
  have hnv : needV (ps.map MpV.plain) = (0, 2) := if_neg hno
  refine Z.g240 ?_
  clear hs; intro g4 w4 hs
  refine Z.g184 ?_
  clear hs; intro g5 w5 hs
  refine Z.g224 ?_
  rintro v2_6 w2_6 ⟨rfl, hy⟩
  replace hs := Z.w1 (hs.call hy); clear hy
  refine Z.g260 ?_
  refine Z.g166 ?_
  rintro v3_2 w3_2 ⟨rfl, hy⟩
  replace hs := Z.w1 (hs.call hy); clear hy
  rw [hnv]
  refine Z.g63 ?_
  refine Z.ZO.callP rfl rfl rfl Tryz.call122 rfl (mm_goti_bad _ 2 _ Z.b12) ?_
  rintro c3_5 w3_5 ⟨rfl, hy⟩
  replace hs := Z.w1 (hs.call hy); clear hy
  replace hs := hs.sel [0, 1] Z.b12
  repeat (first | refine Z.pthen ?_ | refine Z.pblock ?_ | refine Z.pscope ?_)
  refine Z.g163 ?_
  rintro vD wD ⟨rfl, hz⟩
  replace hs := hs.regain (L2 := []) hz
  refine ⟨[_, _], Z.b26, ?_⟩
  exact ⟨_, rfl, rfl, hs.sub (List.nil_sublist _)⟩
set_option maxRecDepth 100000 in
theorem mb_long (size : Int) (A : Option Addr) (n c : Nat) (ps : List MpV) (w : World) (hx : Sl w A (ps.flatMap MpV.cells)) (hl : ps.length = n) (hn : n ≤ 100) (hf : ∀ q ∈ ps, q.l.length ≤ 100000) (h : 1 ≤ size ∧ size ≤ 16384) (hno : okN (ps.map MpV.plain)) (hd : size - needP (ps.map MpV.plain) < 0) :
    Calls Tryz.prog 68 #[.int .i64 size, .slice A n c] w (SX.Ret fun v w' => v = .tuple #[.slice none 0 0, .int .i64 4] ∧ SX.St w [] w' []) := by
  have hs := SX.St.start w
  have hbd := totP_bd hf
  have hnt := need_tot (ps.map MpV.plain)
  have hnv : needV (ps.map MpV.plain) = (needP (ps.map MpV.plain), 0) := if_pos hno
  refine Z.g240 ?_
  clear hs; intro g4 w4 hs
  refine Z.g184 ?_
  clear hs; intro g5 w5 hs
  refine Z.g224 ?_
  rintro v2_6 w2_6 ⟨rfl, hy⟩
  replace hs := Z.w1 (hs.call hy); clear hy
  refine Z.g260 ?_
  refine Z.g166 ?_
  rintro v3_2 w3_2 ⟨rfl, hy⟩
  replace hs := Z.w1 (hs.call hy); clear hy
  rw [hnv]
  refine Z.g63 ?_
  refine Z.ZO.call rfl rfl (by rfl) rfl rfl Tryz.call122 rfl (mm_goti_ok _ _) ?_
  rintro v3_5 w3_5 ⟨rfl, hy⟩
  replace hs := Z.w1 (hs.call hy); clear hy
  refine Z.g19 ?_
  refine Z.g1 ?_
  refine Z.only [0, 1, 4, 5, 6] rfl ?_
  refine Z.g276 ?_
  refine Z.ZO.callP rfl rfl rfl Tryz.call109 rfl (mm_must_bad _ 4 _ Z.b41) ?_
  rintro c4_2 w4_2 ⟨rfl, hy⟩
  replace hs := Z.w1 (hs.call hy); clear hy
  replace hs := hs.sel [0, 1] Z.b12
  repeat (first | refine Z.pthen ?_ | refine Z.pblock ?_ | refine Z.pscope ?_)
  refine Z.g163 ?_
  rintro vD wD ⟨rfl, hz⟩
  replace hs := hs.regain (L2 := []) hz
  refine ⟨[_, _], Z.b26, ?_⟩
  exact ⟨_, rfl, rfl, hs.sub (List.nil_sublist _)⟩
end Go.Proofs.YtbojkoiopkaciaaGreat

/- MAC PDUs: Build. -/
namespace Go.Proofs.YtbojkoiopkaciaaGreat
open Go.RowKit
set_option linter.unusedSimpArgs false
set_option linter.unusedVariables false
--newlaws

theorem datR_mem {ps : List MpV} (h : ∀ q ∈ ps, ∀ x ∈ q.l, 0 ≤ x ∧ x < 256) : ∀ x ∈ datR (ps.map MpV.plain), 0 ≤ x ∧ x < 256 := by
  intro x hx
  obtain ⟨p, hp, hx⟩ := List.mem_flatMap.1 hx
  obtain ⟨q, hq, rfl⟩ := List.mem_map.1 hp
  exact h q hq x hx
theorem datR_take (r : List Prt) (i : Nat) : (datR (r.take i)).length ≤ (datR r).length := by
  have e : datR r = datR (r.take i) ++ datR (r.drop i) := by unfold datR; rw [← List.flatMap_append, List.take_append_drop]
  rw [e, List.length_append]
  omega
set_option maxHeartbeats 2000000 in
set_option maxRecDepth 100000 in
theorem mb_main (size : Int) (A : Option Addr) (n c : Nat) (ps : List MpV) (w : World) (hx : Sl w A (ps.flatMap MpV.cells)) (hl : ps.length = n) (hn : n ≤ 100) (hf : ∀ q ∈ ps, q.l.length ≤ 100000) (hB : ∀ q ∈ ps, Sl w q.B (ints .u8 q.l)) (hby : ∀ q ∈ ps, ∀ x ∈ q.l, 0 ≤ x ∧ x < 256)
    (h : 1 ≤ size ∧ size ≤ 16384) (hno : okN (ps.map MpV.plain)) (d f M : Nat) (tr : Bool) (hd : size - needP (ps.map MpV.plain) = (d : Int)) (htr : decide ((2 : Int) < (d : Int)) = tr) (hf0 : tr = true → f = 0) (hf1 : tr = false → f = d)
    (hM : (M : Int) = size - ((headB (ps.map MpV.plain) f tr ++ datR (ps.map MpV.plain)).length : Int)) :
    Calls Tryz.prog 68 #[.int .i64 size, .slice A n c] w (SX.Ret fun v w' => ∃ sv, v = .tuple #[sv, .int .i64 0] ∧ SX.St w [] w' [SX.Ent.row sv 5 1 ((headB (ps.map MpV.plain) f tr ++ datR (ps.map MpV.plain)).length + M) (ints .u8 (headB (ps.map MpV.plain) f tr ++ datR (ps.map MpV.plain)) ++ List.replicate M (Value.int .u8 0))]) := by
  have hs := SX.St.start w
  have hbd := totP_bd hf
  have hnt := need_tot (ps.map MpV.plain)
  have hnv : needV (ps.map MpV.plain) = (needP (ps.map MpV.plain), 0) := if_pos hno
  have hmem := vldP_mem hno.2
  obtain ⟨H, hH⟩ : ∃ H, headB (ps.map MpV.plain) f tr = H := ⟨_, rfl⟩
  rw [hH] at hM ⊢
  have hHb : ∀ x ∈ H ++ datR (ps.map MpV.plain), 0 ≤ x ∧ x < 256 := by
    intro x hx
    rcases List.mem_append.1 hx with h1 | h1
    · rw [← hH] at h1; exact headB_bd hmem x h1
    exact datR_mem hby x h1
  have hHl : (H ++ datR (ps.map MpV.plain)).length ≤ 16384 := by omega
  rw [List.length_append] at hHl
  have hfd : f ≤ d := by cases tr <;> simp_all
  refine Z.g240 ?_
  clear hs; intro g4 w4 hs
  refine Z.g184 ?_
  clear hs; intro g5 w5 hs
  refine Z.g224 ?_
  rintro v2_6 w2_6 ⟨rfl, hy⟩
  replace hs := Z.w1 (hs.call hy); clear hy
  refine Z.g260 ?_
  refine Z.g166 ?_
  rintro v3_2 w3_2 ⟨rfl, hy⟩
  replace hs := Z.w1 (hs.call hy); clear hy
  rw [hnv]
  refine Z.g63 ?_
  refine Z.ZO.call rfl rfl (by rfl) rfl rfl Tryz.call122 rfl (mm_goti_ok _ _) ?_
  rintro v3_5 w3_5 ⟨rfl, hy⟩
  replace hs := Z.w1 (hs.call hy); clear hy
  refine Z.g19 ?_
  rw [hd]
  refine Z.g264 ?_
  refine Z.only [0, 1, 4, 5, 6] rfl ?_
  refine Z.g276 ?_
  refine Z.ZO.call rfl rfl (by rfl) rfl rfl Tryz.call109 rfl (mm_must_ok _ 4 _ Z.b17) ?_
  rintro v4_2 w4_2 ⟨rfl, hy⟩
  replace hs := Z.w1 (hs.call hy); clear hy
  refine Z.g314 ?_
  refine Z.only [0, 1, 4, 5, 6] rfl ?_
  refine Z.g30 ?_
  refine Z.g3 ?_
  refine Z.ZO.alloc rfl rfl (by rfl) Tryz.zeroValue208 rfl hs ?_
  clear hs; intro g7 w7 hs
  refine Z.g314 ?_
  refine Z.only [0, 1, 4, 5, 6, 7] rfl ?_
  refine Z.g30 ?_
  replace hs : SX.St w [] _ (WrL g7 208 (.slice none 0 0) (unb []) ++ [SX.Ent.blk g5 31 #[.int .i64 0], SX.Ent.blk g4 48 #[.slice none 0 0]]) := WrL_start hs
  refine Z.g18 ?_
  refine Z.g1 ?_
  refine Z.only [0, 1, 4, 5, 6, 7, 8] rfl ?_
  refine Z.g30 ?_
  refine Z.g22 ?_
  rw [htr]
  refine Z.g264 ?_
  refine Z.only [0, 1, 4, 5, 6, 7, 8, 9] rfl ?_
  refine Z.g234 ?_
  refine Z.only [0, 1, 4, 5, 6, 7, 8, 9, 39] rfl ?_
  refine Z.g313 ?_
  refine Z.cutt (ι := Value) [0, 1, 4, 5, 7, 8, 9] rfl (fun _ => []) (fun sv wr => SX.St w [] wr (WrL g7 208 sv (unb (List.replicate f 63)) ++ [SX.Ent.blk g5 31 #[.int .i64 0], SX.Ent.blk g4 48 #[.slice none 0 0]])) ?_ ?_
  · skip
    refine Z.cond rfl (fun hc8 => ?_) (fun hc8 => ?_)
    · (try simp at hc8)
      obtain rfl : f = d := hf1 Z.b63
      refine Z.g152 ?_
      refine Z.only [0, 1, 4, 5, 7, 8, 9, 40, 41] rfl ?_
      refine Z.g210 ?_
      refine Z.loopk (ι := Nat × Value) [0, 1, 4, 5, 7, 8, 9, 40] rfl (fun x => [(41, [], .int .i64 (x.1 : Int))]) (fun x wr => x.1 ≤ f ∧ SX.St w [] wr (WrL g7 208 x.2 (unb (List.replicate x.1 63)) ++ [SX.Ent.blk g5 31 #[.int .i64 0], SX.Ent.blk g4 48 #[.slice none 0 0]])) (fun x => f - x.1) (0, .slice none 0 0) Z.b6 ⟨Nat.zero_le _, hs⟩ ?_
      clear hs
      rintro ⟨i, sv⟩ w9 ⟨hi, hs⟩
      refine Z.only [0, 1, 4, 5, 7, 8, 9, 40, 41] rfl ?_
      (try dsimp only at hs)
      dsimp only at hi hs
      refine Z.g120 ?_
      refine Z.only [0, 1, 4, 5, 7, 8, 9, 40, 41, 42] rfl ?_
      refine Z.g150 ?_
      refine Z.cond rfl (fun hc10 => ?_) (fun hc10 => ?_)
      · (try simp at hc10)
        refine Z.g91 ?_
        refine Z.region ?_
        refine Z.g32 ?_
        refine Z.ZO.call rfl rfl (by rfl) rfl rfl Tryz.call123 rfl (mm_headI g7 _ sv (List.replicate i 63) 31 true _ (hs.lend (L1 := WrL _ _ _ _)) Z.b9 Z.b41) ?_
        rintro v11_1 w11_1 ⟨sv1, rfl, hz⟩
        replace hs := hs.regain hz
        refine Z.g314 ?_
        refine Z.only [0, 1, 4, 5, 7, 8, 9, 40, 41] rfl ?_
        refine Z.g180 ?_
        refine Z.only [0, 1, 4, 5, 7, 8, 9, 40, 41] rfl ?_
        refine Z.g313 ?_
        exact Z.again (i + 1, sv1) Z.b57 ⟨by simp only; omega, by simp only; rw [List.replicate_succ']; exact hs⟩ Z.b21
      (try simp at hc10)
      refine Z.g11 ?_
      refine Z.g313 ?_
      first | exact Z.meet _ Z.b13 hs | (obtain rfl : i = f := Z.b9; exact Z.meet _ Z.b13 hs)
    (try simp at hc8)
    obtain rfl : f = 0 := hf0 Z.b63
    refine Z.skip ?_
    refine Z.g313 ?_
    first | exact Z.meet _ Z.b13 hs | (obtain rfl : i = f := Z.b9; exact Z.meet _ Z.b13 hs)
  clear hs
  rintro sv w8 hs
  refine Z.only [0, 1, 4, 5, 7, 8, 9] rfl ?_
  refine Z.seq ?_
  refine Z.g182 ?_
  refine Z.g258 ?_
  refine Z.g167 ?_
  refine Z.g210 ?_
  refine Z.loopk (ι := Nat × Value × List Int) [0, 1, 4, 5, 7, 8, 9, 46, 47] rfl (fun x => [(48, [], .int .i64 (x.1 : Int))]) (fun x wr => (x.1 ≤ n ∧ x.2.2 ++ (hdsR ((ps.map MpV.plain).drop x.1) tr ++ if tr then [31] else []) = H) ∧ SX.St w [] wr (WrL g7 208 x.2.1 (unb x.2.2) ++ [SX.Ent.blk g5 31 #[.int .i64 0], SX.Ent.blk g4 48 #[.slice none 0 0]])) (fun x => n - x.1) (0, sv, List.replicate f 63) Z.b6 ⟨⟨Nat.zero_le _, by rw [← hH]; simp [headB]⟩, hs⟩ ?_
  clear hs
  rintro ⟨k, sv, acc⟩ w14 ⟨⟨hk, hacc⟩, hs⟩
  refine Z.g167 ?_
  (try dsimp only at hs)
  dsimp only at hk hacc hs
  have hal : acc.length ≤ 16384 := by
    have := congrArg List.length hacc
    rw [List.length_append] at this
    omega
  refine Z.g120 ?_
  refine Z.only [0, 1, 4, 5, 7, 8, 9, 46, 47, 48, 49] rfl ?_
  refine Z.g150 ?_
  refine Z.cond rfl (fun hc14 => ?_) (fun hc14 => ?_)
  · (try simp at hc14)
    obtain ⟨b, off, rfl, hb0, hx2⟩ := Z.Sl.some hx Z.b66
    obtain ⟨q, hqi⟩ : ∃ q, ps[k]? = some q := ⟨_, List.getElem?_eq_getElem Z.b9⟩
    have hqm := List.mem_of_getElem? hqi
    have hone := mp_one q
    obtain ⟨⟨q1, q2⟩, q3⟩ := hmem q.plain (List.mem_map_of_mem hqm)
    have e1 : q.plain.1 = q.lc := rfl
    have e2 : q.plain.2 = q.l := rfl
    rw [e1] at q1 q2
    rw [e2] at q3
    rw [plain_at hqi, hdsR_cons, e1, e2, drop_empty hl Z.b9] at hacc
    obtain ⟨lb1, lb2⟩ := lenF_bd q3
    have hlnF := lnF_ok q3
    have er2 : ∀ X, resA (unb X) (lnF q.l.length) = unb (X ++ lenF q.l.length) := fun X => by
      unfold resA
      rw [if_pos hlnF.2.1, hlnF.2.2, unb_appM]
    have hrest1 : ∀ mo : Bool, mo = !(decide ((k : Int) = (n : Int) - 1) && !tr) → (mo = true ∧ sduB q.lc) → acc ++ [q.lc + if mo = true then 32 else 0] ++ lenF q.l.length ++ (hdsR ((ps.map MpV.plain).drop (k + 1)) tr ++ if tr then [31] else []) = H := by
      intro mo hm hh
      rw [← hacc]
      cases hb : (decide ((k : Int) = (n : Int) - 1) && !tr) with
      | true => rw [hb, hh.1] at hm; cases hm
      | false => rw [hh.1]; simp [hh.2]
    have hrest2 : ∀ mo : Bool, mo = !(decide ((k : Int) = (n : Int) - 1) && !tr) → ¬ (mo = true ∧ sduB q.lc) → acc ++ [q.lc + if mo = true then 32 else 0] ++ (hdsR ((ps.map MpV.plain).drop (k + 1)) tr ++ if tr then [31] else []) = H := by
      intro mo hm hh
      rw [← hacc]
      cases hb : (decide ((k : Int) = (n : Int) - 1) && !tr) with
      | true =>
        rw [hb] at hm
        subst hm
        simp
      | false =>
        rw [hb] at hm
        subst hm
        have hns : ¬ sduB q.lc := fun h => hh ⟨rfl, h⟩
        simp [hns]
    have hmT : tr = true → true = !(decide ((k : Int) = (n : Int) - 1) && !tr) := fun h => by rw [h]; simp
    have hmF : tr = false → decide ((k : Int) < (n : Int) - 1) = !(decide ((k : Int) = (n : Int) - 1) && !tr) := fun h => by
      rw [h, Bool.eq_iff_iff]
      simp
      omega
    refine Z.g91 ?_
    refine Z.g182 ?_
    refine Z.g41 ?_
    refine Z.g254 ?_
    clear hs; intro g11 w11 hs
    refine Z.g32 ?_
    refine Z.g7 ?_
    clear hs; intro ws hs
    replace hs := Z.w0 hs
    replace hs := Z.w3 hs
    refine Z.g314 ?_
    refine Z.only [0, 1, 4, 5, 7, 8, 9, 10, 11, 46, 47, 48] rfl ?_
    refine Z.g30 ?_
    refine Z.g22 ?_
    refine Z.split (s := 54) rfl (fun hsp54 => ?_) (fun hsp54 => ?_)
    · refine Z.yes (s := 54) (b := true) rfl hsp54 rfl ?_
      (try simp at hsp54)
      refine Z.g134 ?_
      refine Z.g1 ?_
      refine Z.g273 ?_
      refine Z.g64 ?_
      refine Z.g4 ?_
      refine Z.l rfl rfl (by rfl) (Z.keepS hs) (Z.Yd.load rfl Tryz.isAgg3 (fun _ => Z.cellB (cs := q.cells.toArray) Z.b0 rfl)) ?_
      refine Z.g64 ?_
      replace hs : SX.St w [] _ (WrL g7 208 sv (unb acc) ++ [_, _, _]) := hs.rot (L1 := [_])
      refine Z.g3 ?_
      refine Z.ZO.call rfl rfl (by rfl) rfl rfl Tryz.call123 rfl (mm_headI g7 _ sv acc q.lc _ _ (hs.lend (L1 := WrL _ _ _ _)) Z.b9 Z.b9) ?_
      rintro v17_4 w17_4 ⟨sv1, rfl, hz⟩
      replace hs := hs.regain hz
      refine Z.g314 ?_
      refine Z.g273 ?_
      simp only [WrL, List.cons_append, List.nil_append] at hs
      refine Z.l rfl rfl (by rfl) (Z.keepS hs) (Z.Yd.loadA _ rfl Tryz.isAgg77 (fun _ => Z.cellsB (cs := MpV.cells q) Z.b0) Z.b18) ?_
      refine Z.g3 ?_
      refine Z.ZO.call rfl rfl (by rfl) rfl rfl Tryz.call125 rfl (mc_extra q _) ?_
      rintro v18_1 w18_1 ⟨rfl, hy⟩
      replace hs := Z.w1 (hs.call hy); clear hy
      refine Z.g1 ?_
      refine Z.only [0, 1, 4, 5, 7, 8, 9, 11, 12, 13, 46, 47, 48] rfl ?_
      refine Z.g30 ?_
      refine Z.g212 ?_
      refine Z.only [0, 1, 4, 5, 7, 8, 9, 11, 13, 46, 47, 48, 72] rfl ?_
      refine Z.g313 ?_
      refine Z.cond rfl (fun hc19 => ?_) (fun hc19 => ?_)
      · (try simp at hc19)
        have hsd : sduB q.lc := ext_pos.1 (by first | exact hc19 | exact hc19.2)
        have hfm := fm_ext hsd
        obtain ⟨fv, hfv⟩ : ∃ fv, fmOf q.l.length = fv := ⟨_, rfl⟩
        refine Z.g230 ?_
        refine Z.g55 ?_
        rintro v20_0 w20_0 ⟨rfl, hy⟩
        replace hs := Z.w1 (hs.call hy); clear hy
        refine Z.g64 ?_
        refine Z.g19 ?_
        refine Z.l rfl rfl (by rfl) (Z.keepS hs) (Z.Yd.index (v := .agg #[.int .u64 fv.1, .int .i64 fv.2.1, .int .i64 fv.2.2]) rfl rfl (by intro _ w; rw [hfm, ← hfv]; unfold fmOf; by_cases hc : q.l.length ≤ 127 <;> simp only [hc, if_true, if_false] <;> kernel_rfl)) ?_
        refine Z.g3 ?_
        refine Z.g79 ?_
        clear hs; intro g14 w14 hs
        refine Z.g124 ?_
        clear hs; intro ws hs
        replace hs := Z.w0 hs
        replace hs := Z.w3 hs
        refine Z.g314 ?_
        refine Z.only [0, 1, 4, 5, 7, 8, 9, 11, 14, 46, 47, 48] rfl ?_
        refine Z.g121 ?_
        refine Z.g4 ?_
        refine Z.l rfl rfl (by rfl) (Z.keepS hs) (Z.Yd.load rfl Tryz.isAgg123 (fun _ => Z.cellB (cs := #[.int .u64 fv.1, .int .i64 fv.2.1, .int .i64 fv.2.2]) Z.b0 rfl)) ?_
        refine Z.g40 ?_
        refine Z.g201 ?_
        refine Z.g78 ?_
        refine Z.g9 ?_
        refine Z.l rfl rfl (by rfl) (Z.keepS hs) (Z.Yd.load rfl Tryz.isAgg3 (fun _ => Z.cellB (cs := #[.int .u64 fv.1, .int .i64 fv.2.1, .int .i64 fv.2.2]) Z.b0 rfl)) ?_
        refine Z.g40 ?_
        refine Z.g3 ?_
        refine Z.g119 ?_
        clear hs; intro g87 w87 hs
        subst hfv
        replace hs : SX.St w [] _ (WrL g7 208 sv1 _ ++ [_, _, _]) := hs.sel [2, 3, 0, 4, 5] Z.b12
        refine Z.g3 ?_
        refine Z.ZO.call rfl rfl (by rfl) rfl rfl Tryz.call124 rfl (putAll_any g7 _ sv1 _ _ 2 2 (lnF q.l.length) _ hs.lend (by have h0 := Z.blk_lentj hs (j := 0) rfl; exact h0) rfl Z.b9 (by rw [unb_length]; simp; omega) hlnF.1) ?_
        rintro v21_11 w21_11 ⟨sv2, rfl, hz⟩
        replace hs := hs.regain hz
        rw [er2] at hs
        refine Z.g314 ?_
        refine Z.g167 ?_
        refine Z.g180 ?_
        refine Z.g167 ?_
        refine Z.g313 ?_
        exact Z.again (k + 1, sv2, _) Z.b20 ⟨⟨by simp only; omega, hrest1 _ (hmT hsp54) ⟨rfl, hsd⟩⟩, hs.sel [0, 1, 3, 4] Z.b12⟩ Z.b21
      (try simp at hc19)
      refine Z.g235 ?_
      refine Z.g167 ?_
      refine Z.g313 ?_
      exact Z.again (k + 1, sv1, _) Z.b20 ⟨⟨by simp only; omega, hrest2 _ (hmT hsp54) (fun h => by have h9 := ext_pos.2 h.2; omega)⟩, hs.sel [0, 1, 2, 3] Z.b12⟩ Z.b21
    refine Z.yes (s := 54) (b := false) rfl hsp54 rfl ?_
    (try simp at hsp54)
    refine Z.g22 ?_
    refine Z.g25 ?_
    refine Z.g19 ?_
    refine Z.g64 ?_
    refine Z.yes (s := 54) (b := false) rfl rfl rfl ?_
    refine Z.g13 ?_
    refine Z.g1 ?_
    refine Z.g273 ?_
    refine Z.g64 ?_
    refine Z.g4 ?_
    refine Z.l rfl rfl (by rfl) (Z.keepS hs) (Z.Yd.load rfl Tryz.isAgg3 (fun _ => Z.cellB (cs := q.cells.toArray) Z.b0 rfl)) ?_
    refine Z.g64 ?_
    replace hs : SX.St w [] _ (WrL g7 208 sv (unb acc) ++ [_, _, _]) := hs.rot (L1 := [_])
    refine Z.g3 ?_
    refine Z.ZO.call rfl rfl (by rfl) rfl rfl Tryz.call123 rfl (mm_headI g7 _ sv acc q.lc _ _ (hs.lend (L1 := WrL _ _ _ _)) Z.b9 Z.b9) ?_
    rintro v17_4 w17_4 ⟨sv1, rfl, hz⟩
    replace hs := hs.regain hz
    refine Z.g314 ?_
    refine Z.g273 ?_
    simp only [WrL, List.cons_append, List.nil_append] at hs
    refine Z.l rfl rfl (by rfl) (Z.keepS hs) (Z.Yd.loadA _ rfl Tryz.isAgg77 (fun _ => Z.cellsB (cs := MpV.cells q) Z.b0) Z.b18) ?_
    refine Z.g3 ?_
    refine Z.ZO.call rfl rfl (by rfl) rfl rfl Tryz.call125 rfl (mc_extra q _) ?_
    rintro v18_1 w18_1 ⟨rfl, hy⟩
    replace hs := Z.w1 (hs.call hy); clear hy
    refine Z.g1 ?_
    refine Z.only [0, 1, 4, 5, 7, 8, 9, 11, 12, 13, 46, 47, 48] rfl ?_
    refine Z.g30 ?_
    refine Z.g212 ?_
    refine Z.only [0, 1, 4, 5, 7, 8, 9, 11, 13, 46, 47, 48, 72] rfl ?_
    refine Z.g313 ?_
    refine Z.cond rfl (fun hc19 => ?_) (fun hc19 => ?_)
    · (try simp at hc19)
      have hsd : sduB q.lc := ext_pos.1 (by first | exact hc19 | exact hc19.2)
      have hfm := fm_ext hsd
      obtain ⟨fv, hfv⟩ : ∃ fv, fmOf q.l.length = fv := ⟨_, rfl⟩
      refine Z.g230 ?_
      refine Z.g55 ?_
      rintro v20_0 w20_0 ⟨rfl, hy⟩
      replace hs := Z.w1 (hs.call hy); clear hy
      refine Z.g64 ?_
      refine Z.g19 ?_
      refine Z.l rfl rfl (by rfl) (Z.keepS hs) (Z.Yd.index (v := .agg #[.int .u64 fv.1, .int .i64 fv.2.1, .int .i64 fv.2.2]) rfl rfl (by intro _ w; rw [hfm, ← hfv]; unfold fmOf; by_cases hc : q.l.length ≤ 127 <;> simp only [hc, if_true, if_false] <;> kernel_rfl)) ?_
      refine Z.g3 ?_
      refine Z.g79 ?_
      clear hs; intro g14 w14 hs
      refine Z.g124 ?_
      clear hs; intro ws hs
      replace hs := Z.w0 hs
      replace hs := Z.w3 hs
      refine Z.g314 ?_
      refine Z.only [0, 1, 4, 5, 7, 8, 9, 11, 14, 46, 47, 48] rfl ?_
      refine Z.g121 ?_
      refine Z.g4 ?_
      refine Z.l rfl rfl (by rfl) (Z.keepS hs) (Z.Yd.load rfl Tryz.isAgg123 (fun _ => Z.cellB (cs := #[.int .u64 fv.1, .int .i64 fv.2.1, .int .i64 fv.2.2]) Z.b0 rfl)) ?_
      refine Z.g40 ?_
      refine Z.g201 ?_
      refine Z.g78 ?_
      refine Z.g9 ?_
      refine Z.l rfl rfl (by rfl) (Z.keepS hs) (Z.Yd.load rfl Tryz.isAgg3 (fun _ => Z.cellB (cs := #[.int .u64 fv.1, .int .i64 fv.2.1, .int .i64 fv.2.2]) Z.b0 rfl)) ?_
      refine Z.g40 ?_
      refine Z.g3 ?_
      refine Z.g119 ?_
      clear hs; intro g87 w87 hs
      subst hfv
      replace hs : SX.St w [] _ (WrL g7 208 sv1 _ ++ [_, _, _]) := hs.sel [2, 3, 0, 4, 5] Z.b12
      refine Z.g3 ?_
      refine Z.ZO.call rfl rfl (by rfl) rfl rfl Tryz.call124 rfl (putAll_any g7 _ sv1 _ _ 2 2 (lnF q.l.length) _ hs.lend (by have h0 := Z.blk_lentj hs (j := 0) rfl; exact h0) rfl Z.b9 (by rw [unb_length]; simp; omega) hlnF.1) ?_
      rintro v21_11 w21_11 ⟨sv2, rfl, hz⟩
      replace hs := hs.regain hz
      rw [er2] at hs
      refine Z.g314 ?_
      refine Z.g167 ?_
      refine Z.g180 ?_
      refine Z.g167 ?_
      refine Z.g313 ?_
      exact Z.again (k + 1, sv2, _) Z.b20 ⟨⟨by simp only; omega, hrest1 _ (hmF hsp54) ⟨decide_eq_true hc19.1, hsd⟩⟩, hs.sel [0, 1, 3, 4] Z.b12⟩ Z.b21
    (try simp at hc19)
    refine Z.g235 ?_
    refine Z.g167 ?_
    refine Z.g313 ?_
    exact Z.again (k + 1, sv1, _) Z.b20 ⟨⟨by simp only; omega, hrest2 _ (hmF hsp54) (fun h => by have h9 := ext_pos.2 h.2; have h8 := of_decide_eq_true h.1; first | omega | (have h7 := hc19 h8; omega))⟩, hs.sel [0, 1, 2, 3] Z.b12⟩ Z.b21
  (try simp at hc14)
  refine Z.g11 ?_
  refine Z.g60 ?_
  obtain rfl : k = n := by omega
  rw [List.drop_of_length_le Z.b41] at hacc
  simp only [hdsR, List.nil_append] at hacc
  refine Z.g264 ?_
  refine Z.only [0, 1, 4, 5, 7, 8, 90] rfl ?_
  refine Z.g313 ?_
  refine Z.cutt (ι := Value) [0, 1, 4, 5, 7] rfl (fun _ => []) (fun sv wr => SX.St w [] wr (WrL g7 208 sv (unb H) ++ [SX.Ent.blk g5 31 #[.int .i64 0], SX.Ent.blk g4 48 #[.slice none 0 0]])) ?_ ?_
  · skip
    refine Z.cond rfl (fun hc23 => ?_) (fun hc23 => ?_)
    · (try simp at hc23)
      rw [if_pos Z.b63] at hacc
      refine Z.region ?_
      refine Z.g32 ?_
      refine Z.ZO.call rfl rfl (by rfl) rfl rfl Tryz.call123 rfl (mm_headI g7 _ sv acc 31 false _ (hs.lend (L1 := WrL _ _ _ _)) Z.b9 Z.b9) ?_
      rintro v24_1 w24_1 ⟨sv1, rfl, hz⟩
      replace hs := hs.regain hz
      refine Z.g314 ?_
      refine Z.only [0, 1, 4, 5, 7] rfl ?_
      refine Z.g313 ?_
      exact Z.meet _ Z.b11 (by rw [← hacc]; simpa using hs)
    (try simp at hc23)
    rw [if_neg (by simp_all)] at hacc
    refine Z.skip ?_
    refine Z.g313 ?_
    exact Z.meet _ Z.b11 (by rw [← hacc]; simpa using hs)
  clear hs
  rintro sv w23 hs
  refine Z.only [0, 1, 4, 5, 7] rfl ?_
  refine Z.seq ?_
  refine Z.g182 ?_
  refine Z.g258 ?_
  refine Z.only [0, 4, 5, 7, 93, 94, 95] rfl ?_
  refine Z.g210 ?_
  refine Z.loopk (ι := Nat × Value) [0, 4, 5, 7, 93, 94] rfl (fun x => [(95, [], .int .i64 (x.1 : Int))]) (fun x wr => x.1 ≤ k ∧ SX.St w [] wr (WrL g7 208 x.2 (unb (H ++ datR ((ps.map MpV.plain).take x.1))) ++ [SX.Ent.blk g5 31 #[.int .i64 0], SX.Ent.blk g4 48 #[.slice none 0 0]])) (fun x => k - x.1) (0, sv) Z.b6 ⟨Nat.zero_le _, by simpa [datR] using hs⟩ ?_
  clear hs
  rintro ⟨i, sv⟩ w26 ⟨hi, hs⟩
  refine Z.only [0, 4, 5, 7, 93, 94, 95] rfl ?_
  (try dsimp only at hs)
  dsimp only at hi hs
  refine Z.g120 ?_
  refine Z.only [0, 4, 5, 7, 93, 94, 95, 96] rfl ?_
  refine Z.g150 ?_
  refine Z.cond rfl (fun hc26 => ?_) (fun hc26 => ?_)
  · (try simp at hc26)
    obtain ⟨b, off, rfl, hb0, hx2⟩ := Z.Sl.some hx Z.b66
    obtain ⟨q, hqi⟩ : ∃ q, ps[i]? = some q := ⟨_, List.getElem?_eq_getElem Z.b9⟩
    have hqm := List.mem_of_getElem? hqi
    have hone := mp_one q
    have hql := (hmem q.plain (List.mem_map_of_mem hqm)).2
    rw [show q.plain.2 = q.l from rfl] at hql
    have htl := datR_take (ps.map MpV.plain) i
    refine Z.g238 ?_
    refine Z.g41 ?_
    refine Z.g254 ?_
    clear hs; intro g16 w16 hs
    refine Z.g124 ?_
    clear hs; intro ws hs
    replace hs := Z.w0 hs
    replace hs := Z.w3 hs
    refine Z.g314 ?_
    refine Z.only [0, 4, 5, 7, 16, 93, 94, 95] rfl ?_
    refine Z.g121 ?_
    refine Z.g9 ?_
    refine Z.l rfl rfl (by rfl) (Z.keepS hs) (Z.Yd.load rfl Tryz.isAgg48 (fun _ => Z.cellB (cs := q.cells.toArray) Z.b0 rfl)) ?_
    replace hs : SX.St w [] _ (WrL g7 208 sv _ ++ [_, _, _]) := hs.rot (L1 := [_])
    refine Z.g3 ?_
    refine Z.ZO.call rfl rfl (by rfl) rfl rfl Tryz.call127 rfl (wputbytes_any g7 _ sv _ q.B _ q.c q.l _ (hs.lend (L1 := WrL _ _ _ _)) ((hB q hqm).sx.lent (L1 := WrL _ _ _ _) hs) rfl Z.b9 (by rw [unb_length, List.length_append]; omega) (hby q hqm)) ?_
    rintro v28_2 w28_2 ⟨sv1, rfl, hz⟩
    replace hs := hs.regain hz
    refine Z.g314 ?_
    refine Z.only [0, 4, 5, 7, 93, 94, 95] rfl ?_
    refine Z.g180 ?_
    refine Z.only [0, 4, 5, 7, 93, 94, 95] rfl ?_
    refine Z.g313 ?_
    have ed : unb (H ++ datR ((ps.map MpV.plain).take i)) ++ unb q.l = unb (H ++ datR ((ps.map MpV.plain).take (i + 1))) := by
      rw [plain_take hqi, datR_snoc, ← unb_appM, List.append_assoc]
      rfl
    rw [ed] at hs
    exact Z.again (i + 1, sv1) Z.b13 ⟨by simp only; omega, hs.sel [0, 1, 2, 3] Z.b12⟩ Z.b21
  (try simp at hc26)
  refine Z.g211 ?_
  obtain rfl : i = k := by omega
  rw [List.take_of_length_le Z.b41] at hs
  refine Z.g3 ?_
  refine Z.ZO.call rfl rfl (by rfl) rfl rfl Tryz.call128 rfl (wbytes_any g7 _ sv _ _ (hs.lend (L1 := WrL _ _ _ _)) (by rw [unb_length, List.length_append]; omega)) ?_
  rintro v30_0 w30_0 hz
  replace hs := hs.regain hz
  rw [pk_unb hHb] at hs
  obtain ⟨Ao, co, rfl, hco, -, -⟩ := SX.row_slv hs (j := 0) rfl
  simp only [WrL, List.cons_append, List.nil_append] at hs
  refine Z.g3 ?_
  refine Z.g84 ?_
  clear hs; intro ws hs
  replace hs := Z.w0 hs
  refine Z.g314 ?_
  refine Z.only [0, 4, 5] rfl ?_
  refine Z.g30 ?_
  refine Z.l rfl rfl (by rfl) (Z.keepS hs) Z.b28 ?_
  refine Z.g64 ?_
  refine Z.g27 ?_
  refine Z.g19 ?_
  refine Z.g3 ?_
  refine Z.ZO.appendZ (m := M) (i0 := Tryz.t5) rfl rfl (by rfl) hs Tryz.underlying48 Tryz.underlying3 Z.b4 rfl rfl rfl rfl rfl rfl rfl Z.b1 Z.b9 Z.b9 ?_
  clear hs; intro v109 w109 hs
  simp only [List.set_cons_zero, List.set_cons_succ] at hs
  obtain ⟨Av, cv, rfl, -, -, -⟩ := SX.row_slv hs (j := 0) rfl
  refine Z.g3 ?_
  refine Z.g84 ?_
  clear hs; intro ws hs
  replace hs := Z.w0 hs
  refine Z.g237 ?_
  clear hs; intro ws hs
  replace hs := Z.w0 hs
  refine Z.g314 ?_
  refine Z.g158 ?_
  refine Z.outDr Tryz.call107 (mm_caught_ret g5 _ _ _) ?_
  rintro vD wD ⟨rfl, hy⟩
  replace hs := hs.call hy
  refine ⟨[_, _], Z.b26, ?_⟩
  exact ⟨_, rfl, _, rfl, hs.sub ((List.nil_sublist _).cons_cons _)⟩
theorem mc_Build (size : Int) (A : Option Addr) (n c : Nat) (ps : List MpV) (w : World) (hx : Sl w A (ps.flatMap MpV.cells)) (hl : ps.length = n) (hn : n ≤ 100) (hf : ∀ q ∈ ps, q.l.length ≤ 100000) (hB : ∀ q ∈ ps, Sl w q.B (ints .u8 q.l)) (hby : ∀ q ∈ ps, ∀ x ∈ q.l, 0 ≤ x ∧ x < 256) :
    Calls Tryz.prog 68 #[.int .i64 size, .slice A n c] w (SX.Ret fun v w' => ∃ sv, v = .tuple #[sv, .int .i64 (bldV size (ps.map MpV.plain)).2] ∧ SX.St w [] w' [SX.Ent.row sv 5 1 (bldV size (ps.map MpV.plain)).1.length (ints .u8 (bldV size (ps.map MpV.plain)).1)]) := by
  have nilr : ∀ (e : Int) (w' : World), SX.St w [] w' [] → ∃ sv, (Value.tuple #[.slice none 0 0, .int .i64 e]) = .tuple #[sv, .int .i64 (([], e) : List Int × Int).2] ∧ SX.St w [] w' [SX.Ent.row sv 5 1 (([], e) : List Int × Int).1.length (ints .u8 (([], e) : List Int × Int).1)] := fun e w' h => ⟨_, rfl, h.nil _ 1⟩
  by_cases h : 1 ≤ size ∧ size ≤ 16384
  · by_cases hno : okN (ps.map MpV.plain)
    · by_cases hd : size - needP (ps.map MpV.plain) < 0
      · rw [bld_long ⟨h, hno⟩ hd]
        refine (mb_long size A n c ps w hx hl hn hf h hno hd).mono ?_
        rintro e w' ⟨v, rfl, rfl, hs⟩
        exact ⟨_, rfl, nilr 4 w' hs⟩
      obtain ⟨d, hd1⟩ : ∃ d : Nat, size - needP (ps.map MpV.plain) = (d : Int) := ⟨(size - needP (ps.map MpV.plain)).toNat, by omega⟩
      by_cases h2 : d ≤ 2
      · rw [bld_few ⟨h, hno⟩ hd1 h2]
        have hlen := headB_len_f (ps.map MpV.plain) d hno.1
        refine (mb_main size A n c ps w hx hl hn hf hB hby h hno d d 0 false hd1 Z.b41 (fun h => by cases h) (fun _ => rfl) Z.b9).mono ?_
        rintro e w' ⟨v, rfl, sv, rfl, hs⟩
        refine ⟨_, rfl, sv, rfl, ?_⟩
        rw [List.replicate_zero, List.append_nil, Nat.add_zero] at hs
        simp only [join_few]
        exact hs
      have hlen := headB_len_t (ps.map MpV.plain)
      have hnt := need_tot (ps.map MpV.plain)
      rw [bld_pad ⟨h, hno⟩ Z.b9]
      obtain ⟨a, ha⟩ : ∃ a : Nat, size - (totP (ps.map MpV.plain) + 1) = (a : Int) := ⟨(size - (totP (ps.map MpV.plain) + 1)).toNat, by omega⟩
      rw [ha]
      refine (mb_main size A n c ps w hx hl hn hf hB hby h hno d 0 a true hd1 Z.b41 (fun _ => rfl) (fun h => by cases h) Z.b9).mono ?_
      rintro e w' ⟨v, rfl, sv, rfl, hs⟩
      refine ⟨_, rfl, sv, rfl, ?_⟩
      simp only [join_tr]
      have e1 : (headB (ps.map MpV.plain) 0 true ++ datR (ps.map MpV.plain) ++ List.replicate a (0 : Int)).length = (headB (ps.map MpV.plain) 0 true ++ datR (ps.map MpV.plain)).length + a := by rw [List.length_append, List.length_replicate]
      have e2 : ints .u8 (headB (ps.map MpV.plain) 0 true ++ datR (ps.map MpV.plain) ++ List.replicate a (0 : Int)) = ints .u8 (headB (ps.map MpV.plain) 0 true ++ datR (ps.map MpV.plain)) ++ List.replicate a (Value.int .u8 0) := by simp [ints]
      rw [e1, e2]
      exact hs
    rw [bld_arg (fun h => hno h.2)]
    refine (mb_need size A n c ps w hx hl hn hf h hno).mono ?_
    rintro e w' ⟨v, rfl, rfl, hs⟩
    exact ⟨_, rfl, nilr 2 w' hs⟩
  rw [bld_arg (fun hh => h hh.1)]
  refine (mb_size size A n c w h).mono ?_
  rintro e w' ⟨v, rfl, rfl, hs⟩
  exact ⟨_, rfl, nilr 2 w' hs⟩
end Go.Proofs.YtbojkoiopkaciaaGreat

/- MAC PDUs: the examples hold. -/
namespace Go.Proofs.YtbojkoiopkaciaaGreat
open Go.RowKit
set_option linter.unusedSimpArgs false
set_option linter.unusedVariables false
--newlaws

def exS (B : Option Addr) : MpV := ⟨3, B, 2, [1, 2]⟩
theorem sl_nil23 {w : World} {A : Option Addr} : Sl w A [] := fun h => absurd h Z.b12
theorem cellsQ_fst (qs : List (MpV × Nat)) : cellsQ qs = (qs.map Prod.fst).flatMap MpV.cells := by simp [cellsQ, List.flatMap_map]
theorem plainQ_fst (qs : List (MpV × Nat)) : (qs.map Prod.fst).map MpV.plain = plainQ qs := by simp [plainQ]
theorem rowsQ_sl {w0 w : World} {M : List Nat} {L : List SX.Ent} {qs : List (MpV × Nat)} (hs : SX.St w0 M w L) (h : ∀ e ∈ rowsQ qs, e ∈ L) : ∀ q ∈ qs.map Prod.fst, Sl w q.B (ints .u8 q.l) := by
  intro q hq
  obtain ⟨x, hx, rfl⟩ := List.mem_map.1 hq
  exact hs.slm (h _ (List.mem_map_of_mem hx))
end Go.Proofs.YtbojkoiopkaciaaGreat

/- Arguments of bytes and integers, read. -/
namespace Go.Proofs.YtbojkoiopkaciaaGreat
open Go.RowKit
set_option linter.unusedSimpArgs false
set_option linter.unusedVariables false
namespace Rb
theorem flat_ints (k : IntKind) (l : List Int) : l.flatMap (fun x => [Value.int k x]) = ints k l := by
  induction l with
  | nil => rfl
  | cons x l ih => rw [List.flatMap_cons, ih]; rfl
theorem rd_bytes {W : World} {A : Option Addr} {n c : Nat} (z : Rd Tryz.prog W 48 [.slice A n c]) : ∃ l : List Int, l.length = n ∧ n ≤ c ∧ c ≤ maxLen ∧ (∀ x ∈ l, 0 ≤ x ∧ x < 256) ∧ Sl W A (ints .u8 l) := by
  have c1 : Tryz.prog.cellsOf 5 = 1 := by kernel_rfl
  obtain ⟨xs, h1, h2, h3, h4, h5⟩ := Rd.rows (fun x : Int => [Value.int .u8 x]) (fun x => 0 ≤ x ∧ x < 256) Tryz.underlying48 (by rw [c1]; decide)
    (fun r hr => by
      obtain ⟨x, hx, wx⟩ := Rd.int Tryz.underlying5 hr
      have := wf_u8 wx
      exact ⟨x, hx, this.1, by omega⟩) (fun x => c1.symm) z
  rw [flat_ints] at h5
  exact ⟨xs, h1, h2, h3, h4, h5⟩
theorem rd_ints {W : World} {A : Option Addr} {n c : Nat} (z : Rd Tryz.prog W 34 [.slice A n c]) : ∃ l : List Int, l.length = n ∧ n ≤ c ∧ c ≤ maxLen ∧ (∀ x ∈ l, -9223372036854775808 ≤ x ∧ x ≤ 9223372036854775807) ∧ Sl W A (ints .i64 l) := by
  have c1 : Tryz.prog.cellsOf 3 = 1 := by kernel_rfl
  obtain ⟨xs, h1, h2, h3, h4, h5⟩ := Rd.rows (fun x : Int => [Value.int .i64 x]) (fun x => -9223372036854775808 ≤ x ∧ x ≤ 9223372036854775807) Tryz.underlying34 (by rw [c1]; decide)
    (fun r hr => by
      obtain ⟨x, hx, wx⟩ := Rd.int Tryz.underlying3 hr
      exact ⟨x, hx, wf_i64 wx⟩) (fun x => c1.symm) z
  rw [flat_ints] at h5
  exact ⟨xs, h1, h2, h3, h4, h5⟩
end Rb
end Go.Proofs.YtbojkoiopkaciaaGreat

/- MacpduControls, MacpduFits. -/
namespace Go.Proofs.YtbojkoiopkaciaaGreat
open Go.RowKit
set_option linter.unusedSimpArgs false
set_option linter.unusedVariables false
--newlaws

end Go.Proofs.YtbojkoiopkaciaaGreat

/- MacpduBuilds. -/
namespace Go.Proofs.YtbojkoiopkaciaaGreat
open Go.RowKit
set_option linter.unusedSimpArgs false
set_option linter.unusedVariables false
--newlaws

end Go.Proofs.YtbojkoiopkaciaaGreat

/- MacpduBounds. -/
namespace Go.Proofs.YtbojkoiopkaciaaGreat
open Go.RowKit
set_option linter.unusedSimpArgs false
set_option linter.unusedVariables false
--newlaws

theorem bld_zero {size : Int} {r : List Prt} (h : 1 ≤ size ∧ size ≤ 16384) (ho : okN r) (hn : needP r ≤ size) : (bldV size r).2 = 0 := by
  unfold bldV
  rw [if_neg (fun k => k ⟨h, ho⟩), if_neg Z.b9]
  split <;> rfl
theorem bld_len {size : Int} {r : List Prt} (h : (bldV size r).2 = 0) : ((bldV size r).1.length : Int) = size := by
  by_cases h1 : (1 ≤ size ∧ size ≤ 16384) ∧ okN r
  · by_cases h2 : size - needP r < 0
    · rw [bld_long h1 h2] at h; exact absurd h Z.b12
    obtain ⟨d, hd⟩ : ∃ d : Nat, size - needP r = (d : Int) := ⟨(size - needP r).toNat, by omega⟩
    by_cases h3 : d ≤ 2
    · rw [bld_few h1 hd h3]
      have hl := headB_len_f r d h1.2.1
      simp only [join_few]
      omega
    have hnt := need_tot r
    rw [bld_pad h1 Z.b9]
    obtain ⟨M, hM⟩ : ∃ M : Nat, size - (totP r + 1) = (M : Int) := ⟨(size - (totP r + 1)).toNat, by omega⟩
    have hl := headB_len_t r
    rw [hM]
    simp only [join_tr]
    rw [List.length_append, List.length_replicate]
    omega
  rw [bld_arg h1] at h; exact absurd h Z.b12
end Go.Proofs.YtbojkoiopkaciaaGreat

/- MacpduHolds. -/
namespace Go.Proofs.YtbojkoiopkaciaaGreat
open Go.RowKit
set_option linter.unusedSimpArgs false
set_option linter.unusedVariables false
--newlaws

theorem bld_by {size : Int} {ps : List MpV} (h : ∀ q ∈ ps, ∀ x ∈ q.l, 0 ≤ x ∧ x < 256) (hv : vldP false (ps.map MpV.plain) = true) : ∀ x ∈ (bldV size (ps.map MpV.plain)).1, 0 ≤ x ∧ x < 256 := by
  by_cases h1 : (1 ≤ size ∧ size ≤ 16384) ∧ okN (ps.map MpV.plain)
  · have hmem := vldP_mem h1.2.2
    have hhd : ∀ f tr, ∀ x ∈ headB (ps.map MpV.plain) f tr ++ datR (ps.map MpV.plain), 0 ≤ x ∧ x < 256 := by
      intro f tr x hx
      rcases List.mem_append.1 hx with h2 | h2
      · exact headB_bd hmem x h2
      exact datR_mem h x h2
    by_cases h2 : size - needP (ps.map MpV.plain) < 0
    · rw [bld_long h1 h2]; intro x hx; cases hx
    obtain ⟨d, hd⟩ : ∃ d : Nat, size - needP (ps.map MpV.plain) = (d : Int) := ⟨(size - needP (ps.map MpV.plain)).toNat, by omega⟩
    by_cases h3 : d ≤ 2
    · rw [bld_few h1 hd h3]
      simp only [join_few]
      exact hhd d false
    have hnt := need_tot (ps.map MpV.plain)
    rw [bld_pad h1 Z.b9]
    obtain ⟨M, hM⟩ : ∃ M : Nat, size - (totP (ps.map MpV.plain) + 1) = (M : Int) := ⟨(size - (totP (ps.map MpV.plain) + 1)).toNat, by omega⟩
    rw [hM]
    simp only [join_tr]
    intro x hx
    rcases List.mem_append.1 hx with h2 | h2
    · exact hhd 0 true x h2
    obtain rfl := List.eq_of_mem_replicate h2
    decide
  rw [bld_arg h1]; intro x hx; cases hx
end Go.Proofs.YtbojkoiopkaciaaGreat

/- MAC PDUs: the iterator over the parts. -/
namespace Go.Proofs.YtbojkoiopkaciaaGreat
open Go.RowKit
set_option linter.unusedSimpArgs false
set_option linter.unusedVariables false
--newlaws

theorem ptGo_len {l : List Int} : ∀ (hs : List (Int × Int)) (p : Nat) (acc : List Prt), (∀ x ∈ acc, x.2.length ≤ l.length) → ∀ x ∈ (ptGo l hs p acc).2, x.2.length ≤ l.length
  | [], p, acc, h => by
    unfold ptGo
    split
    · intro x hx; cases hx
    exact h
  | z :: hs, p, acc, h => by
    rw [ptGo]
    split
    · exact ptGo_len hs p acc h
    split
    · intro x hx; cases hx
    split
    · intro x hx; cases hx
    refine ptGo_len hs _ _ ?_
    intro x hx
    rcases List.mem_append.1 hx with h1 | h1
    · exact h x h1
    obtain rfl : x = _ := by simpa using h1
    simp only [List.length_take, List.length_drop]
    omega
theorem par_len (l : List Int) : ∀ x ∈ (parV l).2, x.2.length ≤ l.length := by
  unfold parV
  split
  · intro x hx; cases hx
  split
  · intro x hx; cases hx
  exact ptGo_len _ _ _ Z.b17
end Go.Proofs.YtbojkoiopkaciaaGreat

/- MAC PDUs: the document's Parse. -/
namespace Go.Proofs.YtbojkoiopkaciaaGreat
open Go.RowKit
set_option linter.unusedSimpArgs false
set_option linter.unusedVariables false
--newlaws

def ParD (R : Int × List Prt) (A : Option Addr) (l : List Int) (w : World) (v : Value) (w' : World) : Prop := ∃ (ps : List MpV) (sv : Value), v = .tuple #[sv, .int .i64 R.1] ∧ ps.map MpV.plain = R.2 ∧ (∀ q ∈ ps, ∀ W, Sl W A (ints .u8 l) → Sl W q.B (ints .u8 q.l)) ∧ SX.St w [] w' [SX.Ent.row sv 77 2 ps.length (ps.flatMap MpV.cells)]
theorem ParD.fail {e : Int} {A : Option Addr} {l : List Int} {w w' : World} (hs : SX.St w [] w' []) : ParD (e, []) A l w (.tuple #[.slice none 0 0, .int .i64 e]) w' := ⟨[], _, rfl, rfl, by simp, hs.nil _ 2⟩
end Go.Proofs.YtbojkoiopkaciaaGreat

/- Control elements: rows' readers; identities. -/
namespace Go.Proofs.YtbojkoiopkaciaaGreat
open Go.RowKit
set_option linter.unusedSimpArgs false
set_option linter.unusedVariables false
--newlaws

end Go.Proofs.YtbojkoiopkaciaaGreat

/- Control elements: the document's decoders. -/
namespace Go.Proofs.YtbojkoiopkaciaaGreat
open Go.RowKit
set_option linter.unusedSimpArgs false
set_option linter.unusedVariables false
--newlaws

end Go.Proofs.YtbojkoiopkaciaaGreat

/- The MAC entity, plainly. -/
namespace Go.Proofs.YtbojkoiopkaciaaGreat
open Go.RowKit
set_option linter.unusedSimpArgs false
set_option linter.unusedVariables false

structure MaV where
  b : BkV
  up : Bool
  r : RpV
  last : Int
structure MaV.ok (m : MaV) : Prop where
  b : m.b.ok
  r : m.r.ok
  bn : m.b.now ≤ m.last
  rn : m.r.now ≤ m.last
  ln : 0 ≤ m.last ∧ m.last < 1073741824
def grpS (l : List (LgV × Int)) (k : Int) : Int := (l.map fun p => if p.1.gr = k then p.2 else 0).sum
def askd (d : Int) : Int := if 0 < d then d + 3 else 0
def bytesP (r : List Prt) : Int := (r.map fun p => 1 + (p.2.length : Int)).sum
def okRd (m : MaV) (now n : Int) : Prop := (1 ≤ n ∧ n ≤ 16384) ∧ m.last ≤ now ∧ now < 1073741824
instance (m : MaV) (now n : Int) : Decidable (okRd m now n) := by unfold okRd; infer_instance
def okAs (dem : List Int) : Prop := ∀ d ∈ dem, 0 ≤ d ∧ d ≤ 8388608
instance (dem : List Int) : Decidable (okAs dem) := by unfold okAs; infer_instance
def okPl (m : MaV) (now n head : Int) (dem : List Int) : Prop := okRd m now n ∧ (0 ≤ head ∧ head ≤ 63) ∧ dem.length = m.b.l.length ∧ okAs dem
instance (m : MaV) (now n head : Int) (dem : List Int) : Decidable (okPl m now n head dem) := by unfold okPl; infer_instance
def plR (m : MaV) (now head : Int) (dem : List Int) : RpV := if m.up then (updV m.r now (grpS (m.b.l.zip dem) 0) (grpS (m.b.l.zip dem) 1) (grpS (m.b.l.zip dem) 2) (grpS (m.b.l.zip dem) 3) head).1 else m.r
def plN (m : MaV) (now n head : Int) (dem : List Int) : Int := if m.up then n - bytesP (elsV (plR m now head dem) now n).2.1 else n
def plD (m : MaV) (now n head : Int) (dem : List Int) : BkV × List Int × Int := divV (tickV m.b now).1 (plN m now n head dem) (dem.map askd)
def planV (m : MaV) (now n head : Int) (dem : List Int) : MaV × List Int × Int :=
  if okPl m now n head dem then (⟨(plD m now n head dem).1, m.up, plR m now head dem, now⟩, (plD m now n head dem).2.1.map (fun x => max 0 (x - 3)), 0) else (m, [], 2)
def knowB (m : MaV) (id : Int) : Bool := (lvV m.b id).2
def okBu (m : MaV) (now n : Int) (sd : List Prt) : Prop := okRd m now n ∧ (∀ p ∈ sd, knowB m p.1 = true) ∧ vldP false sd = true
instance (m : MaV) (now n : Int) (sd : List Prt) : Decidable (okBu m now n sd) := by unfold okBu; infer_instance
def buN (sd : List Prt) : Int := if sd = [] then 0 else needP sd
def buE (m : MaV) (now n : Int) (sd : List Prt) : RpV × List Prt × Int := if m.up then elsV m.r now (n - buN sd) else (m.r, [], 0)
def buildV (m : MaV) (now n : Int) (sd : List Prt) : MaV × List Int × Int :=
  if ¬ okBu m now n sd then (m, [], 2)
  else if n < buN sd then (m, [], 4)
  else if (buE m now n sd).2.1 ++ sd = [] then (m, [], 10)
  else ({ m with r := (buE m now n sd).1, last := now }, (bldV n ((buE m now n sd).2.1 ++ sd)).1, 0)
structure CtV where
  sd : List Prt
  rp : List RepV
  pw : List Int
  id : List Int
def CtV.nil : CtV := ⟨[], [], [], []⟩
def recS (m : MaV) (x : CtV) (p : Prt) : Int × CtV :=
  if p.1 = 26 then (powE 26 p.2, { x with pw := x.pw ++ [powV 26 p.2] })
  else if p.1 = 27 ∨ p.1 = 28 then (idE p.1 p.2, { x with id := x.id ++ [idV p.1 p.2] })
  else if p.1 = 29 ∨ p.1 = 30 then (repE p.1 p.2, { x with rp := x.rp ++ [repV p.1 p.2] })
  else if knowB m p.1 then (0, { x with sd := x.sd ++ [p] }) else (0, x)
def recGo (m : MaV) : List Prt → CtV → Int × CtV
  | [], x => (0, x)
  | p :: r, x => if (recS m x p).1 ≠ 0 then ((recS m x p).1, CtV.nil) else recGo m r (recS m x p).2
def recV (m : MaV) (l : List Int) : Int × CtV := if (parV l).1 ≠ 0 then ((parV l).1, CtV.nil) else recGo m (parV l).2 CtV.nil
def parG (p : Prt) : Prop := (sduB p.1 ∨ ctlN p.1 ≠ 0) ∧ (ctlN p.1 ≠ 0 → (p.2.length : Int) = ctlN p.1)
theorem ptGo_good {l : List Int} : ∀ (hs : List (Int × Int)) (p : Nat) (acc : List Prt), (∀ h ∈ hs, hdT h) → (∀ x ∈ acc, parG x) → ∀ x ∈ (ptGo l hs p acc).2, parG x
  | [], p, acc, _, h => by
    unfold ptGo
    split
    · intro x hx; cases hx
    exact h
  | z :: hs, p, acc, hz, h => by
    rw [ptGo]
    split
    · exact ptGo_good hs p acc (fun h' hh => hz h' (List.mem_cons_of_mem _ hh)) h
    rename_i h31
    split
    · intro x hx; cases hx
    rename_i hle
    split
    · intro x hx; cases hx
    refine ptGo_good hs _ _ (fun h' hh => hz h' (List.mem_cons_of_mem _ hh)) ?_
    intro x hx
    rcases List.mem_append.1 hx with h1 | h1
    · exact h x h1
    obtain rfl : x = _ := by simpa using h1
    refine ⟨?_, fun hc => ?_⟩
    · rcases hz z Z.b17 with h2 | h2 | h2
      · exact .inl h2
      · exact .inr h2
      exact absurd h2 h31
    have hb := ctlN_bd z.1
    have e : (ptN l p z.1 z.2 hs.isEmpty).toNat = (ctlN z.1).toNat := by unfold ptN; rw [if_pos hc]
    simp only [e, List.length_take, List.length_drop]
    rw [e] at hle
    omega
theorem par_good {l : List Int} (hb : ∀ x ∈ l, 0 ≤ x ∧ x < 256) : ∀ x ∈ (parV l).2, parG x := by
  unfold parV
  split
  · intro x hx; cases hx
  split
  · intro x hx; cases hx
  rename_i h1 h2
  have h2' : (hdV l).1 = 0 := by simpa using h2
  obtain ⟨a, z, e, ha, hz⟩ := hGo_good hb (l.length + 1) 0 [] false false Z.b17 h2'
  refine ptGo_good _ _ _ ?_ Z.b17
  intro h hh
  have hh' : h ∈ a ++ [z] := by rw [← e]; exact hh
  rcases List.mem_append.1 hh' with h3 | h3
  · exact (ha h h3).1
  obtain rfl : h = z := by simpa using h3
  exact hz
end Go.Proofs.YtbojkoiopkaciaaGreat

/- The MAC entity: errors, none, ready, bytes. -/
namespace Go.Proofs.YtbojkoiopkaciaaGreat
open Go.RowKit
set_option linter.unusedSimpArgs false
set_option linter.unusedVariables false
--newlaws

theorem mx_must_ok (b : Bool) (e : Int) (w : World) (hb : b = true) : Calls Tryz.prog 41 #[.bool b, .int .i64 e] w (SX.Ret fun v w' => v = .tuple #[] ∧ SX.St w [] w' []) := by
  have hs := SX.St.start w
  subst hb
  refine Z.enter Tryz.func41 rfl Tryz.ntmps41 rfl rfl ?_
  refine Z.g249 ?_
  refine Z.cond rfl (fun h => absurd h Z.b17) (fun hc0 => ?_)
  refine Z.skip ?_
  refine Z.g128 ?_
  exact ⟨_, rfl, rfl, hs⟩
theorem mx_must_bad (b : Bool) (e : Int) (w : World) (hb : b = false) : Calls Tryz.prog 41 #[.bool b, .int .i64 e] w (MPan e fun w' => SX.St w [] w' []) := by
  have hs := SX.St.start w
  subst hb
  refine Z.enter Tryz.func41 rfl Tryz.ntmps41 rfl rfl ?_
  refine Z.g249 ?_
  refine Z.cond rfl (fun hc0 => ?_) (fun h => absurd h Z.b17)
  refine Z.g233 ?_
  refine Z.g3 ?_
  refine Z.ZO.panic rfl rfl ?_
  refine Z.outp ?_
  exact ⟨_, rfl, rfl, hs⟩
theorem mx_must (b : Bool) (e : Int) (w : World) : Calls Tryz.prog 41 #[.bool b, .int .i64 e] w (Z.Bo (fun v w' => b = true ∧ v = .tuple #[] ∧ SX.St w [] w' []) fun c w' => b = false ∧ c = mperr e ∧ SX.St w [] w' []) := by
  cases b with
  | true => exact Z.Bo.ret ((mx_must_ok true e w rfl).mono fun e w' ⟨v, h1, h2⟩ => ⟨v, h1, rfl, h2⟩)
  | false => exact Z.Bo.pan ((mx_must_bad false e w rfl).mono fun e w' ⟨v, h1, h2⟩ => ⟨v, h1, rfl, h2⟩)
theorem mx_gotBk (x : Value) (e : Int) (w : World) : Calls Tryz.prog 28 #[x, .int .i64 e] w (Z.Bo (fun v w' => e = 0 ∧ v = x ∧ SX.St w [] w' []) fun c w' => e ≠ 0 ∧ c = mperr e ∧ SX.St w [] w' []) := by
  have hs := SX.St.start w
  refine Z.enter Tryz.func28 rfl Tryz.ntmps28 rfl rfl ?_
  refine Z.g213 ?_
  refine Z.ZO.callB rfl rfl (by rfl) rfl rfl Tryz.call41 rfl (mx_must _ e _) ?_ ?_
  · skip
    rintro v1_3 w1_3 ⟨hm, rfl, hy⟩
    replace hs := Z.w1 (hs.call hy); clear hy
    refine Z.g181 ?_
    refine Z.g52 ?_
    exact .inl ⟨_, rfl, by simpa using hm, rfl, hs.sub (List.nil_sublist _)⟩
  skip
  rintro c1_3 w1_3 ⟨hm, rfl, hy⟩
  replace hs := Z.w1 (hs.call hy); clear hy
  repeat (first | refine Z.pthen ?_ | refine Z.pblock ?_ | refine Z.pscope ?_)
  refine Z.outp ?_
  exact .inr ⟨_, rfl, by simpa using hm, rfl, hs.sub (List.nil_sublist _)⟩
theorem mx_gotRp (x : Value) (e : Int) (w : World) : Calls Tryz.prog 30 #[x, .int .i64 e] w (Z.Bo (fun v w' => e = 0 ∧ v = x ∧ SX.St w [] w' []) fun c w' => e ≠ 0 ∧ c = mperr e ∧ SX.St w [] w' []) := by
  have hs := SX.St.start w
  refine Z.enter Tryz.func30 rfl Tryz.ntmps30 rfl rfl ?_
  refine Z.g213 ?_
  refine Z.ZO.callB rfl rfl (by rfl) rfl rfl Tryz.call41 rfl (mx_must _ e _) ?_ ?_
  · skip
    rintro v1_3 w1_3 ⟨hm, rfl, hy⟩
    replace hs := Z.w1 (hs.call hy); clear hy
    refine Z.g181 ?_
    refine Z.g52 ?_
    exact .inl ⟨_, rfl, by simpa using hm, rfl, hs.sub (List.nil_sublist _)⟩
  skip
  rintro c1_3 w1_3 ⟨hm, rfl, hy⟩
  replace hs := Z.w1 (hs.call hy); clear hy
  repeat (first | refine Z.pthen ?_ | refine Z.pblock ?_ | refine Z.pscope ?_)
  refine Z.outp ?_
  exact .inr ⟨_, rfl, by simpa using hm, rfl, hs.sub (List.nil_sublist _)⟩
theorem mx_gotPt (x : Value) (e : Int) (w : World) : Calls Tryz.prog 45 #[x, .int .i64 e] w (Z.Bo (fun v w' => e = 0 ∧ v = x ∧ SX.St w [] w' []) fun c w' => e ≠ 0 ∧ c = mperr e ∧ SX.St w [] w' []) := by
  have hs := SX.St.start w
  refine Z.enter Tryz.func45 rfl Tryz.ntmps45 rfl rfl ?_
  refine Z.g213 ?_
  refine Z.ZO.callB rfl rfl (by rfl) rfl rfl Tryz.call41 rfl (mx_must _ e _) ?_ ?_
  · skip
    rintro v1_3 w1_3 ⟨hm, rfl, hy⟩
    replace hs := Z.w1 (hs.call hy); clear hy
    refine Z.g181 ?_
    refine Z.g52 ?_
    exact .inl ⟨_, rfl, by simpa using hm, rfl, hs.sub (List.nil_sublist _)⟩
  skip
  rintro c1_3 w1_3 ⟨hm, rfl, hy⟩
  replace hs := Z.w1 (hs.call hy); clear hy
  repeat (first | refine Z.pthen ?_ | refine Z.pblock ?_ | refine Z.pscope ?_)
  refine Z.outp ?_
  exact .inr ⟨_, rfl, by simpa using hm, rfl, hs.sub (List.nil_sublist _)⟩
theorem mx_gotIs (x : Value) (e : Int) (w : World) : Calls Tryz.prog 48 #[x, .int .i64 e] w (Z.Bo (fun v w' => e = 0 ∧ v = x ∧ SX.St w [] w' []) fun c w' => e ≠ 0 ∧ c = mperr e ∧ SX.St w [] w' []) := by
  have hs := SX.St.start w
  refine Z.enter Tryz.func48 rfl Tryz.ntmps48 rfl rfl ?_
  refine Z.g213 ?_
  refine Z.ZO.callB rfl rfl (by rfl) rfl rfl Tryz.call41 rfl (mx_must _ e _) ?_ ?_
  · skip
    rintro v1_3 w1_3 ⟨hm, rfl, hy⟩
    replace hs := Z.w1 (hs.call hy); clear hy
    refine Z.g181 ?_
    refine Z.g52 ?_
    exact .inl ⟨_, rfl, by simpa using hm, rfl, hs.sub (List.nil_sublist _)⟩
  skip
  rintro c1_3 w1_3 ⟨hm, rfl, hy⟩
  replace hs := Z.w1 (hs.call hy); clear hy
  repeat (first | refine Z.pthen ?_ | refine Z.pblock ?_ | refine Z.pscope ?_)
  refine Z.outp ?_
  exact .inr ⟨_, rfl, by simpa using hm, rfl, hs.sub (List.nil_sublist _)⟩
theorem mx_gotI (x : Value) (e : Int) (w : World) : Calls Tryz.prog 65 #[x, .int .i64 e] w (Z.Bo (fun v w' => e = 0 ∧ v = x ∧ SX.St w [] w' []) fun c w' => e ≠ 0 ∧ c = mperr e ∧ SX.St w [] w' []) := by
  have hs := SX.St.start w
  refine Z.enter Tryz.func65 rfl Tryz.ntmps65 rfl rfl ?_
  refine Z.g213 ?_
  refine Z.ZO.callB rfl rfl (by rfl) rfl rfl Tryz.call41 rfl (mx_must _ e _) ?_ ?_
  · skip
    rintro v1_3 w1_3 ⟨hm, rfl, hy⟩
    replace hs := Z.w1 (hs.call hy); clear hy
    refine Z.g181 ?_
    refine Z.g52 ?_
    exact .inl ⟨_, rfl, by simpa using hm, rfl, hs.sub (List.nil_sublist _)⟩
  skip
  rintro c1_3 w1_3 ⟨hm, rfl, hy⟩
  replace hs := Z.w1 (hs.call hy); clear hy
  repeat (first | refine Z.pthen ?_ | refine Z.pblock ?_ | refine Z.pscope ?_)
  refine Z.outp ?_
  exact .inr ⟨_, rfl, by simpa using hm, rfl, hs.sub (List.nil_sublist _)⟩
theorem mx_gotBy (x : Value) (e : Int) (w : World) : Calls Tryz.prog 67 #[x, .int .i64 e] w (Z.Bo (fun v w' => e = 0 ∧ v = x ∧ SX.St w [] w' []) fun c w' => e ≠ 0 ∧ c = mperr e ∧ SX.St w [] w' []) := by
  have hs := SX.St.start w
  refine Z.enter Tryz.func67 rfl Tryz.ntmps67 rfl rfl ?_
  refine Z.g213 ?_
  refine Z.ZO.callB rfl rfl (by rfl) rfl rfl Tryz.call41 rfl (mx_must _ e _) ?_ ?_
  · skip
    rintro v1_3 w1_3 ⟨hm, rfl, hy⟩
    replace hs := Z.w1 (hs.call hy); clear hy
    refine Z.g181 ?_
    refine Z.g52 ?_
    exact .inl ⟨_, rfl, by simpa using hm, rfl, hs.sub (List.nil_sublist _)⟩
  skip
  rintro c1_3 w1_3 ⟨hm, rfl, hy⟩
  replace hs := Z.w1 (hs.call hy); clear hy
  repeat (first | refine Z.pthen ?_ | refine Z.pblock ?_ | refine Z.pscope ?_)
  refine Z.outp ?_
  exact .inr ⟨_, rfl, by simpa using hm, rfl, hs.sub (List.nil_sublist _)⟩
theorem mx_gotU (x : Value) (e : Int) (w : World) : Calls Tryz.prog 103 #[x, .int .i64 e] w (Z.Bo (fun v w' => e = 0 ∧ v = x ∧ SX.St w [] w' []) fun c w' => e ≠ 0 ∧ c = mperr e ∧ SX.St w [] w' []) := by
  have hs := SX.St.start w
  refine Z.enter Tryz.func103 rfl Tryz.ntmps103 rfl rfl ?_
  refine Z.g213 ?_
  refine Z.ZO.callB rfl rfl (by rfl) rfl rfl Tryz.call41 rfl (mx_must _ e _) ?_ ?_
  · skip
    rintro v1_3 w1_3 ⟨hm, rfl, hy⟩
    replace hs := Z.w1 (hs.call hy); clear hy
    refine Z.g181 ?_
    refine Z.g52 ?_
    exact .inl ⟨_, rfl, by simpa using hm, rfl, hs.sub (List.nil_sublist _)⟩
  skip
  rintro c1_3 w1_3 ⟨hm, rfl, hy⟩
  replace hs := Z.w1 (hs.call hy); clear hy
  repeat (first | refine Z.pthen ?_ | refine Z.pblock ?_ | refine Z.pscope ?_)
  refine Z.outp ?_
  exact .inr ⟨_, rfl, by simpa using hm, rfl, hs.sub (List.nil_sublist _)⟩
theorem mx_gotBr (r : RepV) (e : Int) (w : World) : Calls Tryz.prog 105 #[(.agg r.cells.toArray), .int .i64 e] w (Z.Bo (fun v w' => e = 0 ∧ v = (.agg r.cells.toArray) ∧ SX.St w [] w' []) fun c w' => e ≠ 0 ∧ c = mperr e ∧ SX.St w [] w' []) := by
  have hs := SX.St.start w
  have hone : ∀ u ∈ r.cells, u.oneCell' = true := by simp [RepV.cells, Value.oneCell']
  refine Z.enter Tryz.func105 rfl Tryz.ntmps105 rfl rfl ?_
  refine Z.g90 ?_
  clear hs; intro g2 w2 hs
  refine Z.g3 ?_
  refine Z.g165 ?_
  clear hs; intro g4 w4 hs
  refine Z.g314 ?_
  refine Z.only [1, 2, 4] rfl ?_
  refine Z.g92 ?_
  refine Z.g3 ?_
  refine Z.ZO.callB rfl rfl (by rfl) rfl rfl Tryz.call41 rfl (mx_must _ e _) ?_ ?_
  · skip
    rintro v1_3 w1_3 ⟨hm, rfl, hy⟩
    replace hs := Z.w1 (hs.call hy); clear hy
    refine Z.g314 ?_
    refine Z.only [2, 4] rfl ?_
    refine Z.g30 ?_
    refine Z.l rfl rfl (by rfl) (Z.keepS hs) (Z.Yd.loadA _ rfl Tryz.isAgg86 (fun _ => Z.cellsB (cs := r.cells) Z.b0) (by exact Tryz.sizeOf86)) ?_
    refine Z.g124 ?_
    clear hs; intro ws hs
    replace hs := Z.w0 hs
    replace hs := Z.w3 hs
    refine Z.g314 ?_
    refine Z.g62 ?_
    refine Z.out1 Z.b55 ?_
    exact .inl ⟨_, rfl, by simpa using hm, rfl, hs.sub (List.nil_sublist _)⟩
  skip
  rintro c1_3 w1_3 ⟨hm, rfl, hy⟩
  replace hs := Z.w1 (hs.call hy); clear hy
  repeat (first | refine Z.pthen ?_ | refine Z.pblock ?_ | refine Z.pscope ?_)
  refine Z.outp ?_
  exact .inr ⟨_, rfl, by simpa using hm, rfl, hs.sub (List.nil_sublist _)⟩
theorem mx_caught_pan (ge Te k : Nat) (cap : Array Value) (x : Value) (e : Int) (L L' : List SX.Ent) (w : World) (hs : SX.St w (SX.idsOf (SX.Ent.blk ge Te #[x] :: L)) w (SX.Ent.blk ge Te #[x] :: L)) (hk : ∀ args w, (callFunc k args).run Tryz.prog w = .ok (.enter k args) w)
    (hcl : ∀ W, SX.St W (SX.idsOf L) W L → Calls Tryz.prog k cap W (SX.Ret fun v w' => v = .tuple #[] ∧ SX.St W (SX.idsOf L) w' L')) :
    CallsDm Tryz.prog 26 #[.pointer (some ⟨ge, 0, none⟩), .func (.func k) #[] cap] (.panicking (mperr e)) (.panicking [{ v := .iface 31 (.int .i64 e), recovered := true }]) w
      (fun v w' => v = .tuple #[] ∧ SX.St w (SX.idsOf (SX.Ent.blk ge Te #[x] :: L)) w' (SX.Ent.blk ge Te #[.int .i64 e] :: L')) := by
  generalize hM : SX.idsOf (SX.Ent.blk ge Te #[x] :: L) = M at *
  refine Z.enterRec (Z.rec_pan _) Tryz.func26 rfl Tryz.ntmps26 rfl rfl rfl rfl rfl rfl rfl rfl rfl rfl ?_
  refine Z.g232 ?_
  refine Z.g313 ?_
  refine Z.cond rfl (fun hc1 => ?_) (fun h => absurd h Z.b17)
  refine Z.g242 ?_
  refine Z.cond rfl (fun h => absurd h Z.b17) (fun hc3 => ?_)
  refine Z.g151 ?_
  refine Z.g148 ?_
  rintro v5 w5 ⟨rfl, hz⟩
  replace hs := SX.St.rot (L2 := [SX.Ent.blk ge Te #[x]]) ((SX.St.regain (L1 := L) (L2 := [SX.Ent.blk ge Te #[x]]) (hs.rot (L1 := [_]))) hz)
  refine Z.g314 ?_
  refine Z.only [0, 5] rfl ?_
  refine Z.g121 ?_
  refine Z.g186 ?_
  refine Z.g237 ?_
  clear hs; intro ws hs
  replace hs := Z.w0 hs
  refine Z.g153 ?_
  refine Z.g128 ?_
  exact ⟨_, rfl, rfl, hs⟩
theorem mx_caught_ret (ge k : Nat) (cap : Array Value) (w : World) :
    CallsDm Tryz.prog 26 #[.pointer (some ⟨ge, 0, none⟩), .func (.func k) #[] cap] .returning .returning w (fun v w' => v = .tuple #[] ∧ SX.St w [] w' []) := by
  have hs := SX.St.start w
  refine Z.enterRec (Z.rec_ret) Tryz.func26 rfl Tryz.ntmps26 rfl rfl rfl rfl rfl rfl rfl rfl rfl rfl ?_
  refine Z.g232 ?_
  refine Z.g313 ?_
  refine Z.cond rfl (fun h => absurd h Z.b17) (fun hc1 => ?_)
  refine Z.skip ?_
  refine Z.g128 ?_
  exact ⟨_, rfl, rfl, hs⟩
theorem mx_clearNew (gp T : Nat) (a : Value) (W : World) (hs : SX.St W (SX.idsOf [SX.Ent.blk gp T #[a]]) W [SX.Ent.blk gp T #[a]]) :
    Calls Tryz.prog 27 #[.pointer (some ⟨gp, 0, none⟩)] W (SX.Ret fun v w' => v = .tuple #[] ∧ SX.St W (SX.idsOf [SX.Ent.blk gp T #[a]]) w' [SX.Ent.blk gp T #[.pointer none]]) := by
  generalize SX.idsOf [SX.Ent.blk gp T #[a]] = M at *
  refine Z.enter Tryz.func27 rfl Tryz.ntmps27 rfl rfl ?_
  refine Z.region ?_
  refine Z.g3 ?_
  refine Z.ZO.store rfl rfl hs Tryz.sizeOf30 rfl rfl rfl Z.b1 Z.b8 ?_
  clear hs; intro ws hs
  replace hs := Z.w0 hs
  refine Z.g153 ?_
  refine Z.g128 ?_
  exact ⟨_, rfl, rfl, hs⟩
theorem mx_clearPlan (gp T : Nat) (a : Value) (W : World) (hs : SX.St W (SX.idsOf [SX.Ent.blk gp T #[a]]) W [SX.Ent.blk gp T #[a]]) :
    Calls Tryz.prog 39 #[.pointer (some ⟨gp, 0, none⟩)] W (SX.Ret fun v w' => v = .tuple #[] ∧ SX.St W (SX.idsOf [SX.Ent.blk gp T #[a]]) w' [SX.Ent.blk gp T #[.slice none 0 0]]) := by
  generalize SX.idsOf [SX.Ent.blk gp T #[a]] = M at *
  refine Z.enter Tryz.func39 rfl Tryz.ntmps39 rfl rfl ?_
  refine Z.region ?_
  refine Z.g3 ?_
  refine Z.g109 ?_
  clear hs; intro ws hs
  replace hs := Z.w0 hs
  refine Z.g153 ?_
  refine Z.g128 ?_
  exact ⟨_, rfl, rfl, hs⟩
theorem mx_clearBuild (gp T : Nat) (a : Value) (W : World) (hs : SX.St W (SX.idsOf [SX.Ent.blk gp T #[a]]) W [SX.Ent.blk gp T #[a]]) :
    Calls Tryz.prog 63 #[.pointer (some ⟨gp, 0, none⟩)] W (SX.Ret fun v w' => v = .tuple #[] ∧ SX.St W (SX.idsOf [SX.Ent.blk gp T #[a]]) w' [SX.Ent.blk gp T #[.slice none 0 0]]) := by
  generalize SX.idsOf [SX.Ent.blk gp T #[a]] = M at *
  refine Z.enter Tryz.func63 rfl Tryz.ntmps63 rfl rfl ?_
  refine Z.region ?_
  refine Z.g3 ?_
  refine Z.g84 ?_
  clear hs; intro ws hs
  replace hs := Z.w0 hs
  refine Z.g153 ?_
  refine Z.g128 ?_
  exact ⟨_, rfl, rfl, hs⟩
theorem mx_clearRec (gp T : Nat) (a b c d : Value) (W : World) (hs : SX.St W (SX.idsOf [SX.Ent.blk gp T #[a, b, c, d]]) W [SX.Ent.blk gp T #[a, b, c, d]]) :
    Calls Tryz.prog 50 #[.pointer (some ⟨gp, 0, none⟩)] W (SX.Ret fun v w' => v = .tuple #[] ∧ SX.St W (SX.idsOf [SX.Ent.blk gp T #[a, b, c, d]]) w' [SX.Ent.blk gp T #[.slice none 0 0, .slice none 0 0, .slice none 0 0, .slice none 0 0]]) := by
  generalize SX.idsOf [SX.Ent.blk gp T #[a, b, c, d]] = M at *
  refine Z.enter Tryz.func50 rfl Tryz.ntmps50 rfl rfl ?_
  refine Z.region ?_
  refine Z.l rfl rfl (by rfl) (Z.keepS hs) (Z.Yd.buildL [(0, 1), (1, 1), (2, 1), (3, 1)] [.slice none 0 0, .slice none 0 0, .slice none 0 0, .slice none 0 0] rfl rfl Z.b15) ?_
  refine Z.g124 ?_
  clear hs; intro ws hs
  replace hs := Z.w0 hs
  replace hs := Z.w3 hs
  refine Z.g153 ?_
  refine Z.g128 ?_
  exact ⟨_, rfl, rfl, hs⟩
theorem mx_none (g gb : Nat) (ch rv lv : Value) (w : World) (hc : Cel w g [.pointer (some ⟨gb, 0, none⟩), ch, rv, lv]) : Calls Tryz.prog 37 #[.pointer (some ⟨g, 0, none⟩)] w (SX.Ret fun v w' => v = .bool false ∧ SX.St w [] w' []) := by
  have hs := SX.St.start w
  refine Z.enter Tryz.func37 rfl Tryz.ntmps37 rfl rfl ?_
  refine Z.g241 ?_
  refine Z.g64 ?_
  refine Z.l rfl rfl (by rfl) (Z.keepS hs) (Z.Yd.ptrNil rfl rfl Tryz.underlying30) ?_
  refine Z.g186 ?_
  refine Z.g4 ?_
  refine Z.l rfl rfl (by rfl) (Z.keepS hs) (Z.Yd.load rfl Tryz.isAgg52 (fun _ => Z.cellO hc.1 Z.b17 (hc.2 0 _ rfl))) ?_
  refine Z.l rfl rfl (by rfl) (Z.keepS hs) (Z.Yd.ptrNil rfl rfl Tryz.underlying52) ?_
  refine Z.g31 ?_
  refine Z.g33 ?_
  refine Z.g52 ?_
  exact ⟨_, rfl, rfl, hs⟩
theorem mx_ready (g gb : Nat) (ch rv : Value) (m : MaV) (now n : Int) (w : World) (hc : Cel w g [.pointer (some ⟨gb, 0, none⟩), ch, rv, .int .i64 m.last]) :
    Calls Tryz.prog 40 #[.pointer (some ⟨g, 0, none⟩), .int .i64 now, .int .i64 n] w (Z.Bo (fun v w' => okRd m now n ∧ v = .tuple #[] ∧ SX.St w [] w' []) fun c w' => ¬ okRd m now n ∧ c = mperr 2 ∧ SX.St w [] w' []) := by
  have hs := SX.St.start w
  refine Z.enter Tryz.func40 rfl Tryz.ntmps40 rfl rfl ?_
  refine Z.g0 ?_
  refine Z.g32 ?_
  refine Z.ZO.call rfl rfl (by rfl) rfl rfl Tryz.call37 rfl (mx_none g gb _ _ _ _ hc) ?_
  rintro v0_1 w0_1 ⟨rfl, hy⟩
  replace hs := Z.w1 (hs.call hy); clear hy
  refine Z.g32 ?_
  refine Z.ZO.call rfl rfl (by rfl) rfl rfl Tryz.call41 rfl (mx_must_ok _ 1 _ Z.b17) ?_
  rintro v0_3 w0_3 ⟨rfl, hy⟩
  replace hs := Z.w1 (hs.call hy); clear hy
  refine Z.g314 ?_
  refine Z.only [0, 1, 2] rfl ?_
  refine Z.g121 ?_
  refine Z.lb 9 rfl ?_
  refine Z.g10 ?_
  refine Z.g72 ?_
  refine Z.l rfl rfl (by rfl) (Z.keepS hs) (Z.Yd.load rfl Tryz.isAgg3 (fun _ => Z.cellO hc.1 Z.b17 (hc.2 3 _ rfl))) ?_
  refine Z.lb 6 rfl ?_
  refine Z.g3 ?_
  refine Z.ZO.callB rfl rfl (by rfl) rfl rfl Tryz.call41 rfl (mx_must _ 2 _) ?_ ?_
  · skip
    rintro v1_18 w1_18 ⟨hm, rfl, hy⟩
    replace hs := Z.w1 (hs.call hy); clear hy
    refine Z.g153 ?_
    refine Z.g128 ?_
    exact .inl ⟨_, rfl, by unfold okRd; simp at hm; omega, rfl, hs⟩
  skip
  rintro c1_18 w1_18 ⟨hm, rfl, hy⟩
  replace hs := Z.w1 (hs.call hy); clear hy
  refine Z.outp ?_
  exact .inr ⟨_, rfl, by unfold okRd; simp at hm; omega, rfl, hs⟩
theorem bytesP_snoc (r : List Prt) (p : Prt) : bytesP (r ++ [p]) = bytesP r + (1 + (p.2.length : Int)) := by simp [bytesP]
theorem mx_bytes (A : Option Addr) (n c : Nat) (ps : List MpV) (w : World) (hx : Sl w A (ps.flatMap MpV.cells)) (hl : ps.length = n) (hn : n ≤ 100) (hf : ∀ q ∈ ps, q.l.length ≤ 100000) (hb : ∀ i, 0 ≤ bytesP ((ps.map MpV.plain).take i) ∧ bytesP ((ps.map MpV.plain).take i) ≤ 100000000) :
    Calls Tryz.prog 44 #[.slice A n c] w (SX.Ret fun v w' => v = .int .i64 (bytesP (ps.map MpV.plain)) ∧ SX.St w [] w' []) := by
  have hs := SX.St.start w
  refine Z.enter Tryz.func44 rfl Tryz.ntmps44 rfl rfl ?_
  refine Z.g120 ?_
  refine Z.only [0, 2] rfl ?_
  refine Z.g123 ?_
  refine Z.g258 ?_
  refine Z.only [2, 5, 6, 7] rfl ?_
  refine Z.g210 ?_
  refine Z.loopk (ι := Nat) [5, 6] rfl (fun i => [(2, [], .int .i64 (bytesP ((ps.map MpV.plain).take i))), (7, [], .int .i64 (i : Int))]) (fun i wr => i ≤ n ∧ SX.St w [] wr []) (fun i => n - i) 0 Z.b14 ⟨Nat.zero_le _, hs⟩ ?_
  clear hs
  rintro i w3 ⟨hi, hs⟩
  refine Z.only [2, 5, 6, 7] rfl ?_
  refine Z.g120 ?_
  refine Z.only [2, 5, 6, 7, 8] rfl ?_
  refine Z.g150 ?_
  refine Z.cond rfl (fun hc2 => ?_) (fun hc2 => ?_)
  · (try simp at hc2)
    obtain ⟨b, off, rfl, hb0, hx2⟩ := Z.Sl.some hx Z.b66
    obtain ⟨q, hqi⟩ : ∃ q, ps[i]? = some q := ⟨_, List.getElem?_eq_getElem Z.b9⟩
    have htk := plain_take hqi
    have hone := mp_one q
    have hq1 := hf q (List.mem_of_getElem? hqi)
    have e2 : q.plain.2 = q.l := rfl
    have hbi := hb i
    refine Z.g238 ?_
    refine Z.g41 ?_
    refine Z.g254 ?_
    clear hs; intro g4 w4 hs
    refine Z.g124 ?_
    clear hs; intro ws hs
    replace hs := Z.w0 hs
    replace hs := Z.w3 hs
    refine Z.g314 ?_
    refine Z.only [2, 4, 5, 6, 7] rfl ?_
    refine Z.g121 ?_
    refine Z.g64 ?_
    refine Z.g9 ?_
    refine Z.l rfl rfl (by rfl) (Z.keepS hs) (Z.Yd.load rfl Tryz.isAgg48 (fun _ => Z.cellB (cs := q.cells.toArray) Z.b0 rfl)) ?_
    refine Z.g104 ?_
    refine Z.g5 ?_
    refine Z.g187 ?_
    refine Z.only [2, 5, 6, 7] rfl ?_
    refine Z.g180 ?_
    refine Z.only [2, 5, 6, 7] rfl ?_
    refine Z.g313 ?_
    exact Z.again (i + 1) (by refine ⟨?_, ?_, ?_, ?_, trivial⟩ <;> first | rfl | (rw [htk, bytesP_snoc, e2]; rfl)) ⟨by omega, hs.sub (List.nil_sublist _)⟩ Z.b9
  (try simp at hc2)
  refine Z.g211 ?_
  refine Z.g31 ?_
  refine Z.g33 ?_
  refine Z.g52 ?_
  obtain rfl : i = n := by omega
  exact ⟨_, rfl, by rw [List.take_of_length_le Z.b41], hs⟩
end Go.Proofs.YtbojkoiopkaciaaGreat

/- The MAC entity: New. -/
namespace Go.Proofs.YtbojkoiopkaciaaGreat
open Go.RowKit
set_option linter.unusedSimpArgs false
set_option linter.unusedVariables false
--newlaws

theorem got_ok {f : Nat} {args : Array Value} {w : World} {x : Value} {e : Int} (h : Calls Tryz.prog f args w (Z.Bo (fun v w' => e = 0 ∧ v = x ∧ SX.St w [] w' []) fun c w' => e ≠ 0 ∧ c = mperr e ∧ SX.St w [] w' [])) (he : e = 0) : Calls Tryz.prog f args w (SX.Ret fun v w' => v = x ∧ SX.St w [] w' []) := h.mono (by
  rintro e' w' (⟨v, h1, h2, h3⟩ | ⟨c, h1, h2, _⟩)
  · exact ⟨v, h1, h3⟩
  exact absurd he h2)
theorem got_bad {f : Nat} {args : Array Value} {w : World} {x : Value} {e : Int} (h : Calls Tryz.prog f args w (Z.Bo (fun v w' => e = 0 ∧ v = x ∧ SX.St w [] w' []) fun c w' => e ≠ 0 ∧ c = mperr e ∧ SX.St w [] w' [])) (he : e ≠ 0) : Calls Tryz.prog f args w (MPan e fun w' => SX.St w [] w' []) := h.mono (by
  rintro e' w' (⟨v, h1, h2, h3⟩ | ⟨c, h1, h2, h3⟩)
  · exact absurd h2 he
  exact ⟨c, h1, h3⟩)
theorem bk_new_ok (A : Option Addr) (n c : Nat) (ls : List LgV) (w : World) (hx : Sl w A (ls.flatMap LgV.cells)) (hl : ls.length = n) (hn : n ≤ 1000) (hc : n ≤ c) (h : okSet ls) :
    Calls Tryz.prog 29 #[.slice A n c] w (SX.Ret fun v w' => ∃ g sv so, v = .tuple #[.pointer (some ⟨g, 0, none⟩), .int .i64 0] ∧ SX.St w [] w' (bkE g sv so (newB ls))) := by
  have := bk_new A n c ls w hx hl hn hc
  simpa only [if_pos h] using this
theorem bk_new_bad (A : Option Addr) (n c : Nat) (ls : List LgV) (w : World) (hx : Sl w A (ls.flatMap LgV.cells)) (hl : ls.length = n) (hn : n ≤ 1000) (hc : n ≤ c) (h : ¬ okSet ls) :
    Calls Tryz.prog 29 #[.slice A n c] w (SX.Ret fun v w' => v = .tuple #[.pointer none, .int .i64 2] ∧ SX.St w [] w' []) := by
  have := bk_new A n c ls w hx hl hn hc
  simpa only [if_neg h] using this
theorem rp_new_ok (a b c d : Int) (w : World) (h : okC a b c d) : Calls Tryz.prog 31 #[.agg #[.int .i64 a, .int .i64 b, .int .i64 c, .int .i64 d]] w (SX.Ret fun v w' => ∃ g, v = .tuple #[.pointer (some ⟨g, 0, none⟩), .int .i64 0] ∧ SX.St w [] w' [SX.Ent.blk g 157 (newR a b c d).cells.toArray]) := by
  have := rp_new a b c d w
  simpa only [if_pos h] using this
theorem rp_new_bad (a b c d : Int) (w : World) (h : ¬ okC a b c d) : Calls Tryz.prog 31 #[.agg #[.int .i64 a, .int .i64 b, .int .i64 c, .int .i64 d]] w (SX.Ret fun v w' => v = .tuple #[.pointer none, .int .i64 2] ∧ SX.St w [] w' []) := by
  have := rp_new a b c d w
  simpa only [if_neg h] using this
def rvP (m : MaV) (gr : Nat) : Value := if m.up then .pointer (some ⟨gr, 0, none⟩) else .pointer none
def rpE (m : MaV) (gr : Nat) : List SX.Ent := if m.up then [SX.Ent.blk gr 157 m.r.cells.toArray] else []
def maE (g gb gr : Nat) (C : Option Addr) (kc : Nat) (sv so : Value) (m : MaV) : List SX.Ent := SX.Ent.blk g 55 #[.pointer (some ⟨gb, 0, none⟩), .slice C m.b.l.length kc, rvP m gr, .int .i64 m.last] :: (bkE gb sv so m.b ++ rpE m gr)
def newM (ls : List LgV) (a b c d : Int) (up : Bool) : MaV := ⟨newB ls, up, newR a b c d, 0⟩
theorem newM_ok {ls : List LgV} {a b c d : Int} {up : Bool} (h : okSet ls) (h2 : okC a b c d) : (newM ls a b c d up).ok := ⟨newB_ok h, newR_ok h2, Int.le_refl _, Int.le_refl _, ⟨Int.le_refl 0, by show (0 : Int) < 1073741824; decide⟩⟩
def cfgV (A : Option Addr) (n k : Nat) (a b c d : Int) (up : Bool) : Value := .agg #[.slice A n k, .int .i64 a, .int .i64 b, .int .i64 c, .int .i64 d, .bool up]
set_option maxRecDepth 100000 in
theorem mx_new_badB (A : Option Addr) (n k : Nat) (ls : List LgV) (a b c d : Int) (up : Bool) (w : World) (hx : Sl w A (ls.flatMap LgV.cells)) (hl : ls.length = n) (hn : n ≤ 1000) (hk : n ≤ k) (h : ¬ okSet ls) :
    Calls Tryz.prog 11 #[cfgV A n k a b c d up] w (SX.Ret fun v w' => v = .tuple #[.pointer none, .int .i64 2] ∧ SX.St w [] w' []) := by
  have hs := SX.St.start w
  unfold cfgV
  refine Z.enterD Tryz.func11 rfl Tryz.ntmps11 rfl rfl ?_
  refine Z.g90 ?_
  clear hs; intro g1 w1 hs
  refine Z.g3 ?_
  refine Z.ZO.alloc rfl rfl (by rfl) Tryz.zeroValue30 rfl hs ?_
  clear hs; intro g2 w2 hs
  refine Z.g184 ?_
  clear hs; intro g3 w3 hs
  refine Z.g266 ?_
  refine Z.ZO.call rfl rfl (by rfl) rfl rfl Tryz.call29 rfl (bk_new_bad A n k ls _ (hx.st (hs.sub (List.nil_sublist _))) hl hn hk h) ?_
  rintro v2_2 w2_2 ⟨rfl, hy⟩
  replace hs := Z.w1 (hs.call hy); clear hy
  refine Z.g63 ?_
  refine Z.ZO.callP rfl rfl rfl Tryz.call28 rfl (got_bad (mx_gotBk _ 2 _) Z.b12) ?_
  rintro c2_5 w2_5 ⟨rfl, hy⟩
  replace hs := Z.w1 (hs.call hy); clear hy
  replace hs := hs.sel [0, 1] Z.b12
  repeat (first | refine Z.pthen ?_ | refine Z.pblock ?_ | refine Z.pscope ?_)
  refine Z.outDp Tryz.call26 (mx_caught_pan g3 _ _ _ _ _ [SX.Ent.blk g2 _ _] _ _ (hs.lend (L2 := [])) Tryz.call27 (fun W hW ↦ mx_clearNew g2 _ _ W hW)) ?_
  rintro vD wD ⟨rfl, hz⟩
  replace hs := hs.regain (L2 := []) hz
  refine ⟨[_, _], Z.b56, ?_⟩
  exact ⟨_, rfl, rfl, hs.sub (List.nil_sublist _)⟩
set_option maxRecDepth 100000 in
theorem mx_new_badR (A : Option Addr) (n k : Nat) (ls : List LgV) (a b c d : Int) (up : Bool) (w : World) (hx : Sl w A (ls.flatMap LgV.cells)) (hl : ls.length = n) (hn : n ≤ 1000) (hk : n ≤ k) (h : okSet ls) (h2 : ¬ okC a b c d) :
    Calls Tryz.prog 11 #[cfgV A n k a b c d up] w (SX.Ret fun v w' => v = .tuple #[.pointer none, .int .i64 2] ∧ SX.St w [] w' []) := by
  have hs := SX.St.start w
  unfold cfgV
  refine Z.enterD Tryz.func11 rfl Tryz.ntmps11 rfl rfl ?_
  refine Z.g90 ?_
  clear hs; intro g1 w1 hs
  refine Z.g3 ?_
  refine Z.ZO.alloc rfl rfl (by rfl) Tryz.zeroValue30 rfl hs ?_
  clear hs; intro g2 w2 hs
  refine Z.g184 ?_
  clear hs; intro g3 w3 hs
  refine Z.g266 ?_
  refine Z.ZO.call rfl rfl (by rfl) rfl rfl Tryz.call29 rfl (bk_new_ok A n k ls _ (hx.st (hs.sub (List.nil_sublist _))) hl hn hk h) ?_
  rintro v2_2 w2_2 ⟨gb, sv, so, rfl, hy⟩
  replace hs := Z.w1 (hs.call hy); clear hy
  simp only [bkE, List.cons_append, List.nil_append] at hs
  refine Z.g63 ?_
  refine Z.ZO.call rfl rfl (by rfl) rfl rfl Tryz.call28 rfl (got_ok (mx_gotBk _ 0 _) rfl) ?_
  rintro v2_5 w2_5 ⟨rfl, hy⟩
  replace hs := Z.w1 (hs.call hy); clear hy
  replace hs := hs.sel [3, 4, 5] Z.b12
  refine Z.g1 ?_
  refine Z.only [1, 2, 3, 4] rfl ?_
  refine Z.g30 ?_
  refine Z.g9 ?_
  refine Z.l rfl rfl (by rfl) (Z.keepS hs) (Z.Yd.loadA _ rfl Tryz.isAgg24 (fun _ => Z.cellsBo (cs := [.slice A n k, .int .i64 a, .int .i64 b, .int .i64 c, .int .i64 d, .bool up]) [.int .i64 a, .int .i64 b, .int .i64 c, .int .i64 d] Z.b0 ⟨[.bool up], rfl⟩) (by exact Tryz.sizeOf24)) ?_
  refine Z.g3 ?_
  refine Z.ZO.call rfl rfl (by rfl) rfl rfl Tryz.call31 rfl (rp_new_bad a b c d _ h2) ?_
  rintro v3_2 w3_2 ⟨rfl, hy⟩
  replace hs := Z.w1 (hs.call hy); clear hy
  refine Z.g63 ?_
  refine Z.ZO.callP rfl rfl rfl Tryz.call30 rfl (got_bad (mx_gotRp _ 2 _) Z.b12) ?_
  rintro c3_5 w3_5 ⟨rfl, hy⟩
  replace hs := Z.w1 (hs.call hy); clear hy
  replace hs := hs.sel [0, 1] Z.b12
  repeat (first | refine Z.pthen ?_ | refine Z.pblock ?_ | refine Z.pscope ?_)
  refine Z.outDp Tryz.call26 (mx_caught_pan g3 _ _ _ _ _ [SX.Ent.blk g2 _ _] _ _ (hs.lend (L2 := [])) Tryz.call27 (fun W hW ↦ mx_clearNew g2 _ _ W hW)) ?_
  rintro vD wD ⟨rfl, hz⟩
  replace hs := hs.regain (L2 := []) hz
  refine ⟨[_, _], Z.b56, ?_⟩
  exact ⟨_, rfl, rfl, hs.sub (List.nil_sublist _)⟩
set_option maxHeartbeats 1000000 in
set_option maxRecDepth 100000 in
theorem mx_new_ok (A : Option Addr) (n k : Nat) (ls : List LgV) (a b c d : Int) (up : Bool) (w : World) (hx : Sl w A (ls.flatMap LgV.cells)) (hl : ls.length = n) (hn : n ≤ 1000) (hk : n ≤ k) (h : okSet ls) (h2 : okC a b c d) :
    Calls Tryz.prog 11 #[cfgV A n k a b c d up] w (SX.Ret fun v w' => ∃ g gb gr C kc sv so, v = .tuple #[.pointer (some ⟨g, 0, none⟩), .int .i64 0] ∧ SX.St w [] w' (maE g gb gr C kc sv so (newM ls a b c d up) ++ [SX.Ent.row (.slice C n kc) 75 5 n (ls.flatMap LgV.cells)])) := by
  have hs := SX.St.start w
  unfold cfgV
  have hpos := h.1
  subst hl
  refine Z.enterD Tryz.func11 rfl Tryz.ntmps11 rfl rfl ?_
  refine Z.g90 ?_
  clear hs; intro g1 w1 hs
  refine Z.g3 ?_
  refine Z.ZO.alloc rfl rfl (by rfl) Tryz.zeroValue30 rfl hs ?_
  clear hs; intro g2 w2 hs
  refine Z.g184 ?_
  clear hs; intro g3 w3 hs
  refine Z.g266 ?_
  refine Z.ZO.call rfl rfl (by rfl) rfl rfl Tryz.call29 rfl (bk_new_ok A _ k ls _ (hx.st (hs.sub (List.nil_sublist _))) rfl hn hk h) ?_
  rintro v2_2 w2_2 ⟨gb, sv, so, rfl, hy⟩
  replace hs := Z.w1 (hs.call hy); clear hy
  simp only [bkE, List.cons_append, List.nil_append] at hs
  refine Z.g63 ?_
  refine Z.ZO.call rfl rfl (by rfl) rfl rfl Tryz.call28 rfl (got_ok (mx_gotBk _ 0 _) rfl) ?_
  rintro v2_5 w2_5 ⟨rfl, hy⟩
  replace hs := Z.w1 (hs.call hy); clear hy
  refine Z.g1 ?_
  refine Z.only [1, 2, 3, 4] rfl ?_
  refine Z.g30 ?_
  refine Z.g9 ?_
  refine Z.l rfl rfl (by rfl) (Z.keepS hs) (Z.Yd.loadA _ rfl Tryz.isAgg24 (fun _ => Z.cellsBo (cs := [.slice A ls.length k, .int .i64 a, .int .i64 b, .int .i64 c, .int .i64 d, .bool up]) [.int .i64 a, .int .i64 b, .int .i64 c, .int .i64 d] Z.b0 ⟨[.bool up], rfl⟩) (by exact Tryz.sizeOf24)) ?_
  refine Z.g3 ?_
  refine Z.ZO.call rfl rfl (by rfl) rfl rfl Tryz.call31 rfl (rp_new_ok a b c d _ h2) ?_
  rintro v3_2 w3_2 ⟨gr, rfl, hy⟩
  replace hs := Z.w1 (hs.call hy); clear hy
  refine Z.g63 ?_
  refine Z.ZO.call rfl rfl (by rfl) rfl rfl Tryz.call30 rfl (got_ok (mx_gotRp _ 0 _) rfl) ?_
  rintro v3_5 w3_5 ⟨rfl, hy⟩
  replace hs := Z.w1 (hs.call hy); clear hy
  refine Z.g248 ?_
  refine Z.g150 ?_
  refine Z.drawK (fun j => j != 9) mixed hs ?_
  clear hs; intro wd4 hs
  refine Z.tb [0] Z.b4 rfl ⟨_, hs, Z.b2⟩ rfl ?_
  refine Z.t 1 rfl rfl rfl (by rfl) Z.b4 ⟨_, hs, Z.b2⟩ (Z.Yd.fieldA (m := 0) rfl Z.b4) ?_
  refine Z.t 2 rfl rfl rfl (by rfl) Z.b4 ⟨_, hs, Z.b2⟩ Z.b32 ?_
  refine Z.t 3 rfl rfl rfl (by rfl) Z.b4 ⟨_, hs, Z.b2⟩ (Z.Yd.cut3 0 0 0 rfl rfl rfl rfl Tryz.underlying22 Tryz.sizeOf75 (fun hG => ⟨Z.b3, Z.b3, Z.b3, Z.b3, Z.b3⟩)) ?_
  refine Z.g112 ?_
  refine Z.t 5 rfl rfl rfl (by rfl) Z.b4 ⟨_, hs, Z.b2⟩ Z.b32 ?_
  refine Z.g191 ?_
  refine Z.ZO.appendF (i0 := Tryz.t75) (size := 5) (bytes := 40) (olds := []) (news := ls.flatMap LgV.cells) rfl rfl (by rfl) hs Tryz.underlying22 Z.b4 rfl rfl rfl rfl Z.b12 rfl rfl (fun _ => ⟨rfl, rfl⟩) rfl sl_nil (by rw [Z.flat_length lg_len]) (hx.st (hs.sub (List.nil_sublist _))) (flat_one lg_one ls) Z.b9 Z.b9 Z.b23 Z.b9 ?_
  clear hs; intro v25 w25 hs
  simp only [Nat.zero_add, List.nil_append] at hs
  obtain ⟨C, kc, rfl, -, -, -⟩ := SX.row_slv hs (j := 0) rfl
  refine Z.tk (Dn := fun j => j != 9) (i := 6) (fun _ => ⟨_, hs, Z.b2⟩) ?_
  refine Z.t 7 rfl rfl rfl (by rfl) Z.b4 ⟨_, hs, Z.b2⟩ (Z.Yd.buildL [(0, 1), (1, 1), (2, 1), (3, 1)] [.pointer none, .slice none 0 0, .pointer none, .int .i64 0] rfl rfl Z.b15) ?_
  refine Z.tn 8 rfl rfl Z.b4 rfl trivial ?_
  refine Z.g17 ?_
  clear hs; intro g27 w27 hs
  refine Z.tk (Dn := fun j => j != 9) (i := 8) (fun _ => ⟨_, hs, Z.b2⟩) ?_
  refine Z.tn 9 rfl rfl Z.b4 rfl trivial ?_
  refine Z.ZO.store rfl rfl hs Tryz.sizeOf30 rfl rfl rfl Z.b1 Z.b8 ?_
  clear hs; intro ws hs
  replace hs := Z.w0 hs
  refine Z.tk (Dn := fun j => j != 9) (i := 9) (fun h => absurd h Z.b12) ?_
  refine Z.g68 ?_
  refine Z.only [1, 2, 3, 5] rfl ?_
  refine Z.g60 ?_
  refine Z.g118 ?_
  refine Z.l rfl rfl (by rfl) (Z.keepS hs) Z.b44 ?_
  refine Z.g314 ?_
  refine Z.only [2, 3, 5, 29] rfl ?_
  refine Z.g313 ?_
  refine Z.cond rfl (fun hc5 => ?_) (fun hc5 => ?_)
  · (try simp at hc5)
    refine Z.region ?_
    refine Z.l rfl rfl (by rfl) (Z.keepS hs) Z.b71 ?_
    refine Z.g157 ?_
    refine Z.g21 ?_
    refine Z.g3 ?_
    refine Z.ZO.store rfl rfl hs Tryz.sizeOf53 rfl rfl rfl Z.b1 Z.b8 ?_
    clear hs; intro ws hs
    replace hs := Z.w0 hs
    refine Z.g314 ?_
    refine Z.only [2, 3] rfl ?_
    refine Z.g30 ?_
    refine Z.l rfl rfl (by rfl) (Z.keepS hs) Z.b71 ?_
    refine Z.g3 ?_
    refine Z.ZO.store rfl rfl hs Tryz.sizeOf30 rfl rfl rfl Z.b1 Z.b8 ?_
    clear hs; intro ws hs
    replace hs := Z.w0 hs
    refine Z.g237 ?_
    clear hs; intro ws hs
    replace hs := Z.w0 hs
    refine Z.g314 ?_
    refine Z.g126 ?_
    refine Z.outDr Tryz.call26 (mx_caught_ret g3 _ _ _) ?_
    rintro vD wD ⟨rfl, hy⟩
    replace hs := hs.call hy
    refine ⟨[_, _], Z.b56, ?_⟩
    simp only [Nat.sub_self, Nat.zero_add, List.nil_append] at hs
    subst hc5
    exact ⟨_, rfl, g27, gb, gr, C, kc, sv, so, rfl, hs.sel [0, 3, 4, 5, 2, 1] Z.b12⟩
  (try simp at hc5)
  refine Z.g151 ?_
  refine Z.l rfl rfl (by rfl) (Z.keepS hs) Z.b71 ?_
  refine Z.g3 ?_
  refine Z.ZO.store rfl rfl hs Tryz.sizeOf30 rfl rfl rfl Z.b1 Z.b8 ?_
  clear hs; intro ws hs
  replace hs := Z.w0 hs
  refine Z.g237 ?_
  clear hs; intro ws hs
  replace hs := Z.w0 hs
  refine Z.g314 ?_
  refine Z.g126 ?_
  refine Z.outDr Tryz.call26 (mx_caught_ret g3 _ _ _) ?_
  rintro vD wD ⟨rfl, hy⟩
  replace hs := hs.call hy
  refine ⟨[_, _], Z.b56, ?_⟩
  simp only [Nat.sub_self, Nat.zero_add, List.nil_append] at hs
  subst hc5
  exact ⟨_, rfl, g27, gb, gr, C, kc, sv, so, rfl, hs.sel [0, 3, 4, 5, 1] Z.b12⟩
end Go.Proofs.YtbojkoiopkaciaaGreat

/- Reports: the statements' own functions. -/
namespace Go.Proofs.YtbojkoiopkaciaaGreat
open Go.RowKit
set_option linter.unusedSimpArgs false
set_option linter.unusedVariables false
--newlaws

theorem elP_byts (m : RpV) (hm : m.ok) (room : Int) : ∀ p ∈ elP m room, Byts p.2 := by
  intro p hp
  unfold elP elP1 at hp
  rcases List.mem_append.1 hp with h | h
  · split at h
    · rename_i hb
      obtain rfl : p = _ := by simpa using h
      exact encL_bytes (statV_ok m room (hm.full hb.1))
    simp at h
  split at h
  · obtain rfl : p = _ := by simpa using h
    intro x hx
    obtain rfl : x = m.head := by simpa using hx
    have := hm.head
    omega
  simp at h
theorem elsV_byts (m : RpV) (hm : m.ok) (t room : Int) : ∀ p ∈ (elsV m t room).2.1, Byts p.2 := by
  unfold elsV
  split
  · exact elP_byts m hm room
  intro p hp; simp at hp
end Go.Proofs.YtbojkoiopkaciaaGreat

/- Reports: lists of parts compared; the visible state; a call on both. -/
namespace Go.Proofs.YtbojkoiopkaciaaGreat
open Go.RowKit
set_option linter.unusedSimpArgs false
set_option linter.unusedVariables false
--newlaws

theorem pt_sz (q : PtV) : q.cells.length = 2 := rfl
def bX (l : List Int) (pre : List Nat) (k : Nat) : Int := if k ∈ pre then elt l (k : Int) else 0
def bcs (l : List Int) (pre : List Nat) : List Value := [.int .i64 (bX l pre 0), .int .i64 (bX l pre 1), .int .i64 (bX l pre 2), .int .i64 (bX l pre 3)]
@[simp] theorem bcs_len (l : List Int) (pre : List Nat) : (bcs l pre).length = 4 := rfl
structure RxV where
  w : Int
  t : Int
  a : Int
  b : Int
  c : Int
  d : Int
  n : Int
def RxV.cells (x : RxV) : List Value := [.int .i64 x.w, .int .i64 x.t, .int .i64 x.a, .int .i64 x.b, .int .i64 x.c, .int .i64 x.d, .int .i64 x.n]
def RxV.at (x : RxV) (now : Int) : Int := if x.w < 5 then now + max 0 (min 2000000 x.t) else x.t
def actV (m : RpV) (x : RxV) : RpV :=
  if x.w = 0 ∨ x.w = 1 ∨ x.w = 2 ∨ x.w = 5 then (updV m (x.at m.now) x.a x.b x.c x.d x.n).1
  else if x.w = 3 ∨ x.w = 4 ∨ x.w = 6 then (elsV m (x.at m.now) x.n).1 else m
theorem RpV.ok.act {m : RpV} (hm : m.ok) (x : RxV) : (actV m x).ok := by
  unfold actV
  split
  · exact hm.updV _ _ _ _ _ _
  split
  · exact hm.elsV _ _
  exact hm
end Go.Proofs.YtbojkoiopkaciaaGreat

/- Reports: the examples of the chapter. -/
namespace Go.Proofs.YtbojkoiopkaciaaGreat
open Go.RowKit
set_option linter.unusedSimpArgs false
set_option linter.unusedVariables false
--newlaws

end Go.Proofs.YtbojkoiopkaciaaGreat

/- Reports: any sequence of calls. -/
namespace Go.Proofs.YtbojkoiopkaciaaGreat
open Go.RowKit
set_option linter.unusedSimpArgs false
set_option linter.unusedVariables false
--newlaws

def runR (m : RpV) (l : List RxV) : RpV := l.foldl actV m
theorem RpV.ok.run {m : RpV} (h : m.ok) (l : List RxV) : (runR m l).ok := by
  unfold runR
  induction l generalizing m with
  | nil => exact h
  | cons x l ih => exact ih (h.act x)
end Go.Proofs.YtbojkoiopkaciaaGreat

/- Reports: copies are independent. -/
namespace Go.Proofs.YtbojkoiopkaciaaGreat
open Go.RowKit
set_option linter.unusedSimpArgs false
set_option linter.unusedVariables false
--newlaws

theorem rp_noneNil (w : World) : Calls Tryz.prog 87 #[.pointer none] w (SX.Ret fun v w' => v = .bool true ∧ SX.St w [] w' []) := by
  have hs := SX.St.start w
  refine Z.enter Tryz.func87 rfl Tryz.ntmps87 rfl rfl ?_
  refine Z.g241 ?_
  refine Z.g64 ?_
  refine Z.l rfl rfl (by rfl) (Z.keepS hs) (Z.Yd.ptrNil rfl rfl Tryz.underlying53) ?_
  refine Z.g64 ?_
  refine Z.yes (s := 5) (b := true) rfl (Z.b17) rfl ?_
  refine Z.g134 ?_
  refine Z.g154 ?_
  refine Z.g52 ?_
  exact ⟨_, rfl, rfl, hs⟩
end Go.Proofs.YtbojkoiopkaciaaGreat

/- Reports: a reporter that New did not make. -/
namespace Go.Proofs.YtbojkoiopkaciaaGreat
open Go.RowKit
set_option linter.unusedSimpArgs false
set_option linter.unusedVariables false
--newlaws

def NoR (w : World) (p : Value) : Prop := ∀ W L, SX.St w [] W L → Calls Tryz.prog 87 #[p] W (SX.Ret fun v w' => v = .bool true ∧ SX.St W [] w' [])
theorem NoR.st {w W : World} {p : Value} {L : List SX.Ent} (h : NoR w p) (hs : SX.St w [] W L) : NoR W p := fun W' L' h' => h W' (L' ++ L) (hs.call h')
theorem noR_nil (w : World) : NoR w (.pointer none) := fun W _ _ => rp_noneNil W
theorem rn_request (p : Value) (w : World) (hp : NoR w p) : Calls Tryz.prog 38 #[p] w (SX.Ret fun v w' => v = .bool false ∧ SX.St w [] w' []) := by
  have hs := SX.St.start w
  refine Z.enter Tryz.func38 rfl Tryz.ntmps38 rfl rfl ?_
  refine Z.g241 ?_
  refine Z.g32 ?_
  refine Z.ZO.call rfl rfl (by rfl) rfl rfl Tryz.call87 rfl (hp _ _ hs) ?_
  rintro v1_1 w1_1 ⟨rfl, hy⟩
  replace hs := Z.w1 (hs.call hy); clear hy
  refine Z.g22 ?_
  refine Z.yes (s := 6) (b := false) rfl (Z.b17) rfl ?_
  refine Z.g2 ?_
  refine Z.g43 ?_
  refine Z.g43 ?_
  refine Z.g13 ?_
  refine Z.g154 ?_
  refine Z.g52 ?_
  exact ⟨_, rfl, rfl, hs⟩
end Go.Proofs.YtbojkoiopkaciaaGreat

/- Reports: the iterator over the groups. -/
namespace Go.Proofs.YtbojkoiopkaciaaGreat
open Go.RowKit
set_option linter.unusedSimpArgs false
set_option linter.unusedVariables false
--newlaws

end Go.Proofs.YtbojkoiopkaciaaGreat

/- Reports: elements fit the room; reports are pending in time. -/
namespace Go.Proofs.YtbojkoiopkaciaaGreat
open Go.RowKit
set_option linter.unusedSimpArgs false
set_option linter.unusedVariables false
--newlaws

def ndV (ps : List (Int × List Int)) : Int := (ps.map fun p => 1 + (p.2.length : Int)).sum
theorem nd_fits (m : RpV) (t room : Int) (h : okE m t room) : ndV (elP m room) ≤ room := by
  have h0 := h.2
  unfold elP elP1
  by_cases hb : bufB m room
  · have h1 : 1 + ((encL (statV m room)).length : Int) ≤ room := by
      rw [encL_size]
      unfold statV
      have := hb.2
      split <;> simp [RepV.short] <;> omega
    rw [if_pos hb]
    by_cases hp : powB m room
    · have h2 := hp.2
      unfold elR1 at h2
      rw [if_pos hb] at h2
      rw [if_pos hp]
      simp [ndV]
      omega
    rw [if_neg hp]
    simp [ndV]
    omega
  rw [if_neg hb]
  by_cases hp : powB m room
  · have h2 := hp.2
    unfold elR1 at h2
    rw [if_neg hb] at h2
    rw [if_pos hp]
    simp [ndV]
    omega
  rw [if_neg hp]
  simp [ndV]
  omega
theorem elP_l3 (m : RpV) (room : Int) : ∀ p ∈ elP m room, p.2.length ≤ 3 := by
  intro p hp
  unfold elP elP1 at hp
  rcases List.mem_append.1 hp with h | h
  · split at h
    · obtain rfl : p = _ := by simpa using h
      simp only
      rw [encL_size]
      split <;> omega
    simp at h
  split at h
  · obtain rfl : p = _ := by simpa using h
    simp
  simp at h
theorem elP_len (m : RpV) (room : Int) : (elP m room).length ≤ 2 := by
  unfold elP elP1
  split <;> split <;> simp
end Go.Proofs.YtbojkoiopkaciaaGreat

/- Buckets: the law's own functions, and the examples of the chapter. -/
namespace Go.Proofs.YtbojkoiopkaciaaGreat
open Go.RowKit
set_option linter.unusedSimpArgs false
set_option linter.unusedVariables false
--newlaws

structure AcV where
  w : Int
  n : Int
  D : Option Addr
  c : Nat
  d : List Int
def AcV.cells (x : AcV) : List Value := [.int .i64 x.w, .int .i64 x.n, .slice x.D x.d.length x.c]
def fewL (l : List AcV) (most : Nat) : Prop := l.length ≤ most ∧ ∀ x ∈ l, x.d.length ≤ 12
instance (l : List AcV) (most : Nat) : Decidable (fewL l most) := by unfold fewL; infer_instance
end Go.Proofs.YtbojkoiopkaciaaGreat

/- Buckets: the examples of the chapter. -/
namespace Go.Proofs.YtbojkoiopkaciaaGreat
open Go.RowKit
set_option linter.unusedSimpArgs false
set_option linter.unusedVariables false
--newlaws

theorem blk_lent {w0 w : World} {M : List Nat} {L1 L2 : List SX.Ent} {g T : Nat} {cs : Array Value} (hs : SX.St w0 M w (L1 ++ L2)) (hm : SX.Ent.blk g T cs ∈ L2) : Sx w (SX.idsOf L1) (some ⟨g, 0, none⟩) cs.toList := fun hp => by
  have hb : w.heap[g]? = some (.cells cs T (0, 0)) := hs.ok _ (List.mem_append_right _ hm)
  refine ⟨g, 0, rfl, SX.lt_of_some hb, fun hin => ?_, fun i u hu => ?_⟩
  · have hn := hs.nodup
    simp only [SX.idsOf, List.flatMap_append] at hn
    exact (List.nodup_append.1 hn).2.2 g hin g (List.mem_flatMap.2 ⟨_, hm, by simp [SX.Ent.blk, SX.Ent.obj]⟩) rfl
  rw [SX.cell_blk hb]
  simpa using hu
end Go.Proofs.YtbojkoiopkaciaaGreat

/- Buckets: one call on both sides. -/
namespace Go.Proofs.YtbojkoiopkaciaaGreat
open Go.RowKit
set_option linter.unusedSimpArgs false
set_option linter.unusedVariables false
--newlaws

def AcV.at (x : AcV) (now : Int) : Int := if x.w < 5 then now + max 0 (min 1000 x.n) else x.n
def isD (x : AcV) : Prop := x.w = 0 ∨ x.w = 1 ∨ x.w = 2
def isT (x : AcV) : Prop := x.w = 3 ∨ x.w = 4 ∨ x.w = 5
instance (x : AcV) : Decidable (isD x) := by unfold isD; infer_instance
instance (x : AcV) : Decidable (isT x) := by unfold isT; infer_instance
def actBk (m : BkV) (x : AcV) : BkV := if isD x then (divV m x.n x.d).1 else if isT x then (tickV m (x.at m.now)).1 else m
theorem divV_l (m : BkV) (size : Int) (dem : List Int) : (divV m size dem).1.l = m.l ∧ (divV m size dem).1.now = m.now := by unfold divV; split <;> exact ⟨rfl, rfl⟩
theorem tickV_l (m : BkV) (t : Int) : (tickV m t).1.l = m.l := by unfold tickV; split <;> rfl
theorem BkV.ok.act {m : BkV} (hm : m.ok) (x : AcV) : (actBk m x).ok := by
  unfold actBk
  split
  · exact hm.div _ _
  split
  · exact hm.tick _
  exact hm
def NewB (Bn B : Option Addr) (dn d : Nat) (m m' : BkV) (Ln : List SX.Ent) : Prop := Ln = [SX.Ent.row (.slice Bn m.l.length dn) 3 1 m.l.length (ints .i64 m'.b)] ∨ Ln = [] ∧ Bn = B ∧ dn = d ∧ m'.b = m.b
end Go.Proofs.YtbojkoiopkaciaaGreat

/- The MAC entity: facts of planning. -/
namespace Go.Proofs.YtbojkoiopkaciaaGreat
open Go.RowKit
set_option linter.unusedSimpArgs false
set_option linter.unusedVariables false

theorem bytes_nd (r : List Prt) : bytesP r = ndV r := rfl
theorem grpS_snoc (l : List (LgV × Int)) (x : LgV) (d k : Int) : grpS (l ++ [(x, d)]) k = grpS l k + if x.gr = k then d else 0 := by simp [grpS]
theorem grpS_bd {l : List (LgV × Int)} (h : ∀ p ∈ l, 0 ≤ p.2 ∧ p.2 ≤ 8388608) (k : Int) : 0 ≤ grpS l k ∧ grpS l k ≤ l.length * 8388608 := by
  induction l with
  | nil => simp [grpS]
  | cons p r ih =>
    have h1 := ih fun x hx => h x (by simp [hx])
    have h2 := h p Z.b17
    have e : grpS (p :: r) k = (if p.1.gr = k then p.2 else 0) + grpS r k := by simp [grpS]
    rw [e, List.length_cons]
    split <;> omega
def gcs (l : List (LgV × Int)) : List Value := [.int .i64 (grpS l 0), .int .i64 (grpS l 1), .int .i64 (grpS l 2), .int .i64 (grpS l 3)]
@[simp] theorem gcs_len (l : List (LgV × Int)) : (gcs l).length = 4 := rfl
theorem gcs_get (l : List (LgV × Int)) {k : Int} (h : 0 ≤ k ∧ k ≤ 3) : (gcs l)[0 + k.toNat * 1]? = some (.int .i64 (grpS l k)) := by
  have : k = 0 ∨ k = 1 ∨ k = 2 ∨ k = 3 := by omega
  rcases this with rfl | rfl | rfl | rfl <;> rfl
theorem gcs_set (l : List (LgV × Int)) (x : LgV) (d : Int) (h : 0 ≤ x.gr ∧ x.gr ≤ 3) : (gcs l).set (x.gr.toNat * 1) (.int .i64 (grpS l x.gr + d)) = gcs (l ++ [(x, d)]) := by
  have h4 : x.gr = 0 ∨ x.gr = 1 ∨ x.gr = 2 ∨ x.gr = 3 := by omega
  unfold gcs
  simp only [grpS_snoc]
  rcases h4 with h4 | h4 | h4 | h4 <;> rw [h4] <;> simp
theorem askd_bd {d : Int} (h : 0 ≤ d ∧ d ≤ 8388608) : 0 ≤ askd d ∧ askd d ≤ 8388611 := by unfold askd; split <;> omega
theorem zip_snd {α β : Type} {a : List α} {b : List β} {P : β → Prop} (h : ∀ y ∈ b, P y) : ∀ p ∈ a.zip b, P p.2 := fun p hp => h _ (List.of_mem_zip hp).2
theorem plan_okT {m : MaV} (hm : m.ok) {now n : Int} (h : okRd m now n) : okT m.b now := ⟨by have := hm.bn; have := h.2.1; omega, h.2.2⟩
theorem plan_okU {m : MaV} (hm : m.ok) {now n head : Int} {dem : List Int} (h : okPl m now n head dem) : okU m.r now (grpS (m.b.l.zip dem) 0) (grpS (m.b.l.zip dem) 1) (grpS (m.b.l.zip dem) 2) (grpS (m.b.l.zip dem) 3) head := by
  obtain ⟨h1, h2, h3, h4⟩ := h
  have hp := hm.b.pos
  have hz : (m.b.l.zip dem).length ≤ 10 := by rw [List.length_zip]; omega
  have hb := grpS_bd (zip_snd (a := m.b.l) h4)
  have hrn := hm.rn
  have h1' := h1.2
  rw [okU_iff]
  have g0 := hb 0
  have g1 := hb 1
  have g2 := hb 2
  have g3 := hb 3
  refine ⟨by omega, ⟨by omega, by omega, by omega, by omega⟩, h2⟩
theorem upd_now {m : RpV} {t a b c d h : Int} (hu : okU m t a b c d h) : (updV m t a b c d h).1.now = t ∧ (updV m t a b c d h).2 = 0 := by
  unfold updV
  rw [if_pos hu]
  exact ⟨rfl, rfl⟩
theorem plR_ok {m : MaV} (hm : m.ok) {now n head : Int} {dem : List Int} (h : okPl m now n head dem) : (plR m now head dem).ok ∧ (plR m now head dem).now ≤ now := by
  unfold plR
  split
  · exact ⟨hm.r.updV _ _ _ _ _ _, by rw [(upd_now (plan_okU hm h)).1]; exact Int.le_refl _⟩
  exact ⟨hm.r, by have := hm.rn; have := h.1.2.1; omega⟩
theorem els_ok {r : RpV} {now n : Int} (h1 : r.now ≤ now ∧ now < 1073741824) (hn : 0 ≤ n) : elsV r now n = (elM r now n, elP r n, 0) := if_pos ⟨h1, hn⟩
theorem bytesP_nn (r : List Prt) : 0 ≤ bytesP r := by
  induction r with
  | nil => simp [bytesP]
  | cons p r ih => have e : bytesP (p :: r) = (1 + (p.2.length : Int)) + bytesP r := by simp [bytesP]
                   omega
theorem els_bytes {r : RpV} {now n : Int} (h1 : r.now ≤ now ∧ now < 1073741824) (hn : 0 ≤ n) : 0 ≤ bytesP (elsV r now n).2.1 ∧ bytesP (elsV r now n).2.1 ≤ n := by
  rw [els_ok h1 hn]
  exact ⟨bytesP_nn _, by rw [bytes_nd]; exact nd_fits r now n ⟨h1, hn⟩⟩
theorem plN_bd {m : MaV} (hm : m.ok) {now n head : Int} {dem : List Int} (h : okPl m now n head dem) : 0 ≤ plN m now n head dem ∧ plN m now n head dem ≤ 16384 := by
  unfold plN
  have hn := h.1.1
  split
  · have := els_bytes (r := plR m now head dem) (now := now) (n := n) ⟨(plR_ok hm h).2, h.1.2.2⟩ Z.b9
    omega
  omega
theorem plan_okD {m : MaV} (hm : m.ok) {now n head : Int} {dem : List Int} (h : okPl m now n head dem) : okD (tickV m.b now).1 (plN m now n head dem) (dem.map askd) := by
  have := plN_bd hm h
  refine ⟨by omega, ?_, ?_⟩
  · rw [List.length_map, tickV_l]; exact h.2.2.1
  intro x hx
  obtain ⟨d, hd, rfl⟩ := List.mem_map.1 hx
  have := askd_bd (h.2.2.2 d hd)
  omega
theorem plan_div {m : MaV} (hm : m.ok) {now n head : Int} {dem : List Int} (h : okPl m now n head dem) : (plD m now n head dem).2.2 = 0 := by
  unfold plD
  rw [divV, if_pos (plan_okD hm h)]
theorem plan_out {m : MaV} (hm : m.ok) {now n head : Int} {dem : List Int} (h : okPl m now n head dem) : (plD m now n head dem).2.1.length = m.b.l.length ∧ ∀ k : Nat, k < m.b.l.length → 0 ≤ elt (plD m now n head dem).2.1 (k : Int) ∧ elt (plD m now n head dem).2.1 (k : Int) ≤ 8388611 := by
  have hd := plan_okD hm h
  have hr := rounds_ok (hm.b.tick now) hd 2
  have e : (plD m now n head dem).2.1 = (rounds (tickV m.b now).1 (plN m now n head dem) (dem.map askd) 2).out := by
    unfold plD
    rw [divV, if_pos hd]
  rw [e]
  have hl := hr.ol
  rw [tickV_l] at hl
  refine ⟨hl, fun k hk => ?_⟩
  have h1 := hr.og k (by rw [tickV_l]; exact hk)
  have hdl : k < dem.length := by have := h.2.2.1; omega
  have h2 : elt (dem.map askd) (k : Int) = askd dem[k] := by simp [elt, hdl]
  have h3 := askd_bd (h.2.2.2 dem[k] (List.getElem_mem _))
  rw [h2] at h1
  omega
theorem plan_ok {m : MaV} (hm : m.ok) {now n head : Int} {dem : List Int} : (planV m now n head dem).1.ok := by
  unfold planV
  split
  · rename_i h
    have ht := plan_okT hm h.1
    refine ⟨(hm.b.tick now).div _ _, (plR_ok hm h).1, ?_, (plR_ok hm h).2, ⟨by have := hm.ln; have := h.1.2.1; show 0 ≤ now; omega, h.1.2.2⟩⟩
    show (plD m now n head dem).1.now ≤ now
    unfold plD
    rw [(divV_l _ _ _).2, tickV, if_pos ht]
    exact Int.le_refl _
  exact hm
def PtV.mp (q : PtV) : MpV := ⟨q.lc, q.B, q.c, q.l⟩
theorem pt_mp (qs : List PtV) : (qs.map PtV.mp).flatMap MpV.cells = qs.flatMap PtV.cells := by rw [List.flatMap_map]; rfl
theorem bytesP_bd {r : List Prt} (h1 : r.length ≤ 100) (h2 : ∀ p ∈ r, p.2.length ≤ 100000) : ∀ i, 0 ≤ bytesP (r.take i) ∧ bytesP (r.take i) ≤ 100000000 := by
  intro i
  refine ⟨bytesP_nn _, ?_⟩
  have key : ∀ l : List Prt, (∀ p ∈ l, p.2.length ≤ 100000) → bytesP l ≤ l.length * 100001 := by
    intro l
    induction l with
    | nil => intro _; simp [bytesP]
    | cons p l ih =>
      intro h
      have h3 := ih fun x hx => h x (by simp [hx])
      have h4 := h p Z.b17
      have e : bytesP (p :: l) = (1 + (p.2.length : Int)) + bytesP l := by simp [bytesP]
      rw [e, List.length_cons]
      omega
  have h5 := key (r.take i) fun p hp => h2 p (List.mem_of_mem_take hp)
  have h6 : (r.take i).length ≤ 100 := by rw [List.length_take]; omega
  omega
end Go.Proofs.YtbojkoiopkaciaaGreat

/- The MAC entity: Plan. -/
namespace Go.Proofs.YtbojkoiopkaciaaGreat
open Go.RowKit
set_option linter.unusedSimpArgs false
set_option linter.unusedVariables false
--newlaws

def PlR (g gb gr : Nat) (C : Option Addr) (kc : Nat) (sv so : Value) (X : MaV × List Int × Int) (M : List Nat) (w : World) (v : Value) (w' : World) : Prop := ∃ ov, v = .tuple #[ov, .int .i64 X.2.2] ∧ SX.St w M w' (SX.Ent.row ov 3 1 X.2.1.length (ints .i64 X.2.1) :: maE g gb gr C kc sv so X.1)
set_option maxHeartbeats 4000000 in
set_option maxRecDepth 100000 in
theorem mx_plan_up (g gb gr : Nat) (C : Option Addr) (kc : Nat) (sv so : Value) (m : MaV) (now n head : Int) (D : Option Addr) (nd cd : Nat) (dem : List Int) (w : World) (hs : SX.St w (SX.idsOf (maE g gb gr C kc sv so m)) w (maE g gb gr C kc sv so m)) (hm : m.ok) (hup : m.up = true)
    (hC : Sx w (SX.idsOf (maE g gb gr C kc sv so m)) C (m.b.l.flatMap LgV.cells)) (hD : Sx w (SX.idsOf (maE g gb gr C kc sv so m)) D (ints .i64 dem)) (hdl : dem.length = nd) (hnd : nd ≤ 1000) :
    Calls Tryz.prog 16 #[.pointer (some ⟨g, 0, none⟩), .int .i64 now, .int .i64 n, .int .i64 head, .slice D nd cd] w (SX.Ret fun v w' => PlR g gb gr C kc sv so (planV m now n head dem) (SX.idsOf (maE g gb gr C kc sv so m)) w v w') := by
  generalize hM : SX.idsOf (maE g gb gr C kc sv so m) = M at *
  have hpos := hm.b.pos
  obtain ⟨bC, oC, rfl, hC2⟩ := hC.some (by rw [Z.flat_length lg_len]; omega)
  replace hs : SX.St w M w (SX.Ent.blk g 55 #[.pointer (some ⟨gb, 0, none⟩), .slice (some ⟨bC, oC, none⟩) m.b.l.length kc, .pointer (some ⟨gr, 0, none⟩), .int .i64 m.last] :: SX.Ent.blk gb 147 #[sv, so, .int .i64 m.b.now] :: SX.Ent.row sv 149 6 m.b.l.length (m.b.chs.flatMap chC) :: SX.Ent.row so 3 1 m.b.l.length (ints .i64 (natI (ordL m.b.l))) :: SX.Ent.blk gr 157 m.r.cells.toArray :: []) := by simpa [maE, bkE, rvP, rpE, hup] using hs
  have hfail : ¬ okPl m now n head dem → ∀ w', SX.St w M w' (SX.Ent.blk g 55 #[.pointer (some ⟨gb, 0, none⟩), .slice (some ⟨bC, oC, none⟩) m.b.l.length kc, .pointer (some ⟨gr, 0, none⟩), .int .i64 m.last] :: SX.Ent.blk gb 147 #[sv, so, .int .i64 m.b.now] :: SX.Ent.row sv 149 6 m.b.l.length (m.b.chs.flatMap chC) :: SX.Ent.row so 3 1 m.b.l.length (ints .i64 (natI (ordL m.b.l))) :: SX.Ent.blk gr 157 m.r.cells.toArray :: []) → PlR g gb gr (some ⟨bC, oC, none⟩) kc sv so (planV m now n head dem) M w (.tuple #[.slice none 0 0, .int .i64 2]) w' := fun hno w' h => by
    rw [planV, if_neg hno]
    exact ⟨_, rfl, SX.St.nil Z.b73 _ 1⟩
  refine Z.enterD Tryz.func16 rfl Tryz.ntmps16 rfl rfl ?_
  refine Z.g230 ?_
  refine Z.ZO.alloc rfl rfl (by rfl) Tryz.zeroValue34 rfl hs ?_
  clear hs; intro g10 w10 hs
  refine Z.g184 ?_
  clear hs; intro g11 w11 hs
  refine Z.g314 ?_
  refine Z.g169 ?_
  refine Z.g30 ?_
  refine Z.g95 ?_
  refine Z.g169 ?_
  refine Z.g92 ?_
  refine Z.g3 ?_
  refine Z.ZO.callB rfl rfl (by rfl) rfl rfl Tryz.call40 rfl (mx_ready g gb _ _ m now n _ (hs.celOf (cs := [_, _, _, _]) Z.b0)) ?_ ?_
  · skip
    rintro v2_3 w2_3 ⟨hrd, rfl, hy⟩
    replace hs := Z.w1 (hs.call hy); clear hy
    skip
    refine Z.g314 ?_
    refine Z.g169 ?_
    refine Z.g30 ?_
    refine Z.lb 8 rfl ?_
    refine Z.g16 ?_
    refine Z.g157 ?_
    refine Z.g9 ?_
    refine Z.g101 ?_
    refine Z.g63 ?_
    refine Z.ZO.callB rfl rfl (by rfl) rfl rfl Tryz.call41 rfl (mx_must _ 2 _) ?_ ?_
    · skip
      rintro v3_16 w3_16 ⟨hm3, rfl, hy⟩
      replace hs := Z.w1 (hs.call hy); clear hy
      have h3 : (0 ≤ head ∧ head ≤ 63) ∧ nd = m.b.l.length := by simp at hm3; omega
      refine Z.g314 ?_
      refine Z.g169 ?_
      refine Z.g30 ?_
      refine Z.g3 ?_
      refine Z.g81 ?_
      clear hs; intro g12 w12 hs
      refine Z.g314 ?_
      refine Z.only [0, 1, 2, 3, 4, 10, 11, 12] rfl ?_
      refine Z.g30 ?_
      refine Z.g1 ?_
      refine Z.only [0, 1, 2, 3, 4, 10, 11, 12, 13] rfl ?_
      refine Z.g60 ?_
      replace hs := (hs.nil 3 1).sel [1, 0, 2, 3, 4, 5, 6, 7, 8] Z.b12
      refine Z.g18 ?_
      refine Z.g227 ?_
      refine Z.g135 ?_
      refine Z.g210 ?_
      refine Z.loopk (ι := Nat × Value) [0, 1, 2, 3, 10, 11, 12, 40, 41] rfl (fun x => [(13, [], x.2), (42, [], .int .i64 (x.1 : Int))]) (fun x wr => (x.1 ≤ nd ∧ okAs (dem.take x.1)) ∧ SX.St w M wr (SX.Ent.blk g12 37 (gcs ((m.b.l.zip dem).take x.1)).toArray :: SX.Ent.row x.2 3 1 x.1 (ints .i64 ((dem.take x.1).map askd)) :: SX.Ent.blk g11 31 #[.int .i64 0] :: SX.Ent.blk g10 34 #[.slice none 0 0] :: SX.Ent.blk g 55 #[.pointer (some ⟨gb, 0, none⟩), .slice (some ⟨bC, oC, none⟩) m.b.l.length kc, .pointer (some ⟨gr, 0, none⟩), .int .i64 m.last] :: SX.Ent.blk gb 147 #[sv, so, .int .i64 m.b.now] :: SX.Ent.row sv 149 6 m.b.l.length (m.b.chs.flatMap chC) :: SX.Ent.row so 3 1 m.b.l.length (ints .i64 (natI (ordL m.b.l))) :: SX.Ent.blk gr 157 m.r.cells.toArray :: [])) (fun x => nd - x.1) (0, .slice none 0 0) Z.b14 ⟨⟨Nat.zero_le _, by simp [okAs]⟩, hs⟩ ?_
      clear hs
      rintro ⟨i, av⟩ w7 ⟨⟨hi, hda⟩, hs⟩
      refine Z.g135 ?_
      (try dsimp only at hs)
      dsimp only at hi hda hs
      obtain ⟨Av, cv, rfl, -, -, -⟩ := SX.row_slv hs (j := 1) rfl
      refine Z.g120 ?_
      refine Z.only [0, 1, 2, 3, 10, 11, 12, 13, 40, 41, 42, 43] rfl ?_
      refine Z.g150 ?_
      refine Z.cond rfl (fun hc7 => ?_) (fun hc7 => ?_)
      · (try simp at hc7)
        obtain ⟨d, hd⟩ : ∃ d, dem[i]? = some d := ⟨_, List.getElem?_eq_getElem Z.b9⟩
        obtain ⟨ch, hch⟩ : ∃ c, m.b.l[i]? = some c := ⟨_, List.getElem?_eq_getElem Z.b9⟩
        have he : elt dem (i : Int) = d := by simp [elt, hd]
        obtain ⟨bD, oD, rfl, hD2⟩ := hD.some Z.b65
        have hcd : ∀ L W, SX.Keep w M L W → W.cell? ⟨bD, oD + (i : Int).toNat * 1, none⟩ = some (.int .i64 d) := fun L W hW => by rw [← he]; exact Z.cellXi hD2 Z.b9 Z.b9 W hW
        have hgr := (hm.b.set.2.1 ch (List.mem_of_getElem? hch)).2.2.2.2
        have hta : dem.take (i + 1) = dem.take i ++ [d] := by rw [List.take_add_one, hd]; rfl
        have htz : (m.b.l.zip dem).take (i + 1) = (m.b.l.zip dem).take i ++ [(ch, d)] := by
          have h7 : (m.b.l.zip dem)[i]? = some (ch, d) := by rw [List.getElem?_zip_eq_some]; exact ⟨hch, hd⟩
          rw [List.take_add_one, h7]
          rfl
        have hgb := grpS_bd (l := (m.b.l.zip dem).take i) (by rw [List.zip_eq_zipWith, List.take_zipWith, ← List.zip_eq_zipWith]; exact zip_snd hda) ch.gr
        have hzl : ((m.b.l.zip dem).take i).length ≤ 10 := by rw [List.length_take, List.length_zip]; omega
        refine Z.g91 ?_
        refine Z.g182 ?_
        refine Z.g24 ?_
        refine Z.l rfl rfl (by rfl) (Z.keepS hs) (Z.Yd.load rfl Tryz.isAgg3 (fun _ => hcd _)) ?_
        refine Z.g31 ?_
        refine Z.g270 ?_
        refine Z.lb 6 rfl ?_
        refine Z.g3 ?_
        refine Z.ZO.callB rfl rfl (by rfl) rfl rfl Tryz.call41 rfl (mx_must _ 2 _) ?_ ?_
        · skip
          rintro v9_6 w9_6 ⟨hm9, rfl, hy⟩
          replace hs := Z.w1 (hs.call hy); clear hy
          have hd9 : 0 ≤ d ∧ d ≤ 8388608 := by simp at hm9; omega
          have had := askd_bd hd9
          refine Z.g314 ?_
          refine Z.g270 ?_
          refine Z.g157 ?_
          refine Z.g9 ?_
          refine Z.l rfl rfl (by rfl) (Z.keepS hs) Z.b32 ?_
          refine Z.g64 ?_
          refine Z.g132 ?_
          refine Z.l rfl rfl (by rfl) (Z.keepS hs) (Z.Yd.fieldA (m := 4) rfl Z.b4) ?_
          refine Z.l rfl rfl (by rfl) (Z.keepS hs) (Z.Yd.load rfl Tryz.isAgg3 (fun _ => Z.cellXf hC2 lg_len hch rfl)) ?_
          refine Z.g59 ?_
          refine Z.l rfl rfl (by rfl) (Z.keepS hs) (Z.Yd.load rfl Tryz.isAgg3 (fun _ => Z.cellB (cs := (gcs ((m.b.l.zip dem).take i)).toArray) Z.b0 (by rw [Z.nth_eq]; simpa using gcs_get ((m.b.l.zip dem).take i) hgr))) ?_
          refine Z.g64 ?_
          refine Z.g5 ?_
          refine Z.g59 ?_
          refine Z.g156 ?_
          clear hs; intro ws hs
          replace hs := Z.w0 hs
          refine Z.g314 ?_
          refine Z.g172 ?_
          refine Z.g234 ?_
          refine Z.only [0, 1, 2, 3, 10, 11, 12, 13, 15, 40, 41, 42, 68] rfl ?_
          refine Z.g313 ?_
          refine Z.cutt (ι := Unit) [0, 1, 2, 3, 10, 11, 12, 13, 40, 41, 42] rfl (fun _ => [(15, [], .int .i64 (askd d))]) (fun _ wr => SX.St w M wr (SX.Ent.blk g12 37 (gcs ((m.b.l.zip dem).take (i + 1))).toArray :: SX.Ent.row (.slice Av i cv) 3 1 i (ints .i64 ((dem.take i).map askd)) :: SX.Ent.blk g11 31 #[.int .i64 0] :: SX.Ent.blk g10 34 #[.slice none 0 0] :: SX.Ent.blk g 55 #[.pointer (some ⟨gb, 0, none⟩), .slice (some ⟨bC, oC, none⟩) m.b.l.length kc, .pointer (some ⟨gr, 0, none⟩), .int .i64 m.last] :: SX.Ent.blk gb 147 #[sv, so, .int .i64 m.b.now] :: SX.Ent.row sv 149 6 m.b.l.length (m.b.chs.flatMap chC) :: SX.Ent.row so 3 1 m.b.l.length (ints .i64 (natI (ordL m.b.l))) :: SX.Ent.blk gr 157 m.r.cells.toArray :: [])) ?_ ?_
          · skip
            refine Z.cond rfl (fun hc11 => ?_) (fun hc11 => ?_)
            · (try simp at hc11)
              refine Z.region ?_
              refine Z.g64 ?_
              refine Z.g187 ?_
              refine Z.g172 ?_
              refine Z.g313 ?_
              rw [gcs_set _ _ _ hgr, ← htz] at hs; exact Z.meet () Z.b33 hs
            (try simp at hc11)
            refine Z.skip ?_
            refine Z.g313 ?_
            rw [gcs_set _ _ _ hgr, ← htz] at hs; exact Z.meet () Z.b33 hs
          clear hs
          rintro _ w11 hs
          refine Z.g172 ?_
          refine Z.region ?_
          refine Z.g63 ?_
          refine Z.g58 ?_
          clear hs; intro g73 w73 hs
          refine Z.g3 ?_
          refine Z.g38 ?_
          clear hs; intro g74 cap74 w74 hs
          simp only [List.set_cons_zero, List.set_cons_succ, List.eraseIdx_cons_zero, List.eraseIdx_cons_succ] at hs
          refine Z.g1 ?_
          refine Z.g135 ?_
          refine Z.g180 ?_
          refine Z.g135 ?_
          refine Z.g313 ?_
          have ea : ints .i64 ((dem.take i).map askd) ++ [.int .i64 (askd d)] = ints .i64 ((dem.take (i + 1)).map askd) := by rw [hta]; simp [ints]
          rw [ea] at hs
          exact Z.again (i + 1, _) (by refine ⟨?_, ?_, ?_, ?_, ?_, ?_, ?_, ?_, ?_, ?_, ?_, trivial⟩ <;> (first | rfl | (refine Z.lookv rfl ?_; simp; done) | (refine Z.lookv rfl ?_; simp; omega))) ⟨⟨by simp only; omega, by rw [hta]; intro z hz; rcases List.mem_append.1 hz with h | h; exact hda z h; (obtain rfl : z = d := by simpa using h); exact hd9⟩, hs⟩ Z.b21
        skip
        rintro c9_6 w9_6 ⟨hm9, rfl, hy⟩
        replace hs := Z.w1 (hs.call hy); clear hy
        have hno : ¬ okPl m now n head dem := fun h => by have h1 := h.2.2.2 d (List.mem_of_getElem? hd); simp at hm9; omega
        replace hs := hs.sel [2, 3, 4, 5, 6, 7, 8] Z.b12
        repeat (first | refine Z.pthen ?_ | refine Z.pblock ?_ | refine Z.pscope ?_)
        refine Z.g48 ?_
        rintro vD wD ⟨rfl, hz⟩
        replace hs := hs.regain hz
        refine ⟨[_, _], Z.b30, ?_⟩
        exact ⟨_, rfl, hfail hno _ (hs.sub (List.sublist_append_right _ _))⟩
      (try simp at hc7)
      refine Z.g211 ?_
      refine Z.g186 ?_
      refine Z.g72 ?_
      refine Z.g156 ?_
      clear hs; intro ws hs
      replace hs := Z.w0 hs
      refine Z.g314 ?_
      refine Z.only [0, 1, 2, 3, 10, 11, 12, 13] rfl ?_
      refine Z.g30 ?_
      refine Z.g157 ?_
      refine Z.g4 ?_
      refine Z.l rfl rfl (by rfl) (Z.keepS hs) Z.b34 ?_
      refine Z.g64 ?_
      have hrd2 := plan_okT hm hrd
      obtain ⟨ht1, ht2⟩ : (tickV m.b now).2 = 0 ∧ (tickV m.b now).1.now = now := by rw [tickV, if_pos hrd2]; exact ⟨rfl, rfl⟩
      have htk := hm.b.tick now
      have htl := tickV_l m.b now
      replace hs : SX.St w M _ (bkE gb sv so m.b ++ [_, _, _, _, _, _]) := hs.sel [5, 6, 7, 0, 1, 2, 3, 4, 8] Z.b12
      refine Z.g3 ?_
      refine Z.ZO.call rfl rfl (by rfl) rfl rfl Tryz.call42 rfl (bk_tick gb sv so m.b now _ hs.lend hm.b) ?_
      rintro v16_5 w16_5 ⟨rfl, hz⟩
      replace hs := hs.regain hz
      rw [ht1]
      simp only [bkE, List.cons_append, List.nil_append] at hs
      refine Z.g32 ?_
      refine Z.ZO.call rfl rfl (by rfl) rfl rfl Tryz.call41 rfl (mx_must_ok _ 2 _ Z.b17) ?_
      rintro v16_7 w16_7 ⟨rfl, hy⟩
      replace hs := Z.w1 (hs.call hy); clear hy
      obtain rfl : i = nd := by omega
      rw [List.take_of_length_le Z.b9] at hda
      rw [List.take_of_length_le (l := dem) Z.b9, List.take_of_length_le (l := m.b.l.zip dem) (by rw [List.length_zip]; omega)] at hs
      have hok : okPl m now n head dem := ⟨hrd, h3.1, by omega, hda⟩
      have hbl : (plD m now n head dem).1.l = m.b.l := by unfold plD; rw [(divV_l _ _ _).1, tickV_l]
      have hN := (plan_out hm hok).1
      refine Z.g314 ?_
      refine Z.only [0, 1, 2, 3, 10, 11, 12, 13] rfl ?_
      refine Z.g123 ?_
      refine Z.g53 ?_
      refine Z.g314 ?_
      refine Z.only [0, 1, 2, 3, 10, 11, 12, 13, 92] rfl ?_
      refine Z.g313 ?_
      refine Z.cond rfl (fun hc17 => ?_) (fun h => absurd h Z.b17)
      refine Z.seq ?_
      refine Z.drawL [SX.Ent.blk g 55 #[.pointer (some ⟨gb, 0, none⟩), .slice (some ⟨bC, oC, none⟩) m.b.l.length kc, .pointer (some ⟨gr, 0, none⟩), .int .i64 now], SX.Ent.blk g12 37 (gcs (m.b.l.zip dem)).toArray] (fun j => j != 7) mixed hs ?_
      clear hs; intro wd18 hs
      refine Z.tX 0 [0, 1, 2, 3, 7] rfl rfl rfl (by rfl) Z.b4 ⟨_, hs, Z.b2⟩ (Z.Yd.pure rfl) ?_
      refine Z.tX 1 [1, 2, 3, 7] rfl rfl rfl (by rfl) Z.b4 ⟨_, hs, Z.b2⟩ (Z.Yd.nilc rfl rfl) ?_
      refine Z.tX 2 [2, 3, 7] rfl rfl rfl (by rfl) Z.b4 ⟨_, hs, Z.b2⟩ (Z.Yd.fieldA (m := 2) rfl Z.b4) ?_
      refine Z.t 3 rfl rfl rfl (by rfl) Z.b4 ⟨_, hs, Z.b2⟩ Z.b38 ?_
      refine Z.tb [4] Z.b4 rfl ⟨_, hs, Z.b2⟩ rfl ?_
      refine Z.t 5 rfl rfl rfl (by rfl) Z.b4 ⟨_, hs, Z.b2⟩ (Z.Yd.loadA _ rfl Tryz.isAgg37 (fun _ => Z.cellsB (cs := gcs (m.b.l.zip dem)) Z.b0) (by exact Tryz.sizeOf37)) ?_
      refine Z.tb [6] Z.b4 rfl ⟨_, hs, Z.b2⟩ rfl ?_
      replace hs := hs.sel [8, 0, 1, 2, 3, 4, 5, 6, 7] Z.b12
      have hro := plR_ok hm hok
      have hn1 := hrd.1
      have hplr : (updV m.r now (grpS (m.b.l.zip dem) 0) (grpS (m.b.l.zip dem) 1) (grpS (m.b.l.zip dem) 2) (grpS (m.b.l.zip dem) 3) head).1 = plR m now head dem := by unfold plR; rw [hup]; rfl
      refine Z.tn 7 rfl rfl Z.b4 rfl trivial ?_
      refine Z.ZO.call rfl rfl (by rfl) rfl rfl Tryz.call43 rfl (rp_update gr _ m.r now (grpS (m.b.l.zip dem) 0) (grpS (m.b.l.zip dem) 1) (grpS (m.b.l.zip dem) 2) (grpS (m.b.l.zip dem) 3) head _ (hs.lend (L1 := [_])) hm.r) ?_
      rintro v18_7 w18_7 ⟨rfl, hz⟩
      replace hs := hs.regain (L1 := [_]) hz
      rw [hplr] at hs
      replace hs := Z.w2 hs
      refine Z.tk (Dn := fun j => j != 7) (i := 7) (fun h => absurd h Z.b12) ?_
      refine Z.g68 ?_
      refine Z.only [0, 1, 2, 10, 11, 13] rfl ?_
      refine Z.g121 ?_
      refine Z.g186 ?_
      refine Z.g21 ?_
      refine Z.l rfl rfl (by rfl) (Z.keepS hs) Z.b38 ?_
      refine Z.g3 ?_
      refine Z.ZO.call rfl rfl (by rfl) rfl rfl Tryz.call46 rfl (rp_Copy gr (plR m now head dem) _ (hs.celOf Z.b0)) ?_
      rintro v19_5 w19_5 ⟨g2, rfl, hy⟩
      replace hs := Z.w1 (hs.call hy); clear hy
      refine Z.g63 ?_
      refine Z.ZO.call rfl rfl (by rfl) rfl rfl Tryz.call47 rfl (rp_elements g2 _ (plR m now head dem) now n _ (hs.lend (L1 := [_])) hro.1 Z.b9) ?_
      rintro v19_8 w19_8 ⟨sve, qs, rfl, hqs, hz⟩
      replace hs := hs.regain (L1 := [_]) hz
      have hel := els_ok (r := plR m now head dem) (now := now) (n := n) ⟨hro.2, hrd.2.2⟩ (by have := hrd.1; omega)
      have hbb := els_bytes (r := plR m now head dem) (now := now) (n := n) ⟨hro.2, hrd.2.2⟩ Z.b9
      rw [hel] at hs hqs hbb ⊢
      simp only at hbb
      simp only [ptsL, List.cons_append, List.nil_append] at hs hqs
      obtain ⟨Be, ce, rfl, -, -, -⟩ := SX.row_slv hs (j := 1) rfl
      have hql : qs.length ≤ 2 := by have h7 := congrArg List.length hqs; rw [List.length_map] at h7; have := elP_len (plR m now head dem) n; omega
      have hqf : ∀ q ∈ qs.map PtV.mp, q.l.length ≤ 100000 := fun q hq => by
        obtain ⟨z, hz1, rfl⟩ := List.mem_map.1 hq
        have h7 := elP_l3 (plR m now head dem) n z.plain (by rw [← hqs]; exact List.mem_map_of_mem hz1)
        have h8 : z.l.length ≤ 3 := h7
        show z.l.length ≤ 100000
        omega
      have hpm : (qs.map PtV.mp).map MpV.plain = elP (plR m now head dem) n := by rw [← hqs]; simp [PtV.mp, MpV.plain, PtV.plain]
      refine Z.g63 ?_
      refine Z.ZO.call rfl rfl (by rfl) rfl rfl Tryz.call45 rfl (got_ok (mx_gotPt _ 0 _) rfl) ?_
      rintro v19_11 w19_11 ⟨rfl, hy⟩
      replace hs := Z.w1 (hs.call hy); clear hy
      refine Z.g3 ?_
      refine Z.ZO.call rfl rfl (by rfl) rfl rfl Tryz.call44 rfl (mx_bytes Be _ ce (qs.map PtV.mp) _ (by rw [pt_mp]; exact hs.slm (A := Be) Z.b0) Z.b17 Z.b9 hqf (bytesP_bd (by rw [List.length_map, List.length_map]; omega) (fun p hp ↦ by obtain ⟨q, hq, rfl⟩ := List.mem_map.1 hp; exact hqf q hq))) ?_
      rintro v19_12 w19_12 ⟨rfl, hy⟩
      replace hs := Z.w1 (hs.call hy); clear hy
      rw [hpm]
      replace hs := hs.sub (((List.sublist_append_right _ _).cons _).cons _)
      refine Z.g19 ?_
      refine Z.g1 ?_
      refine Z.only [0, 2, 10, 11, 13] rfl ?_
      refine Z.g123 ?_
      refine Z.g218 ?_
      refine Z.l rfl rfl (by rfl) (Z.keepS hs) Z.b34 ?_
      refine Z.g22 ?_
      have hpn : n - bytesP (elP (plR m now head dem) n) = plN m now n head dem := by unfold plN; rw [hup, hel]; rfl
      rw [hpn]
      have hdv : divV (tickV m.b now).1 (plN m now n head dem) (dem.map askd) = ((plD m now n head dem).1, (plD m now n head dem).2.1, 0) := by
        have h8 := plan_div hm hok
        rw [← h8]
        rfl
      replace hs : SX.St w M _ (bkE gb sv so (tickV m.b now).1 ++ [_, _, _, _, _, _]) := hs.sel [1, 2, 3, 4, 5, 6, 7, 8, 0] Z.b12
      refine Z.g3 ?_
      refine Z.ZO.call rfl rfl (by rfl) rfl rfl Tryz.call49 rfl (bk_divide gb sv so (tickV m.b now).1 (plN m now n head dem) Av i cv (dem.map askd) _ hs.lend htk (Z.row_lentv hs (j := 1) rfl) (by rw [List.length_map]; omega)) ?_
      rintro v20_6 w20_6 ⟨ov, rfl, hz⟩
      replace hs := hs.regain hz
      rw [hdv]
      rw [hdv] at hs
      simp only [bkE, List.cons_append, List.nil_append] at hs
      obtain ⟨Aw, cw, rfl, -, -, -⟩ := SX.row_slv hs (j := 0) rfl
      refine Z.g63 ?_
      refine Z.ZO.call rfl rfl (by rfl) rfl rfl Tryz.call48 rfl (got_ok (mx_gotIs _ 0 _) rfl) ?_
      rintro v20_9 w20_9 ⟨rfl, hy⟩
      replace hs := Z.w1 (hs.call hy); clear hy
      refine Z.g227 ?_
      refine Z.g209 ?_
      refine Z.g210 ?_
      refine Z.loopk (ι := Nat × Value) [10, 11, 124, 125] rfl (fun x => [(126, [], .int .i64 (x.1 : Int))]) (fun x wr => x.1 ≤ (plD m now n head dem).2.1.length ∧ SX.St w M wr (SX.Ent.row x.2 3 1 x.1 (ints .i64 (((plD m now n head dem).2.1.take x.1).map fun y => max 0 (y - 3))) :: SX.Ent.row (.slice Aw (plD m now n head dem).2.1.length cw) 3 1 (plD m now n head dem).2.1.length (ints .i64 (plD m now n head dem).2.1) :: SX.Ent.blk g11 31 #[.int .i64 0] :: SX.Ent.blk g10 34 #[x.2] :: SX.Ent.blk g 55 #[.pointer (some ⟨gb, 0, none⟩), .slice (some ⟨bC, oC, none⟩) m.b.l.length kc, .pointer (some ⟨gr, 0, none⟩), .int .i64 now] :: SX.Ent.blk gb 147 #[sv, so, .int .i64 (plD m now n head dem).1.now] :: SX.Ent.row sv 149 6 (plD m now n head dem).1.l.length ((plD m now n head dem).1.chs.flatMap chC) :: SX.Ent.row so 3 1 (plD m now n head dem).1.l.length (ints .i64 (natI (ordL (plD m now n head dem).1.l))) :: SX.Ent.blk gr 157 (plR m now head dem).cells.toArray :: [])) (fun x => (plD m now n head dem).2.1.length - x.1) (0, .slice none 0 0) Z.b6 ⟨Nat.zero_le _, by simpa [hbl, ints] using (hs.nil 3 1).sel [0, 1, 7, 8, 9, 2, 3, 4, 10] Z.b12⟩ ?_
      clear hs
      rintro ⟨k, vo⟩ w21 ⟨hk, hs⟩
      refine Z.g209 ?_
      (try dsimp only at hs)
      dsimp only at hk hs
      obtain ⟨Ao, co, rfl, -, -, -⟩ := SX.row_slv hs (j := 0) rfl
      refine Z.g0 ?_
      skip
      refine Z.g264 ?_
      refine Z.only [10, 11, 124, 125, 126, 127] rfl ?_
      refine Z.g150 ?_
      refine Z.cond rfl (fun hc21 => ?_) (fun hc21 => ?_)
      · (try simp at hc21)
        obtain ⟨gw, cw', e9, -, -⟩ := row_form (j := 1) hs rfl Z.b9
        cases e9
        obtain ⟨y, hy0⟩ : ∃ y, (plD m now n head dem).2.1[k]? = some y := ⟨_, List.getElem?_eq_getElem Z.b9⟩
        have hyb := (plan_out hm hok).2 k (by have := (plan_out hm hok).1; omega)
        rw [show elt (plD m now n head dem).2.1 (k : Int) = y from by simp [elt, hy0]] at hyb
        have hyc : (ints .i64 (plD m now n head dem).2.1)[0 + (k : Int).toNat * 1]? = some (.int .i64 y) := by
          rw [show 0 + (k : Int).toNat * 1 = k from by omega]
          unfold ints
          rw [List.getElem?_map, hy0]
          rfl
        refine Z.g238 ?_
        refine Z.g24 ?_
        refine Z.l rfl rfl (by rfl) (Z.keepS hs) (Z.Yd.load rfl Tryz.isAgg3 (fun _ => Z.cellR Z.b0 hyc)) ?_
        refine Z.g1 ?_
        refine Z.only [10, 11, 17, 124, 125, 126] rfl ?_
        refine Z.g121 ?_
        refine Z.g130 ?_
        refine Z.g64 ?_
        refine Z.g19 ?_
        refine Z.l rfl rfl (by rfl) (Z.keepS hs) (Z.Yd.max rfl rfl) ?_
        refine Z.g3 ?_
        refine Z.g58 ?_
        clear hs; intro g134 w134 hs
        refine Z.g3 ?_
        refine Z.g38 ?_
        clear hs; intro g135 cap135 w135 hs
        simp only [List.set_cons_zero, List.set_cons_succ, List.eraseIdx_cons_zero, List.eraseIdx_cons_succ] at hs
        refine Z.g3 ?_
        refine Z.g109 ?_
        clear hs; intro ws hs
        replace hs := Z.w0 hs
        refine Z.g314 ?_
        refine Z.g209 ?_
        refine Z.g180 ?_
        refine Z.g209 ?_
        refine Z.g313 ?_
        have ea : ints .i64 (((plD m now n head dem).2.1.take k).map fun y => max 0 (y - 3)) ++ [.int .i64 (max 0 (y - 3))] = ints .i64 (((plD m now n head dem).2.1.take (k + 1)).map fun y => max 0 (y - 3)) := by rw [List.take_add_one, hy0]; simp [ints]
        rw [ea] at hs
        exact Z.again (k + 1, _) Z.b11 ⟨by simp only; omega, hs⟩ Z.b21
      (try simp at hc21)
      refine Z.g211 ?_
      obtain rfl : k = (plD m now n head dem).2.1.length := by omega
      rw [List.take_of_length_le (Nat.le_refl _)] at hs
      refine Z.g130 ?_
      refine Z.g3 ?_
      refine Z.g109 ?_
      clear hs; intro ws hs
      replace hs := Z.w0 hs
      refine Z.g237 ?_
      clear hs; intro ws hs
      replace hs := Z.w0 hs
      refine Z.g314 ?_
      refine Z.only [10, 11] rfl ?_
      refine Z.g6 ?_
      refine Z.outDr Tryz.call26 (mx_caught_ret g11 _ _ _) ?_
      rintro vD wD ⟨rfl, hy⟩
      replace hs := hs.call hy
      refine ⟨[_, _], Z.b30, ?_⟩
      refine ⟨_, rfl, .slice Ao (plD m now n head dem).2.1.length co, ?_⟩
      rw [planV, if_pos hok]
      exact ⟨rfl, by simpa [maE, bkE, rvP, rpE, hup, hbl] using hs.sel [0, 4, 5, 6, 7, 8] Z.b12⟩
    skip
    rintro c3_16 w3_16 ⟨hm3, rfl, hy⟩
    replace hs := Z.w1 (hs.call hy); clear hy
    have hno : ¬ okPl m now n head dem := fun h => by have h1 := h.2.1; have h2 := h.2.2.1; simp at hm3; omega
    repeat (first | refine Z.pthen ?_ | refine Z.pblock ?_ | refine Z.pscope ?_)
    refine Z.g48 ?_
    rintro vD wD ⟨rfl, hz⟩
    replace hs := hs.regain hz
    refine ⟨[_, _], Z.b30, ?_⟩
    exact ⟨_, rfl, hfail hno _ (hs.sub (List.sublist_append_right _ _))⟩
  skip
  rintro c2_3 w2_3 ⟨hrd, rfl, hy⟩
  replace hs := Z.w1 (hs.call hy); clear hy
  have hno : ¬ okPl m now n head dem := fun h => hrd h.1
  repeat (first | refine Z.pthen ?_ | refine Z.pblock ?_ | refine Z.pscope ?_)
  refine Z.g48 ?_
  rintro vD wD ⟨rfl, hz⟩
  replace hs := hs.regain hz
  refine ⟨[_, _], Z.b30, ?_⟩
  exact ⟨_, rfl, hfail hno _ (hs.sub (List.sublist_append_right _ _))⟩
set_option maxHeartbeats 4000000 in
set_option maxRecDepth 100000 in
theorem mx_plan_dn (g gb gr : Nat) (C : Option Addr) (kc : Nat) (sv so : Value) (m : MaV) (now n head : Int) (D : Option Addr) (nd cd : Nat) (dem : List Int) (w : World) (hs : SX.St w (SX.idsOf (maE g gb gr C kc sv so m)) w (maE g gb gr C kc sv so m)) (hm : m.ok) (hup : m.up = false)
    (hC : Sx w (SX.idsOf (maE g gb gr C kc sv so m)) C (m.b.l.flatMap LgV.cells)) (hD : Sx w (SX.idsOf (maE g gb gr C kc sv so m)) D (ints .i64 dem)) (hdl : dem.length = nd) (hnd : nd ≤ 1000) :
    Calls Tryz.prog 16 #[.pointer (some ⟨g, 0, none⟩), .int .i64 now, .int .i64 n, .int .i64 head, .slice D nd cd] w (SX.Ret fun v w' => PlR g gb gr C kc sv so (planV m now n head dem) (SX.idsOf (maE g gb gr C kc sv so m)) w v w') := by
  generalize hM : SX.idsOf (maE g gb gr C kc sv so m) = M at *
  have hpos := hm.b.pos
  obtain ⟨bC, oC, rfl, hC2⟩ := hC.some (by rw [Z.flat_length lg_len]; omega)
  replace hs : SX.St w M w (SX.Ent.blk g 55 #[.pointer (some ⟨gb, 0, none⟩), .slice (some ⟨bC, oC, none⟩) m.b.l.length kc, .pointer none, .int .i64 m.last] :: SX.Ent.blk gb 147 #[sv, so, .int .i64 m.b.now] :: SX.Ent.row sv 149 6 m.b.l.length (m.b.chs.flatMap chC) :: SX.Ent.row so 3 1 m.b.l.length (ints .i64 (natI (ordL m.b.l))) :: []) := by simpa [maE, bkE, rvP, rpE, hup] using hs
  have hfail : ¬ okPl m now n head dem → ∀ w', SX.St w M w' (SX.Ent.blk g 55 #[.pointer (some ⟨gb, 0, none⟩), .slice (some ⟨bC, oC, none⟩) m.b.l.length kc, .pointer none, .int .i64 m.last] :: SX.Ent.blk gb 147 #[sv, so, .int .i64 m.b.now] :: SX.Ent.row sv 149 6 m.b.l.length (m.b.chs.flatMap chC) :: SX.Ent.row so 3 1 m.b.l.length (ints .i64 (natI (ordL m.b.l))) :: []) → PlR g gb gr (some ⟨bC, oC, none⟩) kc sv so (planV m now n head dem) M w (.tuple #[.slice none 0 0, .int .i64 2]) w' := fun hno w' h => by
    rw [planV, if_neg hno]
    exact ⟨_, rfl, SX.St.nil Z.b73 _ 1⟩
  refine Z.enterD Tryz.func16 rfl Tryz.ntmps16 rfl rfl ?_
  refine Z.g230 ?_
  refine Z.ZO.alloc rfl rfl (by rfl) Tryz.zeroValue34 rfl hs ?_
  clear hs; intro g10 w10 hs
  refine Z.g184 ?_
  clear hs; intro g11 w11 hs
  refine Z.g314 ?_
  refine Z.g169 ?_
  refine Z.g30 ?_
  refine Z.g95 ?_
  refine Z.g169 ?_
  refine Z.g92 ?_
  refine Z.g3 ?_
  refine Z.ZO.callB rfl rfl (by rfl) rfl rfl Tryz.call40 rfl (mx_ready g gb _ _ m now n _ (hs.celOf (cs := [_, _, _, _]) Z.b0)) ?_ ?_
  · skip
    rintro v2_3 w2_3 ⟨hrd, rfl, hy⟩
    replace hs := Z.w1 (hs.call hy); clear hy
    skip
    refine Z.g314 ?_
    refine Z.g169 ?_
    refine Z.g30 ?_
    refine Z.lb 8 rfl ?_
    refine Z.g16 ?_
    refine Z.g157 ?_
    refine Z.g9 ?_
    refine Z.g101 ?_
    refine Z.g63 ?_
    refine Z.ZO.callB rfl rfl (by rfl) rfl rfl Tryz.call41 rfl (mx_must _ 2 _) ?_ ?_
    · skip
      rintro v3_16 w3_16 ⟨hm3, rfl, hy⟩
      replace hs := Z.w1 (hs.call hy); clear hy
      have h3 : (0 ≤ head ∧ head ≤ 63) ∧ nd = m.b.l.length := by simp at hm3; omega
      refine Z.g314 ?_
      refine Z.g169 ?_
      refine Z.g30 ?_
      refine Z.g3 ?_
      refine Z.g81 ?_
      clear hs; intro g12 w12 hs
      refine Z.g314 ?_
      refine Z.only [0, 1, 2, 3, 4, 10, 11, 12] rfl ?_
      refine Z.g30 ?_
      refine Z.g1 ?_
      refine Z.only [0, 1, 2, 3, 4, 10, 11, 12, 13] rfl ?_
      refine Z.g60 ?_
      replace hs := (hs.nil 3 1).sel [1, 0, 2, 3, 4, 5, 6, 7] Z.b12
      refine Z.g18 ?_
      refine Z.g227 ?_
      refine Z.g135 ?_
      refine Z.g210 ?_
      refine Z.loopk (ι := Nat × Value) [0, 1, 2, 3, 10, 11, 12, 40, 41] rfl (fun x => [(13, [], x.2), (42, [], .int .i64 (x.1 : Int))]) (fun x wr => (x.1 ≤ nd ∧ okAs (dem.take x.1)) ∧ SX.St w M wr (SX.Ent.blk g12 37 (gcs ((m.b.l.zip dem).take x.1)).toArray :: SX.Ent.row x.2 3 1 x.1 (ints .i64 ((dem.take x.1).map askd)) :: SX.Ent.blk g11 31 #[.int .i64 0] :: SX.Ent.blk g10 34 #[.slice none 0 0] :: SX.Ent.blk g 55 #[.pointer (some ⟨gb, 0, none⟩), .slice (some ⟨bC, oC, none⟩) m.b.l.length kc, .pointer none, .int .i64 m.last] :: SX.Ent.blk gb 147 #[sv, so, .int .i64 m.b.now] :: SX.Ent.row sv 149 6 m.b.l.length (m.b.chs.flatMap chC) :: SX.Ent.row so 3 1 m.b.l.length (ints .i64 (natI (ordL m.b.l))) :: [])) (fun x => nd - x.1) (0, .slice none 0 0) Z.b14 ⟨⟨Nat.zero_le _, by simp [okAs]⟩, hs⟩ ?_
      clear hs
      rintro ⟨i, av⟩ w7 ⟨⟨hi, hda⟩, hs⟩
      refine Z.g135 ?_
      (try dsimp only at hs)
      dsimp only at hi hda hs
      obtain ⟨Av, cv, rfl, -, -, -⟩ := SX.row_slv hs (j := 1) rfl
      refine Z.g120 ?_
      refine Z.only [0, 1, 2, 3, 10, 11, 12, 13, 40, 41, 42, 43] rfl ?_
      refine Z.g150 ?_
      refine Z.cond rfl (fun hc7 => ?_) (fun hc7 => ?_)
      · (try simp at hc7)
        obtain ⟨d, hd⟩ : ∃ d, dem[i]? = some d := ⟨_, List.getElem?_eq_getElem Z.b9⟩
        obtain ⟨ch, hch⟩ : ∃ c, m.b.l[i]? = some c := ⟨_, List.getElem?_eq_getElem Z.b9⟩
        have he : elt dem (i : Int) = d := by simp [elt, hd]
        obtain ⟨bD, oD, rfl, hD2⟩ := hD.some Z.b65
        have hcd : ∀ L W, SX.Keep w M L W → W.cell? ⟨bD, oD + (i : Int).toNat * 1, none⟩ = some (.int .i64 d) := fun L W hW => by rw [← he]; exact Z.cellXi hD2 Z.b9 Z.b9 W hW
        have hgr := (hm.b.set.2.1 ch (List.mem_of_getElem? hch)).2.2.2.2
        have hta : dem.take (i + 1) = dem.take i ++ [d] := by rw [List.take_add_one, hd]; rfl
        have htz : (m.b.l.zip dem).take (i + 1) = (m.b.l.zip dem).take i ++ [(ch, d)] := by
          have h7 : (m.b.l.zip dem)[i]? = some (ch, d) := by rw [List.getElem?_zip_eq_some]; exact ⟨hch, hd⟩
          rw [List.take_add_one, h7]
          rfl
        have hgb := grpS_bd (l := (m.b.l.zip dem).take i) (by rw [List.zip_eq_zipWith, List.take_zipWith, ← List.zip_eq_zipWith]; exact zip_snd hda) ch.gr
        have hzl : ((m.b.l.zip dem).take i).length ≤ 10 := by rw [List.length_take, List.length_zip]; omega
        refine Z.g91 ?_
        refine Z.g182 ?_
        refine Z.g24 ?_
        refine Z.l rfl rfl (by rfl) (Z.keepS hs) (Z.Yd.load rfl Tryz.isAgg3 (fun _ => hcd _)) ?_
        refine Z.g31 ?_
        refine Z.g270 ?_
        refine Z.lb 6 rfl ?_
        refine Z.g3 ?_
        refine Z.ZO.callB rfl rfl (by rfl) rfl rfl Tryz.call41 rfl (mx_must _ 2 _) ?_ ?_
        · skip
          rintro v9_6 w9_6 ⟨hm9, rfl, hy⟩
          replace hs := Z.w1 (hs.call hy); clear hy
          have hd9 : 0 ≤ d ∧ d ≤ 8388608 := by simp at hm9; omega
          have had := askd_bd hd9
          refine Z.g314 ?_
          refine Z.g270 ?_
          refine Z.g157 ?_
          refine Z.g9 ?_
          refine Z.l rfl rfl (by rfl) (Z.keepS hs) Z.b32 ?_
          refine Z.g64 ?_
          refine Z.g132 ?_
          refine Z.l rfl rfl (by rfl) (Z.keepS hs) (Z.Yd.fieldA (m := 4) rfl Z.b4) ?_
          refine Z.l rfl rfl (by rfl) (Z.keepS hs) (Z.Yd.load rfl Tryz.isAgg3 (fun _ => Z.cellXf hC2 lg_len hch rfl)) ?_
          refine Z.g59 ?_
          refine Z.l rfl rfl (by rfl) (Z.keepS hs) (Z.Yd.load rfl Tryz.isAgg3 (fun _ => Z.cellB (cs := (gcs ((m.b.l.zip dem).take i)).toArray) Z.b0 (by rw [Z.nth_eq]; simpa using gcs_get ((m.b.l.zip dem).take i) hgr))) ?_
          refine Z.g64 ?_
          refine Z.g5 ?_
          refine Z.g59 ?_
          refine Z.g156 ?_
          clear hs; intro ws hs
          replace hs := Z.w0 hs
          refine Z.g314 ?_
          refine Z.g172 ?_
          refine Z.g234 ?_
          refine Z.only [0, 1, 2, 3, 10, 11, 12, 13, 15, 40, 41, 42, 68] rfl ?_
          refine Z.g313 ?_
          refine Z.cutt (ι := Unit) [0, 1, 2, 3, 10, 11, 12, 13, 40, 41, 42] rfl (fun _ => [(15, [], .int .i64 (askd d))]) (fun _ wr => SX.St w M wr (SX.Ent.blk g12 37 (gcs ((m.b.l.zip dem).take (i + 1))).toArray :: SX.Ent.row (.slice Av i cv) 3 1 i (ints .i64 ((dem.take i).map askd)) :: SX.Ent.blk g11 31 #[.int .i64 0] :: SX.Ent.blk g10 34 #[.slice none 0 0] :: SX.Ent.blk g 55 #[.pointer (some ⟨gb, 0, none⟩), .slice (some ⟨bC, oC, none⟩) m.b.l.length kc, .pointer none, .int .i64 m.last] :: SX.Ent.blk gb 147 #[sv, so, .int .i64 m.b.now] :: SX.Ent.row sv 149 6 m.b.l.length (m.b.chs.flatMap chC) :: SX.Ent.row so 3 1 m.b.l.length (ints .i64 (natI (ordL m.b.l))) :: [])) ?_ ?_
          · skip
            refine Z.cond rfl (fun hc11 => ?_) (fun hc11 => ?_)
            · (try simp at hc11)
              refine Z.region ?_
              refine Z.g64 ?_
              refine Z.g187 ?_
              refine Z.g172 ?_
              refine Z.g313 ?_
              rw [gcs_set _ _ _ hgr, ← htz] at hs; exact Z.meet () Z.b33 hs
            (try simp at hc11)
            refine Z.skip ?_
            refine Z.g313 ?_
            rw [gcs_set _ _ _ hgr, ← htz] at hs; exact Z.meet () Z.b33 hs
          clear hs
          rintro _ w11 hs
          refine Z.g172 ?_
          refine Z.region ?_
          refine Z.g63 ?_
          refine Z.g58 ?_
          clear hs; intro g73 w73 hs
          refine Z.g3 ?_
          refine Z.g38 ?_
          clear hs; intro g74 cap74 w74 hs
          simp only [List.set_cons_zero, List.set_cons_succ, List.eraseIdx_cons_zero, List.eraseIdx_cons_succ] at hs
          refine Z.g1 ?_
          refine Z.g135 ?_
          refine Z.g180 ?_
          refine Z.g135 ?_
          refine Z.g313 ?_
          have ea : ints .i64 ((dem.take i).map askd) ++ [.int .i64 (askd d)] = ints .i64 ((dem.take (i + 1)).map askd) := by rw [hta]; simp [ints]
          rw [ea] at hs
          exact Z.again (i + 1, _) (by refine ⟨?_, ?_, ?_, ?_, ?_, ?_, ?_, ?_, ?_, ?_, ?_, trivial⟩ <;> (first | rfl | (refine Z.lookv rfl ?_; simp; done) | (refine Z.lookv rfl ?_; simp; omega))) ⟨⟨by simp only; omega, by rw [hta]; intro z hz; rcases List.mem_append.1 hz with h | h; exact hda z h; (obtain rfl : z = d := by simpa using h); exact hd9⟩, hs⟩ Z.b21
        skip
        rintro c9_6 w9_6 ⟨hm9, rfl, hy⟩
        replace hs := Z.w1 (hs.call hy); clear hy
        have hno : ¬ okPl m now n head dem := fun h => by have h1 := h.2.2.2 d (List.mem_of_getElem? hd); simp at hm9; omega
        replace hs := hs.sel [2, 3, 4, 5, 6, 7] Z.b12
        repeat (first | refine Z.pthen ?_ | refine Z.pblock ?_ | refine Z.pscope ?_)
        refine Z.g48 ?_
        rintro vD wD ⟨rfl, hz⟩
        replace hs := hs.regain hz
        refine ⟨[_, _], Z.b30, ?_⟩
        exact ⟨_, rfl, hfail hno _ (hs.sub (List.sublist_append_right _ _))⟩
      (try simp at hc7)
      refine Z.g211 ?_
      refine Z.g186 ?_
      refine Z.g72 ?_
      refine Z.g156 ?_
      clear hs; intro ws hs
      replace hs := Z.w0 hs
      refine Z.g314 ?_
      refine Z.only [0, 1, 2, 3, 10, 11, 12, 13] rfl ?_
      refine Z.g30 ?_
      refine Z.g157 ?_
      refine Z.g4 ?_
      refine Z.l rfl rfl (by rfl) (Z.keepS hs) Z.b34 ?_
      refine Z.g64 ?_
      have hrd2 := plan_okT hm hrd
      obtain ⟨ht1, ht2⟩ : (tickV m.b now).2 = 0 ∧ (tickV m.b now).1.now = now := by rw [tickV, if_pos hrd2]; exact ⟨rfl, rfl⟩
      have htk := hm.b.tick now
      have htl := tickV_l m.b now
      replace hs : SX.St w M _ (bkE gb sv so m.b ++ [_, _, _, _, _]) := hs.sel [5, 6, 7, 0, 1, 2, 3, 4] Z.b12
      refine Z.g3 ?_
      refine Z.ZO.call rfl rfl (by rfl) rfl rfl Tryz.call42 rfl (bk_tick gb sv so m.b now _ hs.lend hm.b) ?_
      rintro v16_5 w16_5 ⟨rfl, hz⟩
      replace hs := hs.regain hz
      rw [ht1]
      simp only [bkE, List.cons_append, List.nil_append] at hs
      refine Z.g32 ?_
      refine Z.ZO.call rfl rfl (by rfl) rfl rfl Tryz.call41 rfl (mx_must_ok _ 2 _ Z.b17) ?_
      rintro v16_7 w16_7 ⟨rfl, hy⟩
      replace hs := Z.w1 (hs.call hy); clear hy
      obtain rfl : i = nd := by omega
      rw [List.take_of_length_le Z.b9] at hda
      rw [List.take_of_length_le (l := dem) Z.b9, List.take_of_length_le (l := m.b.l.zip dem) (by rw [List.length_zip]; omega)] at hs
      have hok : okPl m now n head dem := ⟨hrd, h3.1, by omega, hda⟩
      have hbl : (plD m now n head dem).1.l = m.b.l := by unfold plD; rw [(divV_l _ _ _).1, tickV_l]
      have hN := (plan_out hm hok).1
      refine Z.g314 ?_
      refine Z.only [0, 1, 2, 3, 10, 11, 12, 13] rfl ?_
      refine Z.g123 ?_
      refine Z.g53 ?_
      refine Z.g314 ?_
      refine Z.only [0, 1, 2, 3, 10, 11, 12, 13, 92] rfl ?_
      refine Z.g313 ?_
      refine Z.cond rfl (fun h => absurd h Z.b17) (fun hc17 => ?_)
      refine Z.skip ?_
      refine Z.g123 ?_
      refine Z.g218 ?_
      refine Z.l rfl rfl (by rfl) (Z.keepS hs) Z.b34 ?_
      refine Z.g22 ?_
      have hpd : plD m now n head dem = divV (tickV m.b now).1 n (dem.map askd) := by unfold plD plN; rw [hup]; rfl
      have hdv : divV (tickV m.b now).1 n (dem.map askd) = ((plD m now n head dem).1, (plD m now n head dem).2.1, 0) := by
        have h8 := plan_okD hm hok
        rw [show plN m now n head dem = n from by unfold plN; rw [hup]; rfl] at h8
        rw [hpd, divV, if_pos h8]
      replace hs : SX.St w M _ (bkE gb sv so (tickV m.b now).1 ++ [_, _, _, _, _]) := hs.sel [0, 1, 2, 3, 4, 5, 6, 7] Z.b12
      refine Z.g3 ?_
      refine Z.ZO.call rfl rfl (by rfl) rfl rfl Tryz.call49 rfl (bk_divide gb sv so (tickV m.b now).1 n Av i cv (dem.map askd) _ hs.lend htk (Z.row_lentv hs (j := 1) rfl) (by rw [List.length_map]; omega)) ?_
      rintro v20_6 w20_6 ⟨ov, rfl, hz⟩
      replace hs := hs.regain hz
      rw [hdv]
      rw [hdv] at hs
      simp only [bkE, List.cons_append, List.nil_append] at hs
      obtain ⟨Aw, cw, rfl, -, -, -⟩ := SX.row_slv hs (j := 0) rfl
      refine Z.g63 ?_
      refine Z.ZO.call rfl rfl (by rfl) rfl rfl Tryz.call48 rfl (got_ok (mx_gotIs _ 0 _) rfl) ?_
      rintro v20_9 w20_9 ⟨rfl, hy⟩
      replace hs := Z.w1 (hs.call hy); clear hy
      refine Z.g227 ?_
      refine Z.g209 ?_
      refine Z.g210 ?_
      refine Z.loopk (ι := Nat × Value) [10, 11, 124, 125] rfl (fun x => [(126, [], .int .i64 (x.1 : Int))]) (fun x wr => x.1 ≤ (plD m now n head dem).2.1.length ∧ SX.St w M wr (SX.Ent.row x.2 3 1 x.1 (ints .i64 (((plD m now n head dem).2.1.take x.1).map fun y => max 0 (y - 3))) :: SX.Ent.row (.slice Aw (plD m now n head dem).2.1.length cw) 3 1 (plD m now n head dem).2.1.length (ints .i64 (plD m now n head dem).2.1) :: SX.Ent.blk g11 31 #[.int .i64 0] :: SX.Ent.blk g10 34 #[x.2] :: SX.Ent.blk g 55 #[.pointer (some ⟨gb, 0, none⟩), .slice (some ⟨bC, oC, none⟩) m.b.l.length kc, .pointer none, .int .i64 now] :: SX.Ent.blk gb 147 #[sv, so, .int .i64 (plD m now n head dem).1.now] :: SX.Ent.row sv 149 6 (plD m now n head dem).1.l.length ((plD m now n head dem).1.chs.flatMap chC) :: SX.Ent.row so 3 1 (plD m now n head dem).1.l.length (ints .i64 (natI (ordL (plD m now n head dem).1.l))) :: [])) (fun x => (plD m now n head dem).2.1.length - x.1) (0, .slice none 0 0) Z.b6 ⟨Nat.zero_le _, by simpa [hbl, ints] using (hs.nil 3 1).sel [0, 1, 7, 8, 9, 2, 3, 4] Z.b12⟩ ?_
      clear hs
      rintro ⟨k, vo⟩ w21 ⟨hk, hs⟩
      refine Z.g209 ?_
      (try dsimp only at hs)
      dsimp only at hk hs
      obtain ⟨Ao, co, rfl, -, -, -⟩ := SX.row_slv hs (j := 0) rfl
      refine Z.g0 ?_
      skip
      refine Z.g264 ?_
      refine Z.only [10, 11, 124, 125, 126, 127] rfl ?_
      refine Z.g150 ?_
      refine Z.cond rfl (fun hc21 => ?_) (fun hc21 => ?_)
      · (try simp at hc21)
        obtain ⟨gw, cw', e9, -, -⟩ := row_form (j := 1) hs rfl Z.b9
        cases e9
        obtain ⟨y, hy0⟩ : ∃ y, (plD m now n head dem).2.1[k]? = some y := ⟨_, List.getElem?_eq_getElem Z.b9⟩
        have hyb := (plan_out hm hok).2 k (by have := (plan_out hm hok).1; omega)
        rw [show elt (plD m now n head dem).2.1 (k : Int) = y from by simp [elt, hy0]] at hyb
        have hyc : (ints .i64 (plD m now n head dem).2.1)[0 + (k : Int).toNat * 1]? = some (.int .i64 y) := by
          rw [show 0 + (k : Int).toNat * 1 = k from by omega]
          unfold ints
          rw [List.getElem?_map, hy0]
          rfl
        refine Z.g238 ?_
        refine Z.g24 ?_
        refine Z.l rfl rfl (by rfl) (Z.keepS hs) (Z.Yd.load rfl Tryz.isAgg3 (fun _ => Z.cellR Z.b0 hyc)) ?_
        refine Z.g1 ?_
        refine Z.only [10, 11, 17, 124, 125, 126] rfl ?_
        refine Z.g121 ?_
        refine Z.g130 ?_
        refine Z.g64 ?_
        refine Z.g19 ?_
        refine Z.l rfl rfl (by rfl) (Z.keepS hs) (Z.Yd.max rfl rfl) ?_
        refine Z.g3 ?_
        refine Z.g58 ?_
        clear hs; intro g134 w134 hs
        refine Z.g3 ?_
        refine Z.g38 ?_
        clear hs; intro g135 cap135 w135 hs
        simp only [List.set_cons_zero, List.set_cons_succ, List.eraseIdx_cons_zero, List.eraseIdx_cons_succ] at hs
        refine Z.g3 ?_
        refine Z.g109 ?_
        clear hs; intro ws hs
        replace hs := Z.w0 hs
        refine Z.g314 ?_
        refine Z.g209 ?_
        refine Z.g180 ?_
        refine Z.g209 ?_
        refine Z.g313 ?_
        have ea : ints .i64 (((plD m now n head dem).2.1.take k).map fun y => max 0 (y - 3)) ++ [.int .i64 (max 0 (y - 3))] = ints .i64 (((plD m now n head dem).2.1.take (k + 1)).map fun y => max 0 (y - 3)) := by rw [List.take_add_one, hy0]; simp [ints]
        rw [ea] at hs
        exact Z.again (k + 1, _) Z.b11 ⟨by simp only; omega, hs⟩ Z.b21
      (try simp at hc21)
      refine Z.g211 ?_
      obtain rfl : k = (plD m now n head dem).2.1.length := by omega
      rw [List.take_of_length_le (Nat.le_refl _)] at hs
      refine Z.g130 ?_
      refine Z.g3 ?_
      refine Z.g109 ?_
      clear hs; intro ws hs
      replace hs := Z.w0 hs
      refine Z.g237 ?_
      clear hs; intro ws hs
      replace hs := Z.w0 hs
      refine Z.g314 ?_
      refine Z.only [10, 11] rfl ?_
      refine Z.g6 ?_
      refine Z.outDr Tryz.call26 (mx_caught_ret g11 _ _ _) ?_
      rintro vD wD ⟨rfl, hy⟩
      replace hs := hs.call hy
      refine ⟨[_, _], Z.b30, ?_⟩
      refine ⟨_, rfl, .slice Ao (plD m now n head dem).2.1.length co, ?_⟩
      rw [planV, if_pos hok]
      exact ⟨rfl, by simpa [maE, bkE, rvP, rpE, hup, hbl] using hs.sel [0, 4, 5, 6, 7] Z.b12⟩
    skip
    rintro c3_16 w3_16 ⟨hm3, rfl, hy⟩
    replace hs := Z.w1 (hs.call hy); clear hy
    have hno : ¬ okPl m now n head dem := fun h => by have h1 := h.2.1; have h2 := h.2.2.1; simp at hm3; omega
    repeat (first | refine Z.pthen ?_ | refine Z.pblock ?_ | refine Z.pscope ?_)
    refine Z.g48 ?_
    rintro vD wD ⟨rfl, hz⟩
    replace hs := hs.regain hz
    refine ⟨[_, _], Z.b30, ?_⟩
    exact ⟨_, rfl, hfail hno _ (hs.sub (List.sublist_append_right _ _))⟩
  skip
  rintro c2_3 w2_3 ⟨hrd, rfl, hy⟩
  replace hs := Z.w1 (hs.call hy); clear hy
  have hno : ¬ okPl m now n head dem := fun h => hrd h.1
  repeat (first | refine Z.pthen ?_ | refine Z.pblock ?_ | refine Z.pscope ?_)
  refine Z.g48 ?_
  rintro vD wD ⟨rfl, hz⟩
  replace hs := hs.regain hz
  refine ⟨[_, _], Z.b30, ?_⟩
  exact ⟨_, rfl, hfail hno _ (hs.sub (List.sublist_append_right _ _))⟩
end Go.Proofs.YtbojkoiopkaciaaGreat
