/- Part 4 of the proofs that lead to the statement. -/
import Derived.Test.YtogjkgoiofngaaaY3
/- MAC PDUs: the document's join. -/
namespace Go.Proofs.Ytogjkgoiofngaaa
open Go.RowKit
set_option linter.unusedSimpArgs false
set_option linter.unusedVariables false
--newlaws

theorem hdsR_cons (p : Prt) (r : List Prt) (a : Bool) : hdsR (p :: r) a = (if r.isEmpty && !a then [p.1] else (p.1 + 32) :: (if sduB p.1 then lenF p.2.length else [])) ++ hdsR r a := rfl
theorem datR_snoc (r : List Prt) (p : Prt) : datR (r ++ [p]) = datR r ++ p.2 := by simp [datR]
theorem drop_empty {ps : List MpV} {i n : Nat} (hl : ps.length = n) (hi : i < n) : ((ps.map MpV.plain).drop (i + 1)).isEmpty = decide ((i : Int) = (n : Int) - 1) := by
  rw [Bool.eq_iff_iff]
  simp [List.isEmpty_iff]
  omega
end Go.Proofs.Ytogjkgoiofngaaa

/- Bits of whole bytes. -/
namespace Go.Proofs.Ytogjkgoiofngaaa
open Go.RowKit
set_option linter.unusedSimpArgs false
set_option linter.unusedVariables false
--newlaws

theorem elt_gt {l : List Int} {i : Nat} (h : i < l.length) : elt l (i : Int) = l[i] := by simp [elt, h]
theorem fld_app (v : Nat) : ∀ a b, fld v (a + b) = fld (v / 2 ^ b) a ++ fld v b
  | 0, b => by simp [fld]
  | a + 1, b => by
    rw [show a + 1 + b = (a + b) + 1 from by omega]
    simp only [fld, List.cons_append]
    rw [fld_app v a b, Nat.testBit_div_two_pow]
theorem fld_mod (v : Nat) : ∀ b c, b ≤ c → fld (v % 2 ^ c) b = fld v b
  | 0, c, _ => rfl
  | b + 1, c, h => by
    simp only [fld]
    rw [fld_mod v b c (by omega), Nat.testBit_mod_two_pow]
    simp [show b < c from by omega]
set_option maxRecDepth 100000 in
theorem byte_bits : ∀ x : Fin 256, 128 * (x.val.testBit 7).toNat + 64 * (x.val.testBit 6).toNat + 32 * (x.val.testBit 5).toNat + 16 * (x.val.testBit 4).toNat + 8 * (x.val.testBit 3).toNat + 4 * (x.val.testBit 2).toNat + 2 * (x.val.testBit 1).toNat + (x.val.testBit 0).toNat = x.val := by decide
theorem bn_unb {l : List Int} {j i : Nat} (hj : j < l.length) (hi : i < 8) : bn (unb l) (8 * j + i) = ((elt l (j : Int)).toNat.testBit (7 - i)).toNat := by
  have h := unb_get (l := l) (k := 8 * j + i) (by omega)
  unfold bn bt
  rw [List.getD_eq_getElem?_getD, h]
  rw [show (((8 * j + i : Nat) : Int) / 8) = (j : Int) from by omega, show (8 * j + i) % 8 = i from by omega]
  rfl
theorem pk_unb {l : List Int} (hb : ∀ x ∈ l, 0 ≤ x ∧ x < 256) : pk (unb l) = l := by
  have hl := unb_length l
  refine List.ext_getElem (by rw [pk_length, hl]; omega) fun j h1 h2 => ?_
  have hj : j < l.length := h2
  have e1 : elt (pk (unb l)) (j : Int) = (byt (unb l) j : Int) := by unfold pk; exact elt_pkn (by rw [hl]; omega)
  rw [← elt_gt h1, ← elt_gt h2, e1]
  have hx := hb _ (List.getElem_mem hj)
  rw [← elt_gt hj] at hx
  generalize hv : elt l (j : Int) = v at hx
  have hbits := byte_bits ⟨v.toNat, by omega⟩
  unfold byt
  have e0 : bn (unb l) (8 * j) = ((elt l (j : Int)).toNat.testBit 7).toNat := bn_unb (i := 0) hj (by omega)
  rw [e0, bn_unb hj (by omega), bn_unb hj (by omega), bn_unb hj (by omega), bn_unb hj (by omega), bn_unb hj (by omega), bn_unb hj (by omega), bn_unb hj (by omega), hv]
  simp only [Nat.sub_zero, Nat.reduceSub] at hbits ⊢
  omega
theorem len_short : ∀ x : Fin 128, fld 0 1 ++ fld x.val 7 = fld x.val 8 := by decide
theorem len_long {n : Nat} (h : n < 32768) : fld 1 1 ++ fld n 15 = fld (128 + n / 256) 8 ++ fld (n % 256) 8 := by
  have h1 : fld (32768 + n) (1 + 15) = fld ((32768 + n) / 2 ^ 15) 1 ++ fld (32768 + n) 15 := fld_app _ _ _
  have h2 : fld (32768 + n) (8 + 8) = fld ((32768 + n) / 2 ^ 8) 8 ++ fld (32768 + n) 8 := fld_app _ _ _
  have h3 : (32768 + n) / 2 ^ 15 = 1 := by omega
  have h4 : fld (32768 + n) 15 = fld n 15 := by rw [← fld_mod (32768 + n) 15 15 (by omega)]; congr 1; omega
  have h5 : (32768 + n) / 2 ^ 8 = 128 + n / 256 := by omega
  have h6 : fld (32768 + n) 8 = fld (n % 256) 8 := by rw [← fld_mod (32768 + n) 8 8 (by omega)]; congr 1; omega
  rw [h3, h4] at h1
  rw [h5, h6] at h2
  rw [← h1, ← h2]
end Go.Proofs.Ytogjkgoiofngaaa

/- MAC PDUs: the document's Need, Build, Fit. -/
namespace Go.Proofs.Ytogjkgoiofngaaa
open Go.RowKit
set_option linter.unusedSimpArgs false
set_option linter.unusedVariables false
--newlaws

theorem lenF_ext {p : Prt} (h : sduB p.1) : ((lenF p.2.length).length : Int) = extP p := by
  unfold lenF extP
  rw [if_pos h]
  by_cases h1 : p.2.length ≤ 127
  · rw [if_pos h1, if_neg (by omega)]; rfl
  · rw [if_neg h1, if_pos (by omega)]; rfl
theorem ext_no {p : Prt} (h : ¬ sduB p.1) : extP p = 0 := if_neg h
theorem datR_cons (p : Prt) (r : List Prt) : datR (p :: r) = p.2 ++ datR r := rfl
theorem hds_true : ∀ r : List Prt, ((hdsR r true).length : Int) + ((datR r).length : Int) = totP r
  | [] => rfl
  | p :: r => by
    have ih := hds_true r
    rw [hdsR_cons, totP_cons, datR_cons, if_neg (by simp), List.length_append, List.length_append, List.length_cons]
    by_cases h : sduB p.1
    · have := lenF_ext h
      rw [if_pos h]
      omega
    · rw [if_neg h, ext_no h, List.length_nil]
      omega
theorem lastP_cons {p : Prt} {r : List Prt} (h : r ≠ []) : lastP (p :: r) = lastP r := by
  unfold lastP
  cases r with
  | nil => exact absurd rfl h
  | cons a l => rfl
theorem hds_false : ∀ r : List Prt, r ≠ [] → ((hdsR r false).length : Int) + ((datR r).length : Int) = needP r
  | [], h => absurd rfl h
  | [p], _ => by
    unfold needP
    rw [hdsR_cons, totP_cons, datR_cons, if_pos (by simp)]
    simp [hdsR, datR, totP, lastP]
    omega
  | p :: a :: r, _ => by
    have ih := hds_false (a :: r) (by simp)
    unfold needP at ih ⊢
    rw [lastP_cons (by simp)]
    rw [hdsR_cons, totP_cons, datR_cons, if_neg (by simp), List.length_append, List.length_append, List.length_cons]
    by_cases h : sduB p.1
    · have := lenF_ext h
      rw [if_pos h]
      omega
    · rw [if_neg h, ext_no h, List.length_nil]
      omega
/-- the bytes and the error of Build -/
def bldV (size : Int) (r : List Prt) : List Int × Int :=
  if ¬ ((1 ≤ size ∧ size ≤ 16384) ∧ okN r) then ([], 2)
  else if size - needP r < 0 then ([], 4)
  else if size - needP r ≤ 2 then (joinB r (size - needP r).toNat (-1), 0)
  else (joinB r 0 (size - (totP r + 1)), 0)
theorem bld_arg {size : Int} {r : List Prt} (h : ¬ ((1 ≤ size ∧ size ≤ 16384) ∧ okN r)) : bldV size r = ([], 2) := if_pos h
theorem bld_long {size : Int} {r : List Prt} (h : (1 ≤ size ∧ size ≤ 16384) ∧ okN r) (h2 : size - needP r < 0) : bldV size r = ([], 4) := by unfold bldV; rw [if_neg (fun hh => hh h), if_pos h2]
theorem bld_few {size : Int} {r : List Prt} {d : Nat} (h : (1 ≤ size ∧ size ≤ 16384) ∧ okN r) (h2 : size - needP r = (d : Int)) (h3 : d ≤ 2) : bldV size r = (joinB r d (-1), 0) := by
  unfold bldV
  rw [if_neg (fun hh => hh h), if_neg (by omega), if_pos (by omega), h2, Int.toNat_natCast]
theorem bld_pad {size : Int} {r : List Prt} (h : (1 ≤ size ∧ size ≤ 16384) ∧ okN r) (h2 : 2 < size - needP r) : bldV size r = (joinB r 0 (size - (totP r + 1)), 0) := by
  unfold bldV
  rw [if_neg (fun hh => hh h), if_neg (by omega), if_neg (by omega)]
theorem need_tot (r : List Prt) : totP r - 2 ≤ needP r ∧ needP r ≤ totP r := by
  have := extP_bd (lastP r)
  unfold needP
  omega
end Go.Proofs.Ytogjkgoiofngaaa

/- MAC PDUs: errors, the writer of subheaders. -/
namespace Go.Proofs.Ytogjkgoiofngaaa
open Go.RowKit
set_option linter.unusedSimpArgs false
set_option linter.unusedVariables false
--newlaws

/-- the panic with error e -/
def mperr (e : Int) : List PanicEntry := Z.pe (.iface 27 (.int .i64 e))
def MPan (e : Int) (Φ : World → Prop) : Ending → World → Prop := Z.Pan fun c w' => c = mperr e ∧ Φ w'
theorem mm_must_ok (b : Bool) (e : Int) (w : World) (hb : b = true) : Calls Try.prog 31 #[.bool b, .int .i64 e] w (SX.Ret fun v w' => v = .tuple #[] ∧ SX.St w [] w' []) := by
  have hs := SX.St.start w
  subst hb
  refine Z.enter Try.func31 rfl Try.ntmps31 rfl rfl ?_
  refine Z.seq ?_
  refine Z.region ?_
  refine Z.lb 2 rfl ?_
  refine Z.lnil ?_
  refine Z.only [1, 5] rfl ?_
  refine Z.nthen ?_
  refine Z.cond rfl (fun h => absurd h (by simp)) (fun hc0 => ?_)
  refine Z.skip ?_
  -- ret#0
  refine Z.out0n trivial ?_
  first | exact ⟨_, rfl, rfl, hs⟩ | exact ⟨_, rfl, rfl, hs.sub (List.nil_sublist _)⟩
theorem mm_must_bad (b : Bool) (e : Int) (w : World) (hb : b = false) : Calls Try.prog 31 #[.bool b, .int .i64 e] w (MPan e fun w' => SX.St w [] w' []) := by
  have hs := SX.St.start w
  subst hb
  refine Z.enter Try.func31 rfl Try.ntmps31 rfl rfl ?_
  refine Z.seq ?_
  refine Z.region ?_
  refine Z.lb 2 rfl ?_
  refine Z.lnil ?_
  refine Z.only [1, 5] rfl ?_
  refine Z.nthen ?_
  refine Z.cond rfl (fun hc0 => ?_) (fun h => absurd h (by simp))
  refine Z.region ?_
  refine Z.lb 1 rfl ?_
  refine Z.l rfl rfl (by rfl) (Z.keepS hs) (Z.Yd.iface rfl (by intro w; go_simp; try rfl)) ?_
  refine Z.le rfl trivial ?_
  refine Z.ZO.panic rfl rfl ?_
  -- ret#0
  refine Z.outp ?_
  exact ⟨_, rfl, rfl, hs⟩
theorem mm_goti_ok (x : Int) (w : World) : Calls Try.prog 32 #[.int .i64 x, .int .i64 0] w (SX.Ret fun v w' => v = .int .i64 x ∧ SX.St w [] w' []) := by
  have hs := SX.St.start w
  refine Z.enter Try.func32 rfl Try.ntmps32 rfl rfl ?_
  refine Z.seq ?_
  refine Z.region ?_
  refine Z.lb 1 rfl ?_
  refine Z.lnil ?_
  refine Z.only [0, 1] rfl ?_
  refine Z.nthen ?_
  refine Z.seq ?_
  refine Z.region ?_
  refine Z.lb 3 rfl ?_
  refine Z.le rfl trivial ?_
  refine Z.ZO.call rfl rfl (by rfl) rfl rfl Try.call31 rfl (mm_must_ok _ 0 _ (by simp)) ?_
  rintro v1_3 w1_3 ⟨rfl, hy⟩
  replace hs := hs.call hy
  clear hy
  try simp only [List.cons_append, List.nil_append, List.append_nil] at hs
  refine Z.lnil ?_
  refine Z.only [0] rfl ?_
  refine Z.nthen ?_
  refine Z.seq ?_
  refine Z.region ?_
  refine Z.lb 2 rfl ?_
  refine Z.lnil ?_
  refine Z.only [4] rfl ?_
  refine Z.nthen ?_
  refine Z.ret ?_
  -- ret#0
  refine Z.out1 (by exact ⟨rfl, trivial⟩) ?_
  first | exact ⟨_, rfl, rfl, hs⟩ | exact ⟨_, rfl, rfl, hs.sub (List.nil_sublist _)⟩
theorem mm_goti_bad (x e : Int) (w : World) (he : e ≠ 0) : Calls Try.prog 32 #[.int .i64 x, .int .i64 e] w (MPan e fun w' => SX.St w [] w' []) := by
  have hs := SX.St.start w
  refine Z.enter Try.func32 rfl Try.ntmps32 rfl rfl ?_
  refine Z.seq ?_
  refine Z.region ?_
  refine Z.lb 1 rfl ?_
  refine Z.lnil ?_
  refine Z.only [0, 1] rfl ?_
  refine Z.nthen ?_
  refine Z.seq ?_
  refine Z.region ?_
  refine Z.lb 3 rfl ?_
  refine Z.le rfl trivial ?_
  refine Z.ZO.callP rfl rfl rfl Try.call31 rfl (mm_must_bad _ e _ (by simpa using he)) ?_
  rintro c1_3 w1_3 ⟨rfl, hy⟩
  replace hs := hs.call hy
  clear hy
  try simp only [List.cons_append, List.nil_append, List.append_nil] at hs
  repeat (first | refine Z.pthen ?_ | refine Z.pblock ?_ | refine Z.pscope ?_)
  -- ret#0
  refine Z.outp ?_
  exact ⟨_, rfl, rfl, hs⟩
theorem mm_caught_pan (ge Te k : Nat) (cap : Array Value) (x : Value) (e : Int) (L L' : List SX.Ent) (w : World) (hs : SX.St w (SX.idsOf (SX.Ent.blk ge Te #[x] :: L)) w (SX.Ent.blk ge Te #[x] :: L)) (hk : ∀ args w, (callFunc k args).run Try.prog w = .ok (.enter k args) w)
    (hcl : ∀ W, SX.St W (SX.idsOf L) W L → Calls Try.prog k cap W (SX.Ret fun v w' => v = .tuple #[] ∧ SX.St W (SX.idsOf L) w' L')) :
    CallsDm Try.prog 29 #[.pointer (some ⟨ge, 0, none⟩), .func (.func k) #[] cap] (.panicking (mperr e)) (.panicking [{ v := .iface 27 (.int .i64 e), recovered := true }]) w
      (fun v w' => v = .tuple #[] ∧ SX.St w (SX.idsOf (SX.Ent.blk ge Te #[x] :: L)) w' (SX.Ent.blk ge Te #[.int .i64 e] :: L')) := by
  generalize hM : SX.idsOf (SX.Ent.blk ge Te #[x] :: L) = M at *
  refine Z.enterRec (Z.rec_pan _) Try.func29 rfl Try.ntmps29 rfl rfl rfl rfl rfl rfl rfl rfl rfl rfl ?_
  refine Z.seq ?_
  refine Z.region ?_
  refine Z.lb 1 rfl ?_
  refine Z.l rfl rfl (by rfl) (Z.keepS hs) (Z.Yd.bin rfl rfl (by intro _ w; go_simp; try rfl)) ?_
  refine Z.lnil ?_
  refine Z.only [0, 1, 4, 9] rfl ?_
  refine Z.nthen ?_
  refine Z.cond rfl (fun hc1 => ?_) (fun h => absurd h (by simp))
  refine Z.seq ?_
  refine Z.region ?_
  refine Z.lb 1 rfl ?_
  refine Z.l rfl rfl (by rfl) (Z.keepS hs) (Z.Yd.assertYes rfl (by intro v w; kernel_rfl)) ?_
  refine Z.lb 5 rfl ?_
  refine Z.lnil ?_
  refine Z.only [0, 1, 4, 5, 6] rfl ?_
  refine Z.nthen ?_
  refine Z.seq ?_
  refine Z.seq ?_
  refine Z.region ?_
  refine Z.lb 2 rfl ?_
  refine Z.lnil ?_
  refine Z.only [0, 1, 4, 5, 16] rfl ?_
  refine Z.nthen ?_
  refine Z.cond rfl (fun h => absurd h (by simp)) (fun hc3 => ?_)
  refine Z.skip ?_
  refine Z.nthen ?_
  refine Z.seq ?_
  refine Z.region ?_
  refine Z.lb 1 rfl ?_
  refine Z.le rfl trivial ?_
  refine Z.ZO.call rfl rfl (by rfl) rfl rfl hk (by simp) (hcl _ (SX.St.lend (L1 := L) (L2 := [SX.Ent.blk ge Te #[x]]) (hs.rot (L1 := [_])))) ?_
  rintro v5 w5 ⟨rfl, hz⟩
  replace hs := SX.St.rot (L2 := [SX.Ent.blk ge Te #[x]]) ((SX.St.regain (L1 := L) (L2 := [SX.Ent.blk ge Te #[x]]) (hs.rot (L1 := [_]))) hz)
  refine Z.lnil ?_
  refine Z.only [0, 5] rfl ?_
  refine Z.nthen ?_
  refine Z.region ?_
  refine Z.lb 2 rfl ?_
  refine Z.l rfl rfl (by rfl) (Z.keepS hs) (Z.Yd.nilc rfl rfl) ?_
  refine Z.le rfl trivial ?_
  first | refine Z.ZO.store rfl rfl hs Try.sizeOf27 rfl rfl rfl (by first | exact SX.at0 | exact SX.at1 | exact SX.at2 | exact SX.at3 | exact SX.at4 | exact SX.at5 | exact Z.at6 | exact Z.at7 | exact Z.at8 | exact Z.at9 | exact Z.at10 | exact Z.at11 | exact Z.at12) (by first | (simp; done) | (simp; omega)) ?_ | refine Z.ZO.storeR rfl rfl hs Try.sizeOf27 rfl rfl rfl (by first | exact SX.at0 | exact SX.at1 | exact SX.at2 | exact SX.at3 | exact SX.at4 | exact SX.at5 | exact Z.at6 | exact Z.at7 | exact Z.at8 | exact Z.at9 | exact Z.at10 | exact Z.at11 | exact Z.at12) (by first | omega | (simp [ints_length]; done) | (simp [ints_length]; omega)) ?_
  clear hs; intro ws hs
  simp only [Nat.zero_add, Nat.add_zero, Nat.reduceAdd, Int.reduceToNat, Nat.reduceMul, List.set_cons_zero, List.set_cons_succ, List.setIfInBounds_toArray] at hs
  refine Z.lnil ?_
  refine Z.only [] rfl ?_
  -- ret#0
  refine Z.out0n trivial ?_
  first | exact ⟨_, rfl, rfl, hs⟩ | exact ⟨_, rfl, rfl, hs.sub (List.nil_sublist _)⟩
theorem mm_caught_ret (ge k : Nat) (cap : Array Value) (w : World) :
    CallsDm Try.prog 29 #[.pointer (some ⟨ge, 0, none⟩), .func (.func k) #[] cap] .returning .returning w (fun v w' => v = .tuple #[] ∧ SX.St w [] w' []) := by
  have hs := SX.St.start w
  refine Z.enterRec (Z.rec_ret) Try.func29 rfl Try.ntmps29 rfl rfl rfl rfl rfl rfl rfl rfl rfl rfl ?_
  refine Z.seq ?_
  refine Z.region ?_
  refine Z.lb 1 rfl ?_
  refine Z.l rfl rfl (by rfl) (Z.keepS hs) (Z.Yd.bin rfl rfl (by intro _ w; go_simp; try rfl)) ?_
  refine Z.lnil ?_
  refine Z.only [0, 1, 4, 9] rfl ?_
  refine Z.nthen ?_
  refine Z.cond rfl (fun h => absurd h (by simp)) (fun hc1 => ?_)
  refine Z.skip ?_
  -- ret#0
  refine Z.out0n trivial ?_
  first | exact ⟨_, rfl, rfl, hs⟩ | exact ⟨_, rfl, rfl, hs.sub (List.nil_sublist _)⟩
theorem mm_clearB (gp T : Nat) (a : Value) (W : World) (hs : SX.St W (SX.idsOf [SX.Ent.blk gp T #[a]]) W [SX.Ent.blk gp T #[a]]) :
    Calls Try.prog 30 #[.pointer (some ⟨gp, 0, none⟩)] W (SX.Ret fun v w' => v = .tuple #[] ∧ SX.St W (SX.idsOf [SX.Ent.blk gp T #[a]]) w' [SX.Ent.blk gp T #[.slice none 0 0]]) := by
  generalize SX.idsOf [SX.Ent.blk gp T #[a]] = M at *
  refine Z.enter Try.func30 rfl Try.ntmps30 rfl rfl ?_
  refine Z.region ?_
  refine Z.le rfl trivial ?_
  first | refine Z.ZO.store rfl rfl hs Try.sizeOf26 rfl rfl rfl (by first | exact SX.at0 | exact SX.at1 | exact SX.at2 | exact SX.at3 | exact SX.at4 | exact SX.at5 | exact Z.at6 | exact Z.at7 | exact Z.at8 | exact Z.at9 | exact Z.at10 | exact Z.at11 | exact Z.at12) (by first | (simp; done) | (simp; omega)) ?_ | refine Z.ZO.storeR rfl rfl hs Try.sizeOf26 rfl rfl rfl (by first | exact SX.at0 | exact SX.at1 | exact SX.at2 | exact SX.at3 | exact SX.at4 | exact SX.at5 | exact Z.at6 | exact Z.at7 | exact Z.at8 | exact Z.at9 | exact Z.at10 | exact Z.at11 | exact Z.at12) (by first | omega | (simp [ints_length]; done) | (simp [ints_length]; omega)) ?_
  clear hs; intro ws hs
  simp only [Nat.zero_add, Nat.add_zero, Nat.reduceAdd, Int.reduceToNat, Nat.reduceMul, List.set_cons_zero, List.set_cons_succ, List.setIfInBounds_toArray] at hs
  refine Z.lnil ?_
  refine Z.only [] rfl ?_
  -- ret#0
  refine Z.out0n trivial ?_
  first | exact ⟨_, rfl, rfl, hs⟩ | exact ⟨_, rfl, rfl, hs.sub (List.nil_sublist _)⟩
/-- the fields of a subheader -/
def hdP (x : Nat) (b : Bool) : List (Int × Int) := [(0, 2), (if b then 1 else 0, 1), ((x : Int), 5)]
set_option maxRecDepth 100000 in
theorem hdP_ok : ∀ (x : Fin 32) (b : Bool), (∀ f ∈ hdP x.val b, GoodF f) ∧ chkA (hdP x.val b) = 0 ∧ (hdP x.val b).flatMap fldF = unb [(x.val : Int) + if b then 32 else 0] := by
  intro x b
  have hg : ∀ f ∈ hdP x.val b, GoodF f := by
    intro f hf
    have := x.isLt
    simp only [hdP, List.mem_cons, List.mem_nil_iff, or_false] at hf
    unfold GoodF
    rcases hf with rfl | rfl | rfl
    · decide
    · cases b <;> decide
    · simp only; omega
  refine ⟨hg, ?_, ?_⟩
  · clear hg; revert x; cases b <;> decide
  · clear hg; revert x; cases b <;> decide
theorem unb_app (a b : List Int) : unb (a ++ b) = unb a ++ unb b := by simp [unb]
set_option maxRecDepth 100000 in
theorem mm_head (g T : Nat) (sv : Value) (acc : List Int) (x : Nat) (b : Bool) (w : World) (hs : SX.St w (SX.idsOf (WrL g T sv (unb acc))) w (WrL g T sv (unb acc))) (hx : x < 32) (ha : acc.length ≤ 100000) :
    Calls Try.prog 33 #[.int .i64 (x : Int), .bool b, .pointer (some ⟨g, 0, none⟩)] w (SX.Ret fun v w' => ∃ sv', v = .tuple #[] ∧ SX.St w (SX.idsOf (WrL g T sv (unb acc))) w' (WrL g T sv' (unb (acc ++ [(x : Int) + if b then 32 else 0])))) := by
  generalize hM : SX.idsOf (WrL g T sv (unb acc)) = M at *
  obtain ⟨h1, h2, h3⟩ := hdP_ok ⟨x, hx⟩ b
  simp only at h1 h2 h3
  have hul := unb_length acc
  have er : resA (unb acc) (hdP x b) = unb (acc ++ [(x : Int) + if b then 32 else 0]) := by
    unfold resA
    rw [if_pos h2, h3, unb_app]
  refine Z.enter Try.func33 rfl Try.ntmps33 rfl rfl ?_
  refine Z.seq ?_
  refine Z.region ?_
  refine Z.lb 1 rfl ?_
  refine Z.lnil ?_
  refine Z.only [0, 1, 2, 5] rfl ?_
  refine Z.nthen ?_
  refine Z.seq ?_
  refine Z.seq ?_
  refine Z.region ?_
  refine Z.lb 1 rfl ?_
  refine Z.lnil ?_
  refine Z.only [0, 2, 5, 6] rfl ?_
  refine Z.nthen ?_
  refine Z.cond rfl (fun hc1 => ?_) (fun hc1 => ?_)
  · first
      | (exfalso; simp at hc1 <;> omega)
      | (
        (try simp at hc1)
        subst hc1
        refine Z.region ?_
        refine Z.lb 1 rfl ?_
        refine Z.lnil ?_
        refine Z.only [0, 2, 5] rfl ?_
        refine Z.nthen ?_
        refine Z.region ?_
        refine Z.l rfl rfl (by rfl) (Z.keepS hs) (Z.Yd.buildL [(0, 1), (1, 1)] [.int .u64 0, .int .i64 0] rfl rfl (by intro w; kernel_rfl)) ?_
        refine Z.lb 1 rfl ?_
        refine Z.l rfl rfl (by rfl) (Z.keepS hs) (Z.Yd.buildL [(0, 1), (1, 1)] [.int .u64 0, .int .i64 0] rfl rfl (by intro w; kernel_rfl)) ?_
        refine Z.lb 1 rfl ?_
        refine Z.l rfl rfl (by rfl) (Z.keepS hs) (Z.Yd.convI rfl ⟨_, Try.underlying3⟩ Try.underlying68 (fun hG => Z.wu64 (by first | omega | (have hG' := Z.gh rfl hG; simp at hG'; omega)))) ?_
        refine Z.l rfl rfl (by rfl) (Z.keepS hs) (Z.Yd.buildL [(0, 1), (1, 1)] [.int .u64 0, .int .i64 0] rfl rfl (by intro w; kernel_rfl)) ?_
        refine Z.le rfl trivial ?_
        refine Z.ZO.litL (T' := 71) [(0, 2), (2, 2), (4, 2)] [.int .u64 0, .int .i64 0, .int .u64 0, .int .i64 0, .int .u64 0, .int .i64 0] rfl rfl (by rfl) rfl rfl (by intro W; kernel_rfl) hs ?_
        clear hs; intro g13 w13 hs
        replace hs := hs.rot (L1 := [_])
        change SX.St _ _ _ (WrL g T sv _ ++ [_]) at hs
        refine Z.le rfl trivial ?_
        refine Z.ZO.call rfl rfl (by rfl) rfl rfl Try.call34 rfl (putAll_any g T sv (unb acc) _ 3 3 (hdP x _) _ hs.lend (Z.blk_lent hs) rfl (by omega) (by omega) h1) ?_
        rintro v3_7 w3_7 ⟨sv2, rfl, hz⟩
        replace hs := hs.regain hz
        refine Z.lnil ?_
        refine Z.only [] rfl ?_
        -- ret#0
        refine Z.out0n trivial ?_
        rw [er] at hs
        exact ⟨_, rfl, sv2, rfl, hs.sub (List.sublist_append_left _ _)⟩
        )
  · first
      | (exfalso; simp at hc1 <;> omega)
      | (
        (try simp at hc1)
        subst hc1
        refine Z.skip ?_
        refine Z.nthen ?_
        refine Z.region ?_
        refine Z.l rfl rfl (by rfl) (Z.keepS hs) (Z.Yd.buildL [(0, 1), (1, 1)] [.int .u64 0, .int .i64 0] rfl rfl (by intro w; kernel_rfl)) ?_
        refine Z.lb 1 rfl ?_
        refine Z.l rfl rfl (by rfl) (Z.keepS hs) (Z.Yd.buildL [(0, 1), (1, 1)] [.int .u64 0, .int .i64 0] rfl rfl (by intro w; kernel_rfl)) ?_
        refine Z.lb 1 rfl ?_
        refine Z.l rfl rfl (by rfl) (Z.keepS hs) (Z.Yd.convI rfl ⟨_, Try.underlying3⟩ Try.underlying68 (fun hG => Z.wu64 (by first | omega | (have hG' := Z.gh rfl hG; simp at hG'; omega)))) ?_
        refine Z.l rfl rfl (by rfl) (Z.keepS hs) (Z.Yd.buildL [(0, 1), (1, 1)] [.int .u64 0, .int .i64 0] rfl rfl (by intro w; kernel_rfl)) ?_
        refine Z.le rfl trivial ?_
        refine Z.ZO.litL (T' := 71) [(0, 2), (2, 2), (4, 2)] [.int .u64 0, .int .i64 0, .int .u64 0, .int .i64 0, .int .u64 0, .int .i64 0] rfl rfl (by rfl) rfl rfl (by intro W; kernel_rfl) hs ?_
        clear hs; intro g13 w13 hs
        replace hs := hs.rot (L1 := [_])
        change SX.St _ _ _ (WrL g T sv _ ++ [_]) at hs
        refine Z.le rfl trivial ?_
        refine Z.ZO.call rfl rfl (by rfl) rfl rfl Try.call34 rfl (putAll_any g T sv (unb acc) _ 3 3 (hdP x _) _ hs.lend (Z.blk_lent hs) rfl (by omega) (by omega) h1) ?_
        rintro v3_7 w3_7 ⟨sv2, rfl, hz⟩
        replace hs := hs.regain hz
        refine Z.lnil ?_
        refine Z.only [] rfl ?_
        -- ret#1
        refine Z.out0n trivial ?_
        rw [er] at hs
        exact ⟨_, rfl, sv2, rfl, hs.sub (List.sublist_append_left _ _)⟩
        )
end Go.Proofs.Ytogjkgoiofngaaa

/- Bits read from whole bytes. -/
namespace Go.Proofs.Ytogjkgoiofngaaa
open Go.RowKit
set_option linter.unusedSimpArgs false
set_option linter.unusedVariables false
--newlaws

theorem unb_dropN {l : List Int} {p : Nat} (hp : p ≤ l.length) : (unb l).drop (8 * p) = unb (l.drop p) := by
  have e : unb l = unb (l.take p) ++ unb (l.drop p) := by rw [← unb_app, List.take_append_drop]
  rw [e, List.drop_left' (by rw [unb_length, List.length_take]; omega)]
theorem unb_cons (x : Int) (l : List Int) : unb (x :: l) = fld x.toNat 8 ++ unb l := rfl
theorem drop_elt {l : List Int} {p : Nat} (hp : p < l.length) : l.drop p = elt l (p : Int) :: l.drop (p + 1) := by
  rw [List.drop_eq_getElem_cons hp, elt_gt hp]
theorem bits_in {l : List Int} {p i n : Nat} (hp : p < l.length) (h : i + n ≤ 8) : bitsAt l (8 * p + i) n = ((fld (elt l (p : Int)).toNat 8).drop i).take n := by
  unfold bitsAt
  rw [← List.drop_drop, unb_dropN (by omega), drop_elt hp, unb_cons, List.drop_append_of_le_length (by rw [fld_length]; omega), List.take_append_of_le_length (by rw [List.length_drop, fld_length]; omega)]
theorem fbits : ∀ x : Fin 256, val (((fld x.val 8).drop 0).take 2) = x.val / 64 ∧ val (((fld x.val 8).drop 2).take 1) = x.val / 32 % 2 ∧ val (((fld x.val 8).drop 3).take 5) = x.val % 32 ∧ val (((fld x.val 8).drop 0).take 1) = x.val / 128 ∧ val (((fld x.val 8).drop 1).take 7) = x.val % 128 ∧ val (((fld x.val 8).drop 0).take 8) = x.val := by
  set_option maxRecDepth 100000 in decide
theorem getV_in {l : List Int} {a n : Nat} (h : a + n ≤ 8 * l.length) (h2 : n ≤ 64) : getV l a (n : Int) = (val (bitsAt l a n) : Int) ∧ getE l a (n : Int) = 0 ∧ getA l a (n : Int) = a + n := by
  have h1 := getE_ok h h2
  refine ⟨?_, h1, ?_⟩
  · unfold getV; rw [if_pos h1]; rfl
  · unfold getA; rw [if_pos h1]; rfl
theorem get_bad {l : List Int} {a n : Nat} (h : ¬ a + n ≤ 8 * l.length) (h2 : n ≤ 64) : getE l a (n : Int) = 5 := by
  unfold getE
  rw [if_neg (by omega), if_pos (by omega)]
/-- the byte p -/
def byB (l : List Int) (p : Nat) : Int := elt l (p : Int)
theorem byB_bd {l : List Int} (hb : ∀ x ∈ l, 0 ≤ x ∧ x < 256) {p : Nat} (hp : p < l.length) : 0 ≤ byB l p ∧ byB l p < 256 := by
  unfold byB
  rw [elt_gt hp]
  exact hb _ (List.getElem_mem hp)
theorem head_get {l : List Int} (hb : ∀ x ∈ l, 0 ≤ x ∧ x < 256) {p : Nat} (hp : p < l.length) :
    getV l (8 * p) 2 = byB l p / 64 ∧ getV l (8 * p + 2) 1 = byB l p / 32 % 2 ∧ getV l (8 * p + 3) 5 = byB l p % 32 ∧ getV l (8 * p) 1 = byB l p / 128 ∧ getV l (8 * p + 1) 7 = byB l p % 128 ∧ getV l (8 * p) 8 = byB l p := by
  have h0 := byB_bd hb hp
  obtain ⟨x, hx⟩ := Int.eq_ofNat_of_zero_le h0.1
  have hx' : elt l (p : Int) = (x : Int) := hx
  obtain ⟨f1, f2, f3, f4, f5, f6⟩ := fbits ⟨x, by omega⟩
  simp only at f1 f2 f3 f4 f5 f6
  have g : ∀ i n : Nat, i + n ≤ 8 → getV l (8 * p + i) (n : Int) = (val (((fld x 8).drop i).take n) : Int) := fun i n h => by
    rw [(getV_in (l := l) (a := 8 * p + i) (n := n) (by omega) (by omega)).1, bits_in hp h, hx', Int.toNat_natCast]
  rw [hx]
  refine ⟨?_, ?_, ?_, ?_, ?_, ?_⟩
  · have := g 0 2 (by omega); rw [f1] at this; simpa using this
  · have := g 2 1 (by omega); rw [f2] at this; simpa using this
  · have := g 3 5 (by omega); rw [f3] at this; simpa using this
  · have := g 0 1 (by omega); rw [f4] at this; simpa using this
  · have := g 1 7 (by omega); rw [f5] at this; simpa using this
  · have := g 0 8 (by omega); rw [f6] at this; simpa using this
theorem long_get {l : List Int} (hb : ∀ x ∈ l, 0 ≤ x ∧ x < 256) {p : Nat} (hp : p + 1 < l.length) : getV l (8 * p + 1) 15 = byB l p % 128 * 256 + byB l (p + 1) := by
  have h0 := byB_bd hb (show p < l.length by omega)
  have h1 := byB_bd hb hp
  obtain ⟨x, hx⟩ := Int.eq_ofNat_of_zero_le h0.1
  obtain ⟨y, hy⟩ := Int.eq_ofNat_of_zero_le h1.1
  have hx' : elt l (p : Int) = (x : Int) := hx
  have hy' : elt l ((p + 1 : Nat) : Int) = (y : Int) := hy
  have e : bitsAt l (8 * p + 1) 15 = fld (x % 128 * 256 + y) 15 := by
    unfold bitsAt
    rw [← List.drop_drop, unb_dropN (by omega), drop_elt (show p < l.length by omega), unb_cons, drop_elt hp, unb_cons, hx', hy', Int.toNat_natCast, Int.toNat_natCast]
    have e1 : fld x 8 = x.testBit 7 :: fld x 7 := rfl
    rw [e1, List.cons_append, List.drop_succ_cons, List.drop_zero, ← List.append_assoc, List.take_append_of_le_length (by rw [List.length_append, fld_length, fld_length]; omega), List.take_of_length_le (by rw [List.length_append, fld_length, fld_length]; omega)]
    have h3 : fld (x % 128 * 256 + y) (7 + 8) = fld ((x % 128 * 256 + y) / 2 ^ 8) 7 ++ fld (x % 128 * 256 + y) 8 := fld_app _ _ _
    have h4 : (x % 128 * 256 + y) / 2 ^ 8 = x % 2 ^ 7 := by omega
    have h5 : fld (x % 128 * 256 + y) 8 = fld y 8 := by rw [← fld_mod (x % 128 * 256 + y) 8 8 (by omega)]; congr 1; omega
    rw [h4, h5, fld_mod x 7 7 (by omega)] at h3
    exact h3.symm
  have := (getV_in (l := l) (a := 8 * p + 1) (n := 15) (by omega) (by omega)).1
  rw [e, val_fld] at this
  rw [hx, hy]
  have h6 : (x % 128 * 256 + y) % 2 ^ 15 = x % 128 * 256 + y := by omega
  rw [h6] at this
  exact this.trans (by omega)
theorem gsV_byt {l : List Int} (hb : ∀ x ∈ l, 0 ≤ x ∧ x < 256) : ∀ (k p : Nat), p + k ≤ l.length → gsV l (8 * p) (List.replicate k (8 : Int)) = (l.drop p).take k
  | 0, p, _ => by simp [gsV]
  | k + 1, p, h => by
    have h1 := head_get hb (show p < l.length by omega)
    have h2 := (getV_in (l := l) (a := 8 * p) (n := 8) (by omega) (by omega)).2.2
    rw [List.replicate_succ, drop_elt (show p < l.length by omega), List.take_succ_cons, ← gsV_byt hb k (p + 1) (by omega)]
    show getV l (8 * p) 8 :: gsV l (getA l (8 * p) 8) (List.replicate k 8) = _
    rw [h1.2.2.2.2.2]
    have h3 : getA l (8 * p) (8 : Int) = 8 * p + 8 := h2
    rw [h3]
    rfl
theorem gb_ok {l : List Int} (hb : ∀ x ∈ l, 0 ≤ x ∧ x < 256) {p k : Nat} (h : p + k ≤ l.length) : gbE l (8 * p) (k : Int) = 0 ∧ gbV l (8 * p) (k : Int) = (l.drop p).take k ∧ gbA l (8 * p) (k : Int) = 8 * (p + k) := by
  have h1 : gbE l (8 * p) (k : Int) = 0 := by unfold gbE; rw [if_neg (by omega), if_neg (by omega)]
  refine ⟨h1, ?_, ?_⟩
  · unfold gbV; rw [if_pos h1, Int.toNat_natCast]; exact gsV_byt hb k p h
  · unfold gbA; rw [if_pos h1, Int.toNat_natCast]; omega
theorem gb_bad {l : List Int} {p k : Nat} (hp : p ≤ l.length) (h : ¬ p + k ≤ l.length) : gbE l (8 * p) (k : Int) = 5 := by
  unfold gbE
  rw [if_neg (by omega), if_pos (by omega)]
end Go.Proofs.Ytogjkgoiofngaaa

/- MAC PDUs: the reader's bits and length. -/
namespace Go.Proofs.Ytogjkgoiofngaaa
open Go.RowKit
set_option linter.unusedSimpArgs false
set_option linter.unusedVariables false
--newlaws

theorem mm_must_any (b : Bool) (e : Int) (w : World) : Calls Try.prog 31 #[.bool b, .int .i64 e] w (Z.Bo (fun v w' => b = true ∧ v = .tuple #[] ∧ SX.St w [] w' []) fun c w' => b = false ∧ c = mperr e ∧ SX.St w [] w' []) := by
  cases b with
  | true => exact Z.Bo.ret ((mm_must_ok true e w rfl).mono fun e w' ⟨v, h1, h2⟩ => ⟨v, h1, rfl, h2⟩)
  | false => exact Z.Bo.pan ((mm_must_bad false e w rfl).mono fun e w' ⟨v, h1, h2⟩ => ⟨v, h1, rfl, h2⟩)
theorem mm_gotu_ok (x : Int) (w : World) : Calls Try.prog 62 #[.int .u64 x, .int .i64 0] w (SX.Ret fun v w' => v = .int .u64 x ∧ SX.St w [] w' []) := by
  have hs := SX.St.start w
  refine Z.enter Try.func62 rfl Try.ntmps62 rfl rfl ?_
  refine Z.seq ?_
  refine Z.region ?_
  refine Z.lb 1 rfl ?_
  refine Z.lnil ?_
  refine Z.only [0, 1] rfl ?_
  refine Z.nthen ?_
  refine Z.seq ?_
  refine Z.region ?_
  refine Z.lb 3 rfl ?_
  refine Z.le rfl trivial ?_
  refine Z.ZO.call rfl rfl (by rfl) rfl rfl Try.call31 rfl (mm_must_ok _ 0 _ (by simp)) ?_
  rintro v1_3 w1_3 ⟨rfl, hy⟩
  replace hs := hs.call hy
  clear hy
  try simp only [List.cons_append, List.nil_append, List.append_nil] at hs
  refine Z.lnil ?_
  refine Z.only [0] rfl ?_
  refine Z.nthen ?_
  refine Z.seq ?_
  refine Z.region ?_
  refine Z.lb 2 rfl ?_
  refine Z.lnil ?_
  refine Z.only [4] rfl ?_
  refine Z.nthen ?_
  refine Z.ret ?_
  -- ret#0
  refine Z.out1 (by exact ⟨rfl, trivial⟩) ?_
  first | exact ⟨_, rfl, rfl, hs⟩ | exact ⟨_, rfl, rfl, hs.sub (List.nil_sublist _)⟩
theorem mm_gotu_bad (x e : Int) (w : World) (he : e ≠ 0) : Calls Try.prog 62 #[.int .u64 x, .int .i64 e] w (MPan e fun w' => SX.St w [] w' []) := by
  have hs := SX.St.start w
  refine Z.enter Try.func62 rfl Try.ntmps62 rfl rfl ?_
  refine Z.seq ?_
  refine Z.region ?_
  refine Z.lb 1 rfl ?_
  refine Z.lnil ?_
  refine Z.only [0, 1] rfl ?_
  refine Z.nthen ?_
  refine Z.seq ?_
  refine Z.region ?_
  refine Z.lb 3 rfl ?_
  refine Z.le rfl trivial ?_
  refine Z.ZO.callP rfl rfl rfl Try.call31 rfl (mm_must_bad _ e _ (by simpa using he)) ?_
  rintro c1_3 w1_3 ⟨rfl, hy⟩
  replace hs := hs.call hy
  clear hy
  try simp only [List.cons_append, List.nil_append, List.append_nil] at hs
  repeat (first | refine Z.pthen ?_ | refine Z.pblock ?_ | refine Z.pscope ?_)
  -- ret#0
  refine Z.outp ?_
  exact ⟨_, rfl, rfl, hs⟩
theorem mm_gotb_ok (x : Value) (w : World) : Calls Try.prog 58 #[x, .int .i64 0] w (SX.Ret fun v w' => v = x ∧ SX.St w [] w' []) := by
  have hs := SX.St.start w
  refine Z.enter Try.func58 rfl Try.ntmps58 rfl rfl ?_
  refine Z.seq ?_
  refine Z.region ?_
  refine Z.lb 1 rfl ?_
  refine Z.lnil ?_
  refine Z.only [0, 1] rfl ?_
  refine Z.nthen ?_
  refine Z.seq ?_
  refine Z.region ?_
  refine Z.lb 3 rfl ?_
  refine Z.le rfl trivial ?_
  refine Z.ZO.call rfl rfl (by rfl) rfl rfl Try.call31 rfl (mm_must_ok _ 0 _ (by simp)) ?_
  rintro v1_3 w1_3 ⟨rfl, hy⟩
  replace hs := hs.call hy
  clear hy
  try simp only [List.cons_append, List.nil_append, List.append_nil] at hs
  refine Z.lnil ?_
  refine Z.only [0] rfl ?_
  refine Z.nthen ?_
  refine Z.seq ?_
  refine Z.region ?_
  refine Z.lb 2 rfl ?_
  refine Z.lnil ?_
  refine Z.only [4] rfl ?_
  refine Z.nthen ?_
  refine Z.ret ?_
  -- ret#0
  refine Z.out1 (by exact ⟨rfl, trivial⟩) ?_
  first | exact ⟨_, rfl, rfl, hs⟩ | exact ⟨_, rfl, rfl, hs.sub (List.nil_sublist _)⟩
theorem mm_gotb_bad (x : Value) (e : Int) (w : World) (he : e ≠ 0) : Calls Try.prog 58 #[x, .int .i64 e] w (MPan e fun w' => SX.St w [] w' []) := by
  have hs := SX.St.start w
  refine Z.enter Try.func58 rfl Try.ntmps58 rfl rfl ?_
  refine Z.seq ?_
  refine Z.region ?_
  refine Z.lb 1 rfl ?_
  refine Z.lnil ?_
  refine Z.only [0, 1] rfl ?_
  refine Z.nthen ?_
  refine Z.seq ?_
  refine Z.region ?_
  refine Z.lb 3 rfl ?_
  refine Z.le rfl trivial ?_
  refine Z.ZO.callP rfl rfl rfl Try.call31 rfl (mm_must_bad _ e _ (by simpa using he)) ?_
  rintro c1_3 w1_3 ⟨rfl, hy⟩
  replace hs := hs.call hy
  clear hy
  try simp only [List.cons_append, List.nil_append, List.append_nil] at hs
  repeat (first | refine Z.pthen ?_ | refine Z.pblock ?_ | refine Z.pscope ?_)
  -- ret#0
  refine Z.outp ?_
  exact ⟨_, rfl, rfl, hs⟩
set_option maxRecDepth 100000 in
theorem mm_bits_ok (g T : Nat) (sv : Value) (l : List Int) (a n : Nat) (w : World) (hs : SX.St w (SX.idsOf (RdL g T sv l a)) w (RdL g T sv l a)) (hl : l.length ≤ 1000000) (hb : ∀ x ∈ l, 0 ≤ x ∧ x < 256) (h : a + n ≤ 8 * l.length) (hn : n ≤ 32) :
    Calls Try.prog 55 #[.agg #[.pointer (some ⟨g, 0, none⟩)], .int .i64 (n : Int)] w (SX.Ret fun v w' => v = .int .i64 (getV l a n) ∧ SX.St w (SX.idsOf (RdL g T sv l a)) w' (RdL g T sv l (a + n))) := by
  generalize hM : SX.idsOf (RdL g T sv l a) = M at *
  obtain ⟨h1, h2, h3⟩ := getV_in (l := l) (a := a) (n := n) h (by omega)
  have h4 : (bitsAt l a n).length ≤ 63 := by unfold bitsAt; rw [List.length_take]; omega
  have h5 := val_bd63 h4
  obtain ⟨V, hV⟩ : ∃ V : Int, getV l a (n : Int) = V := ⟨_, rfl⟩
  rw [hV] at h1 ⊢
  have h6 : 0 ≤ V ∧ V < 9223372036854775808 := by omega
  refine Z.enter Try.func55 rfl Try.ntmps55 rfl rfl ?_
  refine Z.seq ?_
  refine Z.region ?_
  refine Z.le rfl trivial ?_
  refine Z.ZO.box rfl rfl (by rfl) rfl rfl hs ?_
  clear hs; intro g2 w2 hs
  refine Z.lb 1 rfl ?_
  refine Z.lnil ?_
  refine Z.only [1, 2] rfl ?_
  refine Z.nthen ?_
  refine Z.seq ?_
  refine Z.region ?_
  refine Z.l rfl rfl (by rfl) (Z.keepS hs) (Z.Yd.fieldA (m := 0) rfl (by kernel_rfl)) ?_
  refine Z.l rfl rfl (by rfl) (Z.keepS hs) (by first | exact Z.Yd.load rfl Try.isAgg85 (fun _ => Z.cellB (by first | ((repeat (first | exact List.mem_cons_self | refine List.mem_cons_of_mem _ ?_ | refine List.mem_append_right _ ?_)); done) | fail) rfl) | exact Z.Yd.load rfl Try.isAgg85 (fun _ => Z.cellO (by assumption) (by simp) (by assumption)) | fail "load 1.1") ?_
  refine Z.lb 1 rfl ?_
  replace hs : SX.St w M _ (RdL g T sv l a ++ [_]) := hs.rot (L1 := [_])
  refine Z.le rfl trivial ?_
  refine Z.ZO.call rfl rfl (by rfl) rfl rfl Try.call63 rfl (rget_any g T sv l a n _ hs.lend hl (by omega) hb) ?_
  rintro v1_3 w1_3 ⟨rfl, hz⟩
  replace hs := hs.regain hz
  rw [h2, hV]
  rw [h3] at hs
  refine Z.lb 2 rfl ?_
  refine Z.le rfl trivial ?_
  refine Z.ZO.call rfl rfl (by rfl) rfl rfl Try.call62 rfl (mm_gotu_ok _ _) ?_
  rintro v1_6 w1_6 ⟨rfl, hy⟩
  replace hs := hs.call hy
  clear hy
  try simp only [List.cons_append, List.nil_append, List.append_nil] at hs
  refine Z.l rfl rfl (by rfl) (Z.keepS hs) (Z.Yd.convI rfl ⟨_, Try.underlying68⟩ Try.underlying3 (fun hG => Z.wi64 (by first | omega | (have hG' := Z.gh rfl hG; simp at hG'; omega)))) ?_
  refine Z.lb 1 rfl ?_
  refine Z.lnil ?_
  refine Z.only [4] rfl ?_
  refine Z.nthen ?_
  refine Z.ret ?_
  -- ret#0
  refine Z.out1 (by exact ⟨rfl, trivial⟩) ?_
  exact ⟨_, rfl, rfl, hs.sub (List.sublist_append_left _ _)⟩
set_option maxRecDepth 100000 in
theorem mm_bits_bad (g T : Nat) (sv : Value) (l : List Int) (a n : Nat) (w : World) (hs : SX.St w (SX.idsOf (RdL g T sv l a)) w (RdL g T sv l a)) (hl : l.length ≤ 1000000) (hb : ∀ x ∈ l, 0 ≤ x ∧ x < 256) (ha : a ≤ 8 * l.length) (h : ¬ a + n ≤ 8 * l.length) (hn : n ≤ 32) :
    Calls Try.prog 55 #[.agg #[.pointer (some ⟨g, 0, none⟩)], .int .i64 (n : Int)] w (MPan 5 fun w' => ∃ a', SX.St w (SX.idsOf (RdL g T sv l a)) w' (RdL g T sv l a')) := by
  generalize hM : SX.idsOf (RdL g T sv l a) = M at *
  have h2 := get_bad (l := l) (a := a) (n := n) h (by omega)
  refine Z.enter Try.func55 rfl Try.ntmps55 rfl rfl ?_
  refine Z.seq ?_
  refine Z.region ?_
  refine Z.le rfl trivial ?_
  refine Z.ZO.box rfl rfl (by rfl) rfl rfl hs ?_
  clear hs; intro g2 w2 hs
  refine Z.lb 1 rfl ?_
  refine Z.lnil ?_
  refine Z.only [1, 2] rfl ?_
  refine Z.nthen ?_
  refine Z.seq ?_
  refine Z.region ?_
  refine Z.l rfl rfl (by rfl) (Z.keepS hs) (Z.Yd.fieldA (m := 0) rfl (by kernel_rfl)) ?_
  refine Z.l rfl rfl (by rfl) (Z.keepS hs) (by first | exact Z.Yd.load rfl Try.isAgg85 (fun _ => Z.cellB (by first | ((repeat (first | exact List.mem_cons_self | refine List.mem_cons_of_mem _ ?_ | refine List.mem_append_right _ ?_)); done) | fail) rfl) | exact Z.Yd.load rfl Try.isAgg85 (fun _ => Z.cellO (by assumption) (by simp) (by assumption)) | fail "load 1.1") ?_
  refine Z.lb 1 rfl ?_
  replace hs : SX.St w M _ (RdL g T sv l a ++ [_]) := hs.rot (L1 := [_])
  refine Z.le rfl trivial ?_
  refine Z.ZO.call rfl rfl (by rfl) rfl rfl Try.call63 rfl (rget_any g T sv l a n _ hs.lend hl (by omega) hb) ?_
  rintro v1_3 w1_3 ⟨rfl, hz⟩
  replace hs := hs.regain hz
  rw [h2]
  refine Z.lb 2 rfl ?_
  refine Z.le rfl trivial ?_
  refine Z.ZO.callP rfl rfl rfl Try.call62 rfl (mm_gotu_bad _ 5 _ (by decide)) ?_
  rintro c1_6 w1_6 ⟨rfl, hy⟩
  replace hs := hs.call hy
  clear hy
  try simp only [List.cons_append, List.nil_append, List.append_nil] at hs
  repeat (first | refine Z.pthen ?_ | refine Z.pblock ?_ | refine Z.pscope ?_)
  -- ret#0
  refine Z.outp ?_
  exact ⟨_, rfl, rfl, _, hs.sub (List.sublist_append_left _ _)⟩
end Go.Proofs.Ytogjkgoiofngaaa

/- MAC PDUs: a length field read. -/
namespace Go.Proofs.Ytogjkgoiofngaaa
open Go.RowKit
set_option linter.unusedSimpArgs false
set_option linter.unusedVariables false
--newlaws

/-- the length field at byte p: its error, value, end -/
def lnE (l : List Int) (p : Nat) : Int := if ¬ p < l.length then 5 else if byB l p < 128 then (if byB l p = 0 then 9 else 0) else if ¬ p + 1 < l.length then 5 else if 127 < byB l p % 128 * 256 + byB l (p + 1) then 0 else 9
def lnV (l : List Int) (p : Nat) : Int := if byB l p < 128 then byB l p else byB l p % 128 * 256 + byB l (p + 1)
def lnP (l : List Int) (p : Nat) : Nat := if byB l p < 128 then p + 1 else p + 2
abbrev LenR (g T : Nat) (sv : Value) (l : List Int) (p : Nat) (w : World) : Ending → World → Prop := Z.Bo (fun v w' => lnE l p = 0 ∧ v = .int .i64 (lnV l p) ∧ SX.St w (SX.idsOf (RdL g T sv l (8 * p))) w' (RdL g T sv l (8 * lnP l p))) fun c w' => lnE l p ≠ 0 ∧ c = mperr (lnE l p) ∧ ∃ a', SX.St w (SX.idsOf (RdL g T sv l (8 * p))) w' (RdL g T sv l a')
set_option maxRecDepth 100000 in
theorem ml_none (g T : Nat) (sv : Value) (l : List Int) (p : Nat) (w : World) (hs : SX.St w (SX.idsOf (RdL g T sv l (8 * p))) w (RdL g T sv l (8 * p))) (hl : l.length ≤ 1000000) (hb : ∀ x ∈ l, 0 ≤ x ∧ x < 256) (hp : p ≤ l.length) (h : ¬ p < l.length) :
    Calls Try.prog 56 #[.agg #[.pointer (some ⟨g, 0, none⟩)]] w (MPan 5 fun w' => ∃ a', SX.St w (SX.idsOf (RdL g T sv l (8 * p))) w' (RdL g T sv l a')) := by
  generalize hM : SX.idsOf (RdL g T sv l (8 * p)) = M at *
  refine Z.enter Try.func56 rfl Try.ntmps56 rfl rfl ?_
  refine Z.seq ?_
  refine Z.region ?_
  refine Z.le rfl trivial ?_
  refine Z.ZO.box rfl rfl (by rfl) rfl rfl hs ?_
  clear hs; intro g1 w1 hs
  refine Z.lb 1 rfl ?_
  refine Z.lnil ?_
  refine Z.only [1] rfl ?_
  refine Z.nthen ?_
  refine Z.seq ?_
  refine Z.drawP [SX.Ent.blk g1 88 #[.pointer (some ⟨g, 0, none⟩)]] (fun _ => true) mixed hs ?_
  clear hs; intro wd1 hs
  refine Z.tXP 1 [1, 2, 3, 5] (fun _ _ _ _ _ h => h) rfl rfl rfl (by rfl) (by kernel_rfl) ⟨_, hs, by first | (simp; done) | exact fun e he => List.mem_append_right _ he⟩ (by first | exact Z.Yd.loadA _ rfl Try.isAgg88 (fun _ => Z.cellsB (by first | ((repeat (first | exact List.mem_cons_self | refine List.mem_cons_of_mem _ ?_ | refine List.mem_append_right _ ?_)); done) | fail)) (by exact Try.sizeOf88) | fail "load 1.1") ?_
  refine Z.forkP [0, 4] rfl (by kernel_rfl) rfl ⟨⟨_, _, rfl, rfl, trivial, ?_⟩, ⟨_, _, rfl, rfl, trivial, ?_⟩, trivial⟩
  · skip
    refine Z.ZO.call rfl rfl (by rfl) rfl rfl Try.call36 rfl (mc_formats _) ?_
    rintro v1_0 w1_0 ⟨rfl, hy⟩
    replace hs := hs.call hy
    clear hy
    try simp only [List.cons_append, List.nil_append, List.append_nil] at hs
    refine Z.tkP (Dn := fun _ => true) (i := 0) (fun _ => ⟨_, hs, by first | (simp; done) | exact fun e he => List.mem_append_right _ he⟩) ?_
    refine Z.forkP [2, 4] rfl (by kernel_rfl) rfl ⟨⟨_, _, rfl, rfl, trivial, ?_⟩, ⟨_, _, rfl, rfl, trivial, ?_⟩, trivial⟩
    · skip
      first
      | replace hs : SX.St w M _ (RdL g T sv l (8 * p) ++ [_]) := hs.rot (L1 := [_])
      | replace hs : SX.St w M _ (RdL g T sv l (8 * p) ++ [_, _]) := hs.rot (L1 := [_, _])
      refine Z.ZO.callP rfl rfl rfl Try.call55 rfl (mm_bits_bad g T sv l (8 * p) 1 _ hs.lend hl hb (by omega) (by omega) (by omega)) ?_
      rintro c1_2 w1_2 ⟨rfl, a', hz⟩
      replace hs := hs.regain hz
      repeat (first | refine Z.pthen ?_ | refine Z.pblock ?_ | refine Z.pscope ?_)
      -- ret#0
      refine Z.outp ?_
      exact ⟨_, rfl, rfl, _, hs.sub (List.sublist_append_left _ _)⟩
    · skip
      refine Z.ZO.alloc rfl rfl (by rfl) Try.zeroValue75 rfl hs ?_
      clear hs; intro g3 w3 hs
      refine Z.tkP (Dn := fun _ => true) (i := 4) (fun _ => ⟨_, hs, by first | (simp; done) | exact fun e he => List.mem_append_right _ he⟩) ?_
      first
      | replace hs : SX.St w M _ (RdL g T sv l (8 * p) ++ [_]) := hs.rot (L1 := [_])
      | replace hs : SX.St w M _ (RdL g T sv l (8 * p) ++ [_, _]) := hs.rot (L1 := [_, _])
      refine Z.tnP 2 rfl rfl (by kernel_rfl) rfl trivial ?_
      refine Z.ZO.callP rfl rfl rfl Try.call55 rfl (mm_bits_bad g T sv l (8 * p) 1 _ hs.lend hl hb (by omega) (by omega) (by omega)) ?_
      rintro c1_2 w1_2 ⟨rfl, a', hz⟩
      replace hs := hs.regain hz
      repeat (first | refine Z.pthen ?_ | refine Z.pblock ?_ | refine Z.pscope ?_)
      -- ret#1
      refine Z.outp ?_
      exact ⟨_, rfl, rfl, _, hs.sub (List.sublist_append_left _ _)⟩
  · skip
    refine Z.ZO.alloc rfl rfl (by rfl) Try.zeroValue75 rfl hs ?_
    clear hs; intro g3 w3 hs
    refine Z.tkP (Dn := fun _ => true) (i := 4) (fun _ => ⟨_, hs, by first | (simp; done) | exact fun e he => List.mem_append_right _ he⟩) ?_
    refine Z.tnP 0 rfl rfl (by kernel_rfl) rfl trivial ?_
    refine Z.ZO.call rfl rfl (by rfl) rfl rfl Try.call36 rfl (mc_formats _) ?_
    rintro v1_0 w1_0 ⟨rfl, hy⟩
    replace hs := hs.call hy
    clear hy
    try simp only [List.cons_append, List.nil_append, List.append_nil] at hs
    refine Z.tkP (Dn := fun _ => true) (i := 0) (fun _ => ⟨_, hs, by first | (simp; done) | exact fun e he => List.mem_append_right _ he⟩) ?_
    first
    | replace hs : SX.St w M _ (RdL g T sv l (8 * p) ++ [_]) := hs.rot (L1 := [_])
    | replace hs : SX.St w M _ (RdL g T sv l (8 * p) ++ [_, _]) := hs.rot (L1 := [_, _])
    refine Z.tnP 2 rfl rfl (by kernel_rfl) rfl trivial ?_
    refine Z.ZO.callP rfl rfl rfl Try.call55 rfl (mm_bits_bad g T sv l (8 * p) 1 _ hs.lend hl hb (by omega) (by omega) (by omega)) ?_
    rintro c1_2 w1_2 ⟨rfl, a', hz⟩
    replace hs := hs.regain hz
    repeat (first | refine Z.pthen ?_ | refine Z.pblock ?_ | refine Z.pscope ?_)
    -- ret#2
    refine Z.outp ?_
    exact ⟨_, rfl, rfl, _, hs.sub (List.sublist_append_left _ _)⟩
set_option maxHeartbeats 1000000 in
set_option maxRecDepth 100000 in
theorem ml_short (g T : Nat) (sv : Value) (l : List Int) (p : Nat) (w : World) (hs : SX.St w (SX.idsOf (RdL g T sv l (8 * p))) w (RdL g T sv l (8 * p))) (hl : l.length ≤ 1000000) (hb : ∀ x ∈ l, 0 ≤ x ∧ x < 256) (h : p < l.length) (h1 : byB l p < 128) :
    Calls Try.prog 56 #[.agg #[.pointer (some ⟨g, 0, none⟩)]] w (Z.Bo (fun v w' => byB l p ≠ 0 ∧ v = .int .i64 (byB l p) ∧ SX.St w (SX.idsOf (RdL g T sv l (8 * p))) w' (RdL g T sv l (8 * (p + 1)))) fun c w' => byB l p = 0 ∧ c = mperr 9 ∧ ∃ a', SX.St w (SX.idsOf (RdL g T sv l (8 * p))) w' (RdL g T sv l a')) := by
  generalize hM : SX.idsOf (RdL g T sv l (8 * p)) = M at *
  obtain ⟨-, -, -, f4, f5, -⟩ := head_get hb h
  have h0 := byB_bd hb h
  have e1 : getV l (8 * p) ((1 : Nat) : Int) = 0 := by
    have : getV l (8 * p) 1 = 0 := by rw [f4]; omega
    exact this
  have e2 : getV l (8 * p + 1) ((7 : Nat) : Int) = byB l p := by
    have : getV l (8 * p + 1) 7 = byB l p := by rw [f5]; omega
    exact this
  refine Z.enter Try.func56 rfl Try.ntmps56 rfl rfl ?_
  refine Z.seq ?_
  refine Z.region ?_
  refine Z.le rfl trivial ?_
  refine Z.ZO.box rfl rfl (by rfl) rfl rfl hs ?_
  clear hs; intro g1 w1 hs
  refine Z.lb 1 rfl ?_
  refine Z.lnil ?_
  refine Z.only [1] rfl ?_
  refine Z.nthen ?_
  refine Z.seq ?_
  refine Z.drawL [SX.Ent.blk g1 88 #[.pointer (some ⟨g, 0, none⟩)]] (fun _ => true) mixed hs ?_
  clear hs; intro wd1 hs
  refine Z.t 1 rfl rfl rfl (by rfl) (by kernel_rfl) ⟨_, hs, by first | (simp; done) | exact fun e he => List.mem_append_right _ he⟩ (by first | exact Z.Yd.loadA _ rfl Try.isAgg88 (fun _ => Z.cellsB (by first | ((repeat (first | exact List.mem_cons_self | refine List.mem_cons_of_mem _ ?_ | refine List.mem_append_right _ ?_)); done) | fail)) (by exact Try.sizeOf88) | fail "load 1.1") ?_
  refine Z.fork2 0 4 rfl rfl rfl (by kernel_rfl) rfl rfl trivial trivial ?_ ?_
  · skip
    refine Z.ZO.call rfl rfl (by rfl) rfl rfl Try.call36 rfl (mc_formats _) ?_
    rintro v1_0 w1_0 ⟨rfl, hy⟩
    replace hs := hs.call hy
    clear hy
    try simp only [List.cons_append, List.nil_append, List.append_nil] at hs
    refine Z.tk (Dn := fun _ => true) (i := 0) (fun _ => ⟨_, hs, by first | (simp; done) | exact fun e he => List.mem_append_right _ he⟩) ?_
    refine Z.fork2 2 4 rfl rfl rfl (by kernel_rfl) rfl rfl trivial trivial ?_ ?_
    · skip
      first
      | replace hs : SX.St w M _ (RdL g T sv l (8 * p) ++ [_]) := hs.rot (L1 := [_])
      | replace hs : SX.St w M _ (RdL g T sv l (8 * p) ++ [_, _]) := hs.rot (L1 := [_, _])
      refine Z.ZO.call rfl rfl (by rfl) rfl rfl Try.call55 rfl (mm_bits_ok g T sv l (8 * p) 1 _ hs.lend hl hb (by omega) (by omega)) ?_
      rintro v1_2 w1_2 ⟨rfl, hz⟩
      replace hs := hs.regain hz
      rw [e1]
      simp only [RdL, List.cons_append, List.nil_append] at hs
      refine Z.tk (Dn := fun _ => true) (i := 2) (fun _ => ⟨_, hs, by first | (simp; done) | exact fun e he => List.mem_append_right _ he⟩) ?_
      refine Z.t 3 rfl rfl rfl (by rfl) (by kernel_rfl) ⟨_, hs, by first | (simp; done) | exact fun e he => List.mem_append_right _ he⟩ (Z.Yd.index (v := .agg #[.int .u64 0, .int .i64 7, .int .i64 127]) rfl rfl (by intro _ w; kernel_rfl)) ?_
      refine Z.tn 4 rfl rfl (by kernel_rfl) rfl trivial ?_
      refine Z.ZO.alloc rfl rfl (by rfl) Try.zeroValue75 rfl hs ?_
      clear hs; intro g3 w3 hs
      refine Z.tk (Dn := fun _ => true) (i := 4) (fun _ => ⟨_, hs, by first | (simp; done) | exact fun e he => List.mem_append_right _ he⟩) ?_
      refine Z.tn 5 rfl rfl (by kernel_rfl) rfl trivial ?_
      first | refine Z.ZO.storeA rfl rfl hs rfl rfl (by kernel_rfl) (by first | (simp [Value.oneCell']; done) | (refine Z.all_one ?_; assumption)) (by first | exact SX.at0 | exact SX.at1 | exact SX.at2 | exact SX.at3 | exact SX.at4 | exact SX.at5 | exact Z.at6 | exact Z.at7 | exact Z.at8 | exact Z.at9 | exact Z.at10 | exact Z.at11 | exact Z.at12) (by rfl) ?_ | refine Z.ZO.storeP rfl rfl hs rfl rfl (by kernel_rfl) (by first | (simp [Value.oneCell']; done) | (refine Z.all_one ?_; assumption)) (by first | exact SX.at0 | exact SX.at1 | exact SX.at2 | exact SX.at3 | exact SX.at4 | exact SX.at5 | exact Z.at6 | exact Z.at7 | exact Z.at8 | exact Z.at9 | exact Z.at10 | exact Z.at11 | exact Z.at12) (by first | decide | (simp; done) | (simp; omega)) ?_ | refine Z.ZO.storePR rfl rfl hs rfl rfl (by kernel_rfl) (by first | (simp [Value.oneCell']; done) | (refine Z.all_one ?_; assumption)) (by first | exact SX.at0 | exact SX.at1 | exact SX.at2 | exact SX.at3 | exact SX.at4 | exact SX.at5 | exact Z.at6 | exact Z.at7 | exact Z.at8 | exact Z.at9 | exact Z.at10 | exact Z.at11 | exact Z.at12) (by first | decide | (simp; done) | (simp; omega)) ?_
      clear hs; intro ws hs
      simp only [Nat.zero_add, Nat.add_zero, Nat.reduceAdd, Int.reduceToNat, Nat.reduceMul, List.set_cons_zero, List.set_cons_succ, List.setIfInBounds_toArray] at hs
      try simp only [Z.putL, Nat.zero_add] at hs
      refine Z.tk (Dn := fun _ => true) (i := 5) (fun _ => ⟨_, hs, by first | (simp; done) | exact fun e he => List.mem_append_right _ he⟩) ?_
      refine Z.td (by rfl) (by kernel_rfl) ?_
      refine Z.only [1, 3] rfl ?_
      refine Z.nthen ?_
      refine Z.seq ?_
      refine Z.region ?_
      refine Z.l rfl rfl (by rfl) (Z.keepS hs) (by first | exact Z.Yd.loadA _ rfl Try.isAgg88 (fun _ => Z.cellsB (by first | ((repeat (first | exact List.mem_cons_self | refine List.mem_cons_of_mem _ ?_ | refine List.mem_append_right _ ?_)); done) | fail)) (by exact Try.sizeOf88) | fail "load 2.0") ?_
      refine Z.l rfl rfl (by rfl) (Z.keepS hs) (Z.Yd.fieldA (m := 1) rfl (by kernel_rfl)) ?_
      refine Z.l rfl rfl (by rfl) (Z.keepS hs) (by first | exact Z.Yd.load rfl Try.isAgg3 (fun _ => Z.cellB (by first | ((repeat (first | exact List.mem_cons_self | refine List.mem_cons_of_mem _ ?_ | refine List.mem_append_right _ ?_)); done) | fail) rfl) | exact Z.Yd.load rfl Try.isAgg3 (fun _ => Z.cellO (by assumption) (by simp) (by assumption)) | fail "load 2.2") ?_
      first
      | replace hs : SX.St w M _ (RdL g T sv l (8 * p + 1) ++ [SX.Ent.blk g3 _ _, SX.Ent.blk g1 _ _]) := hs.sel [1, 2, 0, 3] (by decide)
      | replace hs : SX.St w M _ (RdL g T sv l (8 * p + 1) ++ [SX.Ent.blk g3 _ _, SX.Ent.blk g1 _ _]) := hs.sel [0, 1, 2, 3] (by decide)
      refine Z.le rfl trivial ?_
      refine Z.ZO.call rfl rfl (by rfl) rfl rfl Try.call55 rfl (mm_bits_ok g T sv l (8 * p + 1) 7 _ hs.lend hl hb (by omega) (by omega)) ?_
      rintro v2_3 w2_3 ⟨rfl, hz⟩
      replace hs := hs.regain hz
      rw [e2]
      simp only [RdL, List.cons_append, List.nil_append] at hs
      refine Z.lb 1 rfl ?_
      refine Z.lnil ?_
      refine Z.only [3, 4] rfl ?_
      refine Z.nthen ?_
      refine Z.seq ?_
      refine Z.region ?_
      refine Z.lb 3 rfl ?_
      refine Z.split (s := 15) rfl (fun hsp15 => ?_) (fun hsp15 => ?_)
      · first
          | (exfalso; simp at hsp15 <;> omega)
          | (
            refine Z.yes (s := 15) (b := true) rfl hsp15 rfl ?_
            (try simp at hsp15)
            refine Z.l rfl rfl (by rfl) (Z.keepS hs) (Z.Yd.fieldA (m := 0) rfl (by kernel_rfl)) ?_
            refine Z.l rfl rfl (by rfl) (Z.keepS hs) (by first | exact Z.Yd.load rfl Try.isAgg68 (fun _ => Z.cellB (by first | ((repeat (first | exact List.mem_cons_self | refine List.mem_cons_of_mem _ ?_ | refine List.mem_append_right _ ?_)); done) | fail) rfl) | exact Z.Yd.load rfl Try.isAgg68 (fun _ => Z.cellO (by assumption) (by simp) (by assumption)) | fail "load 3.4") ?_
            refine Z.lb 2 rfl ?_
            refine Z.yes (s := 15) (b := true) rfl rfl rfl ?_
            refine Z.yes (s := 19) (b := true) rfl ((by simp)) rfl ?_
            refine Z.ls rfl rfl rfl (by rfl) ?_
            refine Z.ls rfl rfl rfl (by rfl) ?_
            refine Z.ls rfl rfl rfl (by rfl) ?_
            refine Z.ls rfl rfl rfl (by rfl) ?_
            refine Z.ls rfl rfl rfl (by rfl) ?_
            refine Z.l rfl rfl (by rfl) (Z.keepS hs) (Z.Yd.pickT rfl rfl) ?_
            refine Z.yes (s := 15) (b := true) rfl rfl rfl ?_
            refine Z.l rfl rfl (by rfl) (Z.keepS hs) (Z.Yd.pickT rfl rfl) ?_
            refine Z.le rfl trivial ?_
            refine Z.ZO.callB rfl rfl (by rfl) rfl rfl Try.call31 rfl (mm_must_any _ 9 _) ?_ ?_
            · skip
              rintro v3_14 w3_14 ⟨hm, rfl, hy⟩
              replace hs := hs.call hy
              clear hy
              try simp only [List.cons_append, List.nil_append, List.append_nil] at hs
              refine Z.lnil ?_
              refine Z.only [4] rfl ?_
              refine Z.nthen ?_
              refine Z.seq ?_
              refine Z.region ?_
              refine Z.lb 2 rfl ?_
              refine Z.lnil ?_
              refine Z.only [2] rfl ?_
              refine Z.nthen ?_
              refine Z.ret ?_
              -- ret#0
              refine Z.out1 (by exact ⟨rfl, trivial⟩) ?_
              exact .inl ⟨_, rfl, by first | omega | simp_all, rfl, hs.sel [0, 1] (by decide)⟩
            · skip
              rintro c3_14 w3_14 ⟨hm, rfl, hy⟩
              replace hs := hs.call hy
              clear hy
              try simp only [List.cons_append, List.nil_append, List.append_nil] at hs
              repeat (first | refine Z.pthen ?_ | refine Z.pblock ?_ | refine Z.pscope ?_)
              -- ret#1
              refine Z.outp ?_
              exact .inr ⟨_, rfl, by first | omega | simp_all, rfl, _, hs.sel [0, 1] (by decide)⟩
            )
      · first
          | (exfalso; simp at hsp15 <;> omega)
          | (
            refine Z.yes (s := 15) (b := false) rfl hsp15 rfl ?_
            (try simp at hsp15)
            refine Z.ls rfl rfl rfl (by rfl) ?_
            refine Z.ls rfl rfl rfl (by rfl) ?_
            refine Z.ls rfl rfl rfl (by rfl) ?_
            refine Z.ls rfl rfl rfl (by rfl) ?_
            refine Z.lsU rfl rfl rfl (by rfl) ?_
            refine Z.lsU rfl rfl rfl (by rfl) ?_
            refine Z.lsU rfl rfl rfl (by rfl) ?_
            refine Z.lsU rfl rfl rfl (by rfl) ?_
            refine Z.lsU rfl rfl rfl (by rfl) ?_
            refine Z.ls rfl rfl rfl (by rfl) ?_
            refine Z.l rfl rfl (by rfl) (Z.keepS hs) (Z.Yd.pickF rfl rfl) ?_
            refine Z.le rfl trivial ?_
            refine Z.ZO.callB rfl rfl (by rfl) rfl rfl Try.call31 rfl (mm_must_any _ 9 _) ?_ ?_
            · skip
              rintro v3_14 w3_14 ⟨hm, rfl, hy⟩
              replace hs := hs.call hy
              clear hy
              try simp only [List.cons_append, List.nil_append, List.append_nil] at hs
              refine Z.lnil ?_
              refine Z.only [4] rfl ?_
              refine Z.nthen ?_
              refine Z.seq ?_
              refine Z.region ?_
              refine Z.lb 2 rfl ?_
              refine Z.lnil ?_
              refine Z.only [2] rfl ?_
              refine Z.nthen ?_
              refine Z.ret ?_
              -- ret#2
              refine Z.out1 (by exact ⟨rfl, trivial⟩) ?_
              exact .inl ⟨_, rfl, by first | omega | simp_all, rfl, hs.sel [0, 1] (by decide)⟩
            · skip
              rintro c3_14 w3_14 ⟨hm, rfl, hy⟩
              replace hs := hs.call hy
              clear hy
              try simp only [List.cons_append, List.nil_append, List.append_nil] at hs
              repeat (first | refine Z.pthen ?_ | refine Z.pblock ?_ | refine Z.pscope ?_)
              -- ret#3
              refine Z.outp ?_
              exact .inr ⟨_, rfl, by first | omega | simp_all, rfl, _, hs.sel [0, 1] (by decide)⟩
            )
    · skip
      refine Z.ZO.alloc rfl rfl (by rfl) Try.zeroValue75 rfl hs ?_
      clear hs; intro g3 w3 hs
      refine Z.tk (Dn := fun _ => true) (i := 4) (fun _ => ⟨_, hs, by first | (simp; done) | exact fun e he => List.mem_append_right _ he⟩) ?_
      first
      | replace hs : SX.St w M _ (RdL g T sv l (8 * p) ++ [_]) := hs.rot (L1 := [_])
      | replace hs : SX.St w M _ (RdL g T sv l (8 * p) ++ [_, _]) := hs.rot (L1 := [_, _])
      refine Z.tn 2 rfl rfl (by kernel_rfl) rfl trivial ?_
      refine Z.ZO.call rfl rfl (by rfl) rfl rfl Try.call55 rfl (mm_bits_ok g T sv l (8 * p) 1 _ hs.lend hl hb (by omega) (by omega)) ?_
      rintro v1_2 w1_2 ⟨rfl, hz⟩
      replace hs := hs.regain hz
      rw [e1]
      simp only [RdL, List.cons_append, List.nil_append] at hs
      refine Z.tk (Dn := fun _ => true) (i := 2) (fun _ => ⟨_, hs, by first | (simp; done) | exact fun e he => List.mem_append_right _ he⟩) ?_
      refine Z.t 3 rfl rfl rfl (by rfl) (by kernel_rfl) ⟨_, hs, by first | (simp; done) | exact fun e he => List.mem_append_right _ he⟩ (Z.Yd.index (v := .agg #[.int .u64 0, .int .i64 7, .int .i64 127]) rfl rfl (by intro _ w; kernel_rfl)) ?_
      refine Z.tn 5 rfl rfl (by kernel_rfl) rfl trivial ?_
      first | refine Z.ZO.storeA rfl rfl hs rfl rfl (by kernel_rfl) (by first | (simp [Value.oneCell']; done) | (refine Z.all_one ?_; assumption)) (by first | exact SX.at0 | exact SX.at1 | exact SX.at2 | exact SX.at3 | exact SX.at4 | exact SX.at5 | exact Z.at6 | exact Z.at7 | exact Z.at8 | exact Z.at9 | exact Z.at10 | exact Z.at11 | exact Z.at12) (by rfl) ?_ | refine Z.ZO.storeP rfl rfl hs rfl rfl (by kernel_rfl) (by first | (simp [Value.oneCell']; done) | (refine Z.all_one ?_; assumption)) (by first | exact SX.at0 | exact SX.at1 | exact SX.at2 | exact SX.at3 | exact SX.at4 | exact SX.at5 | exact Z.at6 | exact Z.at7 | exact Z.at8 | exact Z.at9 | exact Z.at10 | exact Z.at11 | exact Z.at12) (by first | decide | (simp; done) | (simp; omega)) ?_ | refine Z.ZO.storePR rfl rfl hs rfl rfl (by kernel_rfl) (by first | (simp [Value.oneCell']; done) | (refine Z.all_one ?_; assumption)) (by first | exact SX.at0 | exact SX.at1 | exact SX.at2 | exact SX.at3 | exact SX.at4 | exact SX.at5 | exact Z.at6 | exact Z.at7 | exact Z.at8 | exact Z.at9 | exact Z.at10 | exact Z.at11 | exact Z.at12) (by first | decide | (simp; done) | (simp; omega)) ?_
      clear hs; intro ws hs
      simp only [Nat.zero_add, Nat.add_zero, Nat.reduceAdd, Int.reduceToNat, Nat.reduceMul, List.set_cons_zero, List.set_cons_succ, List.setIfInBounds_toArray] at hs
      try simp only [Z.putL, Nat.zero_add] at hs
      refine Z.tk (Dn := fun _ => true) (i := 5) (fun _ => ⟨_, hs, by first | (simp; done) | exact fun e he => List.mem_append_right _ he⟩) ?_
      refine Z.td (by rfl) (by kernel_rfl) ?_
      refine Z.only [1, 3] rfl ?_
      refine Z.nthen ?_
      refine Z.seq ?_
      refine Z.region ?_
      refine Z.l rfl rfl (by rfl) (Z.keepS hs) (by first | exact Z.Yd.loadA _ rfl Try.isAgg88 (fun _ => Z.cellsB (by first | ((repeat (first | exact List.mem_cons_self | refine List.mem_cons_of_mem _ ?_ | refine List.mem_append_right _ ?_)); done) | fail)) (by exact Try.sizeOf88) | fail "load 2.0") ?_
      refine Z.l rfl rfl (by rfl) (Z.keepS hs) (Z.Yd.fieldA (m := 1) rfl (by kernel_rfl)) ?_
      refine Z.l rfl rfl (by rfl) (Z.keepS hs) (by first | exact Z.Yd.load rfl Try.isAgg3 (fun _ => Z.cellB (by first | ((repeat (first | exact List.mem_cons_self | refine List.mem_cons_of_mem _ ?_ | refine List.mem_append_right _ ?_)); done) | fail) rfl) | exact Z.Yd.load rfl Try.isAgg3 (fun _ => Z.cellO (by assumption) (by simp) (by assumption)) | fail "load 2.2") ?_
      first
      | replace hs : SX.St w M _ (RdL g T sv l (8 * p + 1) ++ [SX.Ent.blk g3 _ _, SX.Ent.blk g1 _ _]) := hs.sel [1, 2, 0, 3] (by decide)
      | replace hs : SX.St w M _ (RdL g T sv l (8 * p + 1) ++ [SX.Ent.blk g3 _ _, SX.Ent.blk g1 _ _]) := hs.sel [0, 1, 2, 3] (by decide)
      refine Z.le rfl trivial ?_
      refine Z.ZO.call rfl rfl (by rfl) rfl rfl Try.call55 rfl (mm_bits_ok g T sv l (8 * p + 1) 7 _ hs.lend hl hb (by omega) (by omega)) ?_
      rintro v2_3 w2_3 ⟨rfl, hz⟩
      replace hs := hs.regain hz
      rw [e2]
      simp only [RdL, List.cons_append, List.nil_append] at hs
      refine Z.lb 1 rfl ?_
      refine Z.lnil ?_
      refine Z.only [3, 4] rfl ?_
      refine Z.nthen ?_
      refine Z.seq ?_
      refine Z.region ?_
      refine Z.lb 3 rfl ?_
      refine Z.split (s := 15) rfl (fun hsp15 => ?_) (fun hsp15 => ?_)
      · first
          | (exfalso; simp at hsp15 <;> omega)
          | (
            refine Z.yes (s := 15) (b := true) rfl hsp15 rfl ?_
            (try simp at hsp15)
            refine Z.l rfl rfl (by rfl) (Z.keepS hs) (Z.Yd.fieldA (m := 0) rfl (by kernel_rfl)) ?_
            refine Z.l rfl rfl (by rfl) (Z.keepS hs) (by first | exact Z.Yd.load rfl Try.isAgg68 (fun _ => Z.cellB (by first | ((repeat (first | exact List.mem_cons_self | refine List.mem_cons_of_mem _ ?_ | refine List.mem_append_right _ ?_)); done) | fail) rfl) | exact Z.Yd.load rfl Try.isAgg68 (fun _ => Z.cellO (by assumption) (by simp) (by assumption)) | fail "load 3.4") ?_
            refine Z.lb 2 rfl ?_
            refine Z.yes (s := 15) (b := true) rfl rfl rfl ?_
            refine Z.yes (s := 19) (b := true) rfl ((by simp)) rfl ?_
            refine Z.ls rfl rfl rfl (by rfl) ?_
            refine Z.ls rfl rfl rfl (by rfl) ?_
            refine Z.ls rfl rfl rfl (by rfl) ?_
            refine Z.ls rfl rfl rfl (by rfl) ?_
            refine Z.ls rfl rfl rfl (by rfl) ?_
            refine Z.l rfl rfl (by rfl) (Z.keepS hs) (Z.Yd.pickT rfl rfl) ?_
            refine Z.yes (s := 15) (b := true) rfl rfl rfl ?_
            refine Z.l rfl rfl (by rfl) (Z.keepS hs) (Z.Yd.pickT rfl rfl) ?_
            refine Z.le rfl trivial ?_
            refine Z.ZO.callB rfl rfl (by rfl) rfl rfl Try.call31 rfl (mm_must_any _ 9 _) ?_ ?_
            · skip
              rintro v3_14 w3_14 ⟨hm, rfl, hy⟩
              replace hs := hs.call hy
              clear hy
              try simp only [List.cons_append, List.nil_append, List.append_nil] at hs
              refine Z.lnil ?_
              refine Z.only [4] rfl ?_
              refine Z.nthen ?_
              refine Z.seq ?_
              refine Z.region ?_
              refine Z.lb 2 rfl ?_
              refine Z.lnil ?_
              refine Z.only [2] rfl ?_
              refine Z.nthen ?_
              refine Z.ret ?_
              -- ret#4
              refine Z.out1 (by exact ⟨rfl, trivial⟩) ?_
              exact .inl ⟨_, rfl, by first | omega | simp_all, rfl, hs.sel [0, 1] (by decide)⟩
            · skip
              rintro c3_14 w3_14 ⟨hm, rfl, hy⟩
              replace hs := hs.call hy
              clear hy
              try simp only [List.cons_append, List.nil_append, List.append_nil] at hs
              repeat (first | refine Z.pthen ?_ | refine Z.pblock ?_ | refine Z.pscope ?_)
              -- ret#5
              refine Z.outp ?_
              exact .inr ⟨_, rfl, by first | omega | simp_all, rfl, _, hs.sel [0, 1] (by decide)⟩
            )
      · first
          | (exfalso; simp at hsp15 <;> omega)
          | (
            refine Z.yes (s := 15) (b := false) rfl hsp15 rfl ?_
            (try simp at hsp15)
            refine Z.ls rfl rfl rfl (by rfl) ?_
            refine Z.ls rfl rfl rfl (by rfl) ?_
            refine Z.ls rfl rfl rfl (by rfl) ?_
            refine Z.ls rfl rfl rfl (by rfl) ?_
            refine Z.lsU rfl rfl rfl (by rfl) ?_
            refine Z.lsU rfl rfl rfl (by rfl) ?_
            refine Z.lsU rfl rfl rfl (by rfl) ?_
            refine Z.lsU rfl rfl rfl (by rfl) ?_
            refine Z.lsU rfl rfl rfl (by rfl) ?_
            refine Z.ls rfl rfl rfl (by rfl) ?_
            refine Z.l rfl rfl (by rfl) (Z.keepS hs) (Z.Yd.pickF rfl rfl) ?_
            refine Z.le rfl trivial ?_
            refine Z.ZO.callB rfl rfl (by rfl) rfl rfl Try.call31 rfl (mm_must_any _ 9 _) ?_ ?_
            · skip
              rintro v3_14 w3_14 ⟨hm, rfl, hy⟩
              replace hs := hs.call hy
              clear hy
              try simp only [List.cons_append, List.nil_append, List.append_nil] at hs
              refine Z.lnil ?_
              refine Z.only [4] rfl ?_
              refine Z.nthen ?_
              refine Z.seq ?_
              refine Z.region ?_
              refine Z.lb 2 rfl ?_
              refine Z.lnil ?_
              refine Z.only [2] rfl ?_
              refine Z.nthen ?_
              refine Z.ret ?_
              -- ret#6
              refine Z.out1 (by exact ⟨rfl, trivial⟩) ?_
              exact .inl ⟨_, rfl, by first | omega | simp_all, rfl, hs.sel [0, 1] (by decide)⟩
            · skip
              rintro c3_14 w3_14 ⟨hm, rfl, hy⟩
              replace hs := hs.call hy
              clear hy
              try simp only [List.cons_append, List.nil_append, List.append_nil] at hs
              repeat (first | refine Z.pthen ?_ | refine Z.pblock ?_ | refine Z.pscope ?_)
              -- ret#7
              refine Z.outp ?_
              exact .inr ⟨_, rfl, by first | omega | simp_all, rfl, _, hs.sel [0, 1] (by decide)⟩
            )
  · skip
    refine Z.ZO.alloc rfl rfl (by rfl) Try.zeroValue75 rfl hs ?_
    clear hs; intro g3 w3 hs
    refine Z.tk (Dn := fun _ => true) (i := 4) (fun _ => ⟨_, hs, by first | (simp; done) | exact fun e he => List.mem_append_right _ he⟩) ?_
    refine Z.tn 0 rfl rfl (by kernel_rfl) rfl trivial ?_
    refine Z.ZO.call rfl rfl (by rfl) rfl rfl Try.call36 rfl (mc_formats _) ?_
    rintro v1_0 w1_0 ⟨rfl, hy⟩
    replace hs := hs.call hy
    clear hy
    try simp only [List.cons_append, List.nil_append, List.append_nil] at hs
    refine Z.tk (Dn := fun _ => true) (i := 0) (fun _ => ⟨_, hs, by first | (simp; done) | exact fun e he => List.mem_append_right _ he⟩) ?_
    first
    | replace hs : SX.St w M _ (RdL g T sv l (8 * p) ++ [_]) := hs.rot (L1 := [_])
    | replace hs : SX.St w M _ (RdL g T sv l (8 * p) ++ [_, _]) := hs.rot (L1 := [_, _])
    refine Z.tn 2 rfl rfl (by kernel_rfl) rfl trivial ?_
    refine Z.ZO.call rfl rfl (by rfl) rfl rfl Try.call55 rfl (mm_bits_ok g T sv l (8 * p) 1 _ hs.lend hl hb (by omega) (by omega)) ?_
    rintro v1_2 w1_2 ⟨rfl, hz⟩
    replace hs := hs.regain hz
    rw [e1]
    simp only [RdL, List.cons_append, List.nil_append] at hs
    refine Z.tk (Dn := fun _ => true) (i := 2) (fun _ => ⟨_, hs, by first | (simp; done) | exact fun e he => List.mem_append_right _ he⟩) ?_
    refine Z.t 3 rfl rfl rfl (by rfl) (by kernel_rfl) ⟨_, hs, by first | (simp; done) | exact fun e he => List.mem_append_right _ he⟩ (Z.Yd.index (v := .agg #[.int .u64 0, .int .i64 7, .int .i64 127]) rfl rfl (by intro _ w; kernel_rfl)) ?_
    refine Z.tn 5 rfl rfl (by kernel_rfl) rfl trivial ?_
    first | refine Z.ZO.storeA rfl rfl hs rfl rfl (by kernel_rfl) (by first | (simp [Value.oneCell']; done) | (refine Z.all_one ?_; assumption)) (by first | exact SX.at0 | exact SX.at1 | exact SX.at2 | exact SX.at3 | exact SX.at4 | exact SX.at5 | exact Z.at6 | exact Z.at7 | exact Z.at8 | exact Z.at9 | exact Z.at10 | exact Z.at11 | exact Z.at12) (by rfl) ?_ | refine Z.ZO.storeP rfl rfl hs rfl rfl (by kernel_rfl) (by first | (simp [Value.oneCell']; done) | (refine Z.all_one ?_; assumption)) (by first | exact SX.at0 | exact SX.at1 | exact SX.at2 | exact SX.at3 | exact SX.at4 | exact SX.at5 | exact Z.at6 | exact Z.at7 | exact Z.at8 | exact Z.at9 | exact Z.at10 | exact Z.at11 | exact Z.at12) (by first | decide | (simp; done) | (simp; omega)) ?_ | refine Z.ZO.storePR rfl rfl hs rfl rfl (by kernel_rfl) (by first | (simp [Value.oneCell']; done) | (refine Z.all_one ?_; assumption)) (by first | exact SX.at0 | exact SX.at1 | exact SX.at2 | exact SX.at3 | exact SX.at4 | exact SX.at5 | exact Z.at6 | exact Z.at7 | exact Z.at8 | exact Z.at9 | exact Z.at10 | exact Z.at11 | exact Z.at12) (by first | decide | (simp; done) | (simp; omega)) ?_
    clear hs; intro ws hs
    simp only [Nat.zero_add, Nat.add_zero, Nat.reduceAdd, Int.reduceToNat, Nat.reduceMul, List.set_cons_zero, List.set_cons_succ, List.setIfInBounds_toArray] at hs
    try simp only [Z.putL, Nat.zero_add] at hs
    refine Z.tk (Dn := fun _ => true) (i := 5) (fun _ => ⟨_, hs, by first | (simp; done) | exact fun e he => List.mem_append_right _ he⟩) ?_
    refine Z.td (by rfl) (by kernel_rfl) ?_
    refine Z.only [1, 3] rfl ?_
    refine Z.nthen ?_
    refine Z.seq ?_
    refine Z.region ?_
    refine Z.l rfl rfl (by rfl) (Z.keepS hs) (by first | exact Z.Yd.loadA _ rfl Try.isAgg88 (fun _ => Z.cellsB (by first | ((repeat (first | exact List.mem_cons_self | refine List.mem_cons_of_mem _ ?_ | refine List.mem_append_right _ ?_)); done) | fail)) (by exact Try.sizeOf88) | fail "load 2.0") ?_
    refine Z.l rfl rfl (by rfl) (Z.keepS hs) (Z.Yd.fieldA (m := 1) rfl (by kernel_rfl)) ?_
    refine Z.l rfl rfl (by rfl) (Z.keepS hs) (by first | exact Z.Yd.load rfl Try.isAgg3 (fun _ => Z.cellB (by first | ((repeat (first | exact List.mem_cons_self | refine List.mem_cons_of_mem _ ?_ | refine List.mem_append_right _ ?_)); done) | fail) rfl) | exact Z.Yd.load rfl Try.isAgg3 (fun _ => Z.cellO (by assumption) (by simp) (by assumption)) | fail "load 2.2") ?_
    first
    | replace hs : SX.St w M _ (RdL g T sv l (8 * p + 1) ++ [SX.Ent.blk g3 _ _, SX.Ent.blk g1 _ _]) := hs.sel [1, 2, 0, 3] (by decide)
    | replace hs : SX.St w M _ (RdL g T sv l (8 * p + 1) ++ [SX.Ent.blk g3 _ _, SX.Ent.blk g1 _ _]) := hs.sel [0, 1, 2, 3] (by decide)
    refine Z.le rfl trivial ?_
    refine Z.ZO.call rfl rfl (by rfl) rfl rfl Try.call55 rfl (mm_bits_ok g T sv l (8 * p + 1) 7 _ hs.lend hl hb (by omega) (by omega)) ?_
    rintro v2_3 w2_3 ⟨rfl, hz⟩
    replace hs := hs.regain hz
    rw [e2]
    simp only [RdL, List.cons_append, List.nil_append] at hs
    refine Z.lb 1 rfl ?_
    refine Z.lnil ?_
    refine Z.only [3, 4] rfl ?_
    refine Z.nthen ?_
    refine Z.seq ?_
    refine Z.region ?_
    refine Z.lb 3 rfl ?_
    refine Z.split (s := 15) rfl (fun hsp15 => ?_) (fun hsp15 => ?_)
    · first
        | (exfalso; simp at hsp15 <;> omega)
        | (
          refine Z.yes (s := 15) (b := true) rfl hsp15 rfl ?_
          (try simp at hsp15)
          refine Z.l rfl rfl (by rfl) (Z.keepS hs) (Z.Yd.fieldA (m := 0) rfl (by kernel_rfl)) ?_
          refine Z.l rfl rfl (by rfl) (Z.keepS hs) (by first | exact Z.Yd.load rfl Try.isAgg68 (fun _ => Z.cellB (by first | ((repeat (first | exact List.mem_cons_self | refine List.mem_cons_of_mem _ ?_ | refine List.mem_append_right _ ?_)); done) | fail) rfl) | exact Z.Yd.load rfl Try.isAgg68 (fun _ => Z.cellO (by assumption) (by simp) (by assumption)) | fail "load 3.4") ?_
          refine Z.lb 2 rfl ?_
          refine Z.yes (s := 15) (b := true) rfl rfl rfl ?_
          refine Z.yes (s := 19) (b := true) rfl ((by simp)) rfl ?_
          refine Z.ls rfl rfl rfl (by rfl) ?_
          refine Z.ls rfl rfl rfl (by rfl) ?_
          refine Z.ls rfl rfl rfl (by rfl) ?_
          refine Z.ls rfl rfl rfl (by rfl) ?_
          refine Z.ls rfl rfl rfl (by rfl) ?_
          refine Z.l rfl rfl (by rfl) (Z.keepS hs) (Z.Yd.pickT rfl rfl) ?_
          refine Z.yes (s := 15) (b := true) rfl rfl rfl ?_
          refine Z.l rfl rfl (by rfl) (Z.keepS hs) (Z.Yd.pickT rfl rfl) ?_
          refine Z.le rfl trivial ?_
          refine Z.ZO.callB rfl rfl (by rfl) rfl rfl Try.call31 rfl (mm_must_any _ 9 _) ?_ ?_
          · skip
            rintro v3_14 w3_14 ⟨hm, rfl, hy⟩
            replace hs := hs.call hy
            clear hy
            try simp only [List.cons_append, List.nil_append, List.append_nil] at hs
            refine Z.lnil ?_
            refine Z.only [4] rfl ?_
            refine Z.nthen ?_
            refine Z.seq ?_
            refine Z.region ?_
            refine Z.lb 2 rfl ?_
            refine Z.lnil ?_
            refine Z.only [2] rfl ?_
            refine Z.nthen ?_
            refine Z.ret ?_
            -- ret#8
            refine Z.out1 (by exact ⟨rfl, trivial⟩) ?_
            exact .inl ⟨_, rfl, by first | omega | simp_all, rfl, hs.sel [0, 1] (by decide)⟩
          · skip
            rintro c3_14 w3_14 ⟨hm, rfl, hy⟩
            replace hs := hs.call hy
            clear hy
            try simp only [List.cons_append, List.nil_append, List.append_nil] at hs
            repeat (first | refine Z.pthen ?_ | refine Z.pblock ?_ | refine Z.pscope ?_)
            -- ret#9
            refine Z.outp ?_
            exact .inr ⟨_, rfl, by first | omega | simp_all, rfl, _, hs.sel [0, 1] (by decide)⟩
          )
    · first
        | (exfalso; simp at hsp15 <;> omega)
        | (
          refine Z.yes (s := 15) (b := false) rfl hsp15 rfl ?_
          (try simp at hsp15)
          refine Z.ls rfl rfl rfl (by rfl) ?_
          refine Z.ls rfl rfl rfl (by rfl) ?_
          refine Z.ls rfl rfl rfl (by rfl) ?_
          refine Z.ls rfl rfl rfl (by rfl) ?_
          refine Z.lsU rfl rfl rfl (by rfl) ?_
          refine Z.lsU rfl rfl rfl (by rfl) ?_
          refine Z.lsU rfl rfl rfl (by rfl) ?_
          refine Z.lsU rfl rfl rfl (by rfl) ?_
          refine Z.lsU rfl rfl rfl (by rfl) ?_
          refine Z.ls rfl rfl rfl (by rfl) ?_
          refine Z.l rfl rfl (by rfl) (Z.keepS hs) (Z.Yd.pickF rfl rfl) ?_
          refine Z.le rfl trivial ?_
          refine Z.ZO.callB rfl rfl (by rfl) rfl rfl Try.call31 rfl (mm_must_any _ 9 _) ?_ ?_
          · skip
            rintro v3_14 w3_14 ⟨hm, rfl, hy⟩
            replace hs := hs.call hy
            clear hy
            try simp only [List.cons_append, List.nil_append, List.append_nil] at hs
            refine Z.lnil ?_
            refine Z.only [4] rfl ?_
            refine Z.nthen ?_
            refine Z.seq ?_
            refine Z.region ?_
            refine Z.lb 2 rfl ?_
            refine Z.lnil ?_
            refine Z.only [2] rfl ?_
            refine Z.nthen ?_
            refine Z.ret ?_
            -- ret#10
            refine Z.out1 (by exact ⟨rfl, trivial⟩) ?_
            exact .inl ⟨_, rfl, by first | omega | simp_all, rfl, hs.sel [0, 1] (by decide)⟩
          · skip
            rintro c3_14 w3_14 ⟨hm, rfl, hy⟩
            replace hs := hs.call hy
            clear hy
            try simp only [List.cons_append, List.nil_append, List.append_nil] at hs
            repeat (first | refine Z.pthen ?_ | refine Z.pblock ?_ | refine Z.pscope ?_)
            -- ret#11
            refine Z.outp ?_
            exact .inr ⟨_, rfl, by first | omega | simp_all, rfl, _, hs.sel [0, 1] (by decide)⟩
          )
set_option maxHeartbeats 1000000 in
set_option maxRecDepth 100000 in
theorem ml_cut (g T : Nat) (sv : Value) (l : List Int) (p : Nat) (w : World) (hs : SX.St w (SX.idsOf (RdL g T sv l (8 * p))) w (RdL g T sv l (8 * p))) (hl : l.length ≤ 1000000) (hb : ∀ x ∈ l, 0 ≤ x ∧ x < 256) (h : p < l.length) (h1 : ¬ byB l p < 128) (h2 : ¬ p + 1 < l.length) :
    Calls Try.prog 56 #[.agg #[.pointer (some ⟨g, 0, none⟩)]] w (MPan 5 fun w' => ∃ a', SX.St w (SX.idsOf (RdL g T sv l (8 * p))) w' (RdL g T sv l a')) := by
  generalize hM : SX.idsOf (RdL g T sv l (8 * p)) = M at *
  obtain ⟨-, -, -, f4, f5, -⟩ := head_get hb h
  have h0 := byB_bd hb h
  have e1 : getV l (8 * p) ((1 : Nat) : Int) = 1 := by
    have : getV l (8 * p) 1 = 1 := by rw [f4]; omega
    exact this
  refine Z.enter Try.func56 rfl Try.ntmps56 rfl rfl ?_
  refine Z.seq ?_
  refine Z.region ?_
  refine Z.le rfl trivial ?_
  refine Z.ZO.box rfl rfl (by rfl) rfl rfl hs ?_
  clear hs; intro g1 w1 hs
  refine Z.lb 1 rfl ?_
  refine Z.lnil ?_
  refine Z.only [1] rfl ?_
  refine Z.nthen ?_
  refine Z.seq ?_
  refine Z.drawL [SX.Ent.blk g1 88 #[.pointer (some ⟨g, 0, none⟩)]] (fun _ => true) mixed hs ?_
  clear hs; intro wd1 hs
  refine Z.t 1 rfl rfl rfl (by rfl) (by kernel_rfl) ⟨_, hs, by first | (simp; done) | exact fun e he => List.mem_append_right _ he⟩ (by first | exact Z.Yd.loadA _ rfl Try.isAgg88 (fun _ => Z.cellsB (by first | ((repeat (first | exact List.mem_cons_self | refine List.mem_cons_of_mem _ ?_ | refine List.mem_append_right _ ?_)); done) | fail)) (by exact Try.sizeOf88) | fail "load 1.1") ?_
  refine Z.fork2 0 4 rfl rfl rfl (by kernel_rfl) rfl rfl trivial trivial ?_ ?_
  · skip
    refine Z.ZO.call rfl rfl (by rfl) rfl rfl Try.call36 rfl (mc_formats _) ?_
    rintro v1_0 w1_0 ⟨rfl, hy⟩
    replace hs := hs.call hy
    clear hy
    try simp only [List.cons_append, List.nil_append, List.append_nil] at hs
    refine Z.tk (Dn := fun _ => true) (i := 0) (fun _ => ⟨_, hs, by first | (simp; done) | exact fun e he => List.mem_append_right _ he⟩) ?_
    refine Z.fork2 2 4 rfl rfl rfl (by kernel_rfl) rfl rfl trivial trivial ?_ ?_
    · skip
      first
      | replace hs : SX.St w M _ (RdL g T sv l (8 * p) ++ [_]) := hs.rot (L1 := [_])
      | replace hs : SX.St w M _ (RdL g T sv l (8 * p) ++ [_, _]) := hs.rot (L1 := [_, _])
      refine Z.ZO.call rfl rfl (by rfl) rfl rfl Try.call55 rfl (mm_bits_ok g T sv l (8 * p) 1 _ hs.lend hl hb (by omega) (by omega)) ?_
      rintro v1_2 w1_2 ⟨rfl, hz⟩
      replace hs := hs.regain hz
      rw [e1]
      simp only [RdL, List.cons_append, List.nil_append] at hs
      refine Z.tk (Dn := fun _ => true) (i := 2) (fun _ => ⟨_, hs, by first | (simp; done) | exact fun e he => List.mem_append_right _ he⟩) ?_
      refine Z.t 3 rfl rfl rfl (by rfl) (by kernel_rfl) ⟨_, hs, by first | (simp; done) | exact fun e he => List.mem_append_right _ he⟩ (Z.Yd.index (v := .agg #[.int .u64 1, .int .i64 15, .int .i64 32767]) rfl rfl (by intro _ w; kernel_rfl)) ?_
      refine Z.tn 4 rfl rfl (by kernel_rfl) rfl trivial ?_
      refine Z.ZO.alloc rfl rfl (by rfl) Try.zeroValue75 rfl hs ?_
      clear hs; intro g3 w3 hs
      refine Z.tk (Dn := fun _ => true) (i := 4) (fun _ => ⟨_, hs, by first | (simp; done) | exact fun e he => List.mem_append_right _ he⟩) ?_
      refine Z.tn 5 rfl rfl (by kernel_rfl) rfl trivial ?_
      first | refine Z.ZO.storeA rfl rfl hs rfl rfl (by kernel_rfl) (by first | (simp [Value.oneCell']; done) | (refine Z.all_one ?_; assumption)) (by first | exact SX.at0 | exact SX.at1 | exact SX.at2 | exact SX.at3 | exact SX.at4 | exact SX.at5 | exact Z.at6 | exact Z.at7 | exact Z.at8 | exact Z.at9 | exact Z.at10 | exact Z.at11 | exact Z.at12) (by rfl) ?_ | refine Z.ZO.storeP rfl rfl hs rfl rfl (by kernel_rfl) (by first | (simp [Value.oneCell']; done) | (refine Z.all_one ?_; assumption)) (by first | exact SX.at0 | exact SX.at1 | exact SX.at2 | exact SX.at3 | exact SX.at4 | exact SX.at5 | exact Z.at6 | exact Z.at7 | exact Z.at8 | exact Z.at9 | exact Z.at10 | exact Z.at11 | exact Z.at12) (by first | decide | (simp; done) | (simp; omega)) ?_ | refine Z.ZO.storePR rfl rfl hs rfl rfl (by kernel_rfl) (by first | (simp [Value.oneCell']; done) | (refine Z.all_one ?_; assumption)) (by first | exact SX.at0 | exact SX.at1 | exact SX.at2 | exact SX.at3 | exact SX.at4 | exact SX.at5 | exact Z.at6 | exact Z.at7 | exact Z.at8 | exact Z.at9 | exact Z.at10 | exact Z.at11 | exact Z.at12) (by first | decide | (simp; done) | (simp; omega)) ?_
      clear hs; intro ws hs
      simp only [Nat.zero_add, Nat.add_zero, Nat.reduceAdd, Int.reduceToNat, Nat.reduceMul, List.set_cons_zero, List.set_cons_succ, List.setIfInBounds_toArray] at hs
      try simp only [Z.putL, Nat.zero_add] at hs
      refine Z.tk (Dn := fun _ => true) (i := 5) (fun _ => ⟨_, hs, by first | (simp; done) | exact fun e he => List.mem_append_right _ he⟩) ?_
      refine Z.td (by rfl) (by kernel_rfl) ?_
      refine Z.only [1, 3] rfl ?_
      refine Z.nthen ?_
      refine Z.seq ?_
      refine Z.region ?_
      refine Z.l rfl rfl (by rfl) (Z.keepS hs) (by first | exact Z.Yd.loadA _ rfl Try.isAgg88 (fun _ => Z.cellsB (by first | ((repeat (first | exact List.mem_cons_self | refine List.mem_cons_of_mem _ ?_ | refine List.mem_append_right _ ?_)); done) | fail)) (by exact Try.sizeOf88) | fail "load 2.0") ?_
      refine Z.l rfl rfl (by rfl) (Z.keepS hs) (Z.Yd.fieldA (m := 1) rfl (by kernel_rfl)) ?_
      refine Z.l rfl rfl (by rfl) (Z.keepS hs) (by first | exact Z.Yd.load rfl Try.isAgg3 (fun _ => Z.cellB (by first | ((repeat (first | exact List.mem_cons_self | refine List.mem_cons_of_mem _ ?_ | refine List.mem_append_right _ ?_)); done) | fail) rfl) | exact Z.Yd.load rfl Try.isAgg3 (fun _ => Z.cellO (by assumption) (by simp) (by assumption)) | fail "load 2.2") ?_
      first
      | replace hs : SX.St w M _ (RdL g T sv l (8 * p + 1) ++ [SX.Ent.blk g3 _ _, SX.Ent.blk g1 _ _]) := hs.sel [1, 2, 0, 3] (by decide)
      | replace hs : SX.St w M _ (RdL g T sv l (8 * p + 1) ++ [SX.Ent.blk g3 _ _, SX.Ent.blk g1 _ _]) := hs.sel [0, 1, 2, 3] (by decide)
      refine Z.le rfl trivial ?_
      refine Z.ZO.callP rfl rfl rfl Try.call55 rfl (mm_bits_bad g T sv l (8 * p + 1) 15 _ hs.lend hl hb (by omega) (by omega) (by omega)) ?_
      rintro c2_3 w2_3 ⟨rfl, a', hz⟩
      replace hs := hs.regain hz
      repeat (first | refine Z.pthen ?_ | refine Z.pblock ?_ | refine Z.pscope ?_)
      -- ret#0
      refine Z.outp ?_
      exact ⟨_, rfl, rfl, _, hs.sub (List.sublist_append_left _ _)⟩
    · skip
      refine Z.ZO.alloc rfl rfl (by rfl) Try.zeroValue75 rfl hs ?_
      clear hs; intro g3 w3 hs
      refine Z.tk (Dn := fun _ => true) (i := 4) (fun _ => ⟨_, hs, by first | (simp; done) | exact fun e he => List.mem_append_right _ he⟩) ?_
      first
      | replace hs : SX.St w M _ (RdL g T sv l (8 * p) ++ [_]) := hs.rot (L1 := [_])
      | replace hs : SX.St w M _ (RdL g T sv l (8 * p) ++ [_, _]) := hs.rot (L1 := [_, _])
      refine Z.tn 2 rfl rfl (by kernel_rfl) rfl trivial ?_
      refine Z.ZO.call rfl rfl (by rfl) rfl rfl Try.call55 rfl (mm_bits_ok g T sv l (8 * p) 1 _ hs.lend hl hb (by omega) (by omega)) ?_
      rintro v1_2 w1_2 ⟨rfl, hz⟩
      replace hs := hs.regain hz
      rw [e1]
      simp only [RdL, List.cons_append, List.nil_append] at hs
      refine Z.tk (Dn := fun _ => true) (i := 2) (fun _ => ⟨_, hs, by first | (simp; done) | exact fun e he => List.mem_append_right _ he⟩) ?_
      refine Z.t 3 rfl rfl rfl (by rfl) (by kernel_rfl) ⟨_, hs, by first | (simp; done) | exact fun e he => List.mem_append_right _ he⟩ (Z.Yd.index (v := .agg #[.int .u64 1, .int .i64 15, .int .i64 32767]) rfl rfl (by intro _ w; kernel_rfl)) ?_
      refine Z.tn 5 rfl rfl (by kernel_rfl) rfl trivial ?_
      first | refine Z.ZO.storeA rfl rfl hs rfl rfl (by kernel_rfl) (by first | (simp [Value.oneCell']; done) | (refine Z.all_one ?_; assumption)) (by first | exact SX.at0 | exact SX.at1 | exact SX.at2 | exact SX.at3 | exact SX.at4 | exact SX.at5 | exact Z.at6 | exact Z.at7 | exact Z.at8 | exact Z.at9 | exact Z.at10 | exact Z.at11 | exact Z.at12) (by rfl) ?_ | refine Z.ZO.storeP rfl rfl hs rfl rfl (by kernel_rfl) (by first | (simp [Value.oneCell']; done) | (refine Z.all_one ?_; assumption)) (by first | exact SX.at0 | exact SX.at1 | exact SX.at2 | exact SX.at3 | exact SX.at4 | exact SX.at5 | exact Z.at6 | exact Z.at7 | exact Z.at8 | exact Z.at9 | exact Z.at10 | exact Z.at11 | exact Z.at12) (by first | decide | (simp; done) | (simp; omega)) ?_ | refine Z.ZO.storePR rfl rfl hs rfl rfl (by kernel_rfl) (by first | (simp [Value.oneCell']; done) | (refine Z.all_one ?_; assumption)) (by first | exact SX.at0 | exact SX.at1 | exact SX.at2 | exact SX.at3 | exact SX.at4 | exact SX.at5 | exact Z.at6 | exact Z.at7 | exact Z.at8 | exact Z.at9 | exact Z.at10 | exact Z.at11 | exact Z.at12) (by first | decide | (simp; done) | (simp; omega)) ?_
      clear hs; intro ws hs
      simp only [Nat.zero_add, Nat.add_zero, Nat.reduceAdd, Int.reduceToNat, Nat.reduceMul, List.set_cons_zero, List.set_cons_succ, List.setIfInBounds_toArray] at hs
      try simp only [Z.putL, Nat.zero_add] at hs
      refine Z.tk (Dn := fun _ => true) (i := 5) (fun _ => ⟨_, hs, by first | (simp; done) | exact fun e he => List.mem_append_right _ he⟩) ?_
      refine Z.td (by rfl) (by kernel_rfl) ?_
      refine Z.only [1, 3] rfl ?_
      refine Z.nthen ?_
      refine Z.seq ?_
      refine Z.region ?_
      refine Z.l rfl rfl (by rfl) (Z.keepS hs) (by first | exact Z.Yd.loadA _ rfl Try.isAgg88 (fun _ => Z.cellsB (by first | ((repeat (first | exact List.mem_cons_self | refine List.mem_cons_of_mem _ ?_ | refine List.mem_append_right _ ?_)); done) | fail)) (by exact Try.sizeOf88) | fail "load 2.0") ?_
      refine Z.l rfl rfl (by rfl) (Z.keepS hs) (Z.Yd.fieldA (m := 1) rfl (by kernel_rfl)) ?_
      refine Z.l rfl rfl (by rfl) (Z.keepS hs) (by first | exact Z.Yd.load rfl Try.isAgg3 (fun _ => Z.cellB (by first | ((repeat (first | exact List.mem_cons_self | refine List.mem_cons_of_mem _ ?_ | refine List.mem_append_right _ ?_)); done) | fail) rfl) | exact Z.Yd.load rfl Try.isAgg3 (fun _ => Z.cellO (by assumption) (by simp) (by assumption)) | fail "load 2.2") ?_
      first
      | replace hs : SX.St w M _ (RdL g T sv l (8 * p + 1) ++ [SX.Ent.blk g3 _ _, SX.Ent.blk g1 _ _]) := hs.sel [1, 2, 0, 3] (by decide)
      | replace hs : SX.St w M _ (RdL g T sv l (8 * p + 1) ++ [SX.Ent.blk g3 _ _, SX.Ent.blk g1 _ _]) := hs.sel [0, 1, 2, 3] (by decide)
      refine Z.le rfl trivial ?_
      refine Z.ZO.callP rfl rfl rfl Try.call55 rfl (mm_bits_bad g T sv l (8 * p + 1) 15 _ hs.lend hl hb (by omega) (by omega) (by omega)) ?_
      rintro c2_3 w2_3 ⟨rfl, a', hz⟩
      replace hs := hs.regain hz
      repeat (first | refine Z.pthen ?_ | refine Z.pblock ?_ | refine Z.pscope ?_)
      -- ret#1
      refine Z.outp ?_
      exact ⟨_, rfl, rfl, _, hs.sub (List.sublist_append_left _ _)⟩
  · skip
    refine Z.ZO.alloc rfl rfl (by rfl) Try.zeroValue75 rfl hs ?_
    clear hs; intro g3 w3 hs
    refine Z.tk (Dn := fun _ => true) (i := 4) (fun _ => ⟨_, hs, by first | (simp; done) | exact fun e he => List.mem_append_right _ he⟩) ?_
    refine Z.tn 0 rfl rfl (by kernel_rfl) rfl trivial ?_
    refine Z.ZO.call rfl rfl (by rfl) rfl rfl Try.call36 rfl (mc_formats _) ?_
    rintro v1_0 w1_0 ⟨rfl, hy⟩
    replace hs := hs.call hy
    clear hy
    try simp only [List.cons_append, List.nil_append, List.append_nil] at hs
    refine Z.tk (Dn := fun _ => true) (i := 0) (fun _ => ⟨_, hs, by first | (simp; done) | exact fun e he => List.mem_append_right _ he⟩) ?_
    first
    | replace hs : SX.St w M _ (RdL g T sv l (8 * p) ++ [_]) := hs.rot (L1 := [_])
    | replace hs : SX.St w M _ (RdL g T sv l (8 * p) ++ [_, _]) := hs.rot (L1 := [_, _])
    refine Z.tn 2 rfl rfl (by kernel_rfl) rfl trivial ?_
    refine Z.ZO.call rfl rfl (by rfl) rfl rfl Try.call55 rfl (mm_bits_ok g T sv l (8 * p) 1 _ hs.lend hl hb (by omega) (by omega)) ?_
    rintro v1_2 w1_2 ⟨rfl, hz⟩
    replace hs := hs.regain hz
    rw [e1]
    simp only [RdL, List.cons_append, List.nil_append] at hs
    refine Z.tk (Dn := fun _ => true) (i := 2) (fun _ => ⟨_, hs, by first | (simp; done) | exact fun e he => List.mem_append_right _ he⟩) ?_
    refine Z.t 3 rfl rfl rfl (by rfl) (by kernel_rfl) ⟨_, hs, by first | (simp; done) | exact fun e he => List.mem_append_right _ he⟩ (Z.Yd.index (v := .agg #[.int .u64 1, .int .i64 15, .int .i64 32767]) rfl rfl (by intro _ w; kernel_rfl)) ?_
    refine Z.tn 5 rfl rfl (by kernel_rfl) rfl trivial ?_
    first | refine Z.ZO.storeA rfl rfl hs rfl rfl (by kernel_rfl) (by first | (simp [Value.oneCell']; done) | (refine Z.all_one ?_; assumption)) (by first | exact SX.at0 | exact SX.at1 | exact SX.at2 | exact SX.at3 | exact SX.at4 | exact SX.at5 | exact Z.at6 | exact Z.at7 | exact Z.at8 | exact Z.at9 | exact Z.at10 | exact Z.at11 | exact Z.at12) (by rfl) ?_ | refine Z.ZO.storeP rfl rfl hs rfl rfl (by kernel_rfl) (by first | (simp [Value.oneCell']; done) | (refine Z.all_one ?_; assumption)) (by first | exact SX.at0 | exact SX.at1 | exact SX.at2 | exact SX.at3 | exact SX.at4 | exact SX.at5 | exact Z.at6 | exact Z.at7 | exact Z.at8 | exact Z.at9 | exact Z.at10 | exact Z.at11 | exact Z.at12) (by first | decide | (simp; done) | (simp; omega)) ?_ | refine Z.ZO.storePR rfl rfl hs rfl rfl (by kernel_rfl) (by first | (simp [Value.oneCell']; done) | (refine Z.all_one ?_; assumption)) (by first | exact SX.at0 | exact SX.at1 | exact SX.at2 | exact SX.at3 | exact SX.at4 | exact SX.at5 | exact Z.at6 | exact Z.at7 | exact Z.at8 | exact Z.at9 | exact Z.at10 | exact Z.at11 | exact Z.at12) (by first | decide | (simp; done) | (simp; omega)) ?_
    clear hs; intro ws hs
    simp only [Nat.zero_add, Nat.add_zero, Nat.reduceAdd, Int.reduceToNat, Nat.reduceMul, List.set_cons_zero, List.set_cons_succ, List.setIfInBounds_toArray] at hs
    try simp only [Z.putL, Nat.zero_add] at hs
    refine Z.tk (Dn := fun _ => true) (i := 5) (fun _ => ⟨_, hs, by first | (simp; done) | exact fun e he => List.mem_append_right _ he⟩) ?_
    refine Z.td (by rfl) (by kernel_rfl) ?_
    refine Z.only [1, 3] rfl ?_
    refine Z.nthen ?_
    refine Z.seq ?_
    refine Z.region ?_
    refine Z.l rfl rfl (by rfl) (Z.keepS hs) (by first | exact Z.Yd.loadA _ rfl Try.isAgg88 (fun _ => Z.cellsB (by first | ((repeat (first | exact List.mem_cons_self | refine List.mem_cons_of_mem _ ?_ | refine List.mem_append_right _ ?_)); done) | fail)) (by exact Try.sizeOf88) | fail "load 2.0") ?_
    refine Z.l rfl rfl (by rfl) (Z.keepS hs) (Z.Yd.fieldA (m := 1) rfl (by kernel_rfl)) ?_
    refine Z.l rfl rfl (by rfl) (Z.keepS hs) (by first | exact Z.Yd.load rfl Try.isAgg3 (fun _ => Z.cellB (by first | ((repeat (first | exact List.mem_cons_self | refine List.mem_cons_of_mem _ ?_ | refine List.mem_append_right _ ?_)); done) | fail) rfl) | exact Z.Yd.load rfl Try.isAgg3 (fun _ => Z.cellO (by assumption) (by simp) (by assumption)) | fail "load 2.2") ?_
    first
    | replace hs : SX.St w M _ (RdL g T sv l (8 * p + 1) ++ [SX.Ent.blk g3 _ _, SX.Ent.blk g1 _ _]) := hs.sel [1, 2, 0, 3] (by decide)
    | replace hs : SX.St w M _ (RdL g T sv l (8 * p + 1) ++ [SX.Ent.blk g3 _ _, SX.Ent.blk g1 _ _]) := hs.sel [0, 1, 2, 3] (by decide)
    refine Z.le rfl trivial ?_
    refine Z.ZO.callP rfl rfl rfl Try.call55 rfl (mm_bits_bad g T sv l (8 * p + 1) 15 _ hs.lend hl hb (by omega) (by omega) (by omega)) ?_
    rintro c2_3 w2_3 ⟨rfl, a', hz⟩
    replace hs := hs.regain hz
    repeat (first | refine Z.pthen ?_ | refine Z.pblock ?_ | refine Z.pscope ?_)
    -- ret#2
    refine Z.outp ?_
    exact ⟨_, rfl, rfl, _, hs.sub (List.sublist_append_left _ _)⟩
set_option maxHeartbeats 1000000 in
set_option maxRecDepth 100000 in
theorem ml_long (g T : Nat) (sv : Value) (l : List Int) (p : Nat) (w : World) (hs : SX.St w (SX.idsOf (RdL g T sv l (8 * p))) w (RdL g T sv l (8 * p))) (hl : l.length ≤ 1000000) (hb : ∀ x ∈ l, 0 ≤ x ∧ x < 256) (h : p < l.length) (h1 : ¬ byB l p < 128) (h2 : p + 1 < l.length) (V : Int) (hV : byB l p % 128 * 256 + byB l (p + 1) = V) :
    Calls Try.prog 56 #[.agg #[.pointer (some ⟨g, 0, none⟩)]] w (Z.Bo (fun v w' => 127 < V ∧ v = .int .i64 V ∧ SX.St w (SX.idsOf (RdL g T sv l (8 * p))) w' (RdL g T sv l (8 * (p + 2)))) fun c w' => ¬ 127 < V ∧ c = mperr 9 ∧ ∃ a', SX.St w (SX.idsOf (RdL g T sv l (8 * p))) w' (RdL g T sv l a')) := by
  generalize hM : SX.idsOf (RdL g T sv l (8 * p)) = M at *
  obtain ⟨-, -, -, f4, f5, -⟩ := head_get hb h
  have f6 := long_get hb h2
  have h0 := byB_bd hb h
  have h0' := byB_bd hb h2
  have e1 : getV l (8 * p) ((1 : Nat) : Int) = 1 := by
    have : getV l (8 * p) 1 = 1 := by rw [f4]; omega
    exact this
  have e2 : getV l (8 * p + 1) ((15 : Nat) : Int) = V := by
    rw [← hV]
    exact f6
  have hV0 : 0 ≤ V := by omega
  refine Z.enter Try.func56 rfl Try.ntmps56 rfl rfl ?_
  refine Z.seq ?_
  refine Z.region ?_
  refine Z.le rfl trivial ?_
  refine Z.ZO.box rfl rfl (by rfl) rfl rfl hs ?_
  clear hs; intro g1 w1 hs
  refine Z.lb 1 rfl ?_
  refine Z.lnil ?_
  refine Z.only [1] rfl ?_
  refine Z.nthen ?_
  refine Z.seq ?_
  refine Z.drawL [SX.Ent.blk g1 88 #[.pointer (some ⟨g, 0, none⟩)]] (fun _ => true) mixed hs ?_
  clear hs; intro wd1 hs
  refine Z.t 1 rfl rfl rfl (by rfl) (by kernel_rfl) ⟨_, hs, by first | (simp; done) | exact fun e he => List.mem_append_right _ he⟩ (by first | exact Z.Yd.loadA _ rfl Try.isAgg88 (fun _ => Z.cellsB (by first | ((repeat (first | exact List.mem_cons_self | refine List.mem_cons_of_mem _ ?_ | refine List.mem_append_right _ ?_)); done) | fail)) (by exact Try.sizeOf88) | fail "load 1.1") ?_
  refine Z.fork2 0 4 rfl rfl rfl (by kernel_rfl) rfl rfl trivial trivial ?_ ?_
  · skip
    refine Z.ZO.call rfl rfl (by rfl) rfl rfl Try.call36 rfl (mc_formats _) ?_
    rintro v1_0 w1_0 ⟨rfl, hy⟩
    replace hs := hs.call hy
    clear hy
    try simp only [List.cons_append, List.nil_append, List.append_nil] at hs
    refine Z.tk (Dn := fun _ => true) (i := 0) (fun _ => ⟨_, hs, by first | (simp; done) | exact fun e he => List.mem_append_right _ he⟩) ?_
    refine Z.fork2 2 4 rfl rfl rfl (by kernel_rfl) rfl rfl trivial trivial ?_ ?_
    · skip
      first
      | replace hs : SX.St w M _ (RdL g T sv l (8 * p) ++ [_]) := hs.rot (L1 := [_])
      | replace hs : SX.St w M _ (RdL g T sv l (8 * p) ++ [_, _]) := hs.rot (L1 := [_, _])
      refine Z.ZO.call rfl rfl (by rfl) rfl rfl Try.call55 rfl (mm_bits_ok g T sv l (8 * p) 1 _ hs.lend hl hb (by omega) (by omega)) ?_
      rintro v1_2 w1_2 ⟨rfl, hz⟩
      replace hs := hs.regain hz
      rw [e1]
      simp only [RdL, List.cons_append, List.nil_append] at hs
      refine Z.tk (Dn := fun _ => true) (i := 2) (fun _ => ⟨_, hs, by first | (simp; done) | exact fun e he => List.mem_append_right _ he⟩) ?_
      refine Z.t 3 rfl rfl rfl (by rfl) (by kernel_rfl) ⟨_, hs, by first | (simp; done) | exact fun e he => List.mem_append_right _ he⟩ (Z.Yd.index (v := .agg #[.int .u64 1, .int .i64 15, .int .i64 32767]) rfl rfl (by intro _ w; kernel_rfl)) ?_
      refine Z.tn 4 rfl rfl (by kernel_rfl) rfl trivial ?_
      refine Z.ZO.alloc rfl rfl (by rfl) Try.zeroValue75 rfl hs ?_
      clear hs; intro g3 w3 hs
      refine Z.tk (Dn := fun _ => true) (i := 4) (fun _ => ⟨_, hs, by first | (simp; done) | exact fun e he => List.mem_append_right _ he⟩) ?_
      refine Z.tn 5 rfl rfl (by kernel_rfl) rfl trivial ?_
      first | refine Z.ZO.storeA rfl rfl hs rfl rfl (by kernel_rfl) (by first | (simp [Value.oneCell']; done) | (refine Z.all_one ?_; assumption)) (by first | exact SX.at0 | exact SX.at1 | exact SX.at2 | exact SX.at3 | exact SX.at4 | exact SX.at5 | exact Z.at6 | exact Z.at7 | exact Z.at8 | exact Z.at9 | exact Z.at10 | exact Z.at11 | exact Z.at12) (by rfl) ?_ | refine Z.ZO.storeP rfl rfl hs rfl rfl (by kernel_rfl) (by first | (simp [Value.oneCell']; done) | (refine Z.all_one ?_; assumption)) (by first | exact SX.at0 | exact SX.at1 | exact SX.at2 | exact SX.at3 | exact SX.at4 | exact SX.at5 | exact Z.at6 | exact Z.at7 | exact Z.at8 | exact Z.at9 | exact Z.at10 | exact Z.at11 | exact Z.at12) (by first | decide | (simp; done) | (simp; omega)) ?_ | refine Z.ZO.storePR rfl rfl hs rfl rfl (by kernel_rfl) (by first | (simp [Value.oneCell']; done) | (refine Z.all_one ?_; assumption)) (by first | exact SX.at0 | exact SX.at1 | exact SX.at2 | exact SX.at3 | exact SX.at4 | exact SX.at5 | exact Z.at6 | exact Z.at7 | exact Z.at8 | exact Z.at9 | exact Z.at10 | exact Z.at11 | exact Z.at12) (by first | decide | (simp; done) | (simp; omega)) ?_
      clear hs; intro ws hs
      simp only [Nat.zero_add, Nat.add_zero, Nat.reduceAdd, Int.reduceToNat, Nat.reduceMul, List.set_cons_zero, List.set_cons_succ, List.setIfInBounds_toArray] at hs
      try simp only [Z.putL, Nat.zero_add] at hs
      refine Z.tk (Dn := fun _ => true) (i := 5) (fun _ => ⟨_, hs, by first | (simp; done) | exact fun e he => List.mem_append_right _ he⟩) ?_
      refine Z.td (by rfl) (by kernel_rfl) ?_
      refine Z.only [1, 3] rfl ?_
      refine Z.nthen ?_
      refine Z.seq ?_
      refine Z.region ?_
      refine Z.l rfl rfl (by rfl) (Z.keepS hs) (by first | exact Z.Yd.loadA _ rfl Try.isAgg88 (fun _ => Z.cellsB (by first | ((repeat (first | exact List.mem_cons_self | refine List.mem_cons_of_mem _ ?_ | refine List.mem_append_right _ ?_)); done) | fail)) (by exact Try.sizeOf88) | fail "load 2.0") ?_
      refine Z.l rfl rfl (by rfl) (Z.keepS hs) (Z.Yd.fieldA (m := 1) rfl (by kernel_rfl)) ?_
      refine Z.l rfl rfl (by rfl) (Z.keepS hs) (by first | exact Z.Yd.load rfl Try.isAgg3 (fun _ => Z.cellB (by first | ((repeat (first | exact List.mem_cons_self | refine List.mem_cons_of_mem _ ?_ | refine List.mem_append_right _ ?_)); done) | fail) rfl) | exact Z.Yd.load rfl Try.isAgg3 (fun _ => Z.cellO (by assumption) (by simp) (by assumption)) | fail "load 2.2") ?_
      first
      | replace hs : SX.St w M _ (RdL g T sv l (8 * p + 1) ++ [SX.Ent.blk g3 _ _, SX.Ent.blk g1 _ _]) := hs.sel [1, 2, 0, 3] (by decide)
      | replace hs : SX.St w M _ (RdL g T sv l (8 * p + 1) ++ [SX.Ent.blk g3 _ _, SX.Ent.blk g1 _ _]) := hs.sel [0, 1, 2, 3] (by decide)
      refine Z.le rfl trivial ?_
      refine Z.ZO.call rfl rfl (by rfl) rfl rfl Try.call55 rfl (mm_bits_ok g T sv l (8 * p + 1) 15 _ hs.lend hl hb (by omega) (by omega)) ?_
      rintro v2_3 w2_3 ⟨rfl, hz⟩
      replace hs := hs.regain hz
      rw [e2]
      simp only [RdL, List.cons_append, List.nil_append] at hs
      refine Z.lb 1 rfl ?_
      refine Z.lnil ?_
      refine Z.only [3, 4] rfl ?_
      refine Z.nthen ?_
      refine Z.seq ?_
      refine Z.region ?_
      refine Z.lb 3 rfl ?_
      refine Z.split (s := 15) rfl (fun hsp15 => ?_) (fun hsp15 => ?_)
      · first
          | (exfalso; simp at hsp15 <;> omega)
          | (
            refine Z.yes (s := 15) (b := true) rfl hsp15 rfl ?_
            (try simp at hsp15)
            refine Z.l rfl rfl (by rfl) (Z.keepS hs) (Z.Yd.fieldA (m := 0) rfl (by kernel_rfl)) ?_
            refine Z.l rfl rfl (by rfl) (Z.keepS hs) (by first | exact Z.Yd.load rfl Try.isAgg68 (fun _ => Z.cellB (by first | ((repeat (first | exact List.mem_cons_self | refine List.mem_cons_of_mem _ ?_ | refine List.mem_append_right _ ?_)); done) | fail) rfl) | exact Z.Yd.load rfl Try.isAgg68 (fun _ => Z.cellO (by assumption) (by simp) (by assumption)) | fail "load 3.4") ?_
            refine Z.lb 2 rfl ?_
            refine Z.yes (s := 15) (b := true) rfl rfl rfl ?_
            refine Z.yes (s := 19) (b := false) rfl ((by simp)) rfl ?_
            refine Z.lb 1 rfl ?_
            refine Z.yes (s := 19) (b := false) rfl rfl rfl ?_
            refine Z.le rfl (by exact ⟨rfl, trivial⟩) ?_
            refine Z.ZO.call rfl rfl (by rfl) rfl rfl Try.call36 rfl (mc_formats _) ?_
            rintro v3_8 w3_8 ⟨rfl, hy⟩
            replace hs := hs.call hy
            clear hy
            try simp only [List.cons_append, List.nil_append, List.append_nil] at hs
            refine Z.l rfl rfl (by rfl) (Z.keepS hs) (Z.Yd.index (v := .agg #[.int .u64 0, .int .i64 7, .int .i64 127]) rfl rfl (by intro _ w; kernel_rfl)) ?_
            refine Z.l rfl rfl (by rfl) (Z.keepS hs) (by first | exact Z.Yd.fieldL 2 1 rfl rfl (by intro w; kernel_rfl) | exact Z.Yd.field rfl (by intro w; go_simp; try rfl)) ?_
            refine Z.lb 1 rfl ?_
            refine Z.yes (s := 19) (b := false) rfl rfl rfl ?_
            refine Z.l rfl rfl (by rfl) (Z.keepS hs) (Z.Yd.pickF rfl rfl) ?_
            refine Z.yes (s := 15) (b := true) rfl rfl rfl ?_
            refine Z.l rfl rfl (by rfl) (Z.keepS hs) (Z.Yd.pickT rfl rfl) ?_
            refine Z.le rfl trivial ?_
            refine Z.ZO.callB rfl rfl (by rfl) rfl rfl Try.call31 rfl (mm_must_any _ 9 _) ?_ ?_
            · skip
              rintro v3_14 w3_14 ⟨hm, rfl, hy⟩
              replace hs := hs.call hy
              clear hy
              try simp only [List.cons_append, List.nil_append, List.append_nil] at hs
              refine Z.lnil ?_
              refine Z.only [4] rfl ?_
              refine Z.nthen ?_
              refine Z.seq ?_
              refine Z.region ?_
              refine Z.lb 2 rfl ?_
              refine Z.lnil ?_
              refine Z.only [2] rfl ?_
              refine Z.nthen ?_
              refine Z.ret ?_
              -- ret#0
              refine Z.out1 (by exact ⟨rfl, trivial⟩) ?_
              exact .inl ⟨_, rfl, by first | omega | (simp at hm <;> omega), rfl, hs.sel [0, 1] (by decide)⟩
            · skip
              rintro c3_14 w3_14 ⟨hm, rfl, hy⟩
              replace hs := hs.call hy
              clear hy
              try simp only [List.cons_append, List.nil_append, List.append_nil] at hs
              repeat (first | refine Z.pthen ?_ | refine Z.pblock ?_ | refine Z.pscope ?_)
              -- ret#1
              refine Z.outp ?_
              exact .inr ⟨_, rfl, by first | omega | (simp at hm <;> omega), rfl, _, hs.sel [0, 1] (by decide)⟩
            )
      · first
          | (exfalso; simp at hsp15 <;> omega)
          | (
            refine Z.yes (s := 15) (b := false) rfl hsp15 rfl ?_
            (try simp at hsp15)
            refine Z.ls rfl rfl rfl (by rfl) ?_
            refine Z.ls rfl rfl rfl (by rfl) ?_
            refine Z.ls rfl rfl rfl (by rfl) ?_
            refine Z.ls rfl rfl rfl (by rfl) ?_
            refine Z.lsU rfl rfl rfl (by rfl) ?_
            refine Z.lsU rfl rfl rfl (by rfl) ?_
            refine Z.lsU rfl rfl rfl (by rfl) ?_
            refine Z.lsU rfl rfl rfl (by rfl) ?_
            refine Z.lsU rfl rfl rfl (by rfl) ?_
            refine Z.ls rfl rfl rfl (by rfl) ?_
            refine Z.l rfl rfl (by rfl) (Z.keepS hs) (Z.Yd.pickF rfl rfl) ?_
            refine Z.le rfl trivial ?_
            refine Z.ZO.callB rfl rfl (by rfl) rfl rfl Try.call31 rfl (mm_must_any _ 9 _) ?_ ?_
            · skip
              rintro v3_14 w3_14 ⟨hm, rfl, hy⟩
              replace hs := hs.call hy
              clear hy
              try simp only [List.cons_append, List.nil_append, List.append_nil] at hs
              refine Z.lnil ?_
              refine Z.only [4] rfl ?_
              refine Z.nthen ?_
              refine Z.seq ?_
              refine Z.region ?_
              refine Z.lb 2 rfl ?_
              refine Z.lnil ?_
              refine Z.only [2] rfl ?_
              refine Z.nthen ?_
              refine Z.ret ?_
              -- ret#2
              refine Z.out1 (by exact ⟨rfl, trivial⟩) ?_
              exact .inl ⟨_, rfl, by first | omega | (simp at hm <;> omega), rfl, hs.sel [0, 1] (by decide)⟩
            · skip
              rintro c3_14 w3_14 ⟨hm, rfl, hy⟩
              replace hs := hs.call hy
              clear hy
              try simp only [List.cons_append, List.nil_append, List.append_nil] at hs
              repeat (first | refine Z.pthen ?_ | refine Z.pblock ?_ | refine Z.pscope ?_)
              -- ret#3
              refine Z.outp ?_
              exact .inr ⟨_, rfl, by first | omega | (simp at hm <;> omega), rfl, _, hs.sel [0, 1] (by decide)⟩
            )
    · skip
      refine Z.ZO.alloc rfl rfl (by rfl) Try.zeroValue75 rfl hs ?_
      clear hs; intro g3 w3 hs
      refine Z.tk (Dn := fun _ => true) (i := 4) (fun _ => ⟨_, hs, by first | (simp; done) | exact fun e he => List.mem_append_right _ he⟩) ?_
      first
      | replace hs : SX.St w M _ (RdL g T sv l (8 * p) ++ [_]) := hs.rot (L1 := [_])
      | replace hs : SX.St w M _ (RdL g T sv l (8 * p) ++ [_, _]) := hs.rot (L1 := [_, _])
      refine Z.tn 2 rfl rfl (by kernel_rfl) rfl trivial ?_
      refine Z.ZO.call rfl rfl (by rfl) rfl rfl Try.call55 rfl (mm_bits_ok g T sv l (8 * p) 1 _ hs.lend hl hb (by omega) (by omega)) ?_
      rintro v1_2 w1_2 ⟨rfl, hz⟩
      replace hs := hs.regain hz
      rw [e1]
      simp only [RdL, List.cons_append, List.nil_append] at hs
      refine Z.tk (Dn := fun _ => true) (i := 2) (fun _ => ⟨_, hs, by first | (simp; done) | exact fun e he => List.mem_append_right _ he⟩) ?_
      refine Z.t 3 rfl rfl rfl (by rfl) (by kernel_rfl) ⟨_, hs, by first | (simp; done) | exact fun e he => List.mem_append_right _ he⟩ (Z.Yd.index (v := .agg #[.int .u64 1, .int .i64 15, .int .i64 32767]) rfl rfl (by intro _ w; kernel_rfl)) ?_
      refine Z.tn 5 rfl rfl (by kernel_rfl) rfl trivial ?_
      first | refine Z.ZO.storeA rfl rfl hs rfl rfl (by kernel_rfl) (by first | (simp [Value.oneCell']; done) | (refine Z.all_one ?_; assumption)) (by first | exact SX.at0 | exact SX.at1 | exact SX.at2 | exact SX.at3 | exact SX.at4 | exact SX.at5 | exact Z.at6 | exact Z.at7 | exact Z.at8 | exact Z.at9 | exact Z.at10 | exact Z.at11 | exact Z.at12) (by rfl) ?_ | refine Z.ZO.storeP rfl rfl hs rfl rfl (by kernel_rfl) (by first | (simp [Value.oneCell']; done) | (refine Z.all_one ?_; assumption)) (by first | exact SX.at0 | exact SX.at1 | exact SX.at2 | exact SX.at3 | exact SX.at4 | exact SX.at5 | exact Z.at6 | exact Z.at7 | exact Z.at8 | exact Z.at9 | exact Z.at10 | exact Z.at11 | exact Z.at12) (by first | decide | (simp; done) | (simp; omega)) ?_ | refine Z.ZO.storePR rfl rfl hs rfl rfl (by kernel_rfl) (by first | (simp [Value.oneCell']; done) | (refine Z.all_one ?_; assumption)) (by first | exact SX.at0 | exact SX.at1 | exact SX.at2 | exact SX.at3 | exact SX.at4 | exact SX.at5 | exact Z.at6 | exact Z.at7 | exact Z.at8 | exact Z.at9 | exact Z.at10 | exact Z.at11 | exact Z.at12) (by first | decide | (simp; done) | (simp; omega)) ?_
      clear hs; intro ws hs
      simp only [Nat.zero_add, Nat.add_zero, Nat.reduceAdd, Int.reduceToNat, Nat.reduceMul, List.set_cons_zero, List.set_cons_succ, List.setIfInBounds_toArray] at hs
      try simp only [Z.putL, Nat.zero_add] at hs
      refine Z.tk (Dn := fun _ => true) (i := 5) (fun _ => ⟨_, hs, by first | (simp; done) | exact fun e he => List.mem_append_right _ he⟩) ?_
      refine Z.td (by rfl) (by kernel_rfl) ?_
      refine Z.only [1, 3] rfl ?_
      refine Z.nthen ?_
      refine Z.seq ?_
      refine Z.region ?_
      refine Z.l rfl rfl (by rfl) (Z.keepS hs) (by first | exact Z.Yd.loadA _ rfl Try.isAgg88 (fun _ => Z.cellsB (by first | ((repeat (first | exact List.mem_cons_self | refine List.mem_cons_of_mem _ ?_ | refine List.mem_append_right _ ?_)); done) | fail)) (by exact Try.sizeOf88) | fail "load 2.0") ?_
      refine Z.l rfl rfl (by rfl) (Z.keepS hs) (Z.Yd.fieldA (m := 1) rfl (by kernel_rfl)) ?_
      refine Z.l rfl rfl (by rfl) (Z.keepS hs) (by first | exact Z.Yd.load rfl Try.isAgg3 (fun _ => Z.cellB (by first | ((repeat (first | exact List.mem_cons_self | refine List.mem_cons_of_mem _ ?_ | refine List.mem_append_right _ ?_)); done) | fail) rfl) | exact Z.Yd.load rfl Try.isAgg3 (fun _ => Z.cellO (by assumption) (by simp) (by assumption)) | fail "load 2.2") ?_
      first
      | replace hs : SX.St w M _ (RdL g T sv l (8 * p + 1) ++ [SX.Ent.blk g3 _ _, SX.Ent.blk g1 _ _]) := hs.sel [1, 2, 0, 3] (by decide)
      | replace hs : SX.St w M _ (RdL g T sv l (8 * p + 1) ++ [SX.Ent.blk g3 _ _, SX.Ent.blk g1 _ _]) := hs.sel [0, 1, 2, 3] (by decide)
      refine Z.le rfl trivial ?_
      refine Z.ZO.call rfl rfl (by rfl) rfl rfl Try.call55 rfl (mm_bits_ok g T sv l (8 * p + 1) 15 _ hs.lend hl hb (by omega) (by omega)) ?_
      rintro v2_3 w2_3 ⟨rfl, hz⟩
      replace hs := hs.regain hz
      rw [e2]
      simp only [RdL, List.cons_append, List.nil_append] at hs
      refine Z.lb 1 rfl ?_
      refine Z.lnil ?_
      refine Z.only [3, 4] rfl ?_
      refine Z.nthen ?_
      refine Z.seq ?_
      refine Z.region ?_
      refine Z.lb 3 rfl ?_
      refine Z.split (s := 15) rfl (fun hsp15 => ?_) (fun hsp15 => ?_)
      · first
          | (exfalso; simp at hsp15 <;> omega)
          | (
            refine Z.yes (s := 15) (b := true) rfl hsp15 rfl ?_
            (try simp at hsp15)
            refine Z.l rfl rfl (by rfl) (Z.keepS hs) (Z.Yd.fieldA (m := 0) rfl (by kernel_rfl)) ?_
            refine Z.l rfl rfl (by rfl) (Z.keepS hs) (by first | exact Z.Yd.load rfl Try.isAgg68 (fun _ => Z.cellB (by first | ((repeat (first | exact List.mem_cons_self | refine List.mem_cons_of_mem _ ?_ | refine List.mem_append_right _ ?_)); done) | fail) rfl) | exact Z.Yd.load rfl Try.isAgg68 (fun _ => Z.cellO (by assumption) (by simp) (by assumption)) | fail "load 3.4") ?_
            refine Z.lb 2 rfl ?_
            refine Z.yes (s := 15) (b := true) rfl rfl rfl ?_
            refine Z.yes (s := 19) (b := false) rfl ((by simp)) rfl ?_
            refine Z.lb 1 rfl ?_
            refine Z.yes (s := 19) (b := false) rfl rfl rfl ?_
            refine Z.le rfl (by exact ⟨rfl, trivial⟩) ?_
            refine Z.ZO.call rfl rfl (by rfl) rfl rfl Try.call36 rfl (mc_formats _) ?_
            rintro v3_8 w3_8 ⟨rfl, hy⟩
            replace hs := hs.call hy
            clear hy
            try simp only [List.cons_append, List.nil_append, List.append_nil] at hs
            refine Z.l rfl rfl (by rfl) (Z.keepS hs) (Z.Yd.index (v := .agg #[.int .u64 0, .int .i64 7, .int .i64 127]) rfl rfl (by intro _ w; kernel_rfl)) ?_
            refine Z.l rfl rfl (by rfl) (Z.keepS hs) (by first | exact Z.Yd.fieldL 2 1 rfl rfl (by intro w; kernel_rfl) | exact Z.Yd.field rfl (by intro w; go_simp; try rfl)) ?_
            refine Z.lb 1 rfl ?_
            refine Z.yes (s := 19) (b := false) rfl rfl rfl ?_
            refine Z.l rfl rfl (by rfl) (Z.keepS hs) (Z.Yd.pickF rfl rfl) ?_
            refine Z.yes (s := 15) (b := true) rfl rfl rfl ?_
            refine Z.l rfl rfl (by rfl) (Z.keepS hs) (Z.Yd.pickT rfl rfl) ?_
            refine Z.le rfl trivial ?_
            refine Z.ZO.callB rfl rfl (by rfl) rfl rfl Try.call31 rfl (mm_must_any _ 9 _) ?_ ?_
            · skip
              rintro v3_14 w3_14 ⟨hm, rfl, hy⟩
              replace hs := hs.call hy
              clear hy
              try simp only [List.cons_append, List.nil_append, List.append_nil] at hs
              refine Z.lnil ?_
              refine Z.only [4] rfl ?_
              refine Z.nthen ?_
              refine Z.seq ?_
              refine Z.region ?_
              refine Z.lb 2 rfl ?_
              refine Z.lnil ?_
              refine Z.only [2] rfl ?_
              refine Z.nthen ?_
              refine Z.ret ?_
              -- ret#4
              refine Z.out1 (by exact ⟨rfl, trivial⟩) ?_
              exact .inl ⟨_, rfl, by first | omega | (simp at hm <;> omega), rfl, hs.sel [0, 1] (by decide)⟩
            · skip
              rintro c3_14 w3_14 ⟨hm, rfl, hy⟩
              replace hs := hs.call hy
              clear hy
              try simp only [List.cons_append, List.nil_append, List.append_nil] at hs
              repeat (first | refine Z.pthen ?_ | refine Z.pblock ?_ | refine Z.pscope ?_)
              -- ret#5
              refine Z.outp ?_
              exact .inr ⟨_, rfl, by first | omega | (simp at hm <;> omega), rfl, _, hs.sel [0, 1] (by decide)⟩
            )
      · first
          | (exfalso; simp at hsp15 <;> omega)
          | (
            refine Z.yes (s := 15) (b := false) rfl hsp15 rfl ?_
            (try simp at hsp15)
            refine Z.ls rfl rfl rfl (by rfl) ?_
            refine Z.ls rfl rfl rfl (by rfl) ?_
            refine Z.ls rfl rfl rfl (by rfl) ?_
            refine Z.ls rfl rfl rfl (by rfl) ?_
            refine Z.lsU rfl rfl rfl (by rfl) ?_
            refine Z.lsU rfl rfl rfl (by rfl) ?_
            refine Z.lsU rfl rfl rfl (by rfl) ?_
            refine Z.lsU rfl rfl rfl (by rfl) ?_
            refine Z.lsU rfl rfl rfl (by rfl) ?_
            refine Z.ls rfl rfl rfl (by rfl) ?_
            refine Z.l rfl rfl (by rfl) (Z.keepS hs) (Z.Yd.pickF rfl rfl) ?_
            refine Z.le rfl trivial ?_
            refine Z.ZO.callB rfl rfl (by rfl) rfl rfl Try.call31 rfl (mm_must_any _ 9 _) ?_ ?_
            · skip
              rintro v3_14 w3_14 ⟨hm, rfl, hy⟩
              replace hs := hs.call hy
              clear hy
              try simp only [List.cons_append, List.nil_append, List.append_nil] at hs
              refine Z.lnil ?_
              refine Z.only [4] rfl ?_
              refine Z.nthen ?_
              refine Z.seq ?_
              refine Z.region ?_
              refine Z.lb 2 rfl ?_
              refine Z.lnil ?_
              refine Z.only [2] rfl ?_
              refine Z.nthen ?_
              refine Z.ret ?_
              -- ret#6
              refine Z.out1 (by exact ⟨rfl, trivial⟩) ?_
              exact .inl ⟨_, rfl, by first | omega | (simp at hm <;> omega), rfl, hs.sel [0, 1] (by decide)⟩
            · skip
              rintro c3_14 w3_14 ⟨hm, rfl, hy⟩
              replace hs := hs.call hy
              clear hy
              try simp only [List.cons_append, List.nil_append, List.append_nil] at hs
              repeat (first | refine Z.pthen ?_ | refine Z.pblock ?_ | refine Z.pscope ?_)
              -- ret#7
              refine Z.outp ?_
              exact .inr ⟨_, rfl, by first | omega | (simp at hm <;> omega), rfl, _, hs.sel [0, 1] (by decide)⟩
            )
  · skip
    refine Z.ZO.alloc rfl rfl (by rfl) Try.zeroValue75 rfl hs ?_
    clear hs; intro g3 w3 hs
    refine Z.tk (Dn := fun _ => true) (i := 4) (fun _ => ⟨_, hs, by first | (simp; done) | exact fun e he => List.mem_append_right _ he⟩) ?_
    refine Z.tn 0 rfl rfl (by kernel_rfl) rfl trivial ?_
    refine Z.ZO.call rfl rfl (by rfl) rfl rfl Try.call36 rfl (mc_formats _) ?_
    rintro v1_0 w1_0 ⟨rfl, hy⟩
    replace hs := hs.call hy
    clear hy
    try simp only [List.cons_append, List.nil_append, List.append_nil] at hs
    refine Z.tk (Dn := fun _ => true) (i := 0) (fun _ => ⟨_, hs, by first | (simp; done) | exact fun e he => List.mem_append_right _ he⟩) ?_
    first
    | replace hs : SX.St w M _ (RdL g T sv l (8 * p) ++ [_]) := hs.rot (L1 := [_])
    | replace hs : SX.St w M _ (RdL g T sv l (8 * p) ++ [_, _]) := hs.rot (L1 := [_, _])
    refine Z.tn 2 rfl rfl (by kernel_rfl) rfl trivial ?_
    refine Z.ZO.call rfl rfl (by rfl) rfl rfl Try.call55 rfl (mm_bits_ok g T sv l (8 * p) 1 _ hs.lend hl hb (by omega) (by omega)) ?_
    rintro v1_2 w1_2 ⟨rfl, hz⟩
    replace hs := hs.regain hz
    rw [e1]
    simp only [RdL, List.cons_append, List.nil_append] at hs
    refine Z.tk (Dn := fun _ => true) (i := 2) (fun _ => ⟨_, hs, by first | (simp; done) | exact fun e he => List.mem_append_right _ he⟩) ?_
    refine Z.t 3 rfl rfl rfl (by rfl) (by kernel_rfl) ⟨_, hs, by first | (simp; done) | exact fun e he => List.mem_append_right _ he⟩ (Z.Yd.index (v := .agg #[.int .u64 1, .int .i64 15, .int .i64 32767]) rfl rfl (by intro _ w; kernel_rfl)) ?_
    refine Z.tn 5 rfl rfl (by kernel_rfl) rfl trivial ?_
    first | refine Z.ZO.storeA rfl rfl hs rfl rfl (by kernel_rfl) (by first | (simp [Value.oneCell']; done) | (refine Z.all_one ?_; assumption)) (by first | exact SX.at0 | exact SX.at1 | exact SX.at2 | exact SX.at3 | exact SX.at4 | exact SX.at5 | exact Z.at6 | exact Z.at7 | exact Z.at8 | exact Z.at9 | exact Z.at10 | exact Z.at11 | exact Z.at12) (by rfl) ?_ | refine Z.ZO.storeP rfl rfl hs rfl rfl (by kernel_rfl) (by first | (simp [Value.oneCell']; done) | (refine Z.all_one ?_; assumption)) (by first | exact SX.at0 | exact SX.at1 | exact SX.at2 | exact SX.at3 | exact SX.at4 | exact SX.at5 | exact Z.at6 | exact Z.at7 | exact Z.at8 | exact Z.at9 | exact Z.at10 | exact Z.at11 | exact Z.at12) (by first | decide | (simp; done) | (simp; omega)) ?_ | refine Z.ZO.storePR rfl rfl hs rfl rfl (by kernel_rfl) (by first | (simp [Value.oneCell']; done) | (refine Z.all_one ?_; assumption)) (by first | exact SX.at0 | exact SX.at1 | exact SX.at2 | exact SX.at3 | exact SX.at4 | exact SX.at5 | exact Z.at6 | exact Z.at7 | exact Z.at8 | exact Z.at9 | exact Z.at10 | exact Z.at11 | exact Z.at12) (by first | decide | (simp; done) | (simp; omega)) ?_
    clear hs; intro ws hs
    simp only [Nat.zero_add, Nat.add_zero, Nat.reduceAdd, Int.reduceToNat, Nat.reduceMul, List.set_cons_zero, List.set_cons_succ, List.setIfInBounds_toArray] at hs
    try simp only [Z.putL, Nat.zero_add] at hs
    refine Z.tk (Dn := fun _ => true) (i := 5) (fun _ => ⟨_, hs, by first | (simp; done) | exact fun e he => List.mem_append_right _ he⟩) ?_
    refine Z.td (by rfl) (by kernel_rfl) ?_
    refine Z.only [1, 3] rfl ?_
    refine Z.nthen ?_
    refine Z.seq ?_
    refine Z.region ?_
    refine Z.l rfl rfl (by rfl) (Z.keepS hs) (by first | exact Z.Yd.loadA _ rfl Try.isAgg88 (fun _ => Z.cellsB (by first | ((repeat (first | exact List.mem_cons_self | refine List.mem_cons_of_mem _ ?_ | refine List.mem_append_right _ ?_)); done) | fail)) (by exact Try.sizeOf88) | fail "load 2.0") ?_
    refine Z.l rfl rfl (by rfl) (Z.keepS hs) (Z.Yd.fieldA (m := 1) rfl (by kernel_rfl)) ?_
    refine Z.l rfl rfl (by rfl) (Z.keepS hs) (by first | exact Z.Yd.load rfl Try.isAgg3 (fun _ => Z.cellB (by first | ((repeat (first | exact List.mem_cons_self | refine List.mem_cons_of_mem _ ?_ | refine List.mem_append_right _ ?_)); done) | fail) rfl) | exact Z.Yd.load rfl Try.isAgg3 (fun _ => Z.cellO (by assumption) (by simp) (by assumption)) | fail "load 2.2") ?_
    first
    | replace hs : SX.St w M _ (RdL g T sv l (8 * p + 1) ++ [SX.Ent.blk g3 _ _, SX.Ent.blk g1 _ _]) := hs.sel [1, 2, 0, 3] (by decide)
    | replace hs : SX.St w M _ (RdL g T sv l (8 * p + 1) ++ [SX.Ent.blk g3 _ _, SX.Ent.blk g1 _ _]) := hs.sel [0, 1, 2, 3] (by decide)
    refine Z.le rfl trivial ?_
    refine Z.ZO.call rfl rfl (by rfl) rfl rfl Try.call55 rfl (mm_bits_ok g T sv l (8 * p + 1) 15 _ hs.lend hl hb (by omega) (by omega)) ?_
    rintro v2_3 w2_3 ⟨rfl, hz⟩
    replace hs := hs.regain hz
    rw [e2]
    simp only [RdL, List.cons_append, List.nil_append] at hs
    refine Z.lb 1 rfl ?_
    refine Z.lnil ?_
    refine Z.only [3, 4] rfl ?_
    refine Z.nthen ?_
    refine Z.seq ?_
    refine Z.region ?_
    refine Z.lb 3 rfl ?_
    refine Z.split (s := 15) rfl (fun hsp15 => ?_) (fun hsp15 => ?_)
    · first
        | (exfalso; simp at hsp15 <;> omega)
        | (
          refine Z.yes (s := 15) (b := true) rfl hsp15 rfl ?_
          (try simp at hsp15)
          refine Z.l rfl rfl (by rfl) (Z.keepS hs) (Z.Yd.fieldA (m := 0) rfl (by kernel_rfl)) ?_
          refine Z.l rfl rfl (by rfl) (Z.keepS hs) (by first | exact Z.Yd.load rfl Try.isAgg68 (fun _ => Z.cellB (by first | ((repeat (first | exact List.mem_cons_self | refine List.mem_cons_of_mem _ ?_ | refine List.mem_append_right _ ?_)); done) | fail) rfl) | exact Z.Yd.load rfl Try.isAgg68 (fun _ => Z.cellO (by assumption) (by simp) (by assumption)) | fail "load 3.4") ?_
          refine Z.lb 2 rfl ?_
          refine Z.yes (s := 15) (b := true) rfl rfl rfl ?_
          refine Z.yes (s := 19) (b := false) rfl ((by simp)) rfl ?_
          refine Z.lb 1 rfl ?_
          refine Z.yes (s := 19) (b := false) rfl rfl rfl ?_
          refine Z.le rfl (by exact ⟨rfl, trivial⟩) ?_
          refine Z.ZO.call rfl rfl (by rfl) rfl rfl Try.call36 rfl (mc_formats _) ?_
          rintro v3_8 w3_8 ⟨rfl, hy⟩
          replace hs := hs.call hy
          clear hy
          try simp only [List.cons_append, List.nil_append, List.append_nil] at hs
          refine Z.l rfl rfl (by rfl) (Z.keepS hs) (Z.Yd.index (v := .agg #[.int .u64 0, .int .i64 7, .int .i64 127]) rfl rfl (by intro _ w; kernel_rfl)) ?_
          refine Z.l rfl rfl (by rfl) (Z.keepS hs) (by first | exact Z.Yd.fieldL 2 1 rfl rfl (by intro w; kernel_rfl) | exact Z.Yd.field rfl (by intro w; go_simp; try rfl)) ?_
          refine Z.lb 1 rfl ?_
          refine Z.yes (s := 19) (b := false) rfl rfl rfl ?_
          refine Z.l rfl rfl (by rfl) (Z.keepS hs) (Z.Yd.pickF rfl rfl) ?_
          refine Z.yes (s := 15) (b := true) rfl rfl rfl ?_
          refine Z.l rfl rfl (by rfl) (Z.keepS hs) (Z.Yd.pickT rfl rfl) ?_
          refine Z.le rfl trivial ?_
          refine Z.ZO.callB rfl rfl (by rfl) rfl rfl Try.call31 rfl (mm_must_any _ 9 _) ?_ ?_
          · skip
            rintro v3_14 w3_14 ⟨hm, rfl, hy⟩
            replace hs := hs.call hy
            clear hy
            try simp only [List.cons_append, List.nil_append, List.append_nil] at hs
            refine Z.lnil ?_
            refine Z.only [4] rfl ?_
            refine Z.nthen ?_
            refine Z.seq ?_
            refine Z.region ?_
            refine Z.lb 2 rfl ?_
            refine Z.lnil ?_
            refine Z.only [2] rfl ?_
            refine Z.nthen ?_
            refine Z.ret ?_
            -- ret#8
            refine Z.out1 (by exact ⟨rfl, trivial⟩) ?_
            exact .inl ⟨_, rfl, by first | omega | (simp at hm <;> omega), rfl, hs.sel [0, 1] (by decide)⟩
          · skip
            rintro c3_14 w3_14 ⟨hm, rfl, hy⟩
            replace hs := hs.call hy
            clear hy
            try simp only [List.cons_append, List.nil_append, List.append_nil] at hs
            repeat (first | refine Z.pthen ?_ | refine Z.pblock ?_ | refine Z.pscope ?_)
            -- ret#9
            refine Z.outp ?_
            exact .inr ⟨_, rfl, by first | omega | (simp at hm <;> omega), rfl, _, hs.sel [0, 1] (by decide)⟩
          )
    · first
        | (exfalso; simp at hsp15 <;> omega)
        | (
          refine Z.yes (s := 15) (b := false) rfl hsp15 rfl ?_
          (try simp at hsp15)
          refine Z.ls rfl rfl rfl (by rfl) ?_
          refine Z.ls rfl rfl rfl (by rfl) ?_
          refine Z.ls rfl rfl rfl (by rfl) ?_
          refine Z.ls rfl rfl rfl (by rfl) ?_
          refine Z.lsU rfl rfl rfl (by rfl) ?_
          refine Z.lsU rfl rfl rfl (by rfl) ?_
          refine Z.lsU rfl rfl rfl (by rfl) ?_
          refine Z.lsU rfl rfl rfl (by rfl) ?_
          refine Z.lsU rfl rfl rfl (by rfl) ?_
          refine Z.ls rfl rfl rfl (by rfl) ?_
          refine Z.l rfl rfl (by rfl) (Z.keepS hs) (Z.Yd.pickF rfl rfl) ?_
          refine Z.le rfl trivial ?_
          refine Z.ZO.callB rfl rfl (by rfl) rfl rfl Try.call31 rfl (mm_must_any _ 9 _) ?_ ?_
          · skip
            rintro v3_14 w3_14 ⟨hm, rfl, hy⟩
            replace hs := hs.call hy
            clear hy
            try simp only [List.cons_append, List.nil_append, List.append_nil] at hs
            refine Z.lnil ?_
            refine Z.only [4] rfl ?_
            refine Z.nthen ?_
            refine Z.seq ?_
            refine Z.region ?_
            refine Z.lb 2 rfl ?_
            refine Z.lnil ?_
            refine Z.only [2] rfl ?_
            refine Z.nthen ?_
            refine Z.ret ?_
            -- ret#10
            refine Z.out1 (by exact ⟨rfl, trivial⟩) ?_
            exact .inl ⟨_, rfl, by first | omega | (simp at hm <;> omega), rfl, hs.sel [0, 1] (by decide)⟩
          · skip
            rintro c3_14 w3_14 ⟨hm, rfl, hy⟩
            replace hs := hs.call hy
            clear hy
            try simp only [List.cons_append, List.nil_append, List.append_nil] at hs
            repeat (first | refine Z.pthen ?_ | refine Z.pblock ?_ | refine Z.pscope ?_)
            -- ret#11
            refine Z.outp ?_
            exact .inr ⟨_, rfl, by first | omega | (simp at hm <;> omega), rfl, _, hs.sel [0, 1] (by decide)⟩
          )
theorem mm_length (g T : Nat) (sv : Value) (l : List Int) (p : Nat) (w : World) (hs : SX.St w (SX.idsOf (RdL g T sv l (8 * p))) w (RdL g T sv l (8 * p))) (hl : l.length ≤ 1000000) (hb : ∀ x ∈ l, 0 ≤ x ∧ x < 256) (hp : p ≤ l.length) :
    Calls Try.prog 56 #[.agg #[.pointer (some ⟨g, 0, none⟩)]] w (LenR g T sv l p w) := by
  by_cases h : p < l.length
  · by_cases h1 : byB l p < 128
    · have eE : lnE l p = if byB l p = 0 then 9 else 0 := by unfold lnE; rw [if_neg (fun k => k h), if_pos h1]
      have eV : lnV l p = byB l p := by unfold lnV; rw [if_pos h1]
      have eP : lnP l p = p + 1 := by unfold lnP; rw [if_pos h1]
      unfold LenR
      rw [eE, eV, eP]
      refine (ml_short g T sv l p w hs hl hb h h1).mono ?_
      rintro e w' (⟨v, rfl, q1, q2, q3⟩ | ⟨c, rfl, q1, q2, q3⟩)
      · exact .inl ⟨v, rfl, if_neg q1, q2, q3⟩
      · rw [if_pos q1]
        exact .inr ⟨c, rfl, by decide, q2, q3⟩
    · by_cases h2 : p + 1 < l.length
      · have eE : lnE l p = if 127 < byB l p % 128 * 256 + byB l (p + 1) then 0 else 9 := by unfold lnE; rw [if_neg (fun k => k h), if_neg h1, if_neg (fun k => k h2)]
        have eV : lnV l p = byB l p % 128 * 256 + byB l (p + 1) := by unfold lnV; rw [if_neg h1]
        have eP : lnP l p = p + 2 := by unfold lnP; rw [if_neg h1]
        unfold LenR
        rw [eE, eV, eP]
        refine (ml_long g T sv l p w hs hl hb h h1 h2 _ rfl).mono ?_
        rintro e w' (⟨v, rfl, q1, q2, q3⟩ | ⟨c, rfl, q1, q2, q3⟩)
        · exact .inl ⟨v, rfl, if_pos q1, q2, q3⟩
        · rw [if_neg q1]
          exact .inr ⟨c, rfl, by decide, q2, q3⟩
      · have eE : lnE l p = 5 := by unfold lnE; rw [if_neg (fun k => k h), if_neg h1, if_pos h2]
        refine Z.Bo.pan ((ml_cut g T sv l p w hs hl hb h h1 h2).mono ?_)
        rintro e w' ⟨c, rfl, q1, q2⟩
        exact ⟨c, rfl, by rw [eE]; decide, by rw [eE]; exact q1, q2⟩
  · have eE : lnE l p = 5 := by unfold lnE; rw [if_pos h]
    refine Z.Bo.pan ((ml_none g T sv l p w hs hl hb hp h).mono ?_)
    rintro e w' ⟨c, rfl, q1, q2⟩
    exact ⟨c, rfl, by rw [eE]; decide, by rw [eE]; exact q1, q2⟩
end Go.Proofs.Ytogjkgoiofngaaa

/- MAC PDUs: the subheaders read. -/
namespace Go.Proofs.Ytogjkgoiofngaaa
open Go.RowKit
set_option linter.unusedSimpArgs false
set_option linter.unusedVariables false
--newlaws

theorem mm_bits_any (g T : Nat) (sv : Value) (l : List Int) (a n : Nat) (w : World) (hs : SX.St w (SX.idsOf (RdL g T sv l a)) w (RdL g T sv l a)) (hl : l.length ≤ 1000000) (hb : ∀ x ∈ l, 0 ≤ x ∧ x < 256) (ha : a ≤ 8 * l.length) (hn : n ≤ 32) :
    Calls Try.prog 55 #[.agg #[.pointer (some ⟨g, 0, none⟩)], .int .i64 (n : Int)] w (Z.Bo (fun v w' => a + n ≤ 8 * l.length ∧ v = .int .i64 (getV l a n) ∧ SX.St w (SX.idsOf (RdL g T sv l a)) w' (RdL g T sv l (a + n))) fun c w' => ¬ a + n ≤ 8 * l.length ∧ c = mperr 5 ∧ ∃ a', SX.St w (SX.idsOf (RdL g T sv l a)) w' (RdL g T sv l a')) := by
  by_cases h : a + n ≤ 8 * l.length
  · exact Z.Bo.ret ((mm_bits_ok g T sv l a n w hs hl hb h hn).mono fun e w' ⟨v, h1, h2⟩ => ⟨v, h1, h, h2⟩)
  · exact Z.Bo.pan ((mm_bits_bad g T sv l a n w hs hl hb ha h hn).mono fun e w' ⟨v, h1, h2⟩ => ⟨v, h1, h, h2⟩)
/-- a subheader that is not allowed -/
def hdBad (b : Int) (cnt : Nat) (data part : Bool) : Prop :=
  ¬ (b / 64 = 0 ∧ (sduB (b % 32) ∨ ctlN (b % 32) ≠ 0 ∨ b % 32 = 31)) ∨ (ctlN (b % 32) ≠ 0 ∧ data = true) ∨ (b % 32 = 31 ∧ b / 32 % 2 = 1 ∧ (part = true ∨ ¬ cnt < 2))
instance (b : Int) (cnt : Nat) (data part : Bool) : Decidable (hdBad b cnt data part) := by unfold hdBad; infer_instance
/-- the subheaders from byte p on: error, subheaders, end -/
def hGo (l : List Int) : Nat → Nat → List (Int × Int) → Bool → Bool → Int × List (Int × Int) × Nat
  | 0, _, _, _, _ => (5, [], 0)
  | F + 1, p, acc, data, part =>
    if ¬ p < l.length then (5, [], 0)
    else if hdBad (byB l p) acc.length data part then (9, [], 0)
    else if byB l p / 32 % 2 = 1 then
      if sduB (byB l p % 32) then
        if lnE l (p + 1) ≠ 0 then (lnE l (p + 1), [], 0)
        else hGo l F (lnP l (p + 1)) (acc ++ [(byB l p % 32, lnV l (p + 1))]) (data || decide (sduB (byB l p % 32))) (part || decide (byB l p % 32 ≠ 31))
      else hGo l F (p + 1) (acc ++ [(byB l p % 32, -1)]) (data || decide (sduB (byB l p % 32))) (part || decide (byB l p % 32 ≠ 31))
    else (0, acc ++ [(byB l p % 32, -1)], p + 1)
def encH (h : Int × Int) : List Value := [.int .i64 h.1, .int .i64 h.2]
theorem encH_len (h : Int × Int) : (encH h).length = 2 := rfl
theorem lnP_le {l : List Int} {p : Nat} (h : lnE l p = 0) : p < lnP l p ∧ lnP l p ≤ l.length := by
  unfold lnE at h
  unfold lnP
  by_cases h1 : p < l.length
  · rw [if_neg (fun k => k h1)] at h
    by_cases h2 : byB l p < 128
    · rw [if_pos h2]; omega
    · rw [if_neg h2] at h ⊢
      by_cases h3 : p + 1 < l.length
      · omega
      · rw [if_pos h3] at h; cases h
  · rw [if_pos h1] at h; cases h
theorem bad7 {b : Int} {cnt : Nat} {data part : Bool} (h : (decide (sduB (b % 32)) || decide (ctlN (b % 32) ≠ 0) || b % 32 == 31) = false) : hdBad b cnt data part := by
  refine .inl fun hh => ?_
  simp at h
  rcases hh.2 with h1 | h1 | h1
  · exact h.1.1 h1
  · exact h1 h.1.2
  · exact h.2 h1
theorem bad7n {b : Int} {cnt : Nat} {data part : Bool} (h : ¬ b / 64 = 0) : hdBad b cnt data part := .inl fun hh => h hh.1
theorem bad8 {b : Int} {cnt : Nat} {data part : Bool} (h : (!decide (ctlN (b % 32) ≠ 0) || !data) = false) : hdBad b cnt data part := by
  simp at h
  exact .inr (.inl h)
theorem bad9 {b : Int} {cnt : Nat} {data part : Bool} (h : (b % 32 != 31 || !b / 32 % 2 == 1 || !part && decide ((cnt : Int) < 2)) = false) : hdBad b cnt data part := by
  simp at h
  refine .inr (.inr ⟨h.1.1, h.1.2, ?_⟩)
  have h2 := h.2
  cases part
  · exact .inr (by have := h2 rfl; omega)
  · exact .inl rfl
theorem good_hd {b : Int} {cnt : Nat} {data part : Bool} (h0 : b / 64 = 0) (h7 : (decide (sduB (b % 32)) || decide (ctlN (b % 32) ≠ 0) || b % 32 == 31) = true) (h8 : (!decide (ctlN (b % 32) ≠ 0) || !data) = true) (h9 : (b % 32 != 31 || !b / 32 % 2 == 1 || !part && decide ((cnt : Int) < 2)) = true) : ¬ hdBad b cnt data part := by
  simp at h7 h8 h9
  rintro (h | h | ⟨h1, h2, h3⟩)
  · exact h ⟨h0, by simpa [or_assoc] using h7⟩
  · rcases h8 with h8 | h8
    · exact h.1 h8
    · rw [h8] at h; cases h.2
  · rcases h9 with (h9 | h9) | ⟨h9, h10⟩
    · exact h9 h1
    · exact h9 h2
    · rcases h3 with h3 | h3
      · rw [h9] at h3; cases h3
      · omega
theorem pan_hd {b : Int} {cnt : Nat} {data part : Bool} {X R : Int × List (Int × Int) × Nat} (hG : (if hdBad b cnt data part then (9, [], 0) else X) = R) (h : hdBad b cnt data part) : R.1 ≠ 0 ∧ mperr 9 = mperr R.1 := by
  rw [if_pos h] at hG
  subst hG
  exact ⟨by decide, rfl⟩
theorem pan_end {l : List Int} {F p : Nat} {acc : List (Int × Int)} {data part : Bool} {R : Int × List (Int × Int) × Nat} (hG : hGo l (F + 1) p acc data part = R) (h : ¬ p < l.length) : R.1 ≠ 0 ∧ mperr 5 = mperr R.1 := by
  rw [hGo, if_pos h] at hG
  subst hG
  exact ⟨by decide, rfl⟩
theorem pan_ln {b : Int} {l : List Int} {p : Nat} {X Y Z1 R : Int × List (Int × Int) × Nat} (hG : (if b / 32 % 2 = 1 then if sduB (b % 32) then if lnE l (p + 1) ≠ 0 then (lnE l (p + 1), [], 0) else X else Y else Z1) = R) (h12 : sduB (b % 32) ∧ b / 32 % 2 = 1) (h : lnE l (p + 1) ≠ 0) : R.1 ≠ 0 ∧ mperr (lnE l (p + 1)) = mperr R.1 := by
  rw [if_pos h12.2, if_pos h12.1, if_pos h] at hG
  subst hG
  exact ⟨h, rfl⟩
theorem not_at {p n : Nat} (h : ¬ 8 * p + 2 ≤ 8 * n) : ¬ p < n := by omega
set_option maxHeartbeats 2000000 in
set_option maxRecDepth 100000 in
theorem mm_heads (g T : Nat) (sv : Value) (l : List Int) (w : World) (hs : SX.St w (SX.idsOf (RdL g T sv l (8 * 0))) w (RdL g T sv l (8 * 0))) (hl : l.length ≤ 1000000) (hb : ∀ x ∈ l, 0 ≤ x ∧ x < 256) (R : Int × List (Int × Int) × Nat) (hR : hGo l (l.length + 1) 0 [] false false = R) :
    Calls Try.prog 46 #[.agg #[.pointer (some ⟨g, 0, none⟩)]] w (Z.Bo (fun v w' => R.1 = 0 ∧ R.2.2 ≤ l.length ∧ R.2.1.length ≤ l.length ∧ SX.St w (SX.idsOf (RdL g T sv l (8 * 0))) w' (RdL g T sv l (8 * R.2.2) ++ [SX.Ent.row v 92 2 R.2.1.length (R.2.1.flatMap encH)])) fun c w' => R.1 ≠ 0 ∧ c = mperr R.1 ∧ ∃ a', SX.St w (SX.idsOf (RdL g T sv l (8 * 0))) w' (RdL g T sv l a')) := by
  generalize hM : SX.idsOf (RdL g T sv l (8 * 0)) = M at *
  refine Z.enter Try.func46 rfl Try.ntmps46 rfl rfl ?_
  refine Z.seq ?_
  refine Z.region ?_
  refine Z.le rfl trivial ?_
  refine Z.ZO.box rfl rfl (by rfl) rfl rfl hs ?_
  clear hs; intro g1 w1 hs
  refine Z.lb 1 rfl ?_
  refine Z.lnil ?_
  refine Z.only [1, 2] rfl ?_
  refine Z.nthen ?_
  refine Z.seq ?_
  refine Z.region ?_
  replace hs : SX.St w M _ (RdL g T sv l (8 * 0) ++ [SX.Ent.row (.slice none 0 0) 92 2 0 (([] : List (Int × Int)).flatMap encH), SX.Ent.blk g1 88 #[.pointer (some ⟨g, 0, none⟩)]]) := SX.St.rot (L1 := [_, _]) (hs.nil 92 2)
  refine Z.l rfl rfl (by rfl) (Z.keepS hs) (Z.Yd.pure rfl) ?_
  refine Z.lb 1 rfl ?_
  refine Z.lnil ?_
  refine Z.only [1, 2, 3, 4] rfl ?_
  refine Z.nthen ?_
  refine Z.seq ?_
  refine Z.seq ?_
  refine Z.region ?_
  refine Z.lb 1 rfl ?_
  refine Z.lnil ?_
  refine Z.only [1, 2, 3, 4, 5] rfl ?_
  refine Z.nthen ?_
  refine Z.block ?_
  refine Z.loopk (ι := Nat × List (Int × Int) × Bool × Bool × Bool × Value) [1] rfl (fun x => [(2, [], x.2.2.2.2.2), (3, [], .bool x.2.2.1), (4, [], .bool x.2.2.2.1), (5, [], .bool x.2.2.2.2.1)]) (fun x wr => (x.1 ≤ l.length ∧ x.2.1.length ≤ x.1 ∧ (x.2.2.2.2.1 = true → ∃ F, l.length + 1 ≤ F + x.1 ∧ hGo l F x.1 x.2.1 x.2.2.1 x.2.2.2.1 = R) ∧ (x.2.2.2.2.1 = false → R = (0, x.2.1, x.1))) ∧ SX.St w M wr (RdL g T sv l (8 * x.1) ++ [SX.Ent.row x.2.2.2.2.2 92 2 x.2.1.length (x.2.1.flatMap encH), SX.Ent.blk g1 88 #[.pointer (some ⟨g, 0, none⟩)]])) (fun x => l.length - x.1) (0, [], false, false, true, .slice none 0 0) (by refine ⟨?_, ?_, ?_, ?_, trivial⟩ <;> (first | rfl | (refine Z.lookv rfl ?_; simp; done) | (refine Z.lookv rfl ?_; simp; omega))) ⟨⟨Nat.zero_le _, Nat.zero_le _, fun _ => ⟨l.length + 1, by simp only; omega, hR⟩, fun h => by cases h⟩, hs⟩ ?_
  clear hs
  rintro ⟨p, acc, data, part, more, vo⟩ w3 ⟨⟨hp, hac, hmo, hno⟩, hs⟩
  refine Z.only [1, 2, 3, 4, 5] rfl ?_
  (try dsimp only at hs)
  dsimp only at hp hac hmo hno hs
  obtain ⟨Av, cv, rfl, -, -, -⟩ := SX.row_slv hs (j := 2) rfl
  refine Z.seq ?_
  refine Z.seq ?_
  refine Z.region ?_
  refine Z.lb 1 rfl ?_
  refine Z.lnil ?_
  refine Z.only [1, 2, 3, 4, 12] rfl ?_
  refine Z.nthen ?_
  refine Z.cond rfl (fun hc3 => ?_) (fun hc3 => ?_)
  · first
      | (exfalso; simp at hc3 <;> omega)
      | (
        (try simp at hc3)
        obtain ⟨F, hF, hG⟩ := hmo (by assumption)
        obtain ⟨F, rfl⟩ : ∃ F', F = F' + 1 := ⟨F - 1, by omega⟩
        refine Z.skip ?_
        refine Z.nthen ?_
        refine Z.block ?_
        refine Z.seq ?_
        refine Z.drawP [SX.Ent.blk g1 88 #[.pointer (some ⟨g, 0, none⟩)]] (fun _ => true) mixed hs ?_
        clear hs; intro wd4 hs
        refine Z.tXP 0 [0, 1, 3, 5, 6, 7, 8] (fun _ _ _ _ _ h => h) rfl rfl rfl (by rfl) (by kernel_rfl) ⟨_, hs, by first | (simp; done) | exact fun e he => List.mem_append_right _ he⟩ (by first | exact Z.Yd.loadA _ rfl Try.isAgg88 (fun _ => Z.cellsB (by first | ((repeat (first | exact List.mem_cons_self | refine List.mem_cons_of_mem _ ?_ | refine List.mem_append_right _ ?_)); done) | fail)) (by exact Try.sizeOf88) | fail "load 4.0") ?_
        refine Z.tXP 2 [2, 3, 5, 6, 7, 8] (fun _ _ _ _ _ h => h) rfl rfl rfl (by rfl) (by kernel_rfl) ⟨_, hs, by first | (simp; done) | exact fun e he => List.mem_append_right _ he⟩ (by first | exact Z.Yd.loadA _ rfl Try.isAgg88 (fun _ => Z.cellsB (by first | ((repeat (first | exact List.mem_cons_self | refine List.mem_cons_of_mem _ ?_ | refine List.mem_append_right _ ?_)); done) | fail)) (by exact Try.sizeOf88) | fail "load 4.2") ?_
        refine Z.tXP 4 [4, 5, 6, 7, 8] (fun _ _ _ _ _ h => h) rfl rfl rfl (by rfl) (by kernel_rfl) ⟨_, hs, by first | (simp; done) | exact fun e he => List.mem_append_right _ he⟩ (by first | exact Z.Yd.loadA _ rfl Try.isAgg88 (fun _ => Z.cellsB (by first | ((repeat (first | exact List.mem_cons_self | refine List.mem_cons_of_mem _ ?_ | refine List.mem_append_right _ ?_)); done) | fail)) (by exact Try.sizeOf88) | fail "load 4.4") ?_
        refine Z.tnP 1 rfl rfl (by kernel_rfl) rfl trivial ?_
        refine Z.ZO.callB rfl rfl (by rfl) rfl rfl Try.call55 rfl (mm_bits_any g T sv l (8 * p) 2 _ hs.lend hl hb (by omega) (by omega)) ?_ ?_
        · skip
          rintro v4_1 w4_1 ⟨hq, rfl, hz⟩
          replace hs := hs.regain hz
          have hpl : p < l.length := by omega
          rw [hGo, if_neg (fun k => k hpl)] at hG
          obtain ⟨f1, f2, f3, -, -, -⟩ := head_get hb hpl
          have hbd := byB_bd hb hpl
          obtain ⟨b, hbe⟩ : ∃ b, byB l p = b := ⟨_, rfl⟩
          rw [hbe] at f1 f2 f3 hG hbd
          have k1 : getV l (8 * p) ((2 : Nat) : Int) = b / 64 := f1
          have k2 : getV l (8 * p + 2) ((1 : Nat) : Int) = b / 32 % 2 := f2
          have k3 : getV l (8 * p + 2 + 1) ((5 : Nat) : Int) = b % 32 := f3
          rw [k1]
          refine Z.tkP (Dn := fun _ => true) (i := 1) (fun _ => ⟨_, hs, by first | (simp; done) | exact fun e he => List.mem_append_right _ he⟩) ?_
          refine Z.tnP 3 rfl rfl (by kernel_rfl) rfl trivial ?_
          refine Z.ZO.call rfl rfl (by rfl) rfl rfl Try.call55 rfl (mm_bits_ok g T sv l (8 * p + 2) 1 _ hs.lend hl hb (by omega) (by omega)) ?_
          rintro v4_3 w4_3 ⟨rfl, hz⟩
          replace hs := hs.regain hz
          rw [k2]
          refine Z.tkP (Dn := fun _ => true) (i := 3) (fun _ => ⟨_, hs, by first | (simp; done) | exact fun e he => List.mem_append_right _ he⟩) ?_
          refine Z.tnP 5 rfl rfl (by kernel_rfl) rfl trivial ?_
          refine Z.ZO.call rfl rfl (by rfl) rfl rfl Try.call55 rfl (mm_bits_ok g T sv l (8 * p + 2 + 1) 5 _ hs.lend hl hb (by omega) (by omega)) ?_
          rintro v4_5 w4_5 ⟨rfl, hz⟩
          replace hs := hs.regain hz
          rw [k3]
          refine Z.tkP (Dn := fun _ => true) (i := 5) (fun _ => ⟨_, hs, by first | (simp; done) | exact fun e he => List.mem_append_right _ he⟩) ?_
          refine Z.tXP 6 [6, 7, 8] (fun _ _ _ _ _ h => h) rfl rfl rfl (by rfl) (by kernel_rfl) ⟨_, hs, by first | (simp; done) | exact fun e he => List.mem_append_right _ he⟩ (Z.Yd.pure rfl) ?_
          refine Z.tXP 7 [7, 8] (fun _ _ _ _ _ h => h) rfl rfl rfl (by rfl) (by kernel_rfl) ⟨_, hs, by first | (simp; done) | exact fun e he => List.mem_append_right _ he⟩ (Z.Yd.pure rfl) ?_
          refine Z.tXP 8 [8] (fun _ _ _ _ _ h => h) rfl rfl rfl (by rfl) (by kernel_rfl) ⟨_, hs, by first | (simp; done) | exact fun e he => List.mem_append_right _ he⟩ (Z.Yd.pure rfl) ?_
          refine Z.tdP (by rfl) (by kernel_rfl) ?_
          refine Z.only [1, 2, 3, 4, 6, 7, 8] rfl ?_
          refine Z.nthen ?_
          refine Z.seq ?_
          refine Z.region ?_
          refine Z.lb 3 rfl ?_
          refine Z.lnil ?_
          refine Z.only [1, 2, 3, 4, 5, 6, 8] rfl ?_
          refine Z.nthen ?_
          refine Z.seq ?_
          refine Z.region ?_
          refine Z.lb 1 rfl ?_
          refine Z.le rfl trivial ?_
          refine Z.ZO.call rfl rfl (by rfl) rfl rfl Try.call21 rfl (mc_Control _ _) ?_
          rintro v6_1 w6_1 ⟨rfl, hy⟩
          replace hs := hs.call hy
          clear hy
          try simp only [List.cons_append, List.nil_append, List.append_nil] at hs
          refine Z.lb 5 rfl ?_
          refine Z.lnil ?_
          refine Z.only [1, 2, 3, 4, 5, 6, 8, 10] rfl ?_
          refine Z.nthen ?_
          refine Z.seq ?_
          refine Z.region ?_
          refine Z.lb 4 rfl ?_
          refine Z.split (s := 28) rfl (fun hsp28 => ?_) (fun hsp28 => ?_)
          · first
              | (exfalso; simp at hsp28 <;> omega)
              | (
                refine Z.yes (s := 28) (b := true) rfl hsp28 rfl ?_
                (try simp at hsp28)
                refine Z.le rfl (by exact ⟨rfl, trivial⟩) ?_
                refine Z.ZO.call rfl rfl (by rfl) rfl rfl Try.call53 rfl (mc_sdu _ _) ?_
                rintro v7_4 w7_4 ⟨rfl, hy⟩
                replace hs := hs.call hy
                clear hy
                try simp only [List.cons_append, List.nil_append, List.append_nil] at hs
                refine Z.lb 7 rfl ?_
                refine Z.yes (s := 28) (b := true) rfl rfl rfl ?_
                refine Z.l rfl rfl (by rfl) (Z.keepS hs) (Z.Yd.pickT rfl rfl) ?_
                refine Z.le rfl trivial ?_
                refine Z.ZO.callB rfl rfl (by rfl) rfl rfl Try.call31 rfl (mm_must_any _ 9 _) ?_ ?_
                · skip
                  rintro v7_13 w7_13 ⟨hm7, rfl, hy⟩
                  replace hs := hs.call hy
                  clear hy
                  try simp only [List.cons_append, List.nil_append, List.append_nil] at hs
                  refine Z.lnil ?_
                  refine Z.only [1, 2, 3, 4, 5, 8, 10] rfl ?_
                  refine Z.nthen ?_
                  refine Z.seq ?_
                  refine Z.region ?_
                  refine Z.l rfl rfl (by rfl) (Z.keepS hs) (Z.Yd.pure rfl) ?_
                  refine Z.lb 5 rfl ?_
                  refine Z.le rfl trivial ?_
                  refine Z.ZO.callB rfl rfl (by rfl) rfl rfl Try.call31 rfl (mm_must_any _ 9 _) ?_ ?_
                  · skip
                    rintro v8_6 w8_6 ⟨hm8, rfl, hy⟩
                    replace hs := hs.call hy
                    clear hy
                    try simp only [List.cons_append, List.nil_append, List.append_nil] at hs
                    refine Z.lnil ?_
                    refine Z.only [1, 2, 3, 4, 5, 8] rfl ?_
                    refine Z.nthen ?_
                    refine Z.seq ?_
                    refine Z.region ?_
                    refine Z.lb 11 rfl ?_
                    refine Z.l rfl rfl (by rfl) (Z.keepS hs) (Z.Yd.lenS rfl Try.underlying89) ?_
                    refine Z.lb 3 rfl ?_
                    refine Z.le rfl trivial ?_
                    refine Z.ZO.callB rfl rfl (by rfl) rfl rfl Try.call31 rfl (mm_must_any _ 9 _) ?_ ?_
                    · skip
                      rintro v9_15 w9_15 ⟨hm9, rfl, hy⟩
                      replace hs := hs.call hy
                      clear hy
                      try simp only [List.cons_append, List.nil_append, List.append_nil] at hs
                      refine Z.lnil ?_
                      refine Z.only [1, 2, 3, 4, 5, 8] rfl ?_
                      refine Z.nthen ?_
                      refine Z.seq ?_
                      refine Z.region ?_
                      have hnb : ¬ hdBad b acc.length data part := good_hd hsp28 hm7 hm8 hm9
                      rw [if_neg hnb] at hG
                      rw [show 8 * p + 2 + 1 + 5 = 8 * (p + 1) from by omega] at hs
                      refine Z.l rfl rfl (by rfl) (Z.keepS hs) (Z.Yd.pure rfl) ?_
                      refine Z.l rfl rfl (by rfl) (Z.keepS hs) (Z.Yd.buildL [(0, 1), (1, 1)] [.int .i64 0, .int .i64 0] rfl rfl (by intro w; kernel_rfl)) ?_
                      refine Z.le rfl trivial ?_
                      refine Z.ZO.alloc rfl rfl (by rfl) Try.zeroValue92 rfl hs ?_
                      clear hs; intro g11 w11 hs
                      refine Z.le rfl trivial ?_
                      first | refine Z.ZO.storeA rfl rfl hs rfl rfl (by kernel_rfl) (by first | (simp [Value.oneCell']; done) | (refine Z.all_one ?_; assumption)) (by first | exact SX.at0 | exact SX.at1 | exact SX.at2 | exact SX.at3 | exact SX.at4 | exact SX.at5 | exact Z.at6 | exact Z.at7 | exact Z.at8 | exact Z.at9 | exact Z.at10 | exact Z.at11 | exact Z.at12) (by rfl) ?_ | refine Z.ZO.storeP rfl rfl hs rfl rfl (by kernel_rfl) (by first | (simp [Value.oneCell']; done) | (refine Z.all_one ?_; assumption)) (by first | exact SX.at0 | exact SX.at1 | exact SX.at2 | exact SX.at3 | exact SX.at4 | exact SX.at5 | exact Z.at6 | exact Z.at7 | exact Z.at8 | exact Z.at9 | exact Z.at10 | exact Z.at11 | exact Z.at12) (by first | decide | (simp; done) | (simp; omega)) ?_ | refine Z.ZO.storePR rfl rfl hs rfl rfl (by kernel_rfl) (by first | (simp [Value.oneCell']; done) | (refine Z.all_one ?_; assumption)) (by first | exact SX.at0 | exact SX.at1 | exact SX.at2 | exact SX.at3 | exact SX.at4 | exact SX.at5 | exact Z.at6 | exact Z.at7 | exact Z.at8 | exact Z.at9 | exact Z.at10 | exact Z.at11 | exact Z.at12) (by first | decide | (simp; done) | (simp; omega)) ?_
                      clear hs; intro ws hs
                      simp only [Nat.zero_add, Nat.add_zero, Nat.reduceAdd, Int.reduceToNat, Nat.reduceMul, List.set_cons_zero, List.set_cons_succ, List.setIfInBounds_toArray] at hs
                      try simp only [Z.putL, Nat.zero_add] at hs
                      refine Z.lnil ?_
                      refine Z.only [1, 2, 3, 4, 5, 8, 11] rfl ?_
                      refine Z.nthen ?_
                      refine Z.seq ?_
                      refine Z.region ?_
                      refine Z.lb 3 rfl ?_
                      refine Z.split (s := 66) rfl (fun hsp66 => ?_) (fun hsp66 => ?_)
                      · first
                          | (exfalso; simp at hsp66 <;> omega)
                          | (
                            refine Z.yes (s := 66) (b := true) rfl hsp66 rfl ?_
                            (try simp at hsp66)
                            have e3 : (data || decide (sduB (b % 32))) = true := by rw [hsp66]; rfl
                            refine Z.ls rfl rfl rfl (by rfl) ?_
                            refine Z.l rfl rfl (by rfl) (Z.keepS hs) (Z.Yd.pickT rfl rfl) ?_
                            refine Z.lb 7 rfl ?_
                            refine Z.lnil ?_
                            refine Z.only [1, 2, 3, 4, 5, 8, 11] rfl ?_
                            refine Z.nthen ?_
                            refine Z.seq ?_
                            refine Z.seq ?_
                            refine Z.region ?_
                            refine Z.lb 1 rfl ?_
                            refine Z.le rfl trivial ?_
                            refine Z.ZO.call rfl rfl (by rfl) rfl rfl Try.call53 rfl (mc_sdu _ _) ?_
                            rintro v12_1 w12_1 ⟨rfl, hy⟩
                            replace hs := hs.call hy
                            clear hy
                            try simp only [List.cons_append, List.nil_append, List.append_nil] at hs
                            refine Z.lb 3 rfl ?_
                            refine Z.lnil ?_
                            refine Z.only [1, 2, 3, 4, 5, 11, 79] rfl ?_
                            refine Z.nthen ?_
                            refine Z.cond rfl (fun hc12 => ?_) (fun hc12 => ?_)
                            · first
                                | (exfalso; simp at hc12 <;> omega)
                                | (
                                  (try simp at hc12)
                                  refine Z.region ?_
                                  refine Z.l rfl rfl (by rfl) (Z.keepS hs) (by first | exact Z.Yd.loadA _ rfl Try.isAgg88 (fun _ => Z.cellsB (by first | ((repeat (first | exact List.mem_cons_self | refine List.mem_cons_of_mem _ ?_ | refine List.mem_append_right _ ?_)); done) | fail)) (by exact Try.sizeOf88) | fail "load 13.0") ?_
                                  replace hs : SX.St w M _ (RdL g T sv l (8 * (p + 1)) ++ [_, _, _]) := hs.rot (L1 := [_])
                                  refine Z.le rfl trivial ?_
                                  refine Z.ZO.callB rfl rfl (by rfl) rfl rfl Try.call56 rfl (mm_length g T sv l (p + 1) _ hs.lend hl hb (by omega)) ?_ ?_
                                  · skip
                                    rintro v13_1 w13_1 ⟨hln, rfl, hz⟩
                                    replace hs := hs.regain hz
                                    simp only [RdL, List.cons_append, List.nil_append] at hs
                                    refine Z.l rfl rfl (by rfl) (Z.keepS hs) (Z.Yd.fieldA (m := 1) rfl (by kernel_rfl)) ?_
                                    refine Z.le rfl trivial ?_
                                    first | refine Z.ZO.store rfl rfl hs Try.sizeOf3 rfl rfl rfl (by first | exact SX.at0 | exact SX.at1 | exact SX.at2 | exact SX.at3 | exact SX.at4 | exact SX.at5 | exact Z.at6 | exact Z.at7 | exact Z.at8 | exact Z.at9 | exact Z.at10 | exact Z.at11 | exact Z.at12) (by first | (simp; done) | (simp; omega)) ?_ | refine Z.ZO.storeR rfl rfl hs Try.sizeOf3 rfl rfl rfl (by first | exact SX.at0 | exact SX.at1 | exact SX.at2 | exact SX.at3 | exact SX.at4 | exact SX.at5 | exact Z.at6 | exact Z.at7 | exact Z.at8 | exact Z.at9 | exact Z.at10 | exact Z.at11 | exact Z.at12) (by first | omega | (simp [ints_length]; done) | (simp [ints_length]; omega)) ?_
                                    clear hs; intro ws hs
                                    simp only [Nat.zero_add, Nat.add_zero, Nat.reduceAdd, Int.reduceToNat, Nat.reduceMul, List.set_cons_zero, List.set_cons_succ, List.setIfInBounds_toArray] at hs
                                    refine Z.lnil ?_
                                    refine Z.only [1, 2, 3, 4, 5, 11] rfl ?_
                                    refine Z.nthen ?_
                                    refine Z.region ?_
                                    try simp only [RdL, List.cons_append, List.nil_append] at hs
                                    refine Z.l rfl rfl (by rfl) (Z.keepS hs) (Z.Yd.pure rfl) ?_
                                    refine Z.l rfl rfl (by rfl) (Z.keepS hs) (by first | exact Z.Yd.loadA _ rfl Try.isAgg92 (fun _ => Z.cellsB (by first | ((repeat (first | exact List.mem_cons_self | refine List.mem_cons_of_mem _ ?_ | refine List.mem_append_right _ ?_)); done) | fail)) (by exact Try.sizeOf92) | fail "load 14.1") ?_
                                    refine Z.le rfl trivial ?_
                                    refine Z.ZO.litL (T' := 92) [(0, 2)] [.int .i64 0, .int .i64 0] rfl rfl (by rfl) rfl rfl (by intro W; kernel_rfl) hs ?_
                                    clear hs; intro g85 w85 hs
                                    refine Z.le rfl trivial ?_
                                    refine Z.ZO.append (i0 := Try.t92) (size := 2) (bytes := 16) rfl rfl (by rfl) hs Try.underlying89 (by kernel_rfl) rfl rfl rfl rfl (by decide) rfl rfl (by first | exact SX.at0 | exact SX.at1 | exact SX.at2 | exact SX.at3 | exact SX.at4 | exact SX.at5 | exact Z.at6 | exact Z.at7 | exact Z.at8 | exact Z.at9 | exact Z.at10 | exact Z.at11 | exact Z.at12) (by first | exact SX.at0 | exact SX.at1 | exact SX.at2 | exact SX.at3 | exact SX.at4 | exact SX.at5 | exact Z.at6 | exact Z.at7 | exact Z.at8 | exact Z.at9 | exact Z.at10 | exact Z.at11 | exact Z.at12) (by first | rfl | simp) (by simp [Value.oneCell']) (by decide) (by unfold maxLen; omega) (by omega) ?_
                                    clear hs; intro g86 cap86 w86 hs
                                    simp only [List.set_cons_zero, List.set_cons_succ, List.eraseIdx_cons_zero, List.eraseIdx_cons_succ] at hs
                                    refine Z.lb 1 rfl ?_
                                    refine Z.lnil ?_
                                    refine Z.only [1, 2, 3, 4, 5] rfl ?_
                                    refine Z.nblock ?_
                                    refine Z.nthen ?_
                                    have hpa : (part || decide (b % 32 ≠ 31)) = (part || b % 32 != 31) := congrArg (part || ·) (by rw [Bool.eq_iff_iff]; simp)
                                    have eL : ∀ n : Int, (acc ++ [(b % 32, n)]).length = acc.length + 1 := fun n => by simp
                                    have eF : ∀ n : Int, acc.flatMap encH ++ [Value.int .i64 (b % 32), Value.int .i64 n] = (acc ++ [(b % 32, n)]).flatMap encH := fun n => by simp [encH]
                                    rw [eF, ← eL] at hs
                                    rw [hpa, e3] at hG
                                    by_cases hm : b / 32 % 2 = 1
                                    · rw [if_pos hm] at hG
                                      first
                                      | (rw [if_pos hc12.1, if_neg (fun k => k hln)] at hG
                                         have hle := lnP_le hln
                                         exact Z.again (lnP l (p + 1), acc ++ [(b % 32, lnV l (p + 1))], _, (part || b % 32 != 31), (b / 32 % 2 == 1), _) (by refine ⟨?_, ?_, ?_, ?_, ?_, trivial⟩ <;> (first | rfl | (refine Z.lookv rfl ?_; simp; done) | (refine Z.lookv rfl ?_; simp; omega))) ⟨⟨hle.2, by simp only [eL]; omega, fun _ => ⟨F, by simp only; omega, hG⟩, fun h => by simp [hm] at h⟩, hs.sel [0, 1, 2, 3] (by decide)⟩ (by simp only; omega))
                                      | (rw [if_neg (fun k => hc12 k hm)] at hG
                                         exact Z.again (p + 1, acc ++ [(b % 32, -1)], _, (part || b % 32 != 31), (b / 32 % 2 == 1), _) (by refine ⟨?_, ?_, ?_, ?_, ?_, trivial⟩ <;> (first | rfl | (refine Z.lookv rfl ?_; simp; done) | (refine Z.lookv rfl ?_; simp; omega))) ⟨⟨by simp only; omega, by simp only [eL]; omega, fun _ => ⟨F, by simp only; omega, hG⟩, fun h => by simp [hm] at h⟩, hs.sel [1, 2, 3, 4] (by decide)⟩ (by simp only; omega))
                                    · rw [if_neg hm] at hG
                                      first
                                      | exact absurd hc12.2 hm
                                      | exact Z.again (p + 1, acc ++ [(b % 32, -1)], _, (part || b % 32 != 31), (b / 32 % 2 == 1), _) (by refine ⟨?_, ?_, ?_, ?_, ?_, trivial⟩ <;> (first | rfl | (refine Z.lookv rfl ?_; simp; done) | (refine Z.lookv rfl ?_; simp; omega))) ⟨⟨by simp only; omega, by simp only [eL]; omega, fun h => by simp [hm] at h, fun _ => hG.symm⟩, hs.sel [1, 2, 3, 4] (by decide)⟩ (by simp only; omega)
                                  · skip
                                    rintro c13_1 w13_1 ⟨hln, rfl, a', hz⟩
                                    repeat (first | refine Z.pthen ?_ | refine Z.pblock ?_ | refine Z.pscope ?_)
                                    -- ret#0
                                    refine Z.outp ?_
                                    first
                                    | exact .inr ⟨_, rfl, (pan_ln hG hc12 hln).1, (pan_ln hG hc12 hln).2, _, (hs.regain hz).sub (List.sublist_append_left _ _)⟩
                                    | exact .inr ⟨_, rfl, (pan_hd hG (bad7n hsp28)).1, (pan_hd hG (bad7n hsp28)).2, _, hs.sub (List.sublist_append_left _ _)⟩
                                    | exact .inr ⟨_, rfl, (pan_hd hG (bad7 hm7)).1, (pan_hd hG (bad7 hm7)).2, _, hs.sub (List.sublist_append_left _ _)⟩
                                    | exact .inr ⟨_, rfl, (pan_hd hG (bad8 hm8)).1, (pan_hd hG (bad8 hm8)).2, _, hs.sub (List.sublist_append_left _ _)⟩
                                    | exact .inr ⟨_, rfl, (pan_hd hG (bad9 hm9)).1, (pan_hd hG (bad9 hm9)).2, _, hs.sub (List.sublist_append_left _ _)⟩
                                    | exact .inr ⟨_, rfl, (pan_end hG (not_at hq)).1, (pan_end hG (not_at hq)).2, _, (hs.regain hz).sub (List.sublist_append_left _ _)⟩
                                  )
                            · first
                                | (exfalso; simp at hc12 <;> omega)
                                | (
                                  (try simp at hc12)
                                  refine Z.skip ?_
                                  refine Z.nthen ?_
                                  refine Z.region ?_
                                  try simp only [RdL, List.cons_append, List.nil_append] at hs
                                  refine Z.l rfl rfl (by rfl) (Z.keepS hs) (Z.Yd.pure rfl) ?_
                                  refine Z.l rfl rfl (by rfl) (Z.keepS hs) (by first | exact Z.Yd.loadA _ rfl Try.isAgg92 (fun _ => Z.cellsB (by first | ((repeat (first | exact List.mem_cons_self | refine List.mem_cons_of_mem _ ?_ | refine List.mem_append_right _ ?_)); done) | fail)) (by exact Try.sizeOf92) | fail "load 14.1") ?_
                                  refine Z.le rfl trivial ?_
                                  refine Z.ZO.litL (T' := 92) [(0, 2)] [.int .i64 0, .int .i64 0] rfl rfl (by rfl) rfl rfl (by intro W; kernel_rfl) hs ?_
                                  clear hs; intro g85 w85 hs
                                  refine Z.le rfl trivial ?_
                                  refine Z.ZO.append (i0 := Try.t92) (size := 2) (bytes := 16) rfl rfl (by rfl) hs Try.underlying89 (by kernel_rfl) rfl rfl rfl rfl (by decide) rfl rfl (by first | exact SX.at0 | exact SX.at1 | exact SX.at2 | exact SX.at3 | exact SX.at4 | exact SX.at5 | exact Z.at6 | exact Z.at7 | exact Z.at8 | exact Z.at9 | exact Z.at10 | exact Z.at11 | exact Z.at12) (by first | exact SX.at0 | exact SX.at1 | exact SX.at2 | exact SX.at3 | exact SX.at4 | exact SX.at5 | exact Z.at6 | exact Z.at7 | exact Z.at8 | exact Z.at9 | exact Z.at10 | exact Z.at11 | exact Z.at12) (by first | rfl | simp) (by simp [Value.oneCell']) (by decide) (by unfold maxLen; omega) (by omega) ?_
                                  clear hs; intro g86 cap86 w86 hs
                                  simp only [List.set_cons_zero, List.set_cons_succ, List.eraseIdx_cons_zero, List.eraseIdx_cons_succ] at hs
                                  refine Z.lb 1 rfl ?_
                                  refine Z.lnil ?_
                                  refine Z.only [1, 2, 3, 4, 5] rfl ?_
                                  refine Z.nblock ?_
                                  refine Z.nthen ?_
                                  have hpa : (part || decide (b % 32 ≠ 31)) = (part || b % 32 != 31) := congrArg (part || ·) (by rw [Bool.eq_iff_iff]; simp)
                                  have eL : ∀ n : Int, (acc ++ [(b % 32, n)]).length = acc.length + 1 := fun n => by simp
                                  have eF : ∀ n : Int, acc.flatMap encH ++ [Value.int .i64 (b % 32), Value.int .i64 n] = (acc ++ [(b % 32, n)]).flatMap encH := fun n => by simp [encH]
                                  rw [eF, ← eL] at hs
                                  rw [hpa, e3] at hG
                                  by_cases hm : b / 32 % 2 = 1
                                  · rw [if_pos hm] at hG
                                    first
                                    | (rw [if_pos hc12.1, if_neg (fun k => k hln)] at hG
                                       have hle := lnP_le hln
                                       exact Z.again (lnP l (p + 1), acc ++ [(b % 32, lnV l (p + 1))], _, (part || b % 32 != 31), (b / 32 % 2 == 1), _) (by refine ⟨?_, ?_, ?_, ?_, ?_, trivial⟩ <;> (first | rfl | (refine Z.lookv rfl ?_; simp; done) | (refine Z.lookv rfl ?_; simp; omega))) ⟨⟨hle.2, by simp only [eL]; omega, fun _ => ⟨F, by simp only; omega, hG⟩, fun h => by simp [hm] at h⟩, hs.sel [0, 1, 2, 3] (by decide)⟩ (by simp only; omega))
                                    | (rw [if_neg (fun k => hc12 k hm)] at hG
                                       exact Z.again (p + 1, acc ++ [(b % 32, -1)], _, (part || b % 32 != 31), (b / 32 % 2 == 1), _) (by refine ⟨?_, ?_, ?_, ?_, ?_, trivial⟩ <;> (first | rfl | (refine Z.lookv rfl ?_; simp; done) | (refine Z.lookv rfl ?_; simp; omega))) ⟨⟨by simp only; omega, by simp only [eL]; omega, fun _ => ⟨F, by simp only; omega, hG⟩, fun h => by simp [hm] at h⟩, hs.sel [1, 2, 3, 4] (by decide)⟩ (by simp only; omega))
                                  · rw [if_neg hm] at hG
                                    first
                                    | exact absurd hc12.2 hm
                                    | exact Z.again (p + 1, acc ++ [(b % 32, -1)], _, (part || b % 32 != 31), (b / 32 % 2 == 1), _) (by refine ⟨?_, ?_, ?_, ?_, ?_, trivial⟩ <;> (first | rfl | (refine Z.lookv rfl ?_; simp; done) | (refine Z.lookv rfl ?_; simp; omega))) ⟨⟨by simp only; omega, by simp only [eL]; omega, fun h => by simp [hm] at h, fun _ => hG.symm⟩, hs.sel [1, 2, 3, 4] (by decide)⟩ (by simp only; omega)
                                  )
                            )
                      · first
                          | (exfalso; simp at hsp66 <;> omega)
                          | (
                            refine Z.yes (s := 66) (b := false) rfl hsp66 rfl ?_
                            (try simp at hsp66)
                            have e3 : (data || decide (sduB (b % 32))) = decide (sduB (b % 32)) := by rw [hsp66]; rfl
                            refine Z.le rfl (by exact ⟨rfl, trivial⟩) ?_
                            refine Z.ZO.call rfl rfl (by rfl) rfl rfl Try.call53 rfl (mc_sdu _ _) ?_
                            rintro v11_3 w11_3 ⟨rfl, hy⟩
                            replace hs := hs.call hy
                            clear hy
                            try simp only [List.cons_append, List.nil_append, List.append_nil] at hs
                            refine Z.l rfl rfl (by rfl) (Z.keepS hs) (Z.Yd.pickF rfl rfl) ?_
                            refine Z.lb 7 rfl ?_
                            refine Z.lnil ?_
                            refine Z.only [1, 2, 3, 4, 5, 8, 11] rfl ?_
                            refine Z.nthen ?_
                            refine Z.seq ?_
                            refine Z.seq ?_
                            refine Z.region ?_
                            refine Z.lb 1 rfl ?_
                            refine Z.le rfl trivial ?_
                            refine Z.ZO.call rfl rfl (by rfl) rfl rfl Try.call53 rfl (mc_sdu _ _) ?_
                            rintro v12_1 w12_1 ⟨rfl, hy⟩
                            replace hs := hs.call hy
                            clear hy
                            try simp only [List.cons_append, List.nil_append, List.append_nil] at hs
                            refine Z.lb 3 rfl ?_
                            refine Z.lnil ?_
                            refine Z.only [1, 2, 3, 4, 5, 11, 79] rfl ?_
                            refine Z.nthen ?_
                            refine Z.cond rfl (fun hc12 => ?_) (fun hc12 => ?_)
                            · first
                                | (exfalso; simp at hc12 <;> omega)
                                | (
                                  (try simp at hc12)
                                  refine Z.region ?_
                                  refine Z.l rfl rfl (by rfl) (Z.keepS hs) (by first | exact Z.Yd.loadA _ rfl Try.isAgg88 (fun _ => Z.cellsB (by first | ((repeat (first | exact List.mem_cons_self | refine List.mem_cons_of_mem _ ?_ | refine List.mem_append_right _ ?_)); done) | fail)) (by exact Try.sizeOf88) | fail "load 13.0") ?_
                                  replace hs : SX.St w M _ (RdL g T sv l (8 * (p + 1)) ++ [_, _, _]) := hs.rot (L1 := [_])
                                  refine Z.le rfl trivial ?_
                                  refine Z.ZO.callB rfl rfl (by rfl) rfl rfl Try.call56 rfl (mm_length g T sv l (p + 1) _ hs.lend hl hb (by omega)) ?_ ?_
                                  · skip
                                    rintro v13_1 w13_1 ⟨hln, rfl, hz⟩
                                    replace hs := hs.regain hz
                                    simp only [RdL, List.cons_append, List.nil_append] at hs
                                    refine Z.l rfl rfl (by rfl) (Z.keepS hs) (Z.Yd.fieldA (m := 1) rfl (by kernel_rfl)) ?_
                                    refine Z.le rfl trivial ?_
                                    first | refine Z.ZO.store rfl rfl hs Try.sizeOf3 rfl rfl rfl (by first | exact SX.at0 | exact SX.at1 | exact SX.at2 | exact SX.at3 | exact SX.at4 | exact SX.at5 | exact Z.at6 | exact Z.at7 | exact Z.at8 | exact Z.at9 | exact Z.at10 | exact Z.at11 | exact Z.at12) (by first | (simp; done) | (simp; omega)) ?_ | refine Z.ZO.storeR rfl rfl hs Try.sizeOf3 rfl rfl rfl (by first | exact SX.at0 | exact SX.at1 | exact SX.at2 | exact SX.at3 | exact SX.at4 | exact SX.at5 | exact Z.at6 | exact Z.at7 | exact Z.at8 | exact Z.at9 | exact Z.at10 | exact Z.at11 | exact Z.at12) (by first | omega | (simp [ints_length]; done) | (simp [ints_length]; omega)) ?_
                                    clear hs; intro ws hs
                                    simp only [Nat.zero_add, Nat.add_zero, Nat.reduceAdd, Int.reduceToNat, Nat.reduceMul, List.set_cons_zero, List.set_cons_succ, List.setIfInBounds_toArray] at hs
                                    refine Z.lnil ?_
                                    refine Z.only [1, 2, 3, 4, 5, 11] rfl ?_
                                    refine Z.nthen ?_
                                    refine Z.region ?_
                                    try simp only [RdL, List.cons_append, List.nil_append] at hs
                                    refine Z.l rfl rfl (by rfl) (Z.keepS hs) (Z.Yd.pure rfl) ?_
                                    refine Z.l rfl rfl (by rfl) (Z.keepS hs) (by first | exact Z.Yd.loadA _ rfl Try.isAgg92 (fun _ => Z.cellsB (by first | ((repeat (first | exact List.mem_cons_self | refine List.mem_cons_of_mem _ ?_ | refine List.mem_append_right _ ?_)); done) | fail)) (by exact Try.sizeOf92) | fail "load 14.1") ?_
                                    refine Z.le rfl trivial ?_
                                    refine Z.ZO.litL (T' := 92) [(0, 2)] [.int .i64 0, .int .i64 0] rfl rfl (by rfl) rfl rfl (by intro W; kernel_rfl) hs ?_
                                    clear hs; intro g85 w85 hs
                                    refine Z.le rfl trivial ?_
                                    refine Z.ZO.append (i0 := Try.t92) (size := 2) (bytes := 16) rfl rfl (by rfl) hs Try.underlying89 (by kernel_rfl) rfl rfl rfl rfl (by decide) rfl rfl (by first | exact SX.at0 | exact SX.at1 | exact SX.at2 | exact SX.at3 | exact SX.at4 | exact SX.at5 | exact Z.at6 | exact Z.at7 | exact Z.at8 | exact Z.at9 | exact Z.at10 | exact Z.at11 | exact Z.at12) (by first | exact SX.at0 | exact SX.at1 | exact SX.at2 | exact SX.at3 | exact SX.at4 | exact SX.at5 | exact Z.at6 | exact Z.at7 | exact Z.at8 | exact Z.at9 | exact Z.at10 | exact Z.at11 | exact Z.at12) (by first | rfl | simp) (by simp [Value.oneCell']) (by decide) (by unfold maxLen; omega) (by omega) ?_
                                    clear hs; intro g86 cap86 w86 hs
                                    simp only [List.set_cons_zero, List.set_cons_succ, List.eraseIdx_cons_zero, List.eraseIdx_cons_succ] at hs
                                    refine Z.lb 1 rfl ?_
                                    refine Z.lnil ?_
                                    refine Z.only [1, 2, 3, 4, 5] rfl ?_
                                    refine Z.nblock ?_
                                    refine Z.nthen ?_
                                    have hpa : (part || decide (b % 32 ≠ 31)) = (part || b % 32 != 31) := congrArg (part || ·) (by rw [Bool.eq_iff_iff]; simp)
                                    have eL : ∀ n : Int, (acc ++ [(b % 32, n)]).length = acc.length + 1 := fun n => by simp
                                    have eF : ∀ n : Int, acc.flatMap encH ++ [Value.int .i64 (b % 32), Value.int .i64 n] = (acc ++ [(b % 32, n)]).flatMap encH := fun n => by simp [encH]
                                    rw [eF, ← eL] at hs
                                    rw [hpa, e3] at hG
                                    by_cases hm : b / 32 % 2 = 1
                                    · rw [if_pos hm] at hG
                                      first
                                      | (rw [if_pos hc12.1, if_neg (fun k => k hln)] at hG
                                         have hle := lnP_le hln
                                         exact Z.again (lnP l (p + 1), acc ++ [(b % 32, lnV l (p + 1))], _, (part || b % 32 != 31), (b / 32 % 2 == 1), _) (by refine ⟨?_, ?_, ?_, ?_, ?_, trivial⟩ <;> (first | rfl | (refine Z.lookv rfl ?_; simp; done) | (refine Z.lookv rfl ?_; simp; omega))) ⟨⟨hle.2, by simp only [eL]; omega, fun _ => ⟨F, by simp only; omega, hG⟩, fun h => by simp [hm] at h⟩, hs.sel [0, 1, 2, 3] (by decide)⟩ (by simp only; omega))
                                      | (rw [if_neg (fun k => hc12 k hm)] at hG
                                         exact Z.again (p + 1, acc ++ [(b % 32, -1)], _, (part || b % 32 != 31), (b / 32 % 2 == 1), _) (by refine ⟨?_, ?_, ?_, ?_, ?_, trivial⟩ <;> (first | rfl | (refine Z.lookv rfl ?_; simp; done) | (refine Z.lookv rfl ?_; simp; omega))) ⟨⟨by simp only; omega, by simp only [eL]; omega, fun _ => ⟨F, by simp only; omega, hG⟩, fun h => by simp [hm] at h⟩, hs.sel [1, 2, 3, 4] (by decide)⟩ (by simp only; omega))
                                    · rw [if_neg hm] at hG
                                      first
                                      | exact absurd hc12.2 hm
                                      | exact Z.again (p + 1, acc ++ [(b % 32, -1)], _, (part || b % 32 != 31), (b / 32 % 2 == 1), _) (by refine ⟨?_, ?_, ?_, ?_, ?_, trivial⟩ <;> (first | rfl | (refine Z.lookv rfl ?_; simp; done) | (refine Z.lookv rfl ?_; simp; omega))) ⟨⟨by simp only; omega, by simp only [eL]; omega, fun h => by simp [hm] at h, fun _ => hG.symm⟩, hs.sel [1, 2, 3, 4] (by decide)⟩ (by simp only; omega)
                                  · skip
                                    rintro c13_1 w13_1 ⟨hln, rfl, a', hz⟩
                                    repeat (first | refine Z.pthen ?_ | refine Z.pblock ?_ | refine Z.pscope ?_)
                                    -- ret#1
                                    refine Z.outp ?_
                                    first
                                    | exact .inr ⟨_, rfl, (pan_ln hG hc12 hln).1, (pan_ln hG hc12 hln).2, _, (hs.regain hz).sub (List.sublist_append_left _ _)⟩
                                    | exact .inr ⟨_, rfl, (pan_hd hG (bad7n hsp28)).1, (pan_hd hG (bad7n hsp28)).2, _, hs.sub (List.sublist_append_left _ _)⟩
                                    | exact .inr ⟨_, rfl, (pan_hd hG (bad7 hm7)).1, (pan_hd hG (bad7 hm7)).2, _, hs.sub (List.sublist_append_left _ _)⟩
                                    | exact .inr ⟨_, rfl, (pan_hd hG (bad8 hm8)).1, (pan_hd hG (bad8 hm8)).2, _, hs.sub (List.sublist_append_left _ _)⟩
                                    | exact .inr ⟨_, rfl, (pan_hd hG (bad9 hm9)).1, (pan_hd hG (bad9 hm9)).2, _, hs.sub (List.sublist_append_left _ _)⟩
                                    | exact .inr ⟨_, rfl, (pan_end hG (not_at hq)).1, (pan_end hG (not_at hq)).2, _, (hs.regain hz).sub (List.sublist_append_left _ _)⟩
                                  )
                            · first
                                | (exfalso; simp at hc12 <;> omega)
                                | (
                                  (try simp at hc12)
                                  refine Z.skip ?_
                                  refine Z.nthen ?_
                                  refine Z.region ?_
                                  try simp only [RdL, List.cons_append, List.nil_append] at hs
                                  refine Z.l rfl rfl (by rfl) (Z.keepS hs) (Z.Yd.pure rfl) ?_
                                  refine Z.l rfl rfl (by rfl) (Z.keepS hs) (by first | exact Z.Yd.loadA _ rfl Try.isAgg92 (fun _ => Z.cellsB (by first | ((repeat (first | exact List.mem_cons_self | refine List.mem_cons_of_mem _ ?_ | refine List.mem_append_right _ ?_)); done) | fail)) (by exact Try.sizeOf92) | fail "load 14.1") ?_
                                  refine Z.le rfl trivial ?_
                                  refine Z.ZO.litL (T' := 92) [(0, 2)] [.int .i64 0, .int .i64 0] rfl rfl (by rfl) rfl rfl (by intro W; kernel_rfl) hs ?_
                                  clear hs; intro g85 w85 hs
                                  refine Z.le rfl trivial ?_
                                  refine Z.ZO.append (i0 := Try.t92) (size := 2) (bytes := 16) rfl rfl (by rfl) hs Try.underlying89 (by kernel_rfl) rfl rfl rfl rfl (by decide) rfl rfl (by first | exact SX.at0 | exact SX.at1 | exact SX.at2 | exact SX.at3 | exact SX.at4 | exact SX.at5 | exact Z.at6 | exact Z.at7 | exact Z.at8 | exact Z.at9 | exact Z.at10 | exact Z.at11 | exact Z.at12) (by first | exact SX.at0 | exact SX.at1 | exact SX.at2 | exact SX.at3 | exact SX.at4 | exact SX.at5 | exact Z.at6 | exact Z.at7 | exact Z.at8 | exact Z.at9 | exact Z.at10 | exact Z.at11 | exact Z.at12) (by first | rfl | simp) (by simp [Value.oneCell']) (by decide) (by unfold maxLen; omega) (by omega) ?_
                                  clear hs; intro g86 cap86 w86 hs
                                  simp only [List.set_cons_zero, List.set_cons_succ, List.eraseIdx_cons_zero, List.eraseIdx_cons_succ] at hs
                                  refine Z.lb 1 rfl ?_
                                  refine Z.lnil ?_
                                  refine Z.only [1, 2, 3, 4, 5] rfl ?_
                                  refine Z.nblock ?_
                                  refine Z.nthen ?_
                                  have hpa : (part || decide (b % 32 ≠ 31)) = (part || b % 32 != 31) := congrArg (part || ·) (by rw [Bool.eq_iff_iff]; simp)
                                  have eL : ∀ n : Int, (acc ++ [(b % 32, n)]).length = acc.length + 1 := fun n => by simp
                                  have eF : ∀ n : Int, acc.flatMap encH ++ [Value.int .i64 (b % 32), Value.int .i64 n] = (acc ++ [(b % 32, n)]).flatMap encH := fun n => by simp [encH]
                                  rw [eF, ← eL] at hs
                                  rw [hpa, e3] at hG
                                  by_cases hm : b / 32 % 2 = 1
                                  · rw [if_pos hm] at hG
                                    first
                                    | (rw [if_pos hc12.1, if_neg (fun k => k hln)] at hG
                                       have hle := lnP_le hln
                                       exact Z.again (lnP l (p + 1), acc ++ [(b % 32, lnV l (p + 1))], _, (part || b % 32 != 31), (b / 32 % 2 == 1), _) (by refine ⟨?_, ?_, ?_, ?_, ?_, trivial⟩ <;> (first | rfl | (refine Z.lookv rfl ?_; simp; done) | (refine Z.lookv rfl ?_; simp; omega))) ⟨⟨hle.2, by simp only [eL]; omega, fun _ => ⟨F, by simp only; omega, hG⟩, fun h => by simp [hm] at h⟩, hs.sel [0, 1, 2, 3] (by decide)⟩ (by simp only; omega))
                                    | (rw [if_neg (fun k => hc12 k hm)] at hG
                                       exact Z.again (p + 1, acc ++ [(b % 32, -1)], _, (part || b % 32 != 31), (b / 32 % 2 == 1), _) (by refine ⟨?_, ?_, ?_, ?_, ?_, trivial⟩ <;> (first | rfl | (refine Z.lookv rfl ?_; simp; done) | (refine Z.lookv rfl ?_; simp; omega))) ⟨⟨by simp only; omega, by simp only [eL]; omega, fun _ => ⟨F, by simp only; omega, hG⟩, fun h => by simp [hm] at h⟩, hs.sel [1, 2, 3, 4] (by decide)⟩ (by simp only; omega))
                                  · rw [if_neg hm] at hG
                                    first
                                    | exact absurd hc12.2 hm
                                    | exact Z.again (p + 1, acc ++ [(b % 32, -1)], _, (part || b % 32 != 31), (b / 32 % 2 == 1), _) (by refine ⟨?_, ?_, ?_, ?_, ?_, trivial⟩ <;> (first | rfl | (refine Z.lookv rfl ?_; simp; done) | (refine Z.lookv rfl ?_; simp; omega))) ⟨⟨by simp only; omega, by simp only [eL]; omega, fun h => by simp [hm] at h, fun _ => hG.symm⟩, hs.sel [1, 2, 3, 4] (by decide)⟩ (by simp only; omega)
                                  )
                            )
                    · skip
                      rintro c9_15 w9_15 ⟨hm9, rfl, hy⟩
                      replace hs := hs.call hy
                      clear hy
                      try simp only [List.cons_append, List.nil_append, List.append_nil] at hs
                      repeat (first | refine Z.pthen ?_ | refine Z.pblock ?_ | refine Z.pscope ?_)
                      -- ret#2
                      refine Z.outp ?_
                      first
                      | exact .inr ⟨_, rfl, (pan_ln hG hc12 hln).1, (pan_ln hG hc12 hln).2, _, (hs.regain hz).sub (List.sublist_append_left _ _)⟩
                      | exact .inr ⟨_, rfl, (pan_hd hG (bad7n hsp28)).1, (pan_hd hG (bad7n hsp28)).2, _, hs.sub (List.sublist_append_left _ _)⟩
                      | exact .inr ⟨_, rfl, (pan_hd hG (bad7 hm7)).1, (pan_hd hG (bad7 hm7)).2, _, hs.sub (List.sublist_append_left _ _)⟩
                      | exact .inr ⟨_, rfl, (pan_hd hG (bad8 hm8)).1, (pan_hd hG (bad8 hm8)).2, _, hs.sub (List.sublist_append_left _ _)⟩
                      | exact .inr ⟨_, rfl, (pan_hd hG (bad9 hm9)).1, (pan_hd hG (bad9 hm9)).2, _, hs.sub (List.sublist_append_left _ _)⟩
                      | exact .inr ⟨_, rfl, (pan_end hG (not_at hq)).1, (pan_end hG (not_at hq)).2, _, (hs.regain hz).sub (List.sublist_append_left _ _)⟩
                  · skip
                    rintro c8_6 w8_6 ⟨hm8, rfl, hy⟩
                    replace hs := hs.call hy
                    clear hy
                    try simp only [List.cons_append, List.nil_append, List.append_nil] at hs
                    repeat (first | refine Z.pthen ?_ | refine Z.pblock ?_ | refine Z.pscope ?_)
                    -- ret#3
                    refine Z.outp ?_
                    first
                    | exact .inr ⟨_, rfl, (pan_ln hG hc12 hln).1, (pan_ln hG hc12 hln).2, _, (hs.regain hz).sub (List.sublist_append_left _ _)⟩
                    | exact .inr ⟨_, rfl, (pan_hd hG (bad7n hsp28)).1, (pan_hd hG (bad7n hsp28)).2, _, hs.sub (List.sublist_append_left _ _)⟩
                    | exact .inr ⟨_, rfl, (pan_hd hG (bad7 hm7)).1, (pan_hd hG (bad7 hm7)).2, _, hs.sub (List.sublist_append_left _ _)⟩
                    | exact .inr ⟨_, rfl, (pan_hd hG (bad8 hm8)).1, (pan_hd hG (bad8 hm8)).2, _, hs.sub (List.sublist_append_left _ _)⟩
                    | exact .inr ⟨_, rfl, (pan_hd hG (bad9 hm9)).1, (pan_hd hG (bad9 hm9)).2, _, hs.sub (List.sublist_append_left _ _)⟩
                    | exact .inr ⟨_, rfl, (pan_end hG (not_at hq)).1, (pan_end hG (not_at hq)).2, _, (hs.regain hz).sub (List.sublist_append_left _ _)⟩
                · skip
                  rintro c7_13 w7_13 ⟨hm7, rfl, hy⟩
                  replace hs := hs.call hy
                  clear hy
                  try simp only [List.cons_append, List.nil_append, List.append_nil] at hs
                  repeat (first | refine Z.pthen ?_ | refine Z.pblock ?_ | refine Z.pscope ?_)
                  -- ret#4
                  refine Z.outp ?_
                  first
                  | exact .inr ⟨_, rfl, (pan_ln hG hc12 hln).1, (pan_ln hG hc12 hln).2, _, (hs.regain hz).sub (List.sublist_append_left _ _)⟩
                  | exact .inr ⟨_, rfl, (pan_hd hG (bad7n hsp28)).1, (pan_hd hG (bad7n hsp28)).2, _, hs.sub (List.sublist_append_left _ _)⟩
                  | exact .inr ⟨_, rfl, (pan_hd hG (bad7 hm7)).1, (pan_hd hG (bad7 hm7)).2, _, hs.sub (List.sublist_append_left _ _)⟩
                  | exact .inr ⟨_, rfl, (pan_hd hG (bad8 hm8)).1, (pan_hd hG (bad8 hm8)).2, _, hs.sub (List.sublist_append_left _ _)⟩
                  | exact .inr ⟨_, rfl, (pan_hd hG (bad9 hm9)).1, (pan_hd hG (bad9 hm9)).2, _, hs.sub (List.sublist_append_left _ _)⟩
                  | exact .inr ⟨_, rfl, (pan_end hG (not_at hq)).1, (pan_end hG (not_at hq)).2, _, (hs.regain hz).sub (List.sublist_append_left _ _)⟩
                )
          · first
              | (exfalso; simp at hsp28 <;> omega)
              | (
                refine Z.yes (s := 28) (b := false) rfl hsp28 rfl ?_
                (try simp at hsp28)
                refine Z.ls rfl rfl rfl (by rfl) ?_
                refine Z.ls rfl rfl rfl (by rfl) ?_
                refine Z.lsU rfl rfl rfl (by rfl) ?_
                refine Z.ls rfl rfl rfl (by rfl) ?_
                refine Z.ls rfl rfl rfl (by rfl) ?_
                refine Z.lsU rfl rfl rfl (by rfl) ?_
                refine Z.lsU rfl rfl rfl (by rfl) ?_
                refine Z.ls rfl rfl rfl (by rfl) ?_
                refine Z.l rfl rfl (by rfl) (Z.keepS hs) (Z.Yd.pickF rfl rfl) ?_
                refine Z.le rfl trivial ?_
                refine Z.ZO.callB rfl rfl (by rfl) rfl rfl Try.call31 rfl (mm_must_any _ 9 _) ?_ ?_
                · skip
                  rintro v7_13 w7_13 ⟨hm7, rfl, hy⟩
                  replace hs := hs.call hy
                  clear hy
                  try simp only [List.cons_append, List.nil_append, List.append_nil] at hs
                  refine Z.lnil ?_
                  refine Z.only [1, 2, 3, 4, 5, 8, 10] rfl ?_
                  refine Z.nthen ?_
                  refine Z.seq ?_
                  refine Z.region ?_
                  exact absurd hm7 (by simp)
                · skip
                  rintro c7_13 w7_13 ⟨hm7, rfl, hy⟩
                  replace hs := hs.call hy
                  clear hy
                  try simp only [List.cons_append, List.nil_append, List.append_nil] at hs
                  repeat (first | refine Z.pthen ?_ | refine Z.pblock ?_ | refine Z.pscope ?_)
                  -- ret#5
                  refine Z.outp ?_
                  first
                  | exact .inr ⟨_, rfl, (pan_ln hG hc12 hln).1, (pan_ln hG hc12 hln).2, _, (hs.regain hz).sub (List.sublist_append_left _ _)⟩
                  | exact .inr ⟨_, rfl, (pan_hd hG (bad7n hsp28)).1, (pan_hd hG (bad7n hsp28)).2, _, hs.sub (List.sublist_append_left _ _)⟩
                  | exact .inr ⟨_, rfl, (pan_hd hG (bad7 hm7)).1, (pan_hd hG (bad7 hm7)).2, _, hs.sub (List.sublist_append_left _ _)⟩
                  | exact .inr ⟨_, rfl, (pan_hd hG (bad8 hm8)).1, (pan_hd hG (bad8 hm8)).2, _, hs.sub (List.sublist_append_left _ _)⟩
                  | exact .inr ⟨_, rfl, (pan_hd hG (bad9 hm9)).1, (pan_hd hG (bad9 hm9)).2, _, hs.sub (List.sublist_append_left _ _)⟩
                  | exact .inr ⟨_, rfl, (pan_end hG (not_at hq)).1, (pan_end hG (not_at hq)).2, _, (hs.regain hz).sub (List.sublist_append_left _ _)⟩
                )
        · skip
          rintro c4_1 w4_1 ⟨hq, rfl, a', hz⟩
          repeat (first | refine Z.pthen ?_ | refine Z.pblock ?_ | refine Z.pscope ?_)
          -- ret#6
          refine Z.outp ?_
          first
          | exact .inr ⟨_, rfl, (pan_ln hG hc12 hln).1, (pan_ln hG hc12 hln).2, _, (hs.regain hz).sub (List.sublist_append_left _ _)⟩
          | exact .inr ⟨_, rfl, (pan_hd hG (bad7n hsp28)).1, (pan_hd hG (bad7n hsp28)).2, _, hs.sub (List.sublist_append_left _ _)⟩
          | exact .inr ⟨_, rfl, (pan_hd hG (bad7 hm7)).1, (pan_hd hG (bad7 hm7)).2, _, hs.sub (List.sublist_append_left _ _)⟩
          | exact .inr ⟨_, rfl, (pan_hd hG (bad8 hm8)).1, (pan_hd hG (bad8 hm8)).2, _, hs.sub (List.sublist_append_left _ _)⟩
          | exact .inr ⟨_, rfl, (pan_hd hG (bad9 hm9)).1, (pan_hd hG (bad9 hm9)).2, _, hs.sub (List.sublist_append_left _ _)⟩
          | exact .inr ⟨_, rfl, (pan_end hG (not_at hq)).1, (pan_end hG (not_at hq)).2, _, (hs.regain hz).sub (List.sublist_append_left _ _)⟩
        )
  · first
      | (exfalso; simp at hc3 <;> omega)
      | (
        (try simp at hc3)
        refine Z.exit ?_
        refine Z.xthen ?_
        refine Z.xthen ?_
        refine Z.xblock ?_
        refine Z.nthen ?_
        refine Z.seq ?_
        refine Z.region ?_
        refine Z.lb 2 rfl ?_
        refine Z.lnil ?_
        refine Z.only [2] rfl ?_
        refine Z.nthen ?_
        refine Z.ret ?_
        -- ret#7
        refine Z.out1 (by exact ⟨rfl, trivial⟩) ?_
        have hRR := hno (by simp_all)
        subst hRR
        exact .inl ⟨_, rfl, rfl, hp, by simp only; omega, hs.sub (by simp)⟩
        )
end Go.Proofs.Ytogjkgoiofngaaa

/- MAC PDUs: Build, plain parts. -/
namespace Go.Proofs.Ytogjkgoiofngaaa
open Go.RowKit
set_option linter.unusedSimpArgs false
set_option linter.unusedVariables false
--newlaws

theorem mm_headI (g T : Nat) (sv : Value) (acc : List Int) (x : Int) (b : Bool) (w : World) (hs : SX.St w (SX.idsOf (WrL g T sv (unb acc))) w (WrL g T sv (unb acc))) (hx : 0 ≤ x ∧ x < 32) (ha : acc.length ≤ 100000) :
    Calls Try.prog 33 #[.int .i64 x, .bool b, .pointer (some ⟨g, 0, none⟩)] w (SX.Ret fun v w' => ∃ sv', v = .tuple #[] ∧ SX.St w (SX.idsOf (WrL g T sv (unb acc))) w' (WrL g T sv' (unb (acc ++ [x + if b then 32 else 0])))) := by
  obtain ⟨n, rfl⟩ := Int.eq_ofNat_of_zero_le hx.1
  exact mm_head g T sv acc n b w hs (by omega) ha
/-- the format of a length field: flag, width, greatest length -/
def fmOf (n : Nat) : Int × Int × Int := if n ≤ 127 then (0, 7, 127) else (1, 15, 32767)
def lnF (n : Nat) : List (Int × Int) := [((fmOf n).1, 1), ((n : Int), (fmOf n).2.1)]
theorem lnF_ok {n : Nat} (h : n ≤ 32767) : (∀ f ∈ lnF n, GoodF f) ∧ chkA (lnF n) = 0 ∧ (lnF n).flatMap fldF = unb (lenF n) := by
  unfold lnF fmOf lenF
  by_cases h1 : n ≤ 127
  · rw [if_pos h1, if_pos h1]
    refine ⟨?_, ?_, ?_⟩
    · intro f hf
      simp only [List.mem_cons, List.mem_nil_iff, or_false] at hf
      unfold GoodF
      rcases hf with rfl | rfl
      · decide
      · simp only; omega
    · have e1 : chkF (0, 1) = 0 := by decide
      have e2 : chkF ((n : Int), 7) = 0 := by
        unfold chkF quoF
        simp only [Int.toNat_natCast]
        rw [if_neg (by omega), if_pos (by simp; omega)]
      simp only [chkA, e1, e2, if_true]
    · have := len_short ⟨n, by omega⟩
      simpa [fldF, unb] using this
  · rw [if_neg h1, if_neg h1]
    refine ⟨?_, ?_, ?_⟩
    · intro f hf
      simp only [List.mem_cons, List.mem_nil_iff, or_false] at hf
      unfold GoodF
      rcases hf with rfl | rfl
      · decide
      · simp only; omega
    · have e1 : chkF (1, 1) = 0 := by decide
      have e2 : chkF ((n : Int), 15) = 0 := by
        unfold chkF quoF
        simp only [Int.toNat_natCast]
        rw [if_neg (by omega), if_pos (by simp; omega)]
      simp only [chkA, e1, e2, if_true]
    · have h2 := len_long (n := n) (by omega)
      have e1 : (128 + (n : Int) / 256).toNat = 128 + n / 256 := by omega
      have e2 : ((n : Int) % 256).toNat = n % 256 := by omega
      simpa [fldF, unb, e1, e2] using h2
theorem fm_ext {q : MpV} (h : sduB q.lc) : extP q.plain = if q.l.length ≤ 127 then 1 else 2 := by
  have e1 : q.plain.1 = q.lc := rfl
  have e2 : q.plain.2 = q.l := rfl
  unfold extP
  rw [e1, e2, if_pos h]
  by_cases h1 : q.l.length ≤ 127
  · rw [if_pos h1, if_neg (by omega)]
  · rw [if_neg h1, if_pos (by omega)]
theorem ext_pos {q : MpV} : 0 < extP q.plain ↔ sduB q.lc := by
  constructor
  · intro h
    by_cases h1 : sduB q.lc
    · exact h1
    · have := ext_no (p := q.plain) h1
      omega
  · intro h
    rw [fm_ext h]
    split <;> omega
theorem hdsR_bd {a : Bool} : ∀ {r : List Prt}, (∀ p ∈ r, (1 ≤ p.1 ∧ p.1 ≤ 30) ∧ p.2.length ≤ 32767) → ∀ x ∈ hdsR r a, 0 ≤ x ∧ x < 256
  | [], _, x, hx => by cases hx
  | p :: r, h, x, hx => by
    rw [hdsR_cons] at hx
    have hp := h p (by simp)
    rcases List.mem_append.1 hx with h1 | h1
    · split at h1
      · obtain rfl : x = p.1 := by simpa using h1
        omega
      · rcases List.mem_cons.1 h1 with rfl | h2
        · omega
        · split at h2
          · exact (lenF_bd hp.2).1 x h2
          · cases h2
    · exact hdsR_bd (fun q hq => h q (by simp [hq])) x h1
/-- all subheaders -/
def headB (r : List Prt) (f : Nat) (tr : Bool) : List Int := List.replicate f 63 ++ hdsR r tr ++ if tr then [31] else []
theorem headB_bd {r : List Prt} {f : Nat} {tr : Bool} (h : ∀ p ∈ r, (1 ≤ p.1 ∧ p.1 ≤ 30) ∧ p.2.length ≤ 32767) : ∀ x ∈ headB r f tr, 0 ≤ x ∧ x < 256 := by
  intro x hx
  unfold headB at hx
  rcases List.mem_append.1 hx with hx | hx
  · rcases List.mem_append.1 hx with hx | hx
    · have := (List.mem_replicate.1 hx).2; omega
    · exact hdsR_bd h x hx
  · split at hx
    · have : x = 31 := by simpa using hx
      omega
    · cases hx
theorem join_few (r : List Prt) (d : Nat) : joinB r d (-1) = headB r d false ++ datR r := by simp [joinB, headB]
theorem join_tr (r : List Prt) (a : Nat) : joinB r 0 (a : Int) = headB r 0 true ++ datR r ++ List.replicate a 0 := by simp [joinB, headB]
theorem headB_len_t (r : List Prt) : ((headB r 0 true ++ datR r).length : Int) = totP r + 1 := by
  have := hds_true r
  simp [headB]
  omega
theorem headB_len_f (r : List Prt) (d : Nat) (h : r ≠ []) : ((headB r d false ++ datR r).length : Int) = needP r + d := by
  have := hds_false r h
  simp [headB]
  omega
end Go.Proofs.Ytogjkgoiofngaaa

/- MAC PDUs: parsing, plainly. -/
namespace Go.Proofs.Ytogjkgoiofngaaa
open Go.RowKit
set_option linter.unusedSimpArgs false
set_option linter.unusedVariables false

/-- the length of the data of a part at byte p -/
def ptN (l : List Int) (p : Nat) (x n : Int) (last : Bool) : Int := if ctlN x ≠ 0 then ctlN x else if last then (l.length : Int) - p else n
/-- the parts from byte p on: the error, the parts -/
def ptGo (l : List Int) : List (Int × Int) → Nat → List Prt → Int × List Prt
  | [], _, acc => if acc = [] then (9, []) else (0, acc)
  | h :: hs, p, acc => if h.1 = 31 then ptGo l hs p acc
    else if ¬ p + (ptN l p h.1 h.2 hs.isEmpty).toNat ≤ l.length then (5, [])
    else if hs.isEmpty = true ∧ ¬ (0 < (ptN l p h.1 h.2 hs.isEmpty).toNat ∧ p + (ptN l p h.1 h.2 hs.isEmpty).toNat = l.length) then (9, [])
    else ptGo l hs (p + (ptN l p h.1 h.2 hs.isEmpty).toNat) (acc ++ [(h.1, (l.drop p).take (ptN l p h.1 h.2 hs.isEmpty).toNat)])
def hdV (l : List Int) : Int × List (Int × Int) × Nat := hGo l (l.length + 1) 0 [] false false
/-- the parts of a PDU: the error, the parts -/
def parV (l : List Int) : Int × List Prt := if 16384 < l.length then (4, []) else if (hdV l).1 ≠ 0 then ((hdV l).1, []) else ptGo l (hdV l).2.1 (hdV l).2.2 []
def hdT (h : Int × Int) : Prop := sduB h.1 ∨ ctlN h.1 ≠ 0 ∨ h.1 = 31
def hdG (h : Int × Int) : Prop := hdT h ∧ (sduB h.1 → 1 ≤ h.2 ∧ h.2 ≤ 32767)
theorem lnV_bd {l : List Int} (hb : ∀ x ∈ l, 0 ≤ x ∧ x < 256) {p : Nat} (h : lnE l p = 0) : 1 ≤ lnV l p ∧ lnV l p ≤ 32767 := by
  unfold lnE at h
  unfold lnV
  by_cases h1 : p < l.length
  · have b1 := byB_bd hb h1
    rw [if_neg (fun k => k h1)] at h
    by_cases h2 : byB l p < 128
    · rw [if_pos h2] at h ⊢
      by_cases h3 : byB l p = 0
      · rw [if_pos h3] at h; cases h
      · omega
    · rw [if_neg h2] at h ⊢
      by_cases h3 : p + 1 < l.length
      · have b2 := byB_bd hb h3
        rw [if_neg (fun k => k h3)] at h
        by_cases h4 : 127 < byB l p % 128 * 256 + byB l (p + 1)
        · omega
        · rw [if_neg h4] at h; cases h
      · rw [if_pos h3] at h; cases h
  · rw [if_pos h1] at h; cases h
theorem hGo_good {l : List Int} (hb : ∀ x ∈ l, 0 ≤ x ∧ x < 256) : ∀ (F p : Nat) (acc : List (Int × Int)) (d pt : Bool), (∀ h ∈ acc, hdG h) → (hGo l F p acc d pt).1 = 0 → ∃ a h, (hGo l F p acc d pt).2.1 = a ++ [h] ∧ (∀ x ∈ a, hdG x) ∧ hdT h
  | 0, _, _, _, _ => by intro _ h; cases h
  | F + 1, p, acc, d, pt => by
    intro ha
    rw [hGo]
    by_cases h1 : p < l.length
    · rw [if_neg (fun k => k h1)]
      by_cases h2 : hdBad (byB l p) acc.length d pt
      · rw [if_pos h2]; intro h; exact absurd h (by decide)
      · rw [if_neg h2]
        have hT : sduB (byB l p % 32) ∨ ctlN (byB l p % 32) ≠ 0 ∨ byB l p % 32 = 31 := by
          unfold hdBad at h2
          exact (Classical.not_not.1 (fun k => h2 (.inl k))).2
        by_cases h3 : byB l p / 32 % 2 = 1
        · rw [if_pos h3]
          by_cases h4 : sduB (byB l p % 32)
          · rw [if_pos h4]
            by_cases h5 : lnE l (p + 1) = 0
            · rw [if_neg (fun k => k h5)]
              refine hGo_good hb F _ _ _ _ ?_
              intro x hx
              rcases List.mem_append.1 hx with h | h
              · exact ha x h
              · obtain rfl : x = _ := by simpa using h
                exact ⟨.inl h4, fun _ => lnV_bd hb h5⟩
            · rw [if_pos h5]; intro h; exact absurd h h5
          · rw [if_neg h4]
            refine hGo_good hb F _ _ _ _ ?_
            intro x hx
            rcases List.mem_append.1 hx with h | h
            · exact ha x h
            · obtain rfl : x = _ := by simpa using h
              exact ⟨hT, fun h => absurd h h4⟩
        · rw [if_neg h3]
          intro _
          exact ⟨acc, _, rfl, ha, hT⟩
    · rw [if_pos h1]; intro h; exact absurd h (by decide)
end Go.Proofs.Ytogjkgoiofngaaa

/- MAC PDUs: a part read. -/
namespace Go.Proofs.Ytogjkgoiofngaaa
open Go.RowKit
set_option linter.unusedSimpArgs false
set_option linter.unusedVariables false
--newlaws

abbrev PtR (g T : Nat) (sv : Value) (l : List Int) (p : Nat) (x : Int) (last : Bool) (k : Nat) (w : World) : Ending → World → Prop := Z.Bo (fun v w' => (p + k ≤ l.length ∧ (last = true → 0 < k ∧ p + k = l.length)) ∧ ∃ B co, v = .agg #[.int .i64 x, .slice B k k] ∧ SX.St w (SX.idsOf (RdL g T sv l (8 * p))) w' (RdL g T sv l (8 * (p + k)) ++ [SX.Ent.row (.slice B k co) 5 1 k (ints .u8 ((l.drop p).take k))])) fun c w' => (¬ p + k ≤ l.length ∨ last = true ∧ ¬ (0 < k ∧ p + k = l.length)) ∧ c = mperr (if p + k ≤ l.length then 9 else 5) ∧ ∃ a', SX.St w (SX.idsOf (RdL g T sv l (8 * p))) w' (RdL g T sv l a')
theorem mm_gotb_any (x : Value) (e : Int) (w : World) : Calls Try.prog 58 #[x, .int .i64 e] w (Z.Bo (fun v w' => e = 0 ∧ v = x ∧ SX.St w [] w' []) fun c w' => e ≠ 0 ∧ c = mperr e ∧ SX.St w [] w' []) := by
  by_cases h : e = 0
  · subst h; exact Z.Bo.ret ((mm_gotb_ok x w).mono fun e w' ⟨v, h1, h2⟩ => ⟨v, h1, rfl, h2⟩)
  · exact Z.Bo.pan ((mm_gotb_bad x e w h).mono fun e w' ⟨v, h1, h2⟩ => ⟨v, h1, h, h2⟩)
set_option maxHeartbeats 1000000 in
set_option maxRecDepth 100000 in
theorem mm_part_mid (g T : Nat) (sv : Value) (l : List Int) (p : Nat) (x n : Int) (k : Nat) (w : World) (hs : SX.St w (SX.idsOf (RdL g T sv l (8 * p))) w (RdL g T sv l (8 * p))) (hl : l.length ≤ 1000000) (hb : ∀ x ∈ l, 0 ≤ x ∧ x < 256) (hp : p ≤ l.length) (hk : ptN l p x n false = k) :
    Calls Try.prog 47 #[.agg #[.pointer (some ⟨g, 0, none⟩)], .agg #[.int .i64 x, .int .i64 n], .bool false] w (PtR g T sv l p x false k w) := by
  unfold PtR
  generalize hM : SX.idsOf (RdL g T sv l (8 * p)) = M at *
  obtain ⟨c, hc⟩ : ∃ c : Bool, decide (ctlN x ≠ 0) = c := ⟨_, rfl⟩
  have hkT : c = true → ctlN x = (k : Int) := fun h => by rw [← hk]; unfold ptN; rw [if_pos (by subst h; simpa using hc)]
  have hkF : c = false → n = (k : Int) := fun h => by rw [← hk]; unfold ptN; rw [if_neg (by subst h; simpa using hc)]; rfl
  have hgb : gbE l (8 * p) (k : Int) = 0 → p + k ≤ l.length := fun h => by
    rcases Nat.lt_or_ge l.length (p + k) with h1 | h1
    · rw [gb_bad hp (by omega)] at h; cases h
    · exact h1
  have hgc : gbE l (8 * p) (k : Int) ≠ 0 → ¬ p + k ≤ l.length := fun h h1 => h (gb_ok hb h1).1
  refine Z.enter Try.func47 rfl Try.ntmps47 rfl rfl ?_
  refine Z.seq ?_
  refine Z.region ?_
  refine Z.le rfl trivial ?_
  refine Z.ZO.box rfl rfl (by rfl) rfl rfl hs ?_
  clear hs; intro g3 w3 hs
  refine Z.le rfl trivial ?_
  refine Z.ZO.box rfl rfl (by rfl) rfl rfl hs ?_
  clear hs; intro g4 w4 hs
  refine Z.le rfl trivial ?_
  refine Z.ZO.alloc rfl rfl (by rfl) Try.zeroValue47 rfl hs ?_
  clear hs; intro g6 w6 hs
  refine Z.lnil ?_
  refine Z.only [2, 3, 4, 6] rfl ?_
  refine Z.nthen ?_
  refine Z.seq ?_
  refine Z.region ?_
  refine Z.l rfl rfl (by rfl) (Z.keepS hs) (Z.Yd.fieldA (m := 0) rfl (by kernel_rfl)) ?_
  refine Z.l rfl rfl (by rfl) (Z.keepS hs) (by first | exact Z.Yd.load rfl Try.isAgg3 (fun _ => Z.cellB (by first | ((repeat (first | exact List.mem_cons_self | refine List.mem_cons_of_mem _ ?_ | refine List.mem_append_right _ ?_)); done) | fail) rfl) | exact Z.Yd.load rfl Try.isAgg3 (fun _ => Z.cellO (by assumption) (by simp) (by assumption)) | fail "load 1.1") ?_
  refine Z.le rfl trivial ?_
  refine Z.ZO.call rfl rfl (by rfl) rfl rfl Try.call21 rfl (mc_Control _ _) ?_
  rintro v1_2 w1_2 ⟨rfl, hy⟩
  replace hs := hs.call hy
  clear hy
  try simp only [List.cons_append, List.nil_append, List.append_nil] at hs
  rw [hc]
  refine Z.lb 5 rfl ?_
  refine Z.lnil ?_
  refine Z.only [2, 3, 4, 6, 7, 8] rfl ?_
  refine Z.nthen ?_
  refine Z.seq ?_
  refine Z.block ?_
  refine Z.seq ?_
  refine Z.region ?_
  refine Z.lb 6 rfl ?_
  refine Z.lnil ?_
  refine Z.only [2, 3, 4, 6, 7, 8, 16] rfl ?_
  refine Z.nthen ?_
  refine Z.cond rfl (fun h => absurd h (by cases c <;> simp)) (fun hc2 => ?_)
  refine Z.seq ?_
  refine Z.region ?_
  refine Z.lb 3 rfl ?_
  refine Z.lnil ?_
  refine Z.only [2, 3, 4, 6, 7, 26] rfl ?_
  refine Z.nthen ?_
  refine Z.cond rfl (fun hc4 => ?_) (fun hc4 => ?_)
  · first
      | (exfalso; simp at hc4 <;> omega)
      | (
        (try simp at hc4)
        obtain rfl : c = false := by simpa using hc4
        obtain rfl := hkF rfl
        refine Z.region ?_
        refine Z.l rfl rfl (by rfl) (Z.keepS hs) (Z.Yd.fieldA (m := 1) rfl (by kernel_rfl)) ?_
        refine Z.l rfl rfl (by rfl) (Z.keepS hs) (by first | exact Z.Yd.load rfl Try.isAgg3 (fun _ => Z.cellB (by first | ((repeat (first | exact List.mem_cons_self | refine List.mem_cons_of_mem _ ?_ | refine List.mem_append_right _ ?_)); done) | fail) rfl) | exact Z.Yd.load rfl Try.isAgg3 (fun _ => Z.cellO (by assumption) (by simp) (by assumption)) | fail "load 5.1") ?_
        refine Z.lb 1 rfl ?_
        refine Z.lnil ?_
        refine Z.only [2, 3, 4, 6, 7] rfl ?_
        refine Z.nblock ?_
        refine Z.nthen ?_
        refine Z.seq ?_
        refine Z.region ?_
        refine Z.l rfl rfl (by rfl) (Z.keepS hs) (Z.Yd.fieldA (m := 0) rfl (by kernel_rfl)) ?_
        refine Z.l rfl rfl (by rfl) (Z.keepS hs) (by first | exact Z.Yd.load rfl Try.isAgg85 (fun _ => Z.cellB (by first | ((repeat (first | exact List.mem_cons_self | refine List.mem_cons_of_mem _ ?_ | refine List.mem_append_right _ ?_)); done) | fail) rfl) | exact Z.Yd.load rfl Try.isAgg85 (fun _ => Z.cellO (by assumption) (by simp) (by assumption)) | fail "load 6.1") ?_
        refine Z.lb 1 rfl ?_
        first
        | replace hs : SX.St w M _ (RdL g T sv l (8 * p) ++ [_, _, _]) := hs.rot (L1 := [_, _, _])
        | replace hs : SX.St w M _ (RdL g T sv l (8 * p) ++ [_, _, _]) := hs
        refine Z.le rfl trivial ?_
        refine Z.ZO.call rfl rfl (by rfl) rfl rfl Try.call59 rfl (rgetbytes_any g T sv l (8 * p) _ _ hs.lend hl (by omega) hb) ?_
        rintro v6_3 w6_3 ⟨so, rfl, hz⟩
        replace hs := hs.regain hz
        refine Z.lb 2 rfl ?_
        refine Z.le rfl trivial ?_
        refine Z.ZO.callB rfl rfl (by rfl) rfl rfl Try.call58 rfl (mm_gotb_any _ _ _) ?_ ?_
        · skip
          rintro v6_6 w6_6 ⟨hE, rfl, hy⟩
          replace hs := hs.call hy
          clear hy
          try simp only [List.cons_append, List.nil_append, List.append_nil] at hs
          have hpk := hgb hE
          obtain ⟨-, gv, ga⟩ := gb_ok hb hpk
          rw [gv, ga] at hs
          have hlk : ((l.drop p).take k).length = k := by rw [List.length_take, List.length_drop]; omega
          rw [hlk] at hs
          obtain ⟨B, co, rfl, hco, -, -⟩ := SX.row_slv hs (j := 2) rfl
          refine Z.lb 1 rfl ?_
          refine Z.lnil ?_
          refine Z.only [2, 3, 4, 6, 7, 9] rfl ?_
          refine Z.nthen ?_
          refine Z.seq ?_
          refine Z.region ?_
          refine Z.lb 3 rfl ?_
          refine Z.yes (s := 40) (b := true) rfl ((by simp)) rfl ?_
          refine Z.ls rfl rfl rfl (by rfl) ?_
          refine Z.ls rfl rfl rfl (by rfl) ?_
          refine Z.ls rfl rfl rfl (by rfl) ?_
          refine Z.lsU rfl rfl rfl (by rfl) ?_
          refine Z.lsU rfl rfl rfl (by rfl) ?_
          refine Z.lsU rfl rfl rfl (by rfl) ?_
          refine Z.lsU rfl rfl rfl (by rfl) ?_
          refine Z.ls rfl rfl rfl (by rfl) ?_
          refine Z.l rfl rfl (by rfl) (Z.keepS hs) (Z.Yd.pickT rfl rfl) ?_
          refine Z.le rfl trivial ?_
          refine Z.ZO.call rfl rfl (by rfl) rfl rfl Try.call31 rfl (mm_must_ok _ 9 _ (by simp)) ?_
          rintro v7_12 w7_12 ⟨rfl, hy⟩
          replace hs := hs.call hy
          clear hy
          try simp only [List.cons_append, List.nil_append, List.append_nil] at hs
          try simp only [RdL, List.cons_append, List.nil_append] at hs
          refine Z.lnil ?_
          refine Z.only [4, 6, 7, 9] rfl ?_
          refine Z.nthen ?_
          refine Z.seq ?_
          refine Z.drawK (fun j => j != 7) mixed hs ?_
          clear hs; intro wd8 hs
          refine Z.t 0 rfl rfl rfl (by rfl) (by kernel_rfl) ⟨_, hs, by first | (simp; done) | exact fun e he => List.mem_append_right _ he⟩ (Z.Yd.fieldA (m := 0) rfl (by kernel_rfl)) ?_
          refine Z.t 1 rfl rfl rfl (by rfl) (by kernel_rfl) ⟨_, hs, by first | (simp; done) | exact fun e he => List.mem_append_right _ he⟩ (by first | exact Z.Yd.load rfl Try.isAgg3 (fun _ => Z.cellB (by first | ((repeat (first | exact List.mem_cons_self | refine List.mem_cons_of_mem _ ?_ | refine List.mem_append_right _ ?_)); done) | fail) rfl) | exact Z.Yd.load rfl Try.isAgg3 (fun _ => Z.cellO (by assumption) (by simp) (by assumption)) | fail "load 8.1") ?_
          refine Z.tb [2, 3, 4] (by kernel_rfl) rfl ⟨_, hs, by first | (simp; done) | exact fun e he => List.mem_append_right _ he⟩ rfl ?_
          refine Z.t 5 rfl rfl rfl (by rfl) (by kernel_rfl) ⟨_, hs, by first | (simp; done) | exact fun e he => List.mem_append_right _ he⟩ (Z.Yd.cut3 0 k k rfl rfl rfl rfl Try.underlying26 Try.sizeOf5 (fun hG => ⟨(by first | omega | (have hG' := Z.gh rfl hG; simp at hG'; omega)), (by first | omega | (have hG' := Z.gh rfl hG; simp at hG'; omega)), (by first | omega | (have hG' := Z.gh rfl hG; simp at hG'; omega)), (by first | omega | (have hG' := Z.gh rfl hG; simp at hG'; omega)), (by first | omega | (have hG' := Z.gh rfl hG; simp at hG'; omega))⟩)) ?_
          refine Z.t 6 rfl rfl rfl (by rfl) (by kernel_rfl) ⟨_, hs, by first | (simp; done) | exact fun e he => List.mem_append_right _ he⟩ (Z.Yd.buildL [(0, 1), (1, 1)] [.int .i64 0, .slice none 0 0] rfl rfl (by intro w; kernel_rfl)) ?_
          refine Z.tn 7 rfl rfl (by kernel_rfl) rfl trivial ?_
          first | refine Z.ZO.storeA rfl rfl hs rfl rfl (by kernel_rfl) (by first | (simp [Value.oneCell']; done) | (refine Z.all_one ?_; assumption)) (by first | exact SX.at0 | exact SX.at1 | exact SX.at2 | exact SX.at3 | exact SX.at4 | exact SX.at5 | exact Z.at6 | exact Z.at7 | exact Z.at8 | exact Z.at9 | exact Z.at10 | exact Z.at11 | exact Z.at12) (by rfl) ?_ | refine Z.ZO.storeP rfl rfl hs rfl rfl (by kernel_rfl) (by first | (simp [Value.oneCell']; done) | (refine Z.all_one ?_; assumption)) (by first | exact SX.at0 | exact SX.at1 | exact SX.at2 | exact SX.at3 | exact SX.at4 | exact SX.at5 | exact Z.at6 | exact Z.at7 | exact Z.at8 | exact Z.at9 | exact Z.at10 | exact Z.at11 | exact Z.at12) (by first | decide | (simp; done) | (simp; omega)) ?_ | refine Z.ZO.storePR rfl rfl hs rfl rfl (by kernel_rfl) (by first | (simp [Value.oneCell']; done) | (refine Z.all_one ?_; assumption)) (by first | exact SX.at0 | exact SX.at1 | exact SX.at2 | exact SX.at3 | exact SX.at4 | exact SX.at5 | exact Z.at6 | exact Z.at7 | exact Z.at8 | exact Z.at9 | exact Z.at10 | exact Z.at11 | exact Z.at12) (by first | decide | (simp; done) | (simp; omega)) ?_
          clear hs; intro ws hs
          simp only [Nat.zero_add, Nat.add_zero, Nat.reduceAdd, Int.reduceToNat, Nat.reduceMul, List.set_cons_zero, List.set_cons_succ, List.setIfInBounds_toArray] at hs
          try simp only [Z.putL, Nat.zero_add] at hs
          refine Z.tk (Dn := fun j => j != 7) (i := 7) (fun h => absurd h (by decide)) ?_
          refine Z.td (by rfl) (by kernel_rfl) ?_
          refine Z.only [6] rfl ?_
          refine Z.nthen ?_
          refine Z.ret ?_
          -- ret#0
          refine Z.out1 (by exact ⟨⟨_, rfl, Z.rvcA hs Try.isAgg47 (by first | ((repeat (first | exact List.mem_cons_self | refine List.mem_cons_of_mem _ ?_ | refine List.mem_append_right _ ?_)); done) | fail) (by exact Try.sizeOf47)⟩, trivial⟩) ?_
          exact .inl ⟨_, rfl, ⟨hpk, fun h => by cases h⟩, B, co, by rw [slA_zero]; rfl, hs.sel [0, 1, 2] (by decide)⟩
        · skip
          rintro c6_6 w6_6 ⟨hE, rfl, hy⟩
          replace hs := hs.call hy
          clear hy
          try simp only [List.cons_append, List.nil_append, List.append_nil] at hs
          repeat (first | refine Z.pthen ?_ | refine Z.pblock ?_ | refine Z.pscope ?_)
          -- ret#1
          refine Z.outp ?_
          first
          | exact .inr ⟨_, rfl, .inl (hgc hE), by rw [if_neg (hgc hE), gb_bad hp (hgc hE)], _, hs.sub ((List.sublist_append_left _ _).trans (List.sublist_append_left _ _))⟩
          | exact .inr ⟨_, rfl, .inr ⟨rfl, by first | omega | (simp at hm <;> omega)⟩, by rw [if_pos hpk], _, hs.sub (List.sublist_append_left _ _)⟩
        )
  · first
      | (exfalso; simp at hc4 <;> omega)
      | (
        (try simp at hc4)
        obtain rfl : c = true := by simpa using hc4
        rw [hkT rfl]
        refine Z.skip ?_
        refine Z.nblock ?_
        refine Z.nthen ?_
        refine Z.seq ?_
        refine Z.region ?_
        refine Z.l rfl rfl (by rfl) (Z.keepS hs) (Z.Yd.fieldA (m := 0) rfl (by kernel_rfl)) ?_
        refine Z.l rfl rfl (by rfl) (Z.keepS hs) (by first | exact Z.Yd.load rfl Try.isAgg85 (fun _ => Z.cellB (by first | ((repeat (first | exact List.mem_cons_self | refine List.mem_cons_of_mem _ ?_ | refine List.mem_append_right _ ?_)); done) | fail) rfl) | exact Z.Yd.load rfl Try.isAgg85 (fun _ => Z.cellO (by assumption) (by simp) (by assumption)) | fail "load 6.1") ?_
        refine Z.lb 1 rfl ?_
        first
        | replace hs : SX.St w M _ (RdL g T sv l (8 * p) ++ [_, _, _]) := hs.rot (L1 := [_, _, _])
        | replace hs : SX.St w M _ (RdL g T sv l (8 * p) ++ [_, _, _]) := hs
        refine Z.le rfl trivial ?_
        refine Z.ZO.call rfl rfl (by rfl) rfl rfl Try.call59 rfl (rgetbytes_any g T sv l (8 * p) _ _ hs.lend hl (by omega) hb) ?_
        rintro v6_3 w6_3 ⟨so, rfl, hz⟩
        replace hs := hs.regain hz
        refine Z.lb 2 rfl ?_
        refine Z.le rfl trivial ?_
        refine Z.ZO.callB rfl rfl (by rfl) rfl rfl Try.call58 rfl (mm_gotb_any _ _ _) ?_ ?_
        · skip
          rintro v6_6 w6_6 ⟨hE, rfl, hy⟩
          replace hs := hs.call hy
          clear hy
          try simp only [List.cons_append, List.nil_append, List.append_nil] at hs
          have hpk := hgb hE
          obtain ⟨-, gv, ga⟩ := gb_ok hb hpk
          rw [gv, ga] at hs
          have hlk : ((l.drop p).take k).length = k := by rw [List.length_take, List.length_drop]; omega
          rw [hlk] at hs
          obtain ⟨B, co, rfl, hco, -, -⟩ := SX.row_slv hs (j := 2) rfl
          refine Z.lb 1 rfl ?_
          refine Z.lnil ?_
          refine Z.only [2, 3, 4, 6, 7, 9] rfl ?_
          refine Z.nthen ?_
          refine Z.seq ?_
          refine Z.region ?_
          refine Z.lb 3 rfl ?_
          refine Z.yes (s := 40) (b := true) rfl ((by simp)) rfl ?_
          refine Z.ls rfl rfl rfl (by rfl) ?_
          refine Z.ls rfl rfl rfl (by rfl) ?_
          refine Z.ls rfl rfl rfl (by rfl) ?_
          refine Z.lsU rfl rfl rfl (by rfl) ?_
          refine Z.lsU rfl rfl rfl (by rfl) ?_
          refine Z.lsU rfl rfl rfl (by rfl) ?_
          refine Z.lsU rfl rfl rfl (by rfl) ?_
          refine Z.ls rfl rfl rfl (by rfl) ?_
          refine Z.l rfl rfl (by rfl) (Z.keepS hs) (Z.Yd.pickT rfl rfl) ?_
          refine Z.le rfl trivial ?_
          refine Z.ZO.call rfl rfl (by rfl) rfl rfl Try.call31 rfl (mm_must_ok _ 9 _ (by simp)) ?_
          rintro v7_12 w7_12 ⟨rfl, hy⟩
          replace hs := hs.call hy
          clear hy
          try simp only [List.cons_append, List.nil_append, List.append_nil] at hs
          try simp only [RdL, List.cons_append, List.nil_append] at hs
          refine Z.lnil ?_
          refine Z.only [4, 6, 7, 9] rfl ?_
          refine Z.nthen ?_
          refine Z.seq ?_
          refine Z.drawK (fun j => j != 7) mixed hs ?_
          clear hs; intro wd8 hs
          refine Z.t 0 rfl rfl rfl (by rfl) (by kernel_rfl) ⟨_, hs, by first | (simp; done) | exact fun e he => List.mem_append_right _ he⟩ (Z.Yd.fieldA (m := 0) rfl (by kernel_rfl)) ?_
          refine Z.t 1 rfl rfl rfl (by rfl) (by kernel_rfl) ⟨_, hs, by first | (simp; done) | exact fun e he => List.mem_append_right _ he⟩ (by first | exact Z.Yd.load rfl Try.isAgg3 (fun _ => Z.cellB (by first | ((repeat (first | exact List.mem_cons_self | refine List.mem_cons_of_mem _ ?_ | refine List.mem_append_right _ ?_)); done) | fail) rfl) | exact Z.Yd.load rfl Try.isAgg3 (fun _ => Z.cellO (by assumption) (by simp) (by assumption)) | fail "load 8.1") ?_
          refine Z.tb [2, 3, 4] (by kernel_rfl) rfl ⟨_, hs, by first | (simp; done) | exact fun e he => List.mem_append_right _ he⟩ rfl ?_
          refine Z.t 5 rfl rfl rfl (by rfl) (by kernel_rfl) ⟨_, hs, by first | (simp; done) | exact fun e he => List.mem_append_right _ he⟩ (Z.Yd.cut3 0 k k rfl rfl rfl rfl Try.underlying26 Try.sizeOf5 (fun hG => ⟨(by first | omega | (have hG' := Z.gh rfl hG; simp at hG'; omega)), (by first | omega | (have hG' := Z.gh rfl hG; simp at hG'; omega)), (by first | omega | (have hG' := Z.gh rfl hG; simp at hG'; omega)), (by first | omega | (have hG' := Z.gh rfl hG; simp at hG'; omega)), (by first | omega | (have hG' := Z.gh rfl hG; simp at hG'; omega))⟩)) ?_
          refine Z.t 6 rfl rfl rfl (by rfl) (by kernel_rfl) ⟨_, hs, by first | (simp; done) | exact fun e he => List.mem_append_right _ he⟩ (Z.Yd.buildL [(0, 1), (1, 1)] [.int .i64 0, .slice none 0 0] rfl rfl (by intro w; kernel_rfl)) ?_
          refine Z.tn 7 rfl rfl (by kernel_rfl) rfl trivial ?_
          first | refine Z.ZO.storeA rfl rfl hs rfl rfl (by kernel_rfl) (by first | (simp [Value.oneCell']; done) | (refine Z.all_one ?_; assumption)) (by first | exact SX.at0 | exact SX.at1 | exact SX.at2 | exact SX.at3 | exact SX.at4 | exact SX.at5 | exact Z.at6 | exact Z.at7 | exact Z.at8 | exact Z.at9 | exact Z.at10 | exact Z.at11 | exact Z.at12) (by rfl) ?_ | refine Z.ZO.storeP rfl rfl hs rfl rfl (by kernel_rfl) (by first | (simp [Value.oneCell']; done) | (refine Z.all_one ?_; assumption)) (by first | exact SX.at0 | exact SX.at1 | exact SX.at2 | exact SX.at3 | exact SX.at4 | exact SX.at5 | exact Z.at6 | exact Z.at7 | exact Z.at8 | exact Z.at9 | exact Z.at10 | exact Z.at11 | exact Z.at12) (by first | decide | (simp; done) | (simp; omega)) ?_ | refine Z.ZO.storePR rfl rfl hs rfl rfl (by kernel_rfl) (by first | (simp [Value.oneCell']; done) | (refine Z.all_one ?_; assumption)) (by first | exact SX.at0 | exact SX.at1 | exact SX.at2 | exact SX.at3 | exact SX.at4 | exact SX.at5 | exact Z.at6 | exact Z.at7 | exact Z.at8 | exact Z.at9 | exact Z.at10 | exact Z.at11 | exact Z.at12) (by first | decide | (simp; done) | (simp; omega)) ?_
          clear hs; intro ws hs
          simp only [Nat.zero_add, Nat.add_zero, Nat.reduceAdd, Int.reduceToNat, Nat.reduceMul, List.set_cons_zero, List.set_cons_succ, List.setIfInBounds_toArray] at hs
          try simp only [Z.putL, Nat.zero_add] at hs
          refine Z.tk (Dn := fun j => j != 7) (i := 7) (fun h => absurd h (by decide)) ?_
          refine Z.td (by rfl) (by kernel_rfl) ?_
          refine Z.only [6] rfl ?_
          refine Z.nthen ?_
          refine Z.ret ?_
          -- ret#2
          refine Z.out1 (by exact ⟨⟨_, rfl, Z.rvcA hs Try.isAgg47 (by first | ((repeat (first | exact List.mem_cons_self | refine List.mem_cons_of_mem _ ?_ | refine List.mem_append_right _ ?_)); done) | fail) (by exact Try.sizeOf47)⟩, trivial⟩) ?_
          exact .inl ⟨_, rfl, ⟨hpk, fun h => by cases h⟩, B, co, by rw [slA_zero]; rfl, hs.sel [0, 1, 2] (by decide)⟩
        · skip
          rintro c6_6 w6_6 ⟨hE, rfl, hy⟩
          replace hs := hs.call hy
          clear hy
          try simp only [List.cons_append, List.nil_append, List.append_nil] at hs
          repeat (first | refine Z.pthen ?_ | refine Z.pblock ?_ | refine Z.pscope ?_)
          -- ret#3
          refine Z.outp ?_
          first
          | exact .inr ⟨_, rfl, .inl (hgc hE), by rw [if_neg (hgc hE), gb_bad hp (hgc hE)], _, hs.sub ((List.sublist_append_left _ _).trans (List.sublist_append_left _ _))⟩
          | exact .inr ⟨_, rfl, .inr ⟨rfl, by first | omega | (simp at hm <;> omega)⟩, by rw [if_pos hpk], _, hs.sub (List.sublist_append_left _ _)⟩
        )
set_option maxHeartbeats 1000000 in
set_option maxRecDepth 100000 in
theorem mm_part_last (g T : Nat) (sv : Value) (l : List Int) (p : Nat) (x n : Int) (k : Nat) (w : World) (hs : SX.St w (SX.idsOf (RdL g T sv l (8 * p))) w (RdL g T sv l (8 * p))) (hl : l.length ≤ 1000000) (hb : ∀ x ∈ l, 0 ≤ x ∧ x < 256) (hp : p ≤ l.length) (hk : ptN l p x n true = k) :
    Calls Try.prog 47 #[.agg #[.pointer (some ⟨g, 0, none⟩)], .agg #[.int .i64 x, .int .i64 n], .bool true] w (PtR g T sv l p x true k w) := by
  unfold PtR
  generalize hM : SX.idsOf (RdL g T sv l (8 * p)) = M at *
  obtain ⟨c, hc⟩ : ∃ c : Bool, decide (ctlN x ≠ 0) = c := ⟨_, rfl⟩
  have hkT : c = true → ctlN x = (k : Int) := fun h => by rw [← hk]; unfold ptN; rw [if_pos (by subst h; simpa using hc)]
  have hkF : c = false → (l.length : Int) - p = (k : Int) := fun h => by rw [← hk]; unfold ptN; rw [if_neg (by subst h; simpa using hc)]; rfl
  have hgb : gbE l (8 * p) (k : Int) = 0 → p + k ≤ l.length := fun h => by
    rcases Nat.lt_or_ge l.length (p + k) with h1 | h1
    · rw [gb_bad hp (by omega)] at h; cases h
    · exact h1
  have hgc : gbE l (8 * p) (k : Int) ≠ 0 → ¬ p + k ≤ l.length := fun h h1 => h (gb_ok hb h1).1
  refine Z.enter Try.func47 rfl Try.ntmps47 rfl rfl ?_
  refine Z.seq ?_
  refine Z.region ?_
  refine Z.le rfl trivial ?_
  refine Z.ZO.box rfl rfl (by rfl) rfl rfl hs ?_
  clear hs; intro g3 w3 hs
  refine Z.le rfl trivial ?_
  refine Z.ZO.box rfl rfl (by rfl) rfl rfl hs ?_
  clear hs; intro g4 w4 hs
  refine Z.le rfl trivial ?_
  refine Z.ZO.alloc rfl rfl (by rfl) Try.zeroValue47 rfl hs ?_
  clear hs; intro g6 w6 hs
  refine Z.lnil ?_
  refine Z.only [2, 3, 4, 6] rfl ?_
  refine Z.nthen ?_
  refine Z.seq ?_
  refine Z.region ?_
  refine Z.l rfl rfl (by rfl) (Z.keepS hs) (Z.Yd.fieldA (m := 0) rfl (by kernel_rfl)) ?_
  refine Z.l rfl rfl (by rfl) (Z.keepS hs) (by first | exact Z.Yd.load rfl Try.isAgg3 (fun _ => Z.cellB (by first | ((repeat (first | exact List.mem_cons_self | refine List.mem_cons_of_mem _ ?_ | refine List.mem_append_right _ ?_)); done) | fail) rfl) | exact Z.Yd.load rfl Try.isAgg3 (fun _ => Z.cellO (by assumption) (by simp) (by assumption)) | fail "load 1.1") ?_
  refine Z.le rfl trivial ?_
  refine Z.ZO.call rfl rfl (by rfl) rfl rfl Try.call21 rfl (mc_Control _ _) ?_
  rintro v1_2 w1_2 ⟨rfl, hy⟩
  replace hs := hs.call hy
  clear hy
  try simp only [List.cons_append, List.nil_append, List.append_nil] at hs
  rw [hc]
  refine Z.lb 5 rfl ?_
  refine Z.lnil ?_
  refine Z.only [2, 3, 4, 6, 7, 8] rfl ?_
  refine Z.nthen ?_
  refine Z.seq ?_
  refine Z.block ?_
  refine Z.seq ?_
  refine Z.region ?_
  refine Z.lb 6 rfl ?_
  refine Z.lnil ?_
  refine Z.only [2, 3, 4, 6, 7, 8, 16] rfl ?_
  refine Z.nthen ?_
  refine Z.cond rfl (fun hc2 => ?_) (fun hc2 => ?_)
  · first
      | (exfalso; simp at hc2 <;> omega)
      | (
        (try simp at hc2)
        obtain rfl : c = false := by simpa using hc2
        refine Z.region ?_
        refine Z.l rfl rfl (by rfl) (Z.keepS hs) (Z.Yd.fieldA (m := 0) rfl (by kernel_rfl)) ?_
        refine Z.l rfl rfl (by rfl) (Z.keepS hs) (by first | exact Z.Yd.load rfl Try.isAgg85 (fun _ => Z.cellB (by first | ((repeat (first | exact List.mem_cons_self | refine List.mem_cons_of_mem _ ?_ | refine List.mem_append_right _ ?_)); done) | fail) rfl) | exact Z.Yd.load rfl Try.isAgg85 (fun _ => Z.cellO (by assumption) (by simp) (by assumption)) | fail "load 3.1") ?_
        replace hs : SX.St w M _ (RdL g T sv l (8 * p) ++ [_, _, _]) := hs.rot (L1 := [_, _, _])
        refine Z.le rfl trivial ?_
        refine Z.ZO.call rfl rfl (by rfl) rfl rfl Try.call57 rfl (rleft_any g T sv l (8 * p) _ hs.lend hl (by omega)) ?_
        rintro v3_2 w3_2 ⟨rfl, hz⟩
        replace hs := hs.regain hz
        have e8 : (8 * l.length : Int) - ((8 * p : Nat) : Int) = ((8 * k : Nat) : Int) := by have := hkF rfl; omega
        rw [e8]
        refine Z.l rfl rfl (by rfl) (Z.keepS hs) (Z.Yd.quo rfl rfl (by intro hG; first | decide | omega) (by intro hG; first | exact Z.qi64 ⟨by omega, by omega⟩ (by omega) | exact rfl)) ?_
        refine Z.lb 1 rfl ?_
        refine Z.lnil ?_
        refine Z.only [2, 3, 4, 6, 7] rfl ?_
        refine Z.nblock ?_
        refine Z.nthen ?_
        refine Z.seq ?_
        refine Z.region ?_
        first
        | rw [hkT rfl]
        | rw [show ((8 * k : Nat) : Int) / 8 = (k : Int) from by omega]
        refine Z.l rfl rfl (by rfl) (Z.keepS hs) (Z.Yd.fieldA (m := 0) rfl (by kernel_rfl)) ?_
        refine Z.l rfl rfl (by rfl) (Z.keepS hs) (by first | exact Z.Yd.load rfl Try.isAgg85 (fun _ => Z.cellB (by first | ((repeat (first | exact List.mem_cons_self | refine List.mem_cons_of_mem _ ?_ | refine List.mem_append_right _ ?_)); done) | fail) rfl) | exact Z.Yd.load rfl Try.isAgg85 (fun _ => Z.cellO (by assumption) (by simp) (by assumption)) | fail "load 6.1") ?_
        refine Z.lb 1 rfl ?_
        first
        | replace hs : SX.St w M _ (RdL g T sv l (8 * p) ++ [_, _, _]) := hs.rot (L1 := [_, _, _])
        | replace hs : SX.St w M _ (RdL g T sv l (8 * p) ++ [_, _, _]) := hs
        refine Z.le rfl trivial ?_
        refine Z.ZO.call rfl rfl (by rfl) rfl rfl Try.call59 rfl (rgetbytes_any g T sv l (8 * p) _ _ hs.lend hl (by omega) hb) ?_
        rintro v6_3 w6_3 ⟨so, rfl, hz⟩
        replace hs := hs.regain hz
        refine Z.lb 2 rfl ?_
        refine Z.le rfl trivial ?_
        refine Z.ZO.callB rfl rfl (by rfl) rfl rfl Try.call58 rfl (mm_gotb_any _ _ _) ?_ ?_
        · skip
          rintro v6_6 w6_6 ⟨hE, rfl, hy⟩
          replace hs := hs.call hy
          clear hy
          try simp only [List.cons_append, List.nil_append, List.append_nil] at hs
          have hpk := hgb hE
          obtain ⟨-, gv, ga⟩ := gb_ok hb hpk
          rw [gv, ga] at hs
          have hlk : ((l.drop p).take k).length = k := by rw [List.length_take, List.length_drop]; omega
          rw [hlk] at hs
          obtain ⟨B, co, rfl, hco, -, -⟩ := SX.row_slv hs (j := 2) rfl
          refine Z.lb 1 rfl ?_
          refine Z.lnil ?_
          refine Z.only [2, 3, 4, 6, 7, 9] rfl ?_
          refine Z.nthen ?_
          refine Z.seq ?_
          refine Z.region ?_
          refine Z.lb 3 rfl ?_
          refine Z.yes (s := 40) (b := false) rfl ((by simp)) rfl ?_
          refine Z.lb 3 rfl ?_
          refine Z.l rfl rfl (by rfl) (Z.keepS hs) (Z.Yd.fieldA (m := 0) rfl (by kernel_rfl)) ?_
          refine Z.l rfl rfl (by rfl) (Z.keepS hs) (by first | exact Z.Yd.load rfl Try.isAgg85 (fun _ => Z.cellB (by first | ((repeat (first | exact List.mem_cons_self | refine List.mem_cons_of_mem _ ?_ | refine List.mem_append_right _ ?_)); done) | fail) rfl) | exact Z.Yd.load rfl Try.isAgg85 (fun _ => Z.cellO (by assumption) (by simp) (by assumption)) | fail "load 7.7") ?_
          simp only [RdL, List.cons_append, List.nil_append] at hs
          refine Z.yes (s := 40) (b := false) rfl rfl rfl ?_
          refine Z.split (s := 43) rfl (fun hsp43 => ?_) (fun hsp43 => ?_)
          · first
              | (exfalso; simp at hsp43 <;> omega)
              | (
                refine Z.yes (s := 43) (b := true) rfl hsp43 rfl ?_
                (try simp at hsp43)
                refine Z.le rfl (by exact ⟨rfl, trivial⟩) ?_
                refine Z.ZO.call rfl rfl (by rfl) rfl rfl Try.call57 rfl (rleft_any g T sv l (8 * (p + k)) _ hs.lend hl (by omega)) ?_
                rintro v7_8 w7_8 ⟨rfl, hz⟩
                replace hs := hs.regain hz
                refine Z.lb 1 rfl ?_
                refine Z.yes (s := 43) (b := true) rfl rfl rfl ?_
                refine Z.l rfl rfl (by rfl) (Z.keepS hs) (Z.Yd.pickT rfl rfl) ?_
                refine Z.yes (s := 40) (b := false) rfl rfl rfl ?_
                refine Z.l rfl rfl (by rfl) (Z.keepS hs) (Z.Yd.pickF rfl rfl) ?_
                refine Z.le rfl trivial ?_
                refine Z.ZO.callB rfl rfl (by rfl) rfl rfl Try.call31 rfl (mm_must_any _ 9 _) ?_ ?_
                · skip
                  rintro v7_12 w7_12 ⟨hm, rfl, hy⟩
                  replace hs := hs.call hy
                  clear hy
                  try simp only [List.cons_append, List.nil_append, List.append_nil] at hs
                  try simp only [RdL, List.cons_append, List.nil_append] at hs
                  refine Z.lnil ?_
                  refine Z.only [4, 6, 7, 9] rfl ?_
                  refine Z.nthen ?_
                  refine Z.seq ?_
                  refine Z.drawK (fun j => j != 7) mixed hs ?_
                  clear hs; intro wd8 hs
                  refine Z.t 0 rfl rfl rfl (by rfl) (by kernel_rfl) ⟨_, hs, by first | (simp; done) | exact fun e he => List.mem_append_right _ he⟩ (Z.Yd.fieldA (m := 0) rfl (by kernel_rfl)) ?_
                  refine Z.t 1 rfl rfl rfl (by rfl) (by kernel_rfl) ⟨_, hs, by first | (simp; done) | exact fun e he => List.mem_append_right _ he⟩ (by first | exact Z.Yd.load rfl Try.isAgg3 (fun _ => Z.cellB (by first | ((repeat (first | exact List.mem_cons_self | refine List.mem_cons_of_mem _ ?_ | refine List.mem_append_right _ ?_)); done) | fail) rfl) | exact Z.Yd.load rfl Try.isAgg3 (fun _ => Z.cellO (by assumption) (by simp) (by assumption)) | fail "load 8.1") ?_
                  refine Z.tb [2, 3, 4] (by kernel_rfl) rfl ⟨_, hs, by first | (simp; done) | exact fun e he => List.mem_append_right _ he⟩ rfl ?_
                  refine Z.t 5 rfl rfl rfl (by rfl) (by kernel_rfl) ⟨_, hs, by first | (simp; done) | exact fun e he => List.mem_append_right _ he⟩ (Z.Yd.cut3 0 k k rfl rfl rfl rfl Try.underlying26 Try.sizeOf5 (fun hG => ⟨(by first | omega | (have hG' := Z.gh rfl hG; simp at hG'; omega)), (by first | omega | (have hG' := Z.gh rfl hG; simp at hG'; omega)), (by first | omega | (have hG' := Z.gh rfl hG; simp at hG'; omega)), (by first | omega | (have hG' := Z.gh rfl hG; simp at hG'; omega)), (by first | omega | (have hG' := Z.gh rfl hG; simp at hG'; omega))⟩)) ?_
                  refine Z.t 6 rfl rfl rfl (by rfl) (by kernel_rfl) ⟨_, hs, by first | (simp; done) | exact fun e he => List.mem_append_right _ he⟩ (Z.Yd.buildL [(0, 1), (1, 1)] [.int .i64 0, .slice none 0 0] rfl rfl (by intro w; kernel_rfl)) ?_
                  refine Z.tn 7 rfl rfl (by kernel_rfl) rfl trivial ?_
                  first | refine Z.ZO.storeA rfl rfl hs rfl rfl (by kernel_rfl) (by first | (simp [Value.oneCell']; done) | (refine Z.all_one ?_; assumption)) (by first | exact SX.at0 | exact SX.at1 | exact SX.at2 | exact SX.at3 | exact SX.at4 | exact SX.at5 | exact Z.at6 | exact Z.at7 | exact Z.at8 | exact Z.at9 | exact Z.at10 | exact Z.at11 | exact Z.at12) (by rfl) ?_ | refine Z.ZO.storeP rfl rfl hs rfl rfl (by kernel_rfl) (by first | (simp [Value.oneCell']; done) | (refine Z.all_one ?_; assumption)) (by first | exact SX.at0 | exact SX.at1 | exact SX.at2 | exact SX.at3 | exact SX.at4 | exact SX.at5 | exact Z.at6 | exact Z.at7 | exact Z.at8 | exact Z.at9 | exact Z.at10 | exact Z.at11 | exact Z.at12) (by first | decide | (simp; done) | (simp; omega)) ?_ | refine Z.ZO.storePR rfl rfl hs rfl rfl (by kernel_rfl) (by first | (simp [Value.oneCell']; done) | (refine Z.all_one ?_; assumption)) (by first | exact SX.at0 | exact SX.at1 | exact SX.at2 | exact SX.at3 | exact SX.at4 | exact SX.at5 | exact Z.at6 | exact Z.at7 | exact Z.at8 | exact Z.at9 | exact Z.at10 | exact Z.at11 | exact Z.at12) (by first | decide | (simp; done) | (simp; omega)) ?_
                  clear hs; intro ws hs
                  simp only [Nat.zero_add, Nat.add_zero, Nat.reduceAdd, Int.reduceToNat, Nat.reduceMul, List.set_cons_zero, List.set_cons_succ, List.setIfInBounds_toArray] at hs
                  try simp only [Z.putL, Nat.zero_add] at hs
                  refine Z.tk (Dn := fun j => j != 7) (i := 7) (fun h => absurd h (by decide)) ?_
                  refine Z.td (by rfl) (by kernel_rfl) ?_
                  refine Z.only [6] rfl ?_
                  refine Z.nthen ?_
                  refine Z.ret ?_
                  -- ret#0
                  refine Z.out1 (by exact ⟨⟨_, rfl, Z.rvcA hs Try.isAgg47 (by first | ((repeat (first | exact List.mem_cons_self | refine List.mem_cons_of_mem _ ?_ | refine List.mem_append_right _ ?_)); done) | fail) (by exact Try.sizeOf47)⟩, trivial⟩) ?_
                  first
                  | (simp at hm; done)
                  | exact .inl ⟨_, rfl, ⟨hpk, fun _ => ⟨hsp43, by simp at hm; omega⟩⟩, B, co, by rw [slA_zero]; rfl, hs.sel [0, 1, 2] (by decide)⟩
                · skip
                  rintro c7_12 w7_12 ⟨hm, rfl, hy⟩
                  replace hs := hs.call hy
                  clear hy
                  try simp only [List.cons_append, List.nil_append, List.append_nil] at hs
                  repeat (first | refine Z.pthen ?_ | refine Z.pblock ?_ | refine Z.pscope ?_)
                  -- ret#1
                  refine Z.outp ?_
                  first
                  | exact .inr ⟨_, rfl, .inl (hgc hE), by rw [if_neg (hgc hE), gb_bad hp (hgc hE)], _, hs.sub ((List.sublist_append_left _ _).trans (List.sublist_append_left _ _))⟩
                  | exact .inr ⟨_, rfl, .inr ⟨rfl, by first | omega | (simp at hm <;> omega)⟩, by rw [if_pos hpk], _, hs.sub (List.sublist_append_left _ _)⟩
                )
          · first
              | (exfalso; simp at hsp43 <;> omega)
              | (
                refine Z.yes (s := 43) (b := false) rfl hsp43 rfl ?_
                (try simp at hsp43)
                refine Z.ls rfl rfl rfl (by rfl) ?_
                refine Z.ls rfl rfl rfl (by rfl) ?_
                refine Z.l rfl rfl (by rfl) (Z.keepS hs) (Z.Yd.pickF rfl rfl) ?_
                refine Z.yes (s := 40) (b := false) rfl rfl rfl ?_
                refine Z.l rfl rfl (by rfl) (Z.keepS hs) (Z.Yd.pickF rfl rfl) ?_
                refine Z.le rfl trivial ?_
                refine Z.ZO.callB rfl rfl (by rfl) rfl rfl Try.call31 rfl (mm_must_any _ 9 _) ?_ ?_
                · skip
                  rintro v7_12 w7_12 ⟨hm, rfl, hy⟩
                  replace hs := hs.call hy
                  clear hy
                  try simp only [List.cons_append, List.nil_append, List.append_nil] at hs
                  try simp only [RdL, List.cons_append, List.nil_append] at hs
                  refine Z.lnil ?_
                  refine Z.only [4, 6, 7, 9] rfl ?_
                  refine Z.nthen ?_
                  refine Z.seq ?_
                  refine Z.drawK (fun j => j != 7) mixed hs ?_
                  clear hs; intro wd8 hs
                  refine Z.t 0 rfl rfl rfl (by rfl) (by kernel_rfl) ⟨_, hs, by first | (simp; done) | exact fun e he => List.mem_append_right _ he⟩ (Z.Yd.fieldA (m := 0) rfl (by kernel_rfl)) ?_
                  refine Z.t 1 rfl rfl rfl (by rfl) (by kernel_rfl) ⟨_, hs, by first | (simp; done) | exact fun e he => List.mem_append_right _ he⟩ (by first | exact Z.Yd.load rfl Try.isAgg3 (fun _ => Z.cellB (by first | ((repeat (first | exact List.mem_cons_self | refine List.mem_cons_of_mem _ ?_ | refine List.mem_append_right _ ?_)); done) | fail) rfl) | exact Z.Yd.load rfl Try.isAgg3 (fun _ => Z.cellO (by assumption) (by simp) (by assumption)) | fail "load 8.1") ?_
                  refine Z.tb [2, 3, 4] (by kernel_rfl) rfl ⟨_, hs, by first | (simp; done) | exact fun e he => List.mem_append_right _ he⟩ rfl ?_
                  refine Z.t 5 rfl rfl rfl (by rfl) (by kernel_rfl) ⟨_, hs, by first | (simp; done) | exact fun e he => List.mem_append_right _ he⟩ (Z.Yd.cut3 0 k k rfl rfl rfl rfl Try.underlying26 Try.sizeOf5 (fun hG => ⟨(by first | omega | (have hG' := Z.gh rfl hG; simp at hG'; omega)), (by first | omega | (have hG' := Z.gh rfl hG; simp at hG'; omega)), (by first | omega | (have hG' := Z.gh rfl hG; simp at hG'; omega)), (by first | omega | (have hG' := Z.gh rfl hG; simp at hG'; omega)), (by first | omega | (have hG' := Z.gh rfl hG; simp at hG'; omega))⟩)) ?_
                  refine Z.t 6 rfl rfl rfl (by rfl) (by kernel_rfl) ⟨_, hs, by first | (simp; done) | exact fun e he => List.mem_append_right _ he⟩ (Z.Yd.buildL [(0, 1), (1, 1)] [.int .i64 0, .slice none 0 0] rfl rfl (by intro w; kernel_rfl)) ?_
                  refine Z.tn 7 rfl rfl (by kernel_rfl) rfl trivial ?_
                  first | refine Z.ZO.storeA rfl rfl hs rfl rfl (by kernel_rfl) (by first | (simp [Value.oneCell']; done) | (refine Z.all_one ?_; assumption)) (by first | exact SX.at0 | exact SX.at1 | exact SX.at2 | exact SX.at3 | exact SX.at4 | exact SX.at5 | exact Z.at6 | exact Z.at7 | exact Z.at8 | exact Z.at9 | exact Z.at10 | exact Z.at11 | exact Z.at12) (by rfl) ?_ | refine Z.ZO.storeP rfl rfl hs rfl rfl (by kernel_rfl) (by first | (simp [Value.oneCell']; done) | (refine Z.all_one ?_; assumption)) (by first | exact SX.at0 | exact SX.at1 | exact SX.at2 | exact SX.at3 | exact SX.at4 | exact SX.at5 | exact Z.at6 | exact Z.at7 | exact Z.at8 | exact Z.at9 | exact Z.at10 | exact Z.at11 | exact Z.at12) (by first | decide | (simp; done) | (simp; omega)) ?_ | refine Z.ZO.storePR rfl rfl hs rfl rfl (by kernel_rfl) (by first | (simp [Value.oneCell']; done) | (refine Z.all_one ?_; assumption)) (by first | exact SX.at0 | exact SX.at1 | exact SX.at2 | exact SX.at3 | exact SX.at4 | exact SX.at5 | exact Z.at6 | exact Z.at7 | exact Z.at8 | exact Z.at9 | exact Z.at10 | exact Z.at11 | exact Z.at12) (by first | decide | (simp; done) | (simp; omega)) ?_
                  clear hs; intro ws hs
                  simp only [Nat.zero_add, Nat.add_zero, Nat.reduceAdd, Int.reduceToNat, Nat.reduceMul, List.set_cons_zero, List.set_cons_succ, List.setIfInBounds_toArray] at hs
                  try simp only [Z.putL, Nat.zero_add] at hs
                  refine Z.tk (Dn := fun j => j != 7) (i := 7) (fun h => absurd h (by decide)) ?_
                  refine Z.td (by rfl) (by kernel_rfl) ?_
                  refine Z.only [6] rfl ?_
                  refine Z.nthen ?_
                  refine Z.ret ?_
                  -- ret#2
                  refine Z.out1 (by exact ⟨⟨_, rfl, Z.rvcA hs Try.isAgg47 (by first | ((repeat (first | exact List.mem_cons_self | refine List.mem_cons_of_mem _ ?_ | refine List.mem_append_right _ ?_)); done) | fail) (by exact Try.sizeOf47)⟩, trivial⟩) ?_
                  first
                  | (simp at hm; done)
                  | exact .inl ⟨_, rfl, ⟨hpk, fun _ => ⟨hsp43, by simp at hm; omega⟩⟩, B, co, by rw [slA_zero]; rfl, hs.sel [0, 1, 2] (by decide)⟩
                · skip
                  rintro c7_12 w7_12 ⟨hm, rfl, hy⟩
                  replace hs := hs.call hy
                  clear hy
                  try simp only [List.cons_append, List.nil_append, List.append_nil] at hs
                  repeat (first | refine Z.pthen ?_ | refine Z.pblock ?_ | refine Z.pscope ?_)
                  -- ret#3
                  refine Z.outp ?_
                  first
                  | exact .inr ⟨_, rfl, .inl (hgc hE), by rw [if_neg (hgc hE), gb_bad hp (hgc hE)], _, hs.sub ((List.sublist_append_left _ _).trans (List.sublist_append_left _ _))⟩
                  | exact .inr ⟨_, rfl, .inr ⟨rfl, by first | omega | (simp at hm <;> omega)⟩, by rw [if_pos hpk], _, hs.sub (List.sublist_append_left _ _)⟩
                )
        · skip
          rintro c6_6 w6_6 ⟨hE, rfl, hy⟩
          replace hs := hs.call hy
          clear hy
          try simp only [List.cons_append, List.nil_append, List.append_nil] at hs
          repeat (first | refine Z.pthen ?_ | refine Z.pblock ?_ | refine Z.pscope ?_)
          -- ret#4
          refine Z.outp ?_
          first
          | exact .inr ⟨_, rfl, .inl (hgc hE), by rw [if_neg (hgc hE), gb_bad hp (hgc hE)], _, hs.sub ((List.sublist_append_left _ _).trans (List.sublist_append_left _ _))⟩
          | exact .inr ⟨_, rfl, .inr ⟨rfl, by first | omega | (simp at hm <;> omega)⟩, by rw [if_pos hpk], _, hs.sub (List.sublist_append_left _ _)⟩
        )
  · first
      | (exfalso; simp at hc2 <;> omega)
      | (
        (try simp at hc2)
        obtain rfl : c = true := by simpa using hc2
        refine Z.seq ?_
        refine Z.region ?_
        refine Z.lb 3 rfl ?_
        refine Z.lnil ?_
        refine Z.only [2, 3, 4, 6, 7, 26] rfl ?_
        refine Z.nthen ?_
        refine Z.cond rfl (fun h => absurd h (by simp)) (fun hc4 => ?_)
        refine Z.skip ?_
        refine Z.nblock ?_
        refine Z.nthen ?_
        refine Z.seq ?_
        refine Z.region ?_
        first
        | rw [hkT rfl]
        | rw [show ((8 * k : Nat) : Int) / 8 = (k : Int) from by omega]
        refine Z.l rfl rfl (by rfl) (Z.keepS hs) (Z.Yd.fieldA (m := 0) rfl (by kernel_rfl)) ?_
        refine Z.l rfl rfl (by rfl) (Z.keepS hs) (by first | exact Z.Yd.load rfl Try.isAgg85 (fun _ => Z.cellB (by first | ((repeat (first | exact List.mem_cons_self | refine List.mem_cons_of_mem _ ?_ | refine List.mem_append_right _ ?_)); done) | fail) rfl) | exact Z.Yd.load rfl Try.isAgg85 (fun _ => Z.cellO (by assumption) (by simp) (by assumption)) | fail "load 6.1") ?_
        refine Z.lb 1 rfl ?_
        first
        | replace hs : SX.St w M _ (RdL g T sv l (8 * p) ++ [_, _, _]) := hs.rot (L1 := [_, _, _])
        | replace hs : SX.St w M _ (RdL g T sv l (8 * p) ++ [_, _, _]) := hs
        refine Z.le rfl trivial ?_
        refine Z.ZO.call rfl rfl (by rfl) rfl rfl Try.call59 rfl (rgetbytes_any g T sv l (8 * p) _ _ hs.lend hl (by omega) hb) ?_
        rintro v6_3 w6_3 ⟨so, rfl, hz⟩
        replace hs := hs.regain hz
        refine Z.lb 2 rfl ?_
        refine Z.le rfl trivial ?_
        refine Z.ZO.callB rfl rfl (by rfl) rfl rfl Try.call58 rfl (mm_gotb_any _ _ _) ?_ ?_
        · skip
          rintro v6_6 w6_6 ⟨hE, rfl, hy⟩
          replace hs := hs.call hy
          clear hy
          try simp only [List.cons_append, List.nil_append, List.append_nil] at hs
          have hpk := hgb hE
          obtain ⟨-, gv, ga⟩ := gb_ok hb hpk
          rw [gv, ga] at hs
          have hlk : ((l.drop p).take k).length = k := by rw [List.length_take, List.length_drop]; omega
          rw [hlk] at hs
          obtain ⟨B, co, rfl, hco, -, -⟩ := SX.row_slv hs (j := 2) rfl
          refine Z.lb 1 rfl ?_
          refine Z.lnil ?_
          refine Z.only [2, 3, 4, 6, 7, 9] rfl ?_
          refine Z.nthen ?_
          refine Z.seq ?_
          refine Z.region ?_
          refine Z.lb 3 rfl ?_
          refine Z.yes (s := 40) (b := false) rfl ((by simp)) rfl ?_
          refine Z.lb 3 rfl ?_
          refine Z.l rfl rfl (by rfl) (Z.keepS hs) (Z.Yd.fieldA (m := 0) rfl (by kernel_rfl)) ?_
          refine Z.l rfl rfl (by rfl) (Z.keepS hs) (by first | exact Z.Yd.load rfl Try.isAgg85 (fun _ => Z.cellB (by first | ((repeat (first | exact List.mem_cons_self | refine List.mem_cons_of_mem _ ?_ | refine List.mem_append_right _ ?_)); done) | fail) rfl) | exact Z.Yd.load rfl Try.isAgg85 (fun _ => Z.cellO (by assumption) (by simp) (by assumption)) | fail "load 7.7") ?_
          simp only [RdL, List.cons_append, List.nil_append] at hs
          refine Z.yes (s := 40) (b := false) rfl rfl rfl ?_
          refine Z.split (s := 43) rfl (fun hsp43 => ?_) (fun hsp43 => ?_)
          · first
              | (exfalso; simp at hsp43 <;> omega)
              | (
                refine Z.yes (s := 43) (b := true) rfl hsp43 rfl ?_
                (try simp at hsp43)
                refine Z.le rfl (by exact ⟨rfl, trivial⟩) ?_
                refine Z.ZO.call rfl rfl (by rfl) rfl rfl Try.call57 rfl (rleft_any g T sv l (8 * (p + k)) _ hs.lend hl (by omega)) ?_
                rintro v7_8 w7_8 ⟨rfl, hz⟩
                replace hs := hs.regain hz
                refine Z.lb 1 rfl ?_
                refine Z.yes (s := 43) (b := true) rfl rfl rfl ?_
                refine Z.l rfl rfl (by rfl) (Z.keepS hs) (Z.Yd.pickT rfl rfl) ?_
                refine Z.yes (s := 40) (b := false) rfl rfl rfl ?_
                refine Z.l rfl rfl (by rfl) (Z.keepS hs) (Z.Yd.pickF rfl rfl) ?_
                refine Z.le rfl trivial ?_
                refine Z.ZO.callB rfl rfl (by rfl) rfl rfl Try.call31 rfl (mm_must_any _ 9 _) ?_ ?_
                · skip
                  rintro v7_12 w7_12 ⟨hm, rfl, hy⟩
                  replace hs := hs.call hy
                  clear hy
                  try simp only [List.cons_append, List.nil_append, List.append_nil] at hs
                  try simp only [RdL, List.cons_append, List.nil_append] at hs
                  refine Z.lnil ?_
                  refine Z.only [4, 6, 7, 9] rfl ?_
                  refine Z.nthen ?_
                  refine Z.seq ?_
                  refine Z.drawK (fun j => j != 7) mixed hs ?_
                  clear hs; intro wd8 hs
                  refine Z.t 0 rfl rfl rfl (by rfl) (by kernel_rfl) ⟨_, hs, by first | (simp; done) | exact fun e he => List.mem_append_right _ he⟩ (Z.Yd.fieldA (m := 0) rfl (by kernel_rfl)) ?_
                  refine Z.t 1 rfl rfl rfl (by rfl) (by kernel_rfl) ⟨_, hs, by first | (simp; done) | exact fun e he => List.mem_append_right _ he⟩ (by first | exact Z.Yd.load rfl Try.isAgg3 (fun _ => Z.cellB (by first | ((repeat (first | exact List.mem_cons_self | refine List.mem_cons_of_mem _ ?_ | refine List.mem_append_right _ ?_)); done) | fail) rfl) | exact Z.Yd.load rfl Try.isAgg3 (fun _ => Z.cellO (by assumption) (by simp) (by assumption)) | fail "load 8.1") ?_
                  refine Z.tb [2, 3, 4] (by kernel_rfl) rfl ⟨_, hs, by first | (simp; done) | exact fun e he => List.mem_append_right _ he⟩ rfl ?_
                  refine Z.t 5 rfl rfl rfl (by rfl) (by kernel_rfl) ⟨_, hs, by first | (simp; done) | exact fun e he => List.mem_append_right _ he⟩ (Z.Yd.cut3 0 k k rfl rfl rfl rfl Try.underlying26 Try.sizeOf5 (fun hG => ⟨(by first | omega | (have hG' := Z.gh rfl hG; simp at hG'; omega)), (by first | omega | (have hG' := Z.gh rfl hG; simp at hG'; omega)), (by first | omega | (have hG' := Z.gh rfl hG; simp at hG'; omega)), (by first | omega | (have hG' := Z.gh rfl hG; simp at hG'; omega)), (by first | omega | (have hG' := Z.gh rfl hG; simp at hG'; omega))⟩)) ?_
                  refine Z.t 6 rfl rfl rfl (by rfl) (by kernel_rfl) ⟨_, hs, by first | (simp; done) | exact fun e he => List.mem_append_right _ he⟩ (Z.Yd.buildL [(0, 1), (1, 1)] [.int .i64 0, .slice none 0 0] rfl rfl (by intro w; kernel_rfl)) ?_
                  refine Z.tn 7 rfl rfl (by kernel_rfl) rfl trivial ?_
                  first | refine Z.ZO.storeA rfl rfl hs rfl rfl (by kernel_rfl) (by first | (simp [Value.oneCell']; done) | (refine Z.all_one ?_; assumption)) (by first | exact SX.at0 | exact SX.at1 | exact SX.at2 | exact SX.at3 | exact SX.at4 | exact SX.at5 | exact Z.at6 | exact Z.at7 | exact Z.at8 | exact Z.at9 | exact Z.at10 | exact Z.at11 | exact Z.at12) (by rfl) ?_ | refine Z.ZO.storeP rfl rfl hs rfl rfl (by kernel_rfl) (by first | (simp [Value.oneCell']; done) | (refine Z.all_one ?_; assumption)) (by first | exact SX.at0 | exact SX.at1 | exact SX.at2 | exact SX.at3 | exact SX.at4 | exact SX.at5 | exact Z.at6 | exact Z.at7 | exact Z.at8 | exact Z.at9 | exact Z.at10 | exact Z.at11 | exact Z.at12) (by first | decide | (simp; done) | (simp; omega)) ?_ | refine Z.ZO.storePR rfl rfl hs rfl rfl (by kernel_rfl) (by first | (simp [Value.oneCell']; done) | (refine Z.all_one ?_; assumption)) (by first | exact SX.at0 | exact SX.at1 | exact SX.at2 | exact SX.at3 | exact SX.at4 | exact SX.at5 | exact Z.at6 | exact Z.at7 | exact Z.at8 | exact Z.at9 | exact Z.at10 | exact Z.at11 | exact Z.at12) (by first | decide | (simp; done) | (simp; omega)) ?_
                  clear hs; intro ws hs
                  simp only [Nat.zero_add, Nat.add_zero, Nat.reduceAdd, Int.reduceToNat, Nat.reduceMul, List.set_cons_zero, List.set_cons_succ, List.setIfInBounds_toArray] at hs
                  try simp only [Z.putL, Nat.zero_add] at hs
                  refine Z.tk (Dn := fun j => j != 7) (i := 7) (fun h => absurd h (by decide)) ?_
                  refine Z.td (by rfl) (by kernel_rfl) ?_
                  refine Z.only [6] rfl ?_
                  refine Z.nthen ?_
                  refine Z.ret ?_
                  -- ret#5
                  refine Z.out1 (by exact ⟨⟨_, rfl, Z.rvcA hs Try.isAgg47 (by first | ((repeat (first | exact List.mem_cons_self | refine List.mem_cons_of_mem _ ?_ | refine List.mem_append_right _ ?_)); done) | fail) (by exact Try.sizeOf47)⟩, trivial⟩) ?_
                  first
                  | (simp at hm; done)
                  | exact .inl ⟨_, rfl, ⟨hpk, fun _ => ⟨hsp43, by simp at hm; omega⟩⟩, B, co, by rw [slA_zero]; rfl, hs.sel [0, 1, 2] (by decide)⟩
                · skip
                  rintro c7_12 w7_12 ⟨hm, rfl, hy⟩
                  replace hs := hs.call hy
                  clear hy
                  try simp only [List.cons_append, List.nil_append, List.append_nil] at hs
                  repeat (first | refine Z.pthen ?_ | refine Z.pblock ?_ | refine Z.pscope ?_)
                  -- ret#6
                  refine Z.outp ?_
                  first
                  | exact .inr ⟨_, rfl, .inl (hgc hE), by rw [if_neg (hgc hE), gb_bad hp (hgc hE)], _, hs.sub ((List.sublist_append_left _ _).trans (List.sublist_append_left _ _))⟩
                  | exact .inr ⟨_, rfl, .inr ⟨rfl, by first | omega | (simp at hm <;> omega)⟩, by rw [if_pos hpk], _, hs.sub (List.sublist_append_left _ _)⟩
                )
          · first
              | (exfalso; simp at hsp43 <;> omega)
              | (
                refine Z.yes (s := 43) (b := false) rfl hsp43 rfl ?_
                (try simp at hsp43)
                refine Z.ls rfl rfl rfl (by rfl) ?_
                refine Z.ls rfl rfl rfl (by rfl) ?_
                refine Z.l rfl rfl (by rfl) (Z.keepS hs) (Z.Yd.pickF rfl rfl) ?_
                refine Z.yes (s := 40) (b := false) rfl rfl rfl ?_
                refine Z.l rfl rfl (by rfl) (Z.keepS hs) (Z.Yd.pickF rfl rfl) ?_
                refine Z.le rfl trivial ?_
                refine Z.ZO.callB rfl rfl (by rfl) rfl rfl Try.call31 rfl (mm_must_any _ 9 _) ?_ ?_
                · skip
                  rintro v7_12 w7_12 ⟨hm, rfl, hy⟩
                  replace hs := hs.call hy
                  clear hy
                  try simp only [List.cons_append, List.nil_append, List.append_nil] at hs
                  try simp only [RdL, List.cons_append, List.nil_append] at hs
                  refine Z.lnil ?_
                  refine Z.only [4, 6, 7, 9] rfl ?_
                  refine Z.nthen ?_
                  refine Z.seq ?_
                  refine Z.drawK (fun j => j != 7) mixed hs ?_
                  clear hs; intro wd8 hs
                  refine Z.t 0 rfl rfl rfl (by rfl) (by kernel_rfl) ⟨_, hs, by first | (simp; done) | exact fun e he => List.mem_append_right _ he⟩ (Z.Yd.fieldA (m := 0) rfl (by kernel_rfl)) ?_
                  refine Z.t 1 rfl rfl rfl (by rfl) (by kernel_rfl) ⟨_, hs, by first | (simp; done) | exact fun e he => List.mem_append_right _ he⟩ (by first | exact Z.Yd.load rfl Try.isAgg3 (fun _ => Z.cellB (by first | ((repeat (first | exact List.mem_cons_self | refine List.mem_cons_of_mem _ ?_ | refine List.mem_append_right _ ?_)); done) | fail) rfl) | exact Z.Yd.load rfl Try.isAgg3 (fun _ => Z.cellO (by assumption) (by simp) (by assumption)) | fail "load 8.1") ?_
                  refine Z.tb [2, 3, 4] (by kernel_rfl) rfl ⟨_, hs, by first | (simp; done) | exact fun e he => List.mem_append_right _ he⟩ rfl ?_
                  refine Z.t 5 rfl rfl rfl (by rfl) (by kernel_rfl) ⟨_, hs, by first | (simp; done) | exact fun e he => List.mem_append_right _ he⟩ (Z.Yd.cut3 0 k k rfl rfl rfl rfl Try.underlying26 Try.sizeOf5 (fun hG => ⟨(by first | omega | (have hG' := Z.gh rfl hG; simp at hG'; omega)), (by first | omega | (have hG' := Z.gh rfl hG; simp at hG'; omega)), (by first | omega | (have hG' := Z.gh rfl hG; simp at hG'; omega)), (by first | omega | (have hG' := Z.gh rfl hG; simp at hG'; omega)), (by first | omega | (have hG' := Z.gh rfl hG; simp at hG'; omega))⟩)) ?_
                  refine Z.t 6 rfl rfl rfl (by rfl) (by kernel_rfl) ⟨_, hs, by first | (simp; done) | exact fun e he => List.mem_append_right _ he⟩ (Z.Yd.buildL [(0, 1), (1, 1)] [.int .i64 0, .slice none 0 0] rfl rfl (by intro w; kernel_rfl)) ?_
                  refine Z.tn 7 rfl rfl (by kernel_rfl) rfl trivial ?_
                  first | refine Z.ZO.storeA rfl rfl hs rfl rfl (by kernel_rfl) (by first | (simp [Value.oneCell']; done) | (refine Z.all_one ?_; assumption)) (by first | exact SX.at0 | exact SX.at1 | exact SX.at2 | exact SX.at3 | exact SX.at4 | exact SX.at5 | exact Z.at6 | exact Z.at7 | exact Z.at8 | exact Z.at9 | exact Z.at10 | exact Z.at11 | exact Z.at12) (by rfl) ?_ | refine Z.ZO.storeP rfl rfl hs rfl rfl (by kernel_rfl) (by first | (simp [Value.oneCell']; done) | (refine Z.all_one ?_; assumption)) (by first | exact SX.at0 | exact SX.at1 | exact SX.at2 | exact SX.at3 | exact SX.at4 | exact SX.at5 | exact Z.at6 | exact Z.at7 | exact Z.at8 | exact Z.at9 | exact Z.at10 | exact Z.at11 | exact Z.at12) (by first | decide | (simp; done) | (simp; omega)) ?_ | refine Z.ZO.storePR rfl rfl hs rfl rfl (by kernel_rfl) (by first | (simp [Value.oneCell']; done) | (refine Z.all_one ?_; assumption)) (by first | exact SX.at0 | exact SX.at1 | exact SX.at2 | exact SX.at3 | exact SX.at4 | exact SX.at5 | exact Z.at6 | exact Z.at7 | exact Z.at8 | exact Z.at9 | exact Z.at10 | exact Z.at11 | exact Z.at12) (by first | decide | (simp; done) | (simp; omega)) ?_
                  clear hs; intro ws hs
                  simp only [Nat.zero_add, Nat.add_zero, Nat.reduceAdd, Int.reduceToNat, Nat.reduceMul, List.set_cons_zero, List.set_cons_succ, List.setIfInBounds_toArray] at hs
                  try simp only [Z.putL, Nat.zero_add] at hs
                  refine Z.tk (Dn := fun j => j != 7) (i := 7) (fun h => absurd h (by decide)) ?_
                  refine Z.td (by rfl) (by kernel_rfl) ?_
                  refine Z.only [6] rfl ?_
                  refine Z.nthen ?_
                  refine Z.ret ?_
                  -- ret#7
                  refine Z.out1 (by exact ⟨⟨_, rfl, Z.rvcA hs Try.isAgg47 (by first | ((repeat (first | exact List.mem_cons_self | refine List.mem_cons_of_mem _ ?_ | refine List.mem_append_right _ ?_)); done) | fail) (by exact Try.sizeOf47)⟩, trivial⟩) ?_
                  first
                  | (simp at hm; done)
                  | exact .inl ⟨_, rfl, ⟨hpk, fun _ => ⟨hsp43, by simp at hm; omega⟩⟩, B, co, by rw [slA_zero]; rfl, hs.sel [0, 1, 2] (by decide)⟩
                · skip
                  rintro c7_12 w7_12 ⟨hm, rfl, hy⟩
                  replace hs := hs.call hy
                  clear hy
                  try simp only [List.cons_append, List.nil_append, List.append_nil] at hs
                  repeat (first | refine Z.pthen ?_ | refine Z.pblock ?_ | refine Z.pscope ?_)
                  -- ret#8
                  refine Z.outp ?_
                  first
                  | exact .inr ⟨_, rfl, .inl (hgc hE), by rw [if_neg (hgc hE), gb_bad hp (hgc hE)], _, hs.sub ((List.sublist_append_left _ _).trans (List.sublist_append_left _ _))⟩
                  | exact .inr ⟨_, rfl, .inr ⟨rfl, by first | omega | (simp at hm <;> omega)⟩, by rw [if_pos hpk], _, hs.sub (List.sublist_append_left _ _)⟩
                )
        · skip
          rintro c6_6 w6_6 ⟨hE, rfl, hy⟩
          replace hs := hs.call hy
          clear hy
          try simp only [List.cons_append, List.nil_append, List.append_nil] at hs
          repeat (first | refine Z.pthen ?_ | refine Z.pblock ?_ | refine Z.pscope ?_)
          -- ret#9
          refine Z.outp ?_
          first
          | exact .inr ⟨_, rfl, .inl (hgc hE), by rw [if_neg (hgc hE), gb_bad hp (hgc hE)], _, hs.sub ((List.sublist_append_left _ _).trans (List.sublist_append_left _ _))⟩
          | exact .inr ⟨_, rfl, .inr ⟨rfl, by first | omega | (simp at hm <;> omega)⟩, by rw [if_pos hpk], _, hs.sub (List.sublist_append_left _ _)⟩
        )
end Go.Proofs.Ytogjkgoiofngaaa
