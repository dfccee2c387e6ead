/- Part 6 of the proofs that lead to the statement. -/
import Derived.Test.YtbojkoiopkaciaaGreatY5
namespace Go.Proofs.YtbojkoiopkaciaaGreat
open Go.RowKit Go.Proofs.Tryz SX
set_option linter.unusedSimpArgs false
set_option linter.unusedVariables false
set_option maxRecDepth 100000
set_option maxHeartbeats 8000000
theorem qu8 {p q : Int} (h : 0 ≤ p ∧ p ≤ 255) (hq : 0 < q) : IntKind.u8.wrap (p.tdiv q) = p / q := by
  have h1 : p.tdiv q = p / q := Int.tdiv_eq_ediv_of_nonneg h.1; rw [h1]; have h2 : 0 ≤ p / q := Int.ediv_nonneg h.1 J5; have h3 : p / q ≤ p := Int.ediv_le_self _ h.1; exact Z.wu8 J5
def ParD (R : Int × List Prt) (A : Option Addr) (l : List Int) (w : World) (v : Value) (w' : World) : Prop := ∃ (ps : List MpV) (sv : Value), v = .tuple #[sv, .int .i64 R.1] ∧ ps.map MpV.plain = R.2 ∧ (∀ q ∈ ps, ∀ W, Sl W A (ints .u8 l) → Sl W q.B (ints .u8 q.l)) ∧ St w [] w' [Ent.row sv 77 2 ps.length (ps.flatMap MpV.cells)]
theorem ParD.fail {e : Int} {A : Option Addr} {l : List Int} {w w' : World} (hs : St w [] w' []) : ParD (e, []) A l w (.tuple #[.slice none 0 0, .int .i64 e]) w' := ⟨[], _, rfl, rfl, by simp, hs.nil _ 2⟩
theorem byB_at {l : List Int} {p : Nat} : elt l (p : Int) = byB l p := rfl
theorem hdT1 {b : Int} {cnt : Nat} {data part E : Bool} (h : 63 < b) : (true || E) = decide (hdBad b cnt data part) := by
  rw [decide_eq_true (show hdBad b cnt data part from .inl fun k => by omega)]
  rfl
theorem hdT2 {b x : Int} {cnt : Nat} {data part E : Bool} (hx : b % 32 = x) (h1 : ¬ sduB x) (h2 : ctlN x = 0 ∧ ¬ x = 31) : (true || E) = decide (hdBad b cnt data part) := by
  subst hx; rw [decide_eq_true (show hdBad b cnt data part from .inl fun k => k.2.elim h1 (fun k => k.elim (fun k => k h2.1) h2.2))]
  rfl
theorem hdT3 {b x : Int} {cnt : Nat} {data part : Bool} (hx : b % 32 = x) (h0 : b / 64 = 0) (hT : sduB x ∨ ctlN x ≠ 0 ∨ x = 31) : (decide (0 < ctlN x) && data || x == 31 && b / 32 % 2 == 1 && (part || decide ((1 : Int) < cnt))) = decide (hdBad b cnt data part) := by
  have hc := ctlN_bd x; rw [Bool.eq_iff_iff]; simp only [Bool.or_eq_true, Bool.and_eq_true, decide_eq_true_eq, beq_iff_eq]; unfold hdBad; rw [hx]
  constructor
  · rintro (⟨h1, h2⟩ | ⟨⟨h1, h2⟩, h3⟩)
    · exact .inr (.inl ⟨by omega, h2⟩)
    exact .inr (.inr ⟨h1, h2, h3.imp id (fun k => by omega)⟩)
  rintro (h | ⟨h1, h2⟩ | ⟨h1, h2, h3⟩)
  · exact absurd ⟨h0, hT⟩ h
  · exact .inl ⟨by omega, h2⟩
  exact .inr ⟨⟨h1, h2⟩, h3.imp id (fun k => by omega)⟩
theorem lnE_a {l : List Int} {p : Nat} (h : (l.length : Int) ≤ p) : lnE l p = 5 := by unfold lnE; rw [if_pos J5]
theorem lnE_b {l : List Int} {p : Nat} {b : Int} (h : p < l.length) (hb : byB l p = b) (h1 : 127 < b) (h2 : (l.length : Int) ≤ p + 1) : lnE l p = 5 := by unfold lnE; rw [if_neg J5, hb, if_neg J5, if_pos J5]
theorem lnE_c {l : List Int} {p : Nat} {b c : Int} (h : p + 1 < l.length) (hb : byB l p = b) (hbb : b < 256) (h1 : 127 < b) (hc : byB l (p + 1) = c) (h2 : (b - 128) * 256 + c ≤ 127) : lnE l p = 9 := by unfold lnE; rw [if_neg J5, hb, if_neg J5, if_neg J5, hc, if_neg J5]
theorem lnE_d {l : List Int} {p : Nat} {b : Int} (h : p < l.length) (hb : byB l p = b) (h1 : b = 0) : lnE l p = 9 := by unfold lnE; rw [if_neg J5, hb, if_pos J5, if_pos h1]
theorem lnE_e {l : List Int} {p : Nat} {b : Int} (h : p < l.length) (hb : byB l p = b) (h0 : b ≠ 0) (h1 : b ≤ 127) : lnE l p = 0 ∧ lnP l p = p + 1 ∧ lnV l p = b := by
  unfold lnE lnP lnV; rw [hb, if_neg J5, if_pos J5, if_neg h0, if_pos J5, if_pos J5]; exact ⟨rfl, rfl, rfl⟩
theorem lnE_f {l : List Int} {p : Nat} {b c : Int} (h : p + 1 < l.length) (hb : byB l p = b) (hbb : b < 256) (h1 : 127 < b) (hc : byB l (p + 1) = c) (h2 : 127 < (b - 128) * 256 + c) : lnE l p = 0 ∧ lnP l p = p + 2 ∧ lnV l p = (b - 128) * 256 + c := by
  unfold lnE lnP lnV; rw [hb, hc, if_neg J5, if_neg J5, if_neg J5, if_pos J5, if_neg J5, if_neg J5]; exact ⟨rfl, rfl, by omega⟩
theorem ret_ln {l : List Int} {q P0 : Nat} {E E0 : Int} {H0 : List (Int × Int)} {X : Int × List (Int × Int) × Nat} {Y R : Int × List Prt} (hE : lnE l q = E) (h0 : E ≠ 0) (hG : (if lnE l q ≠ 0 then (lnE l q, [], 0) else X) = (E0, H0, P0)) (hR : (if E0 ≠ 0 then (E0, []) else Y) = R) : R = (E, []) := by
  rw [hE, if_pos h0] at hG; simp only [Prod.mk.injEq] at hG; obtain ⟨rfl, rfl, rfl⟩ := hG; rw [if_pos h0] at hR; exact hR.symm
theorem retL {A : Option Addr} {l : List Int} {q P0 : Nat} {E E0 : Int} {H0 : List (Int × Int)} {X : Int × List (Int × Int) × Nat} {Y R : Int × List Prt} {w w' : World} (hE : lnE l q = E) (h0 : E ≠ 0) (hG : (if lnE l q ≠ 0 then (lnE l q, [], 0) else X) = (E0, H0, P0)) (hR : (if E0 ≠ 0 then (E0, []) else Y) = R) (hs : St w [] w' []) :
    Ret (fun v w' => ParD R A l w v w') (Ending.returned (.tuple #[.slice none 0 0, .int .i64 E])) w' := by
  have h := ret_ln hE h0 hG hR; subst h; exact ⟨_, rfl, ParD.fail hs⟩
theorem hd_all {a : List (Int × Int)} {z h : Int × Int} {i : Nat} (ha : ∀ x ∈ a, hdG x) (hz : hdT z) (hh : (a ++ [z])[i]? = some h) : hdT h := by
  rcases List.mem_append.1 (List.mem_of_getElem? hh) with h1 | h1
  · exact (ha h h1).1
  obtain rfl : h = z := by simpa using h1
  exact hz
theorem mr_Parse (A : Option Addr) (c : Nat) (l : List Int) (w : World) (hx : Sl w A (ints .u8 l)) (hc : l.length ≤ c) (hn : l.length ≤ 100000) (hb : ∀ x ∈ l, 0 ≤ x ∧ x < 256) :
    Calls Tryz.prog 58 #[.slice A l.length c] w (Ret fun v w' => ParD (parV l) A l w v w') := by
  have hs := St.start w; obtain ⟨R, hR⟩ : ∃ R, parV l = R := ⟨_, rfl⟩; rw [hR]; obtain ⟨⟨E0, H0, P0⟩, hV⟩ : ∃ V, hdV l = V := ⟨_, rfl⟩; have hgd : E0 = 0 → ∃ a z, H0 = a ++ [z] ∧ (∀ x ∈ a, hdG x) ∧ hdT z := fun h => by
    have := hGo_good hb (l.length + 1) 0 [] false false J16; rw [show hGo l (l.length + 1) 0 [] false false = _ from hV] at this; exact this h
  have hV' : hGo l (l.length + 1) 0 [] false false = (E0, H0, P0) := hV; unfold parV at hR; rw [hV] at hR; simp only at hR; have hfl : ∀ e : Int, e ≠ 0 → E0 = e → R = (e, []) ∨ 16384 < l.length := fun e he h => by
    rw [← hR]
    by_cases h1 : 16384 < l.length
    · exact .inr h1
    rw [if_neg h1, h, if_pos he]; exact .inl rfl
  refine Z.enter func58 rfl ntmps58 rfl rfl ?_; refine V538 ?_; refine V125 ?_; refine V29 ?_; refine V1 ?_; refine Z.only [0, 18] rfl ?_; refine V6 ?_; refine Z.cond rfl (fun hc1 => ?_) (fun hc1 => ?_)
  · (try simp at hc1)
    rw [if_pos J5] at hR; subst hR; refine V196 ?_
    repeat (first | refine Z.rthen ?_ | refine Z.rblock ?_ | refine Z.rscope ?_)
    refine V162 ?_; exact ⟨_, rfl, ParD.fail (Jn hs)⟩
  (try simp at hc1)
  rw [if_neg J5] at hR; refine V862 ?_; refine V1 ?_; refine V352 ?_; refine V858 ?_; replace hs := hs.nil 200 2; refine V18 ?_; refine V1 ?_; refine Z.only [0, 4, 5, 6] rfl ?_; refine V423 ?_; refine Z.only [0, 4, 5, 6, 7, 8] rfl ?_; refine V214 ?_; refine V520 ?_; refine V861 ?_; refine Z.loopk (ι := Nat × List (Int × Int) × Bool × Bool × Bool × Value × Nat) [0] rfl (fun x => [(4, [], x.2.2.2.2.2.1), (5, [], .int .i64 (x.1 : Int)), (6, [], .int .i64 (x.2.2.2.2.2.2 : Int)), (7, [], .bool x.2.2.1), (8, [], .bool x.2.2.2.1), (9, [], .bool x.2.2.2.2.1)]) (fun x wr => (x.1 ≤ l.length ∧ x.2.1.length ≤ x.1 ∧ x.2.2.2.2.2.2 = x.2.1.length ∧ (x.2.2.2.2.1 = true → ∃ F, l.length + 1 ≤ F + x.1 ∧ hGo l F x.1 x.2.1 x.2.2.1 x.2.2.2.1 = (E0, H0, P0)) ∧ (x.2.2.2.2.1 = false → (E0, H0, P0) = (0, x.2.1, x.1))) ∧ St w [] wr [Ent.row x.2.2.2.2.2.1 200 2 x.2.1.length (x.2.1.flatMap encH)]) (fun x => l.length - x.1) (0, [], false, false, true, .slice none 0 0, 0) J21 ⟨⟨Nat.zero_le _, Nat.zero_le _, rfl, fun _ => ⟨l.length + 1, by simp only; omega, hV'⟩, fun h => by cases h⟩, hs⟩ ?_; clear hs; rintro ⟨p, acc, data, part, more, vo, cnt⟩ w7 ⟨⟨hp, hac, hcn, hmo, hno⟩, hs⟩; refine V520 ?_
  (try dsimp only at hs)
  dsimp only at hp hac hcn hmo hno hs; subst hcn; obtain ⟨Av, cv, rfl, -, -, -⟩ := row_slv hs (j := 0) rfl; have hc0 : ((p, acc, data, part, more, Value.slice Av acc.length cv, acc.length) : Nat × List (Int × Int) × Bool × Bool × Bool × Value × Nat).2.2.2.2.2.2 = acc.length := rfl; refine V141 ?_; refine V121 ?_; refine Z.only [0, 4, 5, 6, 7, 8, 19] rfl ?_; refine V6 ?_; refine Z.cond rfl (fun hc7 => ?_) (fun hc7 => ?_)
  · (try simp at hc7)
    obtain ⟨F, hF, hG⟩ := hmo J72; obtain ⟨F, rfl⟩ : ∃ F', F = F' + 1 := ⟨F - 1, by omega⟩; refine V150 ?_; refine V217 ?_; refine V29 ?_; refine V1 ?_; refine Z.only [0, 4, 5, 6, 7, 8, 25] rfl ?_; refine V6 ?_; refine Z.cond rfl (fun hc9 => ?_) (fun hc9 => ?_)
    · (try simp at hc9)
      rw [hGo, if_pos J5] at hG; simp only [Prod.mk.injEq] at hG; obtain ⟨rfl, rfl, rfl⟩ := hG; rw [if_pos J12] at hR; subst hR; refine V196 ?_
      repeat (first | refine Z.rthen ?_ | refine Z.rblock ?_ | refine Z.rscope ?_)
      refine V162 ?_; exact ⟨_, rfl, ParD.fail (Jn hs)⟩
    (try simp at hc9)
    have hpl : p < l.length := by omega
    rw [hGo, if_neg (fun k => k hpl)] at hG; have hbd := byB_bd hb hpl; obtain ⟨b, hbe⟩ : ∃ b, byB l p = b := ⟨_, rfl⟩; rw [hbe] at hG hbd; obtain ⟨x, hxe⟩ : ∃ x, b % 32 = x := ⟨_, rfl⟩; rw [hxe] at hG; obtain ⟨ba, oa, rfl, hba, hx2⟩ := Z.Sl.some hx J70; have hcl : ∀ L W, Keep w [] L W → W.cell? ⟨ba, oa + (p : Int).toNat * 1, none⟩ = some (.int .u8 b) := fun L W hW => by rw [← hbe, ← byB_at]; exact Z.cellS hx2 rfl J5 J5 W hW
    refine V367 ?_; refine V375 ?_; refine Z.l rfl rfl (by rfl) (Z.keepS hs) (Z.Yd.quo rfl rfl J33 (fun _ => qu8 ⟨by omega, by omega⟩ J5)) ?_; refine V137 ?_; refine V31 ?_; refine V520 ?_; refine V858 ?_; refine V11 ?_; refine V375 ?_; refine V37 ?_; refine V137 ?_; refine V703 ?_; refine Z.ZO.alloc rfl rfl (by rfl) zeroValue200 rfl hs ?_; clear hs; intro g10 w10 hs; refine V860 ?_; clear hs; intro ws hs; replace hs := U1 hs; replace hs := U2 hs; refine V857 ?_; refine V205 ?_; refine V210 ?_; refine V141 ?_; refine Z.cutt (ι := Unit) [0, 4, 5, 6, 7, 8, 9, 10] rfl (fun _ => [(85, [], .bool (decide (hdBad b acc.length data part)))]) (fun _ wr => St w [] wr [Ent.blk g10 200 #[.int .i64 x, .int .i64 (-1)], Ent.row (.slice Av acc.length cv) 200 2 acc.length (acc.flatMap encH)]) ?_ ?_
    · skip
      refine V42 ?_; rw [hxe] at hs; refine V18 ?_; refine V859 ?_; refine V375 ?_; refine V11 ?_; refine V48 ?_; refine Z.split (s := 45) rfl (fun hsp45 => ?_) (fun hsp45 => ?_)
      · refine Z.yes (s := 45) (b := true) rfl hsp45 rfl ?_
        (try simp at hsp45)
        refine V4 ?_; refine V13 ?_; refine V220 ?_; refine V36 ?_; refine V13 ?_; refine V36 ?_; refine V485 ?_; refine V48 ?_; refine Z.split (s := 62) rfl (fun hsp62 => ?_) (fun hsp62 => ?_)
        · refine Z.yes (s := 62) (b := true) rfl hsp62 rfl ?_
          (try simp at hsp62)
          refine V4 ?_; refine V220 ?_; refine V485 ?_; refine V48 ?_; refine Z.lb 12 rfl ?_; refine V857 ?_; refine V439 ?_; refine V6 ?_; exact Z.meet () J24 hs
        (exfalso; simp at hsp62 <;> omega)
      refine Z.yes (s := 45) (b := false) rfl hsp45 rfl ?_
      (try simp at hsp45)
      refine V160 ?_; refine V373 ?_; rintro v13_8 w13_8 ⟨rfl, hy⟩; replace hs := U0 (hs.call hy); clear hy; refine V11 ?_; refine V48 ?_; refine Z.yes (s := 45) (b := false) rfl rfl rfl ?_; refine Z.split (s := 50) rfl (fun hsp50 => ?_) (fun hsp50 => ?_)
      · refine Z.yes (s := 50) (b := true) rfl hsp50 rfl ?_
        (try simp at hsp50)
        refine V160 ?_; refine V349 ?_; rintro v13_13 w13_13 ⟨rfl, hy⟩; replace hs := U0 (hs.call hy); clear hy; refine V859 ?_; refine Z.yes (s := 50) (b := true) rfl rfl rfl ?_; refine V485 ?_; refine V48 ?_; refine V11 ?_; refine Z.yes (s := 45) (b := false) rfl rfl rfl ?_; refine V276 ?_; refine V48 ?_; refine Z.split (s := 62) rfl (fun hsp62 => ?_) (fun hsp62 => ?_)
        · refine Z.yes (s := 62) (b := true) rfl hsp62 rfl ?_
          (try simp at hsp62)
          refine V4 ?_; refine V220 ?_; refine V485 ?_; refine V48 ?_; refine Z.lb 12 rfl ?_; refine V857 ?_; refine V439 ?_; refine V6 ?_; exact Z.meet () J24 hs
        refine Z.yes (s := 62) (b := false) rfl hsp62 rfl ?_
        (try simp at hsp62)
        refine V160 ?_; refine V349 ?_; rintro v13_25 w13_25 ⟨rfl, hy⟩; replace hs := U0 (hs.call hy); clear hy; refine V577 ?_; refine V857 ?_; refine V439 ?_; refine V6 ?_; exact Z.meet () J24 hs
      refine Z.yes (s := 50) (b := false) rfl hsp50 rfl ?_
      (try simp at hsp50)
      refine V299 ?_; refine V276 ?_; refine V48 ?_; refine V11 ?_; refine Z.yes (s := 45) (b := false) rfl rfl rfl ?_; refine V276 ?_; refine V48 ?_; refine Z.split (s := 62) rfl (fun hsp62 => ?_) (fun hsp62 => ?_)
      · (exfalso; simp at hsp62 <;> omega)
      refine Z.yes (s := 62) (b := false) rfl hsp62 rfl ?_
      (try simp at hsp62)
      refine V160 ?_; refine V349 ?_; rintro v13_25 w13_25 ⟨rfl, hy⟩; replace hs := U0 (hs.call hy); clear hy; refine V577 ?_; refine V857 ?_; refine V439 ?_; refine V6 ?_; exact Z.meet () J24 hs
    clear hs; rintro _ w13 hs; refine V439 ?_; refine Z.cond rfl (fun hc13 => ?_) (fun hc13 => ?_)
    · (try simp at hc13)
      have hbad : hdBad b acc.length data part := by assumption
      rw [if_pos hbad] at hG; simp only [Prod.mk.injEq] at hG; obtain ⟨rfl, rfl, rfl⟩ := hG; rw [if_pos J12] at hR; subst hR; refine V196 ?_
      repeat (first | refine Z.rthen ?_ | refine Z.rblock ?_ | refine Z.rscope ?_)
      refine V162 ?_; exact ⟨_, rfl, ParD.fail (Jn hs)⟩
    (try simp at hc13)
    have hnb : ¬ hdBad b acc.length data part := by assumption
    rw [if_neg hnb] at hG; refine V862 ?_; refine V859 ?_; refine V33 ?_; refine V205 ?_; refine V192 ?_; refine V1 ?_; refine Z.only [0, 4, 5, 6, 7, 8, 9, 10, 90] rfl ?_; refine V6 ?_; refine Z.cutt (ι := Unit) [0, 4, 5, 6, 7, 9, 10] rfl (fun _ => [(8, [], .bool (part || decide (x ≠ 31)))]) (fun _ wr => St w [] wr [Ent.blk g10 200 #[.int .i64 x, .int .i64 (-1)], Ent.row (.slice Av acc.length cv) 200 2 acc.length (acc.flatMap encH)]) ?_ ?_
    · skip
      refine Z.cond rfl (fun hc16 => ?_) (fun hc16 => ?_)
      · (try simp at hc16)
        refine V42 ?_; refine V1 ?_; refine V205 ?_; refine V6 ?_; exact Z.meet () J101 hs
      (try simp at hc16)
      refine V361 ?_; exact Z.meet () J101 hs
    clear hs; rintro _ w16 hs; refine V205 ?_; refine V182 ?_; refine V544 ?_; refine V373 ?_; rintro v18_2 w18_2 ⟨rfl, hy⟩; replace hs := U0 (hs.call hy); clear hy; refine V857 ?_; refine Z.only [0, 4, 5, 6, 7, 8, 9, 10, 93] rfl ?_; refine V6 ?_; refine Z.cutt (ι := Unit) [0, 4, 5, 6, 8, 9, 10] rfl (fun _ => [(7, [], .bool (data || decide (sduB x)))]) (fun _ wr => St w [] wr [Ent.blk g10 200 #[.int .i64 x, .int .i64 (-1)], Ent.row (.slice Av acc.length cv) 200 2 acc.length (acc.flatMap encH)]) ?_ ?_
    · skip
      refine Z.cond rfl (fun hc18 => ?_) (fun hc18 => ?_)
      · (try simp at hc18)
        refine V42 ?_; refine V1 ?_; refine V205 ?_; refine V6 ?_; exact Z.meet () J99 hs
      (try simp at hc18)
      refine V361 ?_; exact Z.meet () J99 hs
    clear hs; rintro _ w18 hs; refine V205 ?_; refine V182 ?_; refine V544 ?_; refine V373 ?_; rintro v20_2 w20_2 ⟨rfl, hy⟩; replace hs := U0 (hs.call hy); clear hy; refine V184 ?_; refine Z.only [0, 4, 5, 6, 7, 8, 9, 10, 99] rfl ?_; refine V6 ?_; refine Z.cutt (ι := Nat × Int) [0, 4, 6, 7, 8, 9, 10] rfl (fun y => [(5, [], .int .i64 (y.1 : Int))]) (fun y wr => ((sduB x ∧ b / 32 % 2 = 1 → lnE l (p + 1) = 0 ∧ y.1 = lnP l (p + 1) ∧ y.2 = lnV l (p + 1)) ∧ (¬ (sduB x ∧ b / 32 % 2 = 1) → y.1 = p + 1 ∧ y.2 = -1)) ∧ St w [] wr [Ent.blk g10 200 #[.int .i64 x, .int .i64 y.2], Ent.row (.slice Av acc.length cv) 200 2 acc.length (acc.flatMap encH)]) ?_ ?_
    · skip
      refine Z.cond rfl (fun hc20 => ?_) (fun hc20 => ?_)
      · (try simp at hc20)
        rw [if_pos hc20.2, if_pos hc20.1] at hG; refine V217 ?_; refine V29 ?_; refine V259 ?_; refine V67 ?_; refine Z.split (s := 104) rfl (fun hsp104 => ?_) (fun hsp104 => ?_)
        · refine Z.yes (s := 104) (b := true) rfl hsp104 rfl ?_
          (try simp at hsp104)
          refine V4 ?_; refine V13 ?_; refine Z.lsU rfl rfl rfl (by rfl) ?_; refine V220 ?_; refine V20 ?_; refine V857 ?_; refine Z.only [0, 4, 5, 6, 7, 8, 9, 10, 117] rfl ?_; refine V6 ?_; refine Z.cond rfl (fun hc21 => ?_) (fun hc21 => ?_)
          · (try simp at hc21)
            refine V196 ?_
            repeat (first | refine Z.rthen ?_ | refine Z.rblock ?_ | refine Z.rscope ?_)
            refine V162 ?_; exact retL (lnE_a hsp104) J12 hG hR (Jn hs)
          (exfalso; simp at hc21 <;> omega)
        refine Z.yes (s := 104) (b := false) rfl hsp104 rfl ?_
        (try simp at hsp104)
        have hp1 : p + 1 < l.length := by omega
        have hbd2 := byB_bd hb hp1; obtain ⟨b2, hb2e⟩ : ∃ b2, byB l (p + 1) = b2 := ⟨_, rfl⟩; rw [hb2e] at hbd2; have hcl2 : ∀ L W, Keep w [] L W → W.cell? ⟨ba, oa + ((p : Int) + 1).toNat * 1, none⟩ = some (.int .u8 b2) := fun L W hW => by rw [← hb2e, ← byB_at]; exact Z.cellS (i := ((p + 1 : Nat) : Int)) hx2 rfl J5 J5 W hW
        refine Z.l rfl rfl (by rfl) (Z.keepS hs) (Z.Yd.load rfl isAgg5 (fun _ => hcl2 _)) ?_; refine V50 ?_; refine V5 ?_; refine V859 ?_; refine V29 ?_; refine V11 ?_; refine Z.yes (s := 104) (b := false) rfl rfl rfl ?_; refine V14 ?_; refine V857 ?_; refine Z.only [0, 4, 5, 6, 7, 8, 9, 10, 117] rfl ?_; refine V6 ?_; refine Z.cond rfl (fun hc21 => ?_) (fun hc21 => ?_)
        · (try simp at hc21)
          refine V196 ?_
          repeat (first | refine Z.rthen ?_ | refine Z.rblock ?_ | refine Z.rscope ?_)
          refine V162 ?_; exact retL (lnE_b hp1 hb2e hc21.1 hc21.2) J12 hG hR (Jn hs)
        (try simp at hc21)
        refine V862 ?_; refine V18 ?_; refine V859 ?_; refine V67 ?_; refine Z.l rfl rfl (by rfl) (Z.keepS hs) (Z.Yd.load rfl isAgg5 (fun _ => hcl2 _)) ?_; refine V37 ?_; refine V522 ?_; clear hs; intro ws hs; replace hs := U1 hs; refine V857 ?_; refine V205 ?_; refine V303 ?_; refine V33 ?_; refine V205 ?_; refine V30 ?_; refine V104 ?_; refine V1 ?_; refine Z.only [0, 4, 5, 6, 7, 8, 9, 10, 128] rfl ?_; refine V6 ?_; refine Z.cond rfl (fun hc25 => ?_) (fun hc25 => ?_)
        · (try simp at hc25)
          have hp2 : p + 1 + 1 < l.length := by omega
          have hbd3 := byB_bd hb hp2; obtain ⟨b3, hb3e⟩ : ∃ b3, byB l (p + 1 + 1) = b3 := ⟨_, rfl⟩; rw [hb3e] at hbd3; have hcl3 : ∀ L W, Keep w [] L W → W.cell? ⟨ba, oa + ((p : Int) + 1 + 1).toNat * 1, none⟩ = some (.int .u8 b3) := fun L W hW => by rw [← hb3e, ← byB_at]; exact Z.cellS (i := ((p + 1 + 1 : Nat) : Int)) hx2 rfl J5 J5 W hW
          refine V141 ?_; refine Z.drawL [Ent.blk g10 200 #[.int .i64 x, .int .i64 b2]] (fun j => j != 11) mixed hs ?_; clear hs; intro wd26 hs; refine V404 ?_; refine Z.t 2 rfl rfl rfl (by rfl) J3 (Jk hs) (Z.Yd.sub rfl rfl (fun hG => Z.wi64 J2)) ?_; refine Z.t 3 rfl rfl rfl (by rfl) J3 (Jk hs) (Z.Yd.mul rfl rfl (fun hG => Z.wi64 J2)) ?_; refine Z.tb [4, 5] J3 rfl (Jk hs) rfl ?_; refine Z.t 6 rfl rfl rfl (by rfl) J3 (Jk hs) (Z.Yd.elem rfl rfl underlying48 sizeOf5 (fun hG => ⟨J2, J2⟩)) ?_; refine Z.t 7 rfl rfl rfl (by rfl) J3 (Jk hs) (Z.Yd.load rfl isAgg5 (fun _ => hcl3 _)) ?_; refine Z.t 8 rfl rfl rfl (by rfl) J3 (Jk hs) (Z.Yd.convI rfl ⟨_, underlying5⟩ underlying3 (fun hG => Z.wi64 J2)) ?_; refine Z.t 9 rfl rfl rfl (by rfl) J3 (Jk hs) (Z.Yd.add rfl rfl (fun hG => Z.wi64 J2)) ?_; refine Z.t 10 rfl rfl rfl (by rfl) J3 (Jk hs) (Z.Yd.fieldA (m := 1) rfl J3) ?_; refine V561 ?_; refine V25 ?_; clear hs; intro ws hs; replace hs := U1 hs; refine Z.tk (Dn := fun j => j != 11) (i := 11) (fun h => absurd h J12) ?_; refine V40 ?_; refine V205 ?_; refine V303 ?_; refine V33 ?_; refine V205 ?_; refine V858 ?_; refine V104 ?_; refine V1 ?_; refine Z.only [0, 4, 5, 6, 7, 8, 9, 10, 144] rfl ?_; refine V6 ?_; refine Z.cond rfl (fun hc28 => ?_) (fun hc28 => ?_)
          · (try simp at hc28)
            refine V196 ?_
            repeat (first | refine Z.rthen ?_ | refine Z.rblock ?_ | refine Z.rscope ?_)
            refine V162 ?_; exact retL (lnE_c hp2 hb2e hbd2.2 hc25 hb3e hc28) J12 hG hR (Jn hs)
          (try simp at hc28)
          have hM := lnE_f hp2 hb2e hbd2.2 hc25 hb3e J5; refine V862 ?_; refine V104 ?_; refine V1 ?_; refine Z.only [0, 4, 5, 6, 7, 8, 9, 10, 147] rfl ?_; refine V6 ?_; refine Z.cond rfl (fun hc30 => ?_) (fun hc30 => ?_)
          · (exfalso; simp at hc30 <;> omega)
          (try simp at hc30)
          refine V361 ?_; exact Z.meet (p + 1 + 2, (b2 - 128) * 256 + b3) J78 ⟨⟨fun _ => ⟨hM.1, hM.2.1.symm, hM.2.2.symm⟩, fun h => absurd hc20 h⟩, hs⟩
        (try simp at hc25)
        have hM' : b2 ≠ 0 → _ := fun h => lnE_e hp1 hb2e h J5
        refine V862 ?_; refine V104 ?_; refine V1 ?_; refine Z.only [0, 4, 5, 6, 7, 8, 9, 10, 147] rfl ?_; refine V6 ?_; refine Z.cond rfl (fun hc30 => ?_) (fun hc30 => ?_)
        · (try simp at hc30)
          refine V196 ?_
          repeat (first | refine Z.rthen ?_ | refine Z.rblock ?_ | refine Z.rscope ?_)
          refine V162 ?_; exact retL (lnE_d hp1 hb2e hc30) J12 hG hR (Jn hs)
        (try simp at hc30)
        refine V361 ?_; exact Z.meet (p + 1 + 1, b2) J78 ⟨⟨fun _ => ⟨(hM' hc30).1, (hM' hc30).2.1.symm, (hM' hc30).2.2.symm⟩, fun h => absurd hc20 h⟩, hs⟩
      (try simp at hc20)
      refine V361 ?_; exact Z.meet (p + 1, -1) J78 ⟨⟨fun h => absurd h (by simpa using hc20), fun _ => ⟨rfl, rfl⟩⟩, hs⟩
    clear hs; rintro ⟨p', n'⟩ w20 ⟨⟨hy1, hy2⟩, hs⟩; refine V205 ?_
    (try dsimp only at hs)
    refine V42 ?_; refine V859 ?_; refine Z.l rfl rfl (by rfl) (Z.keepS hs) (by exact Z.Yd.loadA _ rfl isAgg200 (fun _ => Z.cellsB J0) (by exact sizeOf200)) ?_; refine V2 ?_; refine Z.ZO.litL (T' := 200) [(0, 2)] [.int .i64 0, .int .i64 0] rfl rfl (by rfl) rfl rfl J19 hs ?_; clear hs; intro g150 w150 hs; refine V2 ?_; refine Z.ZO.append (i0 := Tryz.t200) (size := 2) (bytes := 16) rfl rfl (by rfl) hs underlying198 J3 rfl rfl rfl rfl J12 rfl rfl J1 J1 J34 J38 J12 J17 J5 ?_; clear hs; intro g151 cap151 w151 hs; replace hs := U3 hs; refine V1 ?_; refine V520 ?_; refine V302 ?_; refine V520 ?_; refine V6 ?_; have eL : ∀ n : Int, (acc ++ [(x, n)]).length = acc.length + 1 := fun n => by simp
    have eF : ∀ n : Int, acc.flatMap encH ++ [Value.int .i64 x, Value.int .i64 n] = (acc ++ [(x, n)]).flatMap encH := fun n => by simp [encH]
    have hst : ∀ n : Int, St w [] _ [Ent.row _ 200 2 (acc ++ [(x, n')]).length ((acc ++ [(x, n')]).flatMap encH)] := fun _ => by rw [eL, ← eF]; exact hs.tl
    by_cases hm : b / 32 % 2 = 1
    · rw [if_pos hm] at hG
      by_cases hsd : sduB x
      · obtain ⟨y1, y2, y3⟩ := hy1 ⟨hsd, hm⟩
        simp only at y2 y3; subst y2 y3; rw [if_pos hsd, if_neg (fun k => k y1)] at hG; have hle := lnP_le y1; exact Z.again (lnP l (p + 1), acc ++ [(x, lnV l (p + 1))], _, _, (b / 32 % 2 == 1), _, acc.length + 1) J14 ⟨⟨hle.2, by simp only [eL]; omega, by simp only [eL], fun _ => ⟨F, by simp only; omega, hG⟩, fun h => by simp [hm] at h⟩, hst 0⟩ J22
      obtain ⟨y2, y3⟩ := hy2 (fun h => hsd h.1); simp only at y2 y3; subst y2 y3; rw [if_neg hsd] at hG; exact Z.again (p + 1, acc ++ [(x, -1)], _, _, (b / 32 % 2 == 1), _, acc.length + 1) J14 ⟨⟨by simp only; omega, by simp only [eL]; omega, by simp only [eL], fun _ => ⟨F, by simp only; omega, hG⟩, fun h => by simp [hm] at h⟩, hst 0⟩ J22
    rw [if_neg hm] at hG; obtain ⟨y2, y3⟩ := hy2 (fun h => hm h.2); simp only at y2 y3; subst y2 y3; exact Z.again (p + 1, acc ++ [(x, -1)], _, _, (b / 32 % 2 == 1), _, acc.length + 1) J14 ⟨⟨by simp only; omega, by simp only [eL]; omega, by simp only [eL], fun h => by simp [hm] at h, fun _ => hG.symm⟩, hst 0⟩ J22
  (try simp at hc7)
  refine V181 ?_; have hno := hno (by simp_all); simp only [Prod.mk.injEq] at hno; obtain ⟨rfl, rfl, rfl⟩ := hno; rw [if_neg J12] at hR; obtain ⟨a0, z0, hH, hga, hgz⟩ := hgd rfl; replace hs := hs.nil 77 2; refine V18 ?_; refine V857 ?_; refine Z.only [0, 4, 5, 11] rfl ?_; refine V214 ?_; refine Z.only [0, 4, 5, 11, 12] rfl ?_; refine V861 ?_; refine Z.loopk (ι := Nat × Nat × List MpV × Value) [0, 4] rfl (fun y => [(5, [], .int .i64 (y.2.1 : Int)), (11, [], y.2.2.2), (12, [], .int .i64 (y.1 : Int))]) (fun y wr => (y.1 ≤ H0.length ∧ y.2.1 ≤ l.length ∧ y.2.2.1.length ≤ y.1 ∧ (∀ q ∈ y.2.2.1, ∀ W, Sl W A (ints .u8 l) → Sl W q.B (ints .u8 q.l)) ∧ ptGo l (H0.drop y.1) y.2.1 (y.2.2.1.map MpV.plain) = R) ∧ St w [] wr [Ent.row y.2.2.2 77 2 y.2.2.1.length (y.2.2.1.flatMap MpV.cells), Ent.row (.slice Av H0.length cv) 200 2 H0.length (H0.flatMap encH)]) (fun y => H0.length - y.1) (0, P0, [], .slice none 0 0) J13 ⟨⟨Nat.zero_le _, hp, Nat.zero_le _, by simp, hR⟩, hs⟩ ?_; clear hs; rintro ⟨i, q, ps, vo⟩ w35 ⟨⟨hi, hq, hpi, hB, hgo⟩, hs⟩; refine Z.only [0, 4, 5, 11, 12] rfl ?_
  (try dsimp only at hs)
  dsimp only at hi hq hpi hB hgo hs; obtain ⟨Ao, co, rfl, -, -, -⟩ := row_slv hs (j := 0) rfl; have hq0 : ((i, q, ps, Value.slice Ao ps.length co) : Nat × Nat × List MpV × Value).2.1 = q := rfl; refine V217 ?_; refine Z.l rfl rfl (by rfl) (Z.keepS hs) (Z.Yd.lenS rfl underlying198) ?_; refine V1 ?_; refine Z.only [0, 4, 5, 11, 12, 155] rfl ?_; refine V6 ?_; refine Z.cond rfl (fun hc35 => ?_) (fun hc35 => ?_)
  · (try simp at hc35)
    obtain ⟨h, hh⟩ : ∃ h, H0[i]? = some h := ⟨_, List.getElem?_eq_getElem J5⟩; rw [drop_at hh, ptGo] at hgo; obtain ⟨gh, ch', e9, -, -⟩ := row_form (j := 1) hs rfl J5
    cases e9
    have hone : ∀ u ∈ encH h, u.oneCell' = true := by simp [encH, Value.oneCell']
    refine V445 ?_; refine Z.l rfl rfl (by rfl) (Z.keepS hs) (Z.Yd.elem rfl rfl underlying198 sizeOf200 (fun hG => ⟨J2, J2⟩)) ?_; refine Z.l rfl rfl (by rfl) (Z.keepS hs) (Z.Yd.loadA _ rfl isAgg200 (fun _ => Z.cellsRf J0 encH_len hh rfl) (by exact sizeOf200)) ?_; refine V11 ?_; refine Z.l rfl rfl (by rfl) (Z.keepS hs) (Z.Yd.lenS rfl underlying198) ?_; refine V17 ?_; refine V62 ?_; refine Z.ZO.alloc rfl rfl (by rfl) zeroValue200 rfl hs ?_; clear hs; intro g13 w13 hs; refine V860 ?_; clear hs; intro ws hs; replace hs := U1 hs; replace hs := U2 hs; refine V1 ?_; refine Z.only [0, 4, 5, 11, 12, 13, 14] rfl ?_; refine V192 ?_; refine V1 ?_; refine Z.only [0, 4, 5, 11, 12, 13, 14, 169] rfl ?_; refine V6 ?_; refine Z.cond rfl (fun hc38 => ?_) (fun hc38 => ?_)
    · (try simp at hc38)
      refine Z.exit ?_; refine Z.xthen ?_; refine Z.xblock ?_; refine V6 ?_; refine V93 ?_; refine Z.only [0, 4, 5, 11, 12] rfl ?_; refine V6 ?_; rw [if_pos hc38] at hgo; exact Z.again (i + 1, q, ps, .slice Ao ps.length co) J8 ⟨⟨by simp only; omega, hq, by simp only; omega, hB, hgo⟩, hs.tl⟩ J22
    (try simp at hc38)
    have hdt := hd_all hga hgz (by rw [← hH]; exact hh); obtain ⟨k, hk⟩ := ptN_nat hq hga hgz (by rw [← hH]; exact hh) hc38 (la := decide (i + 1 = H0.length)) (by rw [hH]); rw [if_neg hc38, drop_emp J5, hk, Int.toNat_natCast] at hgo; have hkc : ¬ sduB h.1 → ctlN h.1 = (k : Int) := fun hn => by
      have h5 : ctlN h.1 ≠ 0 := by
        rcases hdt with h5 | h5 | h5
        · exact absurd h5 hn
        · exact h5
        exact absurd h5 hc38
      rw [← hk, ptN, if_pos h5]
    have hkl : sduB h.1 → i + 1 = H0.length → (l.length : Int) - (q : Int) = (k : Int) := fun h1 h2 => by rw [← hk, ptN, if_neg (by simpa using sdu_ctl h1), if_pos (by simpa using h2)]
    have hkn : sduB h.1 → ¬ i + 1 = H0.length → h.2 = (k : Int) := fun h1 h2 => by rw [← hk, ptN, if_neg (by simpa using sdu_ctl h1), if_neg (by simpa using h2)]
    refine V862 ?_; refine V544 ?_; refine V349 ?_; rintro v39_2 w39_2 ⟨rfl, hy⟩; replace hs := U0 (hs.call hy); clear hy; refine V1 ?_; refine V554 ?_; refine V192 ?_; refine V2 ?_; refine V373 ?_; rintro v40_2 w40_2 ⟨rfl, hy⟩; replace hs := U0 (hs.call hy); clear hy; refine V857 ?_; refine Z.only [0, 4, 5, 11, 12, 13, 14, 15, 175] rfl ?_; refine V6 ?_; refine Z.cutt (ι := Unit) [0, 4, 5, 11, 12, 13, 14] rfl (fun _ => [(15, [], .int .i64 (k : Int))]) (fun _ wr => St w [] wr [Ent.blk g13 200 (encH h).toArray, Ent.row (.slice Ao ps.length co) 77 2 ps.length (ps.flatMap MpV.cells), Ent.row (.slice (some ⟨gh, 0, none⟩) H0.length cv) 200 2 H0.length (H0.flatMap encH)]) ?_ ?_
    · skip
      refine Z.cond rfl (fun hc40 => ?_) (fun hc40 => ?_)
      · (try simp at hc40)
        refine V0 ?_; refine V104 ?_; refine V1 ?_; refine V554 ?_; refine V511 ?_; refine Z.only [0, 4, 5, 11, 12, 13, 14, 15, 178] rfl ?_; refine V6 ?_; refine Z.cond rfl (fun hc42 => ?_) (fun hc42 => ?_)
        · (try simp at hc42)
          refine V42 ?_; refine V859 ?_; refine V29 ?_; refine V859 ?_; refine V395 ?_; refine V554 ?_; refine V6 ?_; exact Z.meet () J58 hs
        (try simp at hc42)
        refine V361 ?_; exact Z.meet () J58 hs
      (try simp at hc40)
      refine V361 ?_; exact Z.meet () J58 hs
    clear hs; rintro _ w40 hs; refine V554 ?_; refine V217 ?_; refine V29 ?_; refine V859 ?_; refine V395 ?_; refine Z.only [0, 4, 5, 11, 12, 13, 14, 15, 188] rfl ?_; refine V6 ?_; refine Z.cond rfl (fun hc44 => ?_) (fun hc44 => ?_)
    · (try simp at hc44)
      rw [if_pos J5] at hgo; subst hgo; refine V196 ?_
      repeat (first | refine Z.rthen ?_ | refine Z.rblock ?_ | refine Z.rscope ?_)
      refine V162 ?_; exact ⟨_, rfl, ParD.fail (Jn hs)⟩
    (try simp at hc44)
    rw [if_neg (fun hh => hh J5)] at hgo; refine V427 ?_; refine Z.lb 7 rfl ?_; refine V5 ?_; refine V859 ?_; refine V29 ?_; refine V184 ?_; refine Z.only [0, 4, 5, 11, 12, 13, 15, 201] rfl ?_; refine V6 ?_; refine Z.cond rfl (fun hc46 => ?_) (fun hc46 => ?_)
    · (try simp at hc46)
      rw [if_pos ⟨by simp; omega, by omega⟩] at hgo; subst hgo; refine V196 ?_
      repeat (first | refine Z.rthen ?_ | refine Z.rblock ?_ | refine Z.rscope ?_)
      refine V162 ?_; exact ⟨_, rfl, ParD.fail (Jn hs)⟩
    (try simp at hc46)
    rw [if_neg J45] at hgo; refine V47 ?_; refine V210 ?_; refine Z.drawL [Ent.blk g13 200 (encH h).toArray] (fun _ => true) mixed hs ?_; clear hs; intro wd48 hs; refine V234 ?_; refine Z.t 1 rfl rfl rfl (by rfl) J3 (Jk hs) (Z.Yd.fieldA (m := 0) rfl J3) ?_; refine Z.t 2 rfl rfl rfl (by rfl) J3 (Jk hs) J25 ?_; refine Z.tb [3, 4, 5, 6] J3 rfl (Jk hs) rfl ?_; refine Z.t 7 rfl rfl rfl (by rfl) J3 (Jk hs) (Z.Yd.add rfl rfl (fun hG => Z.wi64 J2)) ?_; refine Z.t 8 rfl rfl rfl (by rfl) J3 (Jk hs) (Z.Yd.cut q (q + k) rfl (Z.lvl_some rfl (by intro hG; first | rfl | exact J2)) (Z.lvl_some rfl (by intro hG; first | rfl | exact J2)) underlying48 sizeOf5 (fun hG => ⟨J2, J2⟩)) ?_; rw [show q + k - q = k from by omega]; refine Z.t 9 rfl rfl rfl (by rfl) J3 (Jk hs) (Z.Yd.buildL [(0, 1), (1, 1)] [.int .i64 0, .slice none 0 0] rfl rfl J18) ?_; refine V562 ?_; refine V58 ?_; clear hs; intro g212 w212 hs; refine Z.tk (Dn := fun _ => true) (i := 10) (fun _ => (Jk hs)) ?_; refine V561 ?_; refine V75 ?_; clear hs; intro g213 cap213 w213 hs; replace hs := U3 hs; refine V370 ?_; refine V40 ?_; refine Z.only [0, 4, 5, 11, 12, 15] rfl ?_; refine V300 ?_; refine V11 ?_; refine V33 ?_; refine Z.only [0, 4, 5, 11, 12] rfl ?_; refine V302 ?_; refine Z.only [0, 4, 5, 11, 12] rfl ?_; refine V6 ?_; obtain ⟨D, hD⟩ : ∃ D, (l.drop q).take k = D := ⟨_, rfl⟩; have hlk : D.length = k := by rw [← hD, List.length_take, List.length_drop]; omega
    rw [hD] at hgo; subst hlk
    have hsl : ∀ W, Sl W A (ints .u8 l) → Sl W (slA A c q 1) (ints .u8 D) := fun W hxW => hxW.cut (l := q) (size := 1) (by rw [Nat.mul_one, ← hD]; simp only [ints, List.map_take, List.map_drop]; exact List.take_prefix _ _) (fun e => by
      have h0 : D.length = 0 := by omega
      rw [List.eq_nil_of_length_eq_zero h0]
      rfl)
    have e1 : (ps ++ [(⟨h.1, slA A c q 1, c - q, D⟩ : MpV)]).length = ps.length + 1 := by simp
    have e2 : (ps ++ [(⟨h.1, slA A c q 1, c - q, D⟩ : MpV)]).flatMap MpV.cells = ps.flatMap MpV.cells ++ [.int .i64 h.1, .slice (slA A c q 1) D.length (c - q)] := by simp [MpV.cells]
    have e3 : (ps ++ [(⟨h.1, slA A c q 1, c - q, D⟩ : MpV)]).map MpV.plain = ps.map MpV.plain ++ [(h.1, D)] := by simp [MpV.plain]
    rw [← e3] at hgo; rw [← e1, ← e2] at hs
    exact Z.again (i + 1, q + D.length, ps ++ [(⟨h.1, slA A c q 1, c - q, D⟩ : MpV)], _) J8 ⟨⟨by simp only; omega, by simp only; omega, by simp only [e1]; omega, fun z hz => by
      rcases List.mem_append.1 hz with h8 | h8
      · exact hB z h8
      obtain rfl : z = _ := by simpa using h8
      exact hsl, hgo⟩, hs.tl⟩ J22
  (try simp at hc35)
  refine V403 ?_; rw [List.drop_of_length_le J5, ptGo] at hgo; refine V18 ?_; refine V275 ?_; refine Z.only [11, 219] rfl ?_; refine V6 ?_; refine Z.cond rfl (fun hc50 => ?_) (fun hc50 => ?_)
  · (try simp at hc50)
    rw [if_pos (by rw [hc50]; rfl)] at hgo; subst hgo; refine V196 ?_
    repeat (first | refine Z.rthen ?_ | refine Z.rblock ?_ | refine Z.rscope ?_)
    refine V162 ?_; exact ⟨_, rfl, ParD.fail (Jn hs)⟩
  (try simp at hc50)
  rw [if_neg (by simpa using hc50)] at hgo; subst hgo; refine V862 ?_; refine V184 ?_; refine V124 ?_; refine V162 ?_; exact ⟨_, rfl, ps, _, rfl, rfl, hB, hs.sel [0] J12⟩


def szE (l : List Int) (n : Int) : Int := if (l.length : Int) < n then 5 else if (l.length : Int) > n then 4 else 0
theorem rsize24 (lc n : Int) (A : Option Addr) (m c : Nat) (l : List Int) (w : World) (hl : l.length = m) :
    Calls Tryz.prog 117 #[.agg #[.int .i64 lc, .slice A m c], .int .i64 n] w (Ret fun v w' => v = .int .i64 (szE l n) ∧ St w [] w' []) := by
  have hs := St.start w; have h1 : szE l n = if (m : Int) < n then 5 else if (m : Int) > n then 4 else 0 := by rw [← hl]; rfl
  refine Z.enter func117 rfl ntmps117 rfl rfl ?_; refine V91 ?_; clear hs; intro g2 w2 hs; refine V585 ?_; refine V200 ?_; refine V31 ?_; refine Z.only [1, 2, 9] rfl ?_; refine V6 ?_; refine Z.cond rfl (fun hc1 => ?_) (fun hc1 => ?_)
  · (try simp at hc1)
    refine V189 ?_
    repeat (first | refine Z.rthen ?_ | refine Z.rblock ?_ | refine Z.rscope ?_)
    refine V199 ?_; exact ⟨_, rfl, by rw [h1]; simp_all, Jn hs⟩
  (try simp at hc1)
  refine V427 ?_; refine V200 ?_; refine V31 ?_; refine Z.only [14] rfl ?_; refine V6 ?_; refine Z.cond rfl (fun hc3 => ?_) (fun hc3 => ?_)
  · (try simp at hc3)
    refine V189 ?_
    repeat (first | refine Z.rthen ?_ | refine Z.rblock ?_ | refine Z.rscope ?_)
    refine V199 ?_; exact ⟨_, rfl, by rw [h1]; simp_all <;> omega, Jn hs⟩
  (try simp at hc3)
  refine V862 ?_; refine V1 ?_; refine V240 ?_; exact ⟨_, rfl, by rw [h1]; simp_all <;> omega, Jn hs⟩
theorem opE_sz (lc : Int) (l : List Int) (n : Int) : opE lc l lc n = szE l n := by simp [opE, szE]
theorem szE_len {l : List Int} {n : Int} (h : szE l n = 0) : (l.length : Int) = n := by
  unfold szE at h
  split at h
  · simp at h
  split at h
  · simp at h
  omega
theorem rdecpow24 (lc : Int) (A : Option Addr) (m c : Nat) (l : List Int) (w : World) (hx : Sl w A (ints .u8 l)) (hl : l.length = m) (hm : m ≤ 1000000) (hb : Byts l) :
    Calls Tryz.prog 59 #[.agg #[.int .i64 lc, .slice A m c]] w (Ret fun v w' => v = .tuple #[.int .i64 (powV lc l), .int .i64 (powE lc l)] ∧ St w [] w' []) := by
  have hs := St.start w
  by_cases h26 : lc = 26
  · subst h26
    by_cases hz : szE l 1 = 0
    · have hl1 := szE_len hz
      obtain ⟨h0, h256, hl2⟩ := one_byte hb J5; have eE : powE 26 l = if num l / 64 ≠ 0 then 9 else 0 := by unfold powE; rw [opE_sz, hz, if_neg J16]
      have eV : powV 26 l = if num l / 64 ≠ 0 then 0 else num l := by unfold powV; rw [eE]; by_cases h9 : num l / 64 ≠ 0 <;> simp [h9]
      have he : elt l 0 = num l := by
        obtain ⟨x, rfl⟩ := list1 (l := l) J5; simp [elt, num]
      obtain ⟨bb, off, rfl, hbb, hx⟩ := Z.Sl.some hx J92; refine V598 ?_; clear hs; intro g1 w1 hs; refine V542 ?_; refine Z.cond rfl (fun hc1 => ?_) (fun hc1 => ?_)
      · (exfalso; simp at hc1 <;> omega)
      (try simp at hc1)
      refine V427 ?_; refine V513 ?_; refine Z.ZO.call rfl rfl (by rfl) rfl rfl call117 rfl (rsize24 26 1 _ m c l _ hl) ?_; rintro v3_1 w3_1 ⟨rfl, hy⟩; replace hs := U0 (hs.call hy); clear hy; refine V617 ?_; refine Z.only [1, 4, 11] rfl ?_; refine V6 ?_; refine Z.cond rfl (fun h => absurd h (by simp [hz])) (fun hc4 => ?_); refine V427 ?_; refine V408 ?_; refine V1 ?_; refine Z.only [1, 17] rfl ?_; refine V6 ?_; refine Z.cond rfl (fun hc6 => ?_) (fun hc6 => ?_)
      · (try simp at hc6)
        refine V196 ?_
        repeat (first | refine Z.rthen ?_ | refine Z.rblock ?_ | refine Z.rscope ?_)
        refine V162 ?_; exact ⟨_, rfl, by rw [eE, eV, if_pos J5, if_pos J5], Jn hs⟩
      (try simp at hc6)
      refine V862 ?_; refine V408 ?_; refine V37 ?_; refine V468 ?_; exact ⟨_, rfl, by rw [eE, eV, if_neg J5, if_neg J5, he], Jn hs⟩
    have eE : powE 26 l = szE l 1 := by unfold powE; rw [opE_sz, if_pos hz]
    have eV : powV 26 l = 0 := by unfold powV; rw [eE, if_neg hz]
    rw [eE, eV]; refine V598 ?_; clear hs; intro g1 w1 hs; refine V542 ?_; refine Z.cond rfl (fun hc1 => ?_) (fun hc1 => ?_)
    · (exfalso; simp at hc1 <;> omega)
    (try simp at hc1)
    refine V427 ?_; refine V513 ?_; refine Z.ZO.call rfl rfl (by rfl) rfl rfl call117 rfl (rsize24 26 1 A m c l _ hl) ?_; rintro v3_1 w3_1 ⟨rfl, hy⟩; replace hs := U0 (hs.call hy); clear hy; refine V617 ?_; refine Z.only [1, 4, 11] rfl ?_; refine V6 ?_; refine Z.cond rfl (fun hc4 => ?_) (fun h => absurd h (by simpa using hz)); refine V0 ?_; refine V184 ?_; refine V124 ?_
    repeat (first | refine Z.rthen ?_ | refine Z.rblock ?_ | refine Z.rscope ?_)
    refine V162 ?_; exact ⟨_, rfl, rfl, Jn hs⟩
  have eO : opE lc l 26 1 = 2 := by simp [opE, h26]
  have eE : powE lc l = 2 := by unfold powE; rw [eO]; rfl
  have eV : powV lc l = 0 := by unfold powV; rw [eE]; rfl
  rw [eE, eV]; refine V598 ?_; clear hs; intro g1 w1 hs; refine V542 ?_; refine Z.cond rfl (fun hc1 => ?_) (fun h => absurd h (by simpa using h26)); refine V196 ?_
  repeat (first | refine Z.rthen ?_ | refine Z.rblock ?_ | refine Z.rscope ?_)
  refine V162 ?_; exact ⟨_, rfl, rfl, Jn hs⟩
theorem num_snocT (l : List Int) (j : Nat) (hj : j < l.length) : num (l.take (j + 1)) = 256 * num (l.take j) + elt l (j : Int) := by
  rw [List.take_add_one, List.getElem?_eq_getElem hj]
  show num (l.take j ++ [l[j]]) = _
  rw [num_snoc]; simp [elt, hj]
theorem elt_byte {l : List Int} (hb : Byts l) (j : Nat) (hj : j < l.length) : 0 ≤ elt l (j : Int) ∧ elt l (j : Int) < 256 := by
  have := hb l[j] (List.getElem_mem hj)
  simpa [elt, hj] using this
theorem num_takeB {l : List Int} (hb : Byts l) (h : l.length ≤ 8) (j : Nat) : 0 ≤ num (l.take j) ∧ num (l.take j) < 18446744073709551616 := by
  have hb2 : Byts (l.take j) := fun x hx => hb x (List.mem_of_mem_take hx)
  have h1 := num_lt hb2; have h2 : (l.take j).length ≤ 8 := by simp; omega
  have h3 : 2 ^ ((l.take j).length * 8) ≤ 2 ^ 64 := Nat.pow_le_pow_right J12 J5; refine ⟨num_nonneg hb2, ?_⟩; have h4 : (2 : Nat) ^ 64 = 18446744073709551616 := rfl
  omega
theorem rdecid24 (lc : Int) (A : Option Addr) (m c : Nat) (l : List Int) (w : World) (hx : Sl w A (ints .u8 l)) (hl : l.length = m) (hm : m ≤ 9223372036854775807) (hb : Byts l) :
    Calls Tryz.prog 60 #[.agg #[.int .i64 lc, .slice A m c]] w (Ret fun v w' => v = .tuple #[.int .u64 (idV lc l), .int .i64 (idE lc l)] ∧ St w [] w' []) := by
  have hs := St.start w
  by_cases hi : isId lc
  · have ew : 2 + 4 * (lc - 27) = wid lc := by
      rcases hi with rfl | rfl <;> rfl
    have hlc : 27 ≤ lc ∧ lc ≤ 28 := by
      rcases hi with rfl | rfl <;> omega
    have eE : idE lc l = szE l (wid lc) := by unfold idE; rw [if_pos hi, opE_sz]
    by_cases hz : szE l (wid lc) = 0
    · have hl1 := szE_len hz
      have hw : wid lc ≤ 6 ∧ 0 < wid lc := by unfold wid; split <;> omega
      have eV : idV lc l = num l := by unfold idV; rw [eE, if_pos hz]
      rw [eE, eV, hz]; obtain ⟨bb, off, rfl, hbb, hx⟩ := Z.Sl.some hx J92; refine V608 ?_; clear hs; intro g1 w1 hs; refine V339 ?_; refine V6 ?_; refine Z.cond rfl (fun h => absurd h J137) (fun hc1 => ?_); refine V97 ?_; rw [ew]; refine V2 ?_; refine Z.ZO.call rfl rfl (by rfl) rfl rfl call117 rfl (rsize24 lc _ _ m c l _ hl) ?_; rintro v3_6 w3_6 ⟨rfl, hy⟩; replace hs := U0 (hs.call hy); clear hy; refine V617 ?_; refine Z.only [1, 4, 23] rfl ?_; refine V6 ?_; refine Z.cond rfl (fun h => absurd h (by simp [hz])) (fun hc4 => ?_); refine V862 ?_; refine V1 ?_; refine Z.only [1, 5] rfl ?_; refine V214 ?_; refine Z.only [1, 5, 6] rfl ?_; refine V861 ?_; refine Z.loopk (ι := Nat) [1] rfl (fun j => [(5, [], .int .u64 (num (l.take j))), (6, [], .int .i64 (j : Int))]) (fun j wr => j ≤ m ∧ St w [] wr [Ent.blk g1 77 #[.int .i64 lc, .slice (some ⟨bb, off, none⟩) m c]]) (fun j => m - j) 0 J11 ⟨by omega, hs⟩ ?_; clear hs; rintro j w2 ⟨hj, hs⟩; refine Z.only [1, 5, 6] rfl ?_; refine V514 ?_; refine V200 ?_; refine V1 ?_; refine Z.only [1, 5, 6, 29] rfl ?_; refine V6 ?_; refine Z.cond rfl (fun hc8 => ?_) (fun hc8 => ?_)
      · (try simp at hc8)
        have hbj := num_takeB hb J5 j; have hbj1 := num_takeB hb J5 (j + 1); have hel := elt_byte hb j J5; rw [num_snocT l j J5] at hbj1; refine V150 ?_; refine V42 ?_; refine V859 ?_; refine Z.l rfl rfl (by rfl) (Z.keepS hs) (Z.Yd.mul rfl rfl (fun hG => Z.wu64 J2)) ?_; refine V8 ?_; refine V73 ?_; refine V859 ?_; refine V67 ?_; refine Z.l rfl rfl (by rfl) (Z.keepS hs) J49 ?_; refine V535 ?_; refine Z.l rfl rfl (by rfl) (Z.keepS hs) (Z.Yd.add rfl rfl (fun hG => Z.wu64 J2)) ?_; refine V1 ?_; refine Z.only [1, 5, 6] rfl ?_; refine V302 ?_; refine Z.only [1, 5, 6] rfl ?_; refine V6 ?_; rw [← num_snocT l j J5]; exact Z.again (j + 1) J13 ⟨by omega, hs⟩ J5
      (try simp at hc8)
      refine V181 ?_; obtain rfl : j = m := by omega
      rw [List.take_of_length_le J5]; refine V18 ?_; refine V468 ?_; exact ⟨_, rfl, rfl, Jn hs⟩
    have eV : idV lc l = 0 := by unfold idV; rw [eE, if_neg hz]
    rw [eE, eV]; refine V608 ?_; clear hs; intro g1 w1 hs; refine V339 ?_; refine V6 ?_; refine Z.cond rfl (fun h => absurd h J137) (fun hc1 => ?_); refine V97 ?_; rw [ew]; refine V2 ?_; refine Z.ZO.call rfl rfl (by rfl) rfl rfl call117 rfl (rsize24 lc _ A m c l _ hl) ?_; rintro v3_6 w3_6 ⟨rfl, hy⟩; replace hs := U0 (hs.call hy); clear hy; refine V617 ?_; refine Z.only [1, 4, 23] rfl ?_; refine V6 ?_; refine Z.cond rfl (fun hc4 => ?_) (fun h => absurd h (by simpa using hz)); refine V0 ?_; refine V184 ?_; refine V124 ?_
    repeat (first | refine Z.rthen ?_ | refine Z.rblock ?_ | refine Z.rscope ?_)
    refine V162 ?_; exact ⟨_, rfl, rfl, Jn hs⟩
  have eE : idE lc l = 2 := by unfold idE; rw [if_neg hi]
  have eV : idV lc l = 0 := by unfold idV; rw [eE]; rfl
  rw [eE, eV]; refine V608 ?_; clear hs; intro g1 w1 hs; refine V339 ?_; refine V6 ?_; refine Z.cond rfl (fun hc1 => ?_) (fun h => absurd h J137); refine V196 ?_
  repeat (first | refine Z.rthen ?_ | refine Z.rblock ?_ | refine Z.rscope ?_)
  refine V162 ?_; exact ⟨_, rfl, rfl, Jn hs⟩
theorem rdecrep24_short (A : Option Addr) (m c : Nat) (l : List Int) (w : World) (hx : Sl w A (ints .u8 l)) (hl : l.length = m) (hb : Byts l) (hz : szE l 1 = 0) :
    Calls Tryz.prog 61 #[.agg #[.int .i64 29, .slice A m c]] w (Ret fun v w' => v = .tuple #[.agg (RepV.short (num l / 64) (num l % 64)).cells.toArray, .int .i64 0] ∧ St w [] w' []) := by
  have hs := St.start w; have hl1 := szE_len hz; obtain ⟨h0, h256, hl2⟩ := one_byte hb J5; have he : elt l 0 = num l := by
    obtain ⟨x, rfl⟩ := list1 (l := l) J5; simp [elt, num]
  obtain ⟨bb, off, rfl, hbb, hx⟩ := Z.Sl.some hx J92; have tq : elt l 0 / 64 = num l / 64 := by rw [he]
  have tr : elt l 0 % 64 = num l % 64 := by rw [he]
  rw [← he] at h0 h256; generalize num l % 64 = V at *; obtain ⟨q, hq⟩ : ∃ q, num l / 64 = q := ⟨_, rfl⟩; have hq4 : q = 0 ∨ q = 1 ∨ q = 2 ∨ q = 3 := by omega
  rw [hq] at tq ⊢; have hsh : ([.bool false, .int .i64 q, .int .i64 0, .int .i64 0, .int .i64 0, .int .i64 0] : List Value).set (2 + q.toNat * 1) (.int .i64 V) = (RepV.short q V).cells := by
    rcases hq4 with rfl | rfl | rfl | rfl <;> rfl
  have hsh0 : ([.bool false, .int .i64 q, .int .i64 0, .int .i64 0, .int .i64 0, .int .i64 0] : List Value).set (0 + 2 + q.toNat * 1) (.int .i64 V) = (RepV.short q V).cells := by
    rcases hq4 with rfl | rfl | rfl | rfl <;> rfl
  refine V455 ?_; clear hs; intro g1 w1 hs; refine V481 ?_; clear hs; intro g2 w2 hs; refine V453 ?_; refine V481 ?_; clear hs; intro g4 w4 hs; refine V857 ?_; refine V246 ?_; refine V6 ?_; refine Z.cond rfl (fun h => absurd h J16) (fun hc2 => ?_); refine V97 ?_; refine V2 ?_; refine Z.ZO.call rfl rfl (by rfl) rfl rfl call117 rfl (rsize24 29 _ _ m c l _ hl) ?_; rintro v4_6 w4_6 ⟨rfl, hy⟩; replace hs := U0 (hs.call hy); clear hy; refine V1 ?_; refine V457 ?_; refine V6 ?_; refine Z.cond rfl (fun h => absurd h (by simp [hz])) (fun hc5 => ?_); refine V47 ?_; refine V192 ?_; refine V1 ?_; refine Z.only [1, 2, 4, 29] rfl ?_; refine V6 ?_; refine Z.cond rfl (fun hc7 => ?_) (fun h => absurd h J16); refine V0 ?_; refine V408 ?_; refine V37 ?_; refine V117 ?_; rw [tq]; refine V522 ?_; clear hs; intro ws hs; replace hs := U1 hs; refine V857 ?_; refine Z.only [1, 2, 4] rfl ?_; refine V210 ?_; refine Z.drawK (fun j => j != 10) mixed hs ?_; clear hs; intro wd9 hs; refine V404 ?_; refine Z.t 2 rfl rfl rfl (by rfl) J3 (Jk hs) (Z.Yd.fieldA (m := 1) rfl J3) ?_; refine Z.t 3 rfl rfl rfl (by rfl) J3 (Jk hs) J26 ?_; refine Z.t 4 rfl rfl rfl (by rfl) J3 (Jk hs) (Z.Yd.elem rfl rfl underlying48 sizeOf5 (fun hG => ⟨J2, J2⟩)) ?_; refine Z.t 5 rfl rfl rfl (by rfl) J3 (Jk hs) J49 ?_; refine Z.t 6 rfl rfl rfl (by rfl) J3 (Jk hs) (Z.Yd.convI rfl ⟨_, underlying5⟩ underlying3 (fun hG => Z.wi64 J2)) ?_; refine Z.t 7 rfl rfl rfl (by rfl) J3 (Jk hs) (Z.Yd.rem rfl rfl J33 J52) ?_
  rw [tr]; refine V412 ?_; refine Z.ZO.quiet rfl (by rfl) (Z.keepS hs) (Z.Yd.fieldA (m := 2) rfl J3) ?_; refine Z.tk (Dn := fun j => j != 10) (i := 8) (fun _ => (Jk hs)) ?_; refine V295 ?_; refine V562 ?_; refine V25 ?_; clear hs; intro ws hs; replace hs := U1 hs; refine Z.tk (Dn := fun j => j != 10) (i := 10) (fun h => absurd h J12) ?_; refine V40 ?_; refine Z.only [2, 4] rfl ?_
  first | rw [hsh] at hs | rw [hsh0] at hs
  unfold RepV.short RepV.cells at hs; refine V858 ?_; refine V202 ?_; refine V860 ?_; clear hs; intro ws hs; replace hs := U1 hs; replace hs := U2 hs; refine V484 ?_
  repeat (first | refine Z.rthen ?_ | refine Z.rblock ?_ | refine Z.rscope ?_)
  refine Z.out2 J81 ?_; exact ⟨_, rfl, rfl, Jn hs⟩
theorem rdecrep24_long (A : Option Addr) (m c : Nat) (l : List Int) (w : World) (hx : Sl w A (ints .u8 l)) (hl : l.length = m) (hb : Byts l) (hz : szE l 3 = 0) :
    Calls Tryz.prog 61 #[.agg #[.int .i64 30, .slice A m c]] w (Ret fun v w' => v = .tuple #[.agg (RepV.lng (num l)).cells.toArray, .int .i64 0] ∧ St w [] w' []) := by
  have hs := St.start w; have hl1 := szE_len hz; have he : num l = elt l 0 * 65536 + elt l 1 * 256 + elt l 2 := by
    obtain ⟨x, y, z, rfl⟩ := list3 (l := l) J5; simp [elt, num]
    omega
  have b0 : 0 ≤ elt l 0 ∧ elt l 0 < 256 := elt_byte hb 0 J5; have b1 : 0 ≤ elt l 1 ∧ elt l 1 < 256 := elt_byte hb 1 J5; have b2 : 0 ≤ elt l 2 ∧ elt l 2 < 256 := elt_byte hb 2 J5; obtain ⟨bb, off, rfl, hbb, hx⟩ := Z.Sl.some hx J92; have e0 : elt l 0 * 65536 + elt l 1 * 256 + elt l 2 = num l := he.symm; obtain ⟨V, hV⟩ : ∃ V, num l = V := ⟨_, rfl⟩; rw [hV] at he e0 ⊢; have hV0 : 0 ≤ V ∧ V < 16777216 := by omega
  refine V455 ?_; clear hs; intro g1 w1 hs; refine V481 ?_; clear hs; intro g2 w2 hs; refine V453 ?_; refine V481 ?_; clear hs; intro g4 w4 hs; refine V857 ?_; refine V246 ?_; refine V6 ?_; refine Z.cond rfl (fun h => absurd h J16) (fun hc2 => ?_); refine V97 ?_; refine V2 ?_; refine Z.ZO.call rfl rfl (by rfl) rfl rfl call117 rfl (rsize24 30 _ _ m c l _ hl) ?_; rintro v4_6 w4_6 ⟨rfl, hy⟩; replace hs := U0 (hs.call hy); clear hy; refine V1 ?_; refine V457 ?_; refine V6 ?_; refine Z.cond rfl (fun h => absurd h (by simp [hz])) (fun hc5 => ?_); refine V47 ?_; refine V192 ?_; refine V1 ?_; refine Z.only [1, 2, 4, 29] rfl ?_; refine V6 ?_; refine Z.cond rfl (fun h => absurd h J16) (fun hc7 => ?_); refine V361 ?_; refine V96 ?_; clear hs; intro wd11 hs; refine V109 ?_; refine Z.t 1 rfl rfl rfl (by rfl) J3 (Jk hs) J26 ?_; refine Z.t 2 rfl rfl rfl (by rfl) J3 (Jk hs) (Z.Yd.elem rfl rfl underlying48 sizeOf5 (fun hG => ⟨J2, J2⟩)) ?_; refine Z.t 3 rfl rfl rfl (by rfl) J3 (Jk hs) J49 ?_; refine Z.t 4 rfl rfl rfl (by rfl) J3 (Jk hs) (Z.Yd.convI rfl ⟨_, underlying5⟩ underlying3 (fun hG => Z.wi64 J2)) ?_; refine Z.t 5 rfl rfl rfl (by rfl) J3 (Jk hs) (Z.Yd.mul rfl rfl (fun hG => Z.wi64 J2)) ?_; refine Z.t 6 rfl rfl rfl (by rfl) J3 (Jk hs) (Z.Yd.fieldA (m := 1) rfl J3) ?_; refine Z.t 7 rfl rfl rfl (by rfl) J3 (Jk hs) J26 ?_; refine Z.t 8 rfl rfl rfl (by rfl) J3 (Jk hs) (Z.Yd.elem rfl rfl underlying48 sizeOf5 (fun hG => ⟨J2, J2⟩)) ?_
  refine Z.t 9 rfl rfl rfl (by rfl) J3 (Jk hs) J49 ?_; refine Z.t 10 rfl rfl rfl (by rfl) J3 (Jk hs) (Z.Yd.convI rfl ⟨_, underlying5⟩ underlying3 (fun hG => Z.wi64 J2)) ?_; refine Z.t 11 rfl rfl rfl (by rfl) J3 (Jk hs) (Z.Yd.mul rfl rfl (fun hG => Z.wi64 J2)) ?_; refine Z.t 12 rfl rfl rfl (by rfl) J3 (Jk hs) (Z.Yd.add rfl rfl (fun hG => Z.wi64 J2)) ?_; refine Z.t 13 rfl rfl rfl (by rfl) J3 (Jk hs) (Z.Yd.fieldA (m := 1) rfl J3) ?_; refine Z.t 14 rfl rfl rfl (by rfl) J3 (Jk hs) J26 ?_; refine Z.t 15 rfl rfl rfl (by rfl) J3 (Jk hs) (Z.Yd.elem rfl rfl underlying48 sizeOf5 (fun hG => ⟨J2, J2⟩)) ?_; refine Z.t 16 rfl rfl rfl (by rfl) J3 (Jk hs) J49 ?_; refine Z.t 17 rfl rfl rfl (by rfl) J3 (Jk hs) (Z.Yd.convI rfl ⟨_, underlying5⟩ underlying3 (fun hG => Z.wi64 J2)) ?_; refine Z.t 18 rfl rfl rfl (by rfl) J3 (Jk hs) (Z.Yd.add rfl rfl (fun hG => Z.wi64 J2)) ?_; refine Z.tb [19] J3 rfl (Jk hs) rfl ?_; refine V40 ?_; refine Z.only [2, 4, 6] rfl ?_; rw [e0]; refine V858 ?_; refine V3 ?_; refine V393 ?_; clear hs; intro ws hs; replace hs := U1 hs; refine V857 ?_; refine Z.only [2, 4, 6] rfl ?_; refine V303 ?_; refine V117 ?_; refine V859 ?_; refine V117 ?_; refine V137 ?_; refine V859 ?_; refine V117 ?_; refine V137 ?_; refine V859 ?_; refine V137 ?_; refine V464 ?_; refine V19 ?_; refine V2 ?_; refine V284 ?_; clear hs; intro ws hs; replace hs := U1 hs; replace hs := U2 hs; refine V857 ?_; refine Z.only [2, 4] rfl ?_; refine V858 ?_; refine V202 ?_
  refine V860 ?_; clear hs; intro ws hs; replace hs := U1 hs; replace hs := U2 hs; refine V484 ?_; refine Z.out2 J81 ?_; exact ⟨_, rfl, rfl, Jn hs⟩
theorem rdecrep24 (lc : Int) (A : Option Addr) (m c : Nat) (l : List Int) (w : World) (hx : Sl w A (ints .u8 l)) (hl : l.length = m) (hb : Byts l) :
    Calls Tryz.prog 61 #[.agg #[.int .i64 lc, .slice A m c]] w (Ret fun v w' => v = .tuple #[.agg (repV lc l).cells.toArray, .int .i64 (repE lc l)] ∧ St w [] w' []) := by
  have hs := St.start w
  by_cases h0 : repE lc l = 0
  · by_cases h30 : lc = 30
    · have eV : repV lc l = RepV.lng (num l) := by unfold repV; rw [if_neg J5, if_pos h30]
      rw [h0, eV]; unfold repE at h0; rw [if_pos h30] at h0; subst h30; exact rdecrep24_long A m c l w hx hl hb (by rw [← opE_sz 30]; exact h0)
    have eV : repV lc l = RepV.short (num l / 64) (num l % 64) := by unfold repV; rw [if_neg J5, if_neg h30]
    rw [h0, eV]; unfold repE at h0; rw [if_neg h30] at h0; obtain ⟨rfl, -⟩ := opE_len h0; exact rdecrep24_short A m c l w hx hl hb (by rw [← opE_sz 29]; exact h0)
  have eV : repV lc l = RepV.zero := by unfold repV; rw [if_pos h0]
  rw [eV]
  by_cases hlc : lc = 29 ∨ lc = 30
  · have eE : repE lc l = szE l (1 + 2 * (lc - 29)) := by
      unfold repE
      rcases hlc with rfl | rfl
      · rw [if_neg J5, opE_sz]; rfl
      rw [if_pos rfl, opE_sz]; rfl
    rw [eE] at h0 ⊢; have hlc2 : 29 ≤ lc ∧ lc ≤ 30 := by omega
    refine V455 ?_; clear hs; intro g1 w1 hs; refine V481 ?_; clear hs; intro g2 w2 hs; refine V453 ?_; refine V481 ?_; clear hs; intro g4 w4 hs; refine V857 ?_; refine V246 ?_; refine V6 ?_; refine Z.cond rfl (fun h => absurd h J45) (fun hc2 => ?_); refine V97 ?_; refine V2 ?_; refine Z.ZO.call rfl rfl (by rfl) rfl rfl call117 rfl (rsize24 lc _ _ m c l _ hl) ?_; rintro v4_6 w4_6 ⟨rfl, hy⟩; replace hs := U0 (hs.call hy); clear hy; refine V1 ?_; refine V457 ?_; refine V6 ?_; refine Z.cond rfl (fun hc5 => ?_) (fun h => absurd h (by simpa using h0)); refine V0 ?_; refine V202 ?_; refine V456 ?_; clear hs; intro ws hs; replace hs := U1 hs; replace hs := U2 hs; refine V484 ?_
    repeat (first | refine Z.rthen ?_ | refine Z.rblock ?_ | refine Z.rscope ?_)
    refine Z.out2 J81 ?_; exact ⟨_, rfl, rfl, Jn hs⟩
  have eE : repE lc l = 2 := by
    unfold repE; rw [if_neg J5, opE, if_pos J5]
  rw [eE]; refine V455 ?_; clear hs; intro g1 w1 hs; refine V481 ?_; clear hs; intro g2 w2 hs; refine V453 ?_; refine V481 ?_; clear hs; intro g4 w4 hs; refine V857 ?_; refine V246 ?_; refine V6 ?_; refine Z.cond rfl (fun hc2 => ?_) (fun h => absurd h J45); refine V0 ?_; refine V202 ?_; refine V860 ?_; clear hs; intro ws hs; replace hs := U1 hs; replace hs := U2 hs; refine V484 ?_
  repeat (first | refine Z.rthen ?_ | refine Z.rblock ?_ | refine Z.rscope ?_)
  refine Z.out2 J81 ?_; exact ⟨_, rfl, rfl, Jn hs⟩

structure MaV where
  b : BkV
  up : Bool
  r : RpV
  last : Int
structure MaV.ok (m : MaV) : Prop where
  b : m.b.ok
  r : m.r.ok
  bn : m.b.now ≤ m.last
  rn : m.r.now ≤ m.last
  ln : 0 ≤ m.last ∧ m.last < 1073741824
def grpS (l : List (LgV × Int)) (k : Int) : Int := (l.map fun p => if p.1.gr = k then p.2 else 0).sum
def askd (d : Int) : Int := if 0 < d then d + 3 else 0
def bytesP (r : List Prt) : Int := (r.map fun p => 1 + (p.2.length : Int)).sum
def okRd (m : MaV) (now n : Int) : Prop := (1 ≤ n ∧ n ≤ 16384) ∧ m.last ≤ now ∧ now < 1073741824
instance (m : MaV) (now n : Int) : Decidable (okRd m now n) := by unfold okRd; infer_instance
def okAs (dem : List Int) : Prop := ∀ d ∈ dem, 0 ≤ d ∧ d ≤ 8388608
instance (dem : List Int) : Decidable (okAs dem) := by unfold okAs; infer_instance
def okPl (m : MaV) (now n head : Int) (dem : List Int) : Prop := okRd m now n ∧ (0 ≤ head ∧ head ≤ 63) ∧ dem.length = m.b.l.length ∧ okAs dem
instance (m : MaV) (now n head : Int) (dem : List Int) : Decidable (okPl m now n head dem) := by unfold okPl; infer_instance
def plR (m : MaV) (now head : Int) (dem : List Int) : RpV := if m.up then (updV m.r now (grpS (m.b.l.zip dem) 0) (grpS (m.b.l.zip dem) 1) (grpS (m.b.l.zip dem) 2) (grpS (m.b.l.zip dem) 3) head).1 else m.r
def plN (m : MaV) (now n head : Int) (dem : List Int) : Int := if m.up then n - bytesP (elsV (plR m now head dem) now n).2.1 else n
def plD (m : MaV) (now n head : Int) (dem : List Int) : BkV × List Int × Int := divV (tickV m.b now).1 (plN m now n head dem) (dem.map askd)
def planV (m : MaV) (now n head : Int) (dem : List Int) : MaV × List Int × Int :=
  if okPl m now n head dem then (⟨(plD m now n head dem).1, m.up, plR m now head dem, now⟩, (plD m now n head dem).2.1.map (fun x => max 0 (x - 3)), 0) else (m, [], 2)
def knowB (m : MaV) (id : Int) : Bool := (lvV m.b id).2
def okBu (m : MaV) (now n : Int) (sd : List Prt) : Prop := okRd m now n ∧ (∀ p ∈ sd, knowB m p.1 = true) ∧ vldP false sd = true
instance (m : MaV) (now n : Int) (sd : List Prt) : Decidable (okBu m now n sd) := by unfold okBu; infer_instance
def buN (sd : List Prt) : Int := if sd = [] then 0 else needP sd
def buE (m : MaV) (now n : Int) (sd : List Prt) : RpV × List Prt × Int := if m.up then elsV m.r now (n - buN sd) else (m.r, [], 0)
def buildV (m : MaV) (now n : Int) (sd : List Prt) : MaV × List Int × Int :=
  if ¬ okBu m now n sd then (m, [], 2)
  else if n < buN sd then (m, [], 4)
  else if (buE m now n sd).2.1 ++ sd = [] then (m, [], 10)
  else ({ m with r := (buE m now n sd).1, last := now }, (bldV n ((buE m now n sd).2.1 ++ sd)).1, 0)
structure CtV where
  sd : List Prt
  rp : List RepV
  pw : List Int
  id : List Int
def CtV.nil : CtV := ⟨[], [], [], []⟩
def recS (m : MaV) (x : CtV) (p : Prt) : Int × CtV :=
  if p.1 = 26 then (powE 26 p.2, { x with pw := x.pw ++ [powV 26 p.2] })
  else if p.1 = 27 ∨ p.1 = 28 then (idE p.1 p.2, { x with id := x.id ++ [idV p.1 p.2] })
  else if p.1 = 29 ∨ p.1 = 30 then (repE p.1 p.2, { x with rp := x.rp ++ [repV p.1 p.2] })
  else if knowB m p.1 then (0, { x with sd := x.sd ++ [p] }) else (0, x)
def recGo (m : MaV) : List Prt → CtV → Int × CtV
  | [], x => (0, x)
  | p :: r, x => if (recS m x p).1 ≠ 0 then ((recS m x p).1, CtV.nil) else recGo m r (recS m x p).2
def recV (m : MaV) (l : List Int) : Int × CtV := if (parV l).1 ≠ 0 then ((parV l).1, CtV.nil) else recGo m (parV l).2 CtV.nil
def parG (p : Prt) : Prop := (sduB p.1 ∨ ctlN p.1 ≠ 0) ∧ (ctlN p.1 ≠ 0 → (p.2.length : Int) = ctlN p.1)
theorem ptGo_good {l : List Int} : ∀ (hs : List (Int × Int)) (p : Nat) (acc : List Prt), (∀ h ∈ hs, hdT h) → (∀ x ∈ acc, parG x) → ∀ x ∈ (ptGo l hs p acc).2, parG x
  | [], p, acc, _, h => by
    unfold ptGo
    split
    · intro x hx; cases hx
    exact h
  | z :: hs, p, acc, hz, h => by
    rw [ptGo]
    split
    · exact ptGo_good hs p acc (fun h' hh => hz h' (List.mem_cons_of_mem _ hh)) h
    rename_i h31
    split
    · intro x hx; cases hx
    rename_i hle
    split
    · intro x hx; cases hx
    refine ptGo_good hs _ _ (fun h' hh => hz h' (List.mem_cons_of_mem _ hh)) ?_; intro x hx
    rcases List.mem_append.1 hx with h1 | h1
    · exact h x h1
    obtain rfl : x = _ := by simpa using h1
    refine ⟨?_, fun hc => ?_⟩
    · rcases hz z J16 with h2 | h2 | h2
      · exact .inl h2
      · exact .inr h2
      exact absurd h2 h31
    have hb := ctlN_bd z.1; have e : (ptN l p z.1 z.2 hs.isEmpty).toNat = (ctlN z.1).toNat := by unfold ptN; rw [if_pos hc]
    simp only [e, List.length_take, List.length_drop]; rw [e] at hle
    omega
theorem par_good {l : List Int} (hb : ∀ x ∈ l, 0 ≤ x ∧ x < 256) : ∀ x ∈ (parV l).2, parG x := by
  unfold parV
  split
  · intro x hx; cases hx
  split
  · intro x hx; cases hx
  rename_i h1 h2
  have h2' : (hdV l).1 = 0 := by simpa using h2
  obtain ⟨a, z, e, ha, hz⟩ := hGo_good hb (l.length + 1) 0 [] false false J16 h2'; refine ptGo_good _ _ _ ?_ J16; intro h hh; have hh' : h ∈ a ++ [z] := by rw [← e]; exact hh
  rcases List.mem_append.1 hh' with h3 | h3
  · exact (ha h h3).1
  obtain rfl : h = z := by simpa using h3
  exact hz

theorem mx_must_ok (b : Bool) (e : Int) (w : World) (hb : b = true) : Calls Tryz.prog 41 #[.bool b, .int .i64 e] w (Ret fun v w' => v = .tuple #[] ∧ St w [] w' []) := by
  have hs := St.start w; subst hb; refine Z.enter func41 rfl ntmps41 rfl rfl ?_; refine V413 ?_; refine V6 ?_; refine Z.cond rfl (fun h => absurd h J16) (fun hc0 => ?_); refine V323 ?_; exact ⟨_, rfl, rfl, hs⟩
theorem mx_must_bad (b : Bool) (e : Int) (w : World) (hb : b = false) : Calls Tryz.prog 41 #[.bool b, .int .i64 e] w (MPan e fun w' => St w [] w' []) := by
  have hs := St.start w; subst hb; refine Z.enter func41 rfl ntmps41 rfl rfl ?_; refine V413 ?_; refine V6 ?_; refine Z.cond rfl (fun hc0 => ?_) (fun h => absurd h J16); refine V421 ?_; exact ⟨_, rfl, rfl, hs⟩
theorem mx_must (b : Bool) (e : Int) (w : World) : Calls Tryz.prog 41 #[.bool b, .int .i64 e] w (Z.Bo (fun v w' => b = true ∧ v = .tuple #[] ∧ St w [] w' []) fun c w' => b = false ∧ c = mperr e ∧ St w [] w' []) := by
  cases b with
  | true => exact Z.Bo.ret ((mx_must_ok true e w rfl).mono fun e w' ⟨v, h1, h2⟩ => ⟨v, h1, rfl, h2⟩)
  | false => exact Z.Bo.pan ((mx_must_bad false e w rfl).mono fun e w' ⟨v, h1, h2⟩ => ⟨v, h1, rfl, h2⟩)
theorem mx_gotBk (x : Value) (e : Int) (w : World) : Calls Tryz.prog 28 #[x, .int .i64 e] w (Z.Bo (fun v w' => e = 0 ∧ v = x ∧ St w [] w' []) fun c w' => e ≠ 0 ∧ c = mperr e ∧ St w [] w' []) := by
  have hs := St.start w; refine Z.enter func28 rfl ntmps28 rfl rfl ?_; refine V211 ?_; refine Z.ZO.callB rfl rfl (by rfl) rfl rfl call41 rfl (mx_must _ e _) ?_ ?_
  · skip
    rintro v1_3 w1_3 ⟨hm, rfl, hy⟩; replace hs := U0 (hs.call hy); clear hy; refine V857 ?_; refine V273 ?_; exact .inl ⟨_, rfl, by simpa using hm, rfl, Jn hs⟩
  skip
  rintro c1_3 w1_3 ⟨hm, rfl, hy⟩; replace hs := U0 (hs.call hy); clear hy
  repeat (first | refine Z.pthen ?_ | refine Z.pblock ?_ | refine Z.pscope ?_)
  refine V309 ?_; exact .inr ⟨_, rfl, by simpa using hm, rfl, Jn hs⟩
theorem mx_gotRp (x : Value) (e : Int) (w : World) : Calls Tryz.prog 30 #[x, .int .i64 e] w (Z.Bo (fun v w' => e = 0 ∧ v = x ∧ St w [] w' []) fun c w' => e ≠ 0 ∧ c = mperr e ∧ St w [] w' []) := by
  have hs := St.start w; refine Z.enter func30 rfl ntmps30 rfl rfl ?_; refine V211 ?_; refine Z.ZO.callB rfl rfl (by rfl) rfl rfl call41 rfl (mx_must _ e _) ?_ ?_
  · skip
    rintro v1_3 w1_3 ⟨hm, rfl, hy⟩; replace hs := U0 (hs.call hy); clear hy; refine V857 ?_; refine V273 ?_; exact .inl ⟨_, rfl, by simpa using hm, rfl, Jn hs⟩
  skip
  rintro c1_3 w1_3 ⟨hm, rfl, hy⟩; replace hs := U0 (hs.call hy); clear hy
  repeat (first | refine Z.pthen ?_ | refine Z.pblock ?_ | refine Z.pscope ?_)
  refine V309 ?_; exact .inr ⟨_, rfl, by simpa using hm, rfl, Jn hs⟩
theorem mx_gotPt (x : Value) (e : Int) (w : World) : Calls Tryz.prog 45 #[x, .int .i64 e] w (Z.Bo (fun v w' => e = 0 ∧ v = x ∧ St w [] w' []) fun c w' => e ≠ 0 ∧ c = mperr e ∧ St w [] w' []) := by
  have hs := St.start w; refine Z.enter func45 rfl ntmps45 rfl rfl ?_; refine V211 ?_; refine Z.ZO.callB rfl rfl (by rfl) rfl rfl call41 rfl (mx_must _ e _) ?_ ?_
  · skip
    rintro v1_3 w1_3 ⟨hm, rfl, hy⟩; replace hs := U0 (hs.call hy); clear hy; refine V857 ?_; refine V273 ?_; exact .inl ⟨_, rfl, by simpa using hm, rfl, Jn hs⟩
  skip
  rintro c1_3 w1_3 ⟨hm, rfl, hy⟩; replace hs := U0 (hs.call hy); clear hy
  repeat (first | refine Z.pthen ?_ | refine Z.pblock ?_ | refine Z.pscope ?_)
  refine V309 ?_; exact .inr ⟨_, rfl, by simpa using hm, rfl, Jn hs⟩
theorem mx_gotIs (x : Value) (e : Int) (w : World) : Calls Tryz.prog 48 #[x, .int .i64 e] w (Z.Bo (fun v w' => e = 0 ∧ v = x ∧ St w [] w' []) fun c w' => e ≠ 0 ∧ c = mperr e ∧ St w [] w' []) := by
  have hs := St.start w; refine Z.enter func48 rfl ntmps48 rfl rfl ?_; refine V211 ?_; refine Z.ZO.callB rfl rfl (by rfl) rfl rfl call41 rfl (mx_must _ e _) ?_ ?_
  · skip
    rintro v1_3 w1_3 ⟨hm, rfl, hy⟩; replace hs := U0 (hs.call hy); clear hy; refine V857 ?_; refine V273 ?_; exact .inl ⟨_, rfl, by simpa using hm, rfl, Jn hs⟩
  skip
  rintro c1_3 w1_3 ⟨hm, rfl, hy⟩; replace hs := U0 (hs.call hy); clear hy
  repeat (first | refine Z.pthen ?_ | refine Z.pblock ?_ | refine Z.pscope ?_)
  refine V309 ?_; exact .inr ⟨_, rfl, by simpa using hm, rfl, Jn hs⟩
theorem mx_gotI (x : Value) (e : Int) (w : World) : Calls Tryz.prog 65 #[x, .int .i64 e] w (Z.Bo (fun v w' => e = 0 ∧ v = x ∧ St w [] w' []) fun c w' => e ≠ 0 ∧ c = mperr e ∧ St w [] w' []) := by
  have hs := St.start w; refine Z.enter func65 rfl ntmps65 rfl rfl ?_; refine V211 ?_; refine Z.ZO.callB rfl rfl (by rfl) rfl rfl call41 rfl (mx_must _ e _) ?_ ?_
  · skip
    rintro v1_3 w1_3 ⟨hm, rfl, hy⟩; replace hs := U0 (hs.call hy); clear hy; refine V857 ?_; refine V273 ?_; exact .inl ⟨_, rfl, by simpa using hm, rfl, Jn hs⟩
  skip
  rintro c1_3 w1_3 ⟨hm, rfl, hy⟩; replace hs := U0 (hs.call hy); clear hy
  repeat (first | refine Z.pthen ?_ | refine Z.pblock ?_ | refine Z.pscope ?_)
  refine V309 ?_; exact .inr ⟨_, rfl, by simpa using hm, rfl, Jn hs⟩
theorem mx_gotBy (x : Value) (e : Int) (w : World) : Calls Tryz.prog 67 #[x, .int .i64 e] w (Z.Bo (fun v w' => e = 0 ∧ v = x ∧ St w [] w' []) fun c w' => e ≠ 0 ∧ c = mperr e ∧ St w [] w' []) := by
  have hs := St.start w; refine Z.enter func67 rfl ntmps67 rfl rfl ?_; refine V211 ?_; refine Z.ZO.callB rfl rfl (by rfl) rfl rfl call41 rfl (mx_must _ e _) ?_ ?_
  · skip
    rintro v1_3 w1_3 ⟨hm, rfl, hy⟩; replace hs := U0 (hs.call hy); clear hy; refine V857 ?_; refine V273 ?_; exact .inl ⟨_, rfl, by simpa using hm, rfl, Jn hs⟩
  skip
  rintro c1_3 w1_3 ⟨hm, rfl, hy⟩; replace hs := U0 (hs.call hy); clear hy
  repeat (first | refine Z.pthen ?_ | refine Z.pblock ?_ | refine Z.pscope ?_)
  refine V309 ?_; exact .inr ⟨_, rfl, by simpa using hm, rfl, Jn hs⟩
theorem mx_gotU (x : Value) (e : Int) (w : World) : Calls Tryz.prog 103 #[x, .int .i64 e] w (Z.Bo (fun v w' => e = 0 ∧ v = x ∧ St w [] w' []) fun c w' => e ≠ 0 ∧ c = mperr e ∧ St w [] w' []) := by
  have hs := St.start w; refine Z.enter func103 rfl ntmps103 rfl rfl ?_; refine V211 ?_; refine Z.ZO.callB rfl rfl (by rfl) rfl rfl call41 rfl (mx_must _ e _) ?_ ?_
  · skip
    rintro v1_3 w1_3 ⟨hm, rfl, hy⟩; replace hs := U0 (hs.call hy); clear hy; refine V857 ?_; refine V273 ?_; exact .inl ⟨_, rfl, by simpa using hm, rfl, Jn hs⟩
  skip
  rintro c1_3 w1_3 ⟨hm, rfl, hy⟩; replace hs := U0 (hs.call hy); clear hy
  repeat (first | refine Z.pthen ?_ | refine Z.pblock ?_ | refine Z.pscope ?_)
  refine V309 ?_; exact .inr ⟨_, rfl, by simpa using hm, rfl, Jn hs⟩
theorem mx_gotBr (r : RepV) (e : Int) (w : World) : Calls Tryz.prog 105 #[(.agg r.cells.toArray), .int .i64 e] w (Z.Bo (fun v w' => e = 0 ∧ v = (.agg r.cells.toArray) ∧ St w [] w' []) fun c w' => e ≠ 0 ∧ c = mperr e ∧ St w [] w' []) := by
  have hs := St.start w; have hone : ∀ u ∈ r.cells, u.oneCell' = true := by simp [RepV.cells, Value.oneCell']
  refine Z.enter func105 rfl ntmps105 rfl rfl ?_; refine V91 ?_; clear hs; intro g2 w2 hs; refine V481 ?_; clear hs; intro g4 w4 hs; refine V857 ?_; refine Z.only [1, 2, 4] rfl ?_; refine V333 ?_; refine V2 ?_; refine Z.ZO.callB rfl rfl (by rfl) rfl rfl call41 rfl (mx_must _ e _) ?_ ?_
  · skip
    rintro v1_3 w1_3 ⟨hm, rfl, hy⟩; replace hs := U0 (hs.call hy); clear hy; refine V857 ?_; refine Z.only [2, 4] rfl ?_; refine V858 ?_; refine Z.l rfl rfl (by rfl) (Z.keepS hs) (Z.Yd.loadA _ rfl isAgg86 (fun _ => Z.cellsB (cs := r.cells) J0) J126) ?_; refine V860 ?_; clear hs; intro ws hs; replace hs := U1 hs; replace hs := U2 hs; refine V857 ?_; refine V426 ?_; refine Z.out1 J73 ?_; exact .inl ⟨_, rfl, by simpa using hm, rfl, Jn hs⟩
  skip
  rintro c1_3 w1_3 ⟨hm, rfl, hy⟩; replace hs := U0 (hs.call hy); clear hy
  repeat (first | refine Z.pthen ?_ | refine Z.pblock ?_ | refine Z.pscope ?_)
  refine V309 ?_; exact .inr ⟨_, rfl, by simpa using hm, rfl, Jn hs⟩
theorem mx_caught_pan (ge Te k : Nat) (cap : Array Value) (x : Value) (e : Int) (L L' : List Ent) (w : World) (hs : St w (idsOf (Ent.blk ge Te #[x] :: L)) w (Ent.blk ge Te #[x] :: L)) (hk : ∀ args w, (callFunc k args).run Tryz.prog w = .ok (.enter k args) w)
    (hcl : ∀ W, St W (idsOf L) W L → Calls Tryz.prog k cap W (Ret fun v w' => v = .tuple #[] ∧ St W (idsOf L) w' L')) :
    CallsDm Tryz.prog 26 #[.pointer (some ⟨ge, 0, none⟩), .func (.func k) #[] cap] (.panicking (mperr e)) (.panicking [{ v := .iface 31 (.int .i64 e), recovered := true }]) w
      (fun v w' => v = .tuple #[] ∧ St w (idsOf (Ent.blk ge Te #[x] :: L)) w' (Ent.blk ge Te #[.int .i64 e] :: L')) := by
  generalize hM : idsOf (Ent.blk ge Te #[x] :: L) = M at *; refine Z.enterRec (Z.rec_pan _) func26 rfl ntmps26 rfl rfl rfl rfl rfl rfl rfl rfl rfl rfl ?_; refine V363 ?_; refine V179 ?_; refine V857 ?_; refine V482 ?_; refine Z.cond rfl (fun hc1 => ?_) (fun h => absurd h J16); refine V363 ?_; refine V178 ?_; refine V6 ?_; refine Z.cond rfl (fun h => absurd h J16) (fun hc3 => ?_); refine V224 ?_; rintro v5 w5 ⟨rfl, hz⟩; replace hs := St.rot (L2 := [Ent.blk ge Te #[x]]) ((St.regain (L1 := L) (L2 := [Ent.blk ge Te #[x]]) (hs.rot (L1 := [_]))) hz); refine V857 ?_; refine V517 ?_; clear hs; intro ws hs; replace hs := U1 hs; refine V857 ?_; refine V77 ?_; exact ⟨_, rfl, rfl, hs⟩
theorem mx_caught_ret (ge k : Nat) (cap : Array Value) (w : World) :
    CallsDm Tryz.prog 26 #[.pointer (some ⟨ge, 0, none⟩), .func (.func k) #[] cap] .returning .returning w (fun v w' => v = .tuple #[] ∧ St w [] w' []) := by
  have hs := St.start w; refine Z.enterRec (Z.rec_ret) func26 rfl ntmps26 rfl rfl rfl rfl rfl rfl rfl rfl rfl rfl ?_; refine V363 ?_; refine V179 ?_; refine V857 ?_; refine V482 ?_; refine Z.cond rfl (fun h => absurd h J16) (fun hc1 => ?_); refine V323 ?_; exact ⟨_, rfl, rfl, hs⟩
theorem mx_clearNew (gp T : Nat) (a : Value) (W : World) (hs : St W (idsOf [Ent.blk gp T #[a]]) W [Ent.blk gp T #[a]]) :
    Calls Tryz.prog 27 #[.pointer (some ⟨gp, 0, none⟩)] W (Ret fun v w' => v = .tuple #[] ∧ St W (idsOf [Ent.blk gp T #[a]]) w' [Ent.blk gp T #[.pointer none]]) := by
  generalize idsOf [Ent.blk gp T #[a]] = M at *; refine Z.enter func27 rfl ntmps27 rfl rfl ?_; refine V42 ?_; refine V2 ?_; refine V435 ?_; clear hs; intro ws hs; replace hs := U1 hs; refine V857 ?_; refine V77 ?_; exact ⟨_, rfl, rfl, hs⟩
theorem mx_clearPlan (gp T : Nat) (a : Value) (W : World) (hs : St W (idsOf [Ent.blk gp T #[a]]) W [Ent.blk gp T #[a]]) :
    Calls Tryz.prog 39 #[.pointer (some ⟨gp, 0, none⟩)] W (Ret fun v w' => v = .tuple #[] ∧ St W (idsOf [Ent.blk gp T #[a]]) w' [Ent.blk gp T #[.slice none 0 0]]) := by
  generalize idsOf [Ent.blk gp T #[a]] = M at *; refine Z.enter func39 rfl ntmps39 rfl rfl ?_; refine V42 ?_; refine V681 ?_; clear hs; intro ws hs; replace hs := U1 hs; refine V857 ?_; refine V77 ?_; exact ⟨_, rfl, rfl, hs⟩
theorem mx_clearBuild (gp T : Nat) (a : Value) (W : World) (hs : St W (idsOf [Ent.blk gp T #[a]]) W [Ent.blk gp T #[a]]) :
    Calls Tryz.prog 63 #[.pointer (some ⟨gp, 0, none⟩)] W (Ret fun v w' => v = .tuple #[] ∧ St W (idsOf [Ent.blk gp T #[a]]) w' [Ent.blk gp T #[.slice none 0 0]]) := by
  generalize idsOf [Ent.blk gp T #[a]] = M at *; refine Z.enter func63 rfl ntmps63 rfl rfl ?_; refine V42 ?_; refine V595 ?_; clear hs; intro ws hs; replace hs := U1 hs; refine V857 ?_; refine V77 ?_; exact ⟨_, rfl, rfl, hs⟩
theorem mx_clearRec (gp T : Nat) (a b c d : Value) (W : World) (hs : St W (idsOf [Ent.blk gp T #[a, b, c, d]]) W [Ent.blk gp T #[a, b, c, d]]) :
    Calls Tryz.prog 50 #[.pointer (some ⟨gp, 0, none⟩)] W (Ret fun v w' => v = .tuple #[] ∧ St W (idsOf [Ent.blk gp T #[a, b, c, d]]) w' [Ent.blk gp T #[.slice none 0 0, .slice none 0 0, .slice none 0 0, .slice none 0 0]]) := by
  generalize idsOf [Ent.blk gp T #[a, b, c, d]] = M at *; refine Z.enter func50 rfl ntmps50 rfl rfl ?_; refine V42 ?_; refine V135 ?_; refine V860 ?_; clear hs; intro ws hs; replace hs := U1 hs; replace hs := U2 hs; refine V857 ?_; refine V77 ?_; exact ⟨_, rfl, rfl, hs⟩
theorem mx_none (g gb : Nat) (ch rv lv : Value) (w : World) (hc : Cel w g [.pointer (some ⟨gb, 0, none⟩), ch, rv, lv]) : Calls Tryz.prog 37 #[.pointer (some ⟨g, 0, none⟩)] w (Ret fun v w' => v = .bool false ∧ St w [] w' []) := by
  have hs := St.start w; refine Z.enter func37 rfl ntmps37 rfl rfl ?_; refine V242 ?_; refine V859 ?_; refine Z.l rfl rfl (by rfl) (Z.keepS hs) (Z.Yd.ptrNil rfl rfl underlying30) ?_; refine V277 ?_; refine V3 ?_; refine Z.l rfl rfl (by rfl) (Z.keepS hs) (Z.Yd.load rfl isAgg52 (fun _ => Z.cellO hc.1 J16 (hc.2 0 _ rfl))) ?_; refine Z.l rfl rfl (by rfl) (Z.keepS hs) (Z.Yd.ptrNil rfl rfl underlying52) ?_; refine V215 ?_; exact ⟨_, rfl, rfl, hs⟩
theorem mx_ready (g gb : Nat) (ch rv : Value) (m : MaV) (now n : Int) (w : World) (hc : Cel w g [.pointer (some ⟨gb, 0, none⟩), ch, rv, .int .i64 m.last]) :
    Calls Tryz.prog 40 #[.pointer (some ⟨g, 0, none⟩), .int .i64 now, .int .i64 n] w (Z.Bo (fun v w' => okRd m now n ∧ v = .tuple #[] ∧ St w [] w' []) fun c w' => ¬ okRd m now n ∧ c = mperr 2 ∧ St w [] w' []) := by
  have hs := St.start w; refine Z.enter func40 rfl ntmps40 rfl rfl ?_; refine V0 ?_; refine V197 ?_; rintro v0_1 w0_1 ⟨rfl, hy⟩; replace hs := U0 (hs.call hy); clear hy; refine V62 ?_; refine Z.ZO.call rfl rfl (by rfl) rfl rfl call41 rfl (mx_must_ok _ 1 _ J16) ?_; rintro v0_3 w0_3 ⟨rfl, hy⟩; replace hs := U0 (hs.call hy); clear hy; refine V857 ?_; refine Z.only [0, 1, 2] rfl ?_; refine V300 ?_; refine Z.lb 9 rfl ?_; refine V12 ?_; refine V38 ?_; refine Z.l rfl rfl (by rfl) (Z.keepS hs) (Z.Yd.load rfl isAgg3 (fun _ => Z.cellO hc.1 J16 (hc.2 3 _ rfl))) ?_; refine V689 ?_; refine Z.ZO.callB rfl rfl (by rfl) rfl rfl call41 rfl (mx_must _ 2 _) ?_ ?_
  · skip
    rintro v1_18 w1_18 ⟨hm, rfl, hy⟩; replace hs := U0 (hs.call hy); clear hy; refine V857 ?_; refine V77 ?_; exact .inl ⟨_, rfl, by unfold okRd; simp at hm; omega, rfl, hs⟩
  skip
  rintro c1_18 w1_18 ⟨hm, rfl, hy⟩; replace hs := U0 (hs.call hy); clear hy; refine V309 ?_; exact .inr ⟨_, rfl, by unfold okRd; simp at hm; omega, rfl, hs⟩
theorem bytesP_snoc (r : List Prt) (p : Prt) : bytesP (r ++ [p]) = bytesP r + (1 + (p.2.length : Int)) := by simp [bytesP]
theorem mx_bytes (A : Option Addr) (n c : Nat) (ps : List MpV) (w : World) (hx : Sl w A (ps.flatMap MpV.cells)) (hl : ps.length = n) (hn : n ≤ 100) (hf : ∀ q ∈ ps, q.l.length ≤ 100000) (hb : ∀ i, 0 ≤ bytesP ((ps.map MpV.plain).take i) ∧ bytesP ((ps.map MpV.plain).take i) ≤ 100000000) :
    Calls Tryz.prog 44 #[.slice A n c] w (Ret fun v w' => v = .int .i64 (bytesP (ps.map MpV.plain)) ∧ St w [] w' []) := by
  have hs := St.start w; refine Z.enter func44 rfl ntmps44 rfl rfl ?_; refine V121 ?_; refine Z.only [0, 2] rfl ?_; refine V539 ?_; refine V443 ?_; refine V861 ?_; refine Z.loopk (ι := Nat) [5, 6] rfl (fun i => [(2, [], .int .i64 (bytesP ((ps.map MpV.plain).take i))), (7, [], .int .i64 (i : Int))]) (fun i wr => i ≤ n ∧ St w [] wr []) (fun i => n - i) 0 J11 ⟨Nat.zero_le _, hs⟩ ?_; clear hs; rintro i w3 ⟨hi, hs⟩; refine V443 ?_; refine V121 ?_; refine Z.only [2, 5, 6, 7, 8] rfl ?_; refine V210 ?_; refine Z.cond rfl (fun hc2 => ?_) (fun hc2 => ?_)
  · (try simp at hc2)
    obtain ⟨b, off, rfl, hb0, hx2⟩ := Z.Sl.some hx J69; obtain ⟨q, hqi⟩ : ∃ q, ps[i]? = some q := ⟨_, List.getElem?_eq_getElem J5⟩; have htk := plain_take hqi; have hone := mp_one q; have hq1 := hf q (List.mem_of_getElem? hqi); have e2 : q.plain.2 = q.l := rfl; have hbi := hb i; refine V583 ?_; clear hs; intro g4 w4 hs; refine V860 ?_; clear hs; intro ws hs; replace hs := U1 hs; replace hs := U2 hs; refine V857 ?_; refine Z.only [2, 4, 5, 6, 7] rfl ?_; refine V300 ?_; refine V859 ?_; refine V500 ?_; refine V29 ?_; refine V5 ?_; refine V33 ?_; refine V443 ?_; refine V332 ?_; refine V443 ?_; refine V6 ?_; exact Z.again (i + 1) (by refine ⟨?_, ?_, ?_, ?_, trivial⟩ <;> first | rfl | (rw [htk, bytesP_snoc, e2]; rfl)) ⟨by omega, Jn hs⟩ J5
  (try simp at hc2)
  refine V537 ?_; obtain rfl : i = n := by omega
  exact ⟨_, rfl, by rw [List.take_of_length_le J45], hs⟩

theorem got_ok {f : Nat} {args : Array Value} {w : World} {x : Value} {e : Int} (h : Calls Tryz.prog f args w (Z.Bo (fun v w' => e = 0 ∧ v = x ∧ St w [] w' []) fun c w' => e ≠ 0 ∧ c = mperr e ∧ St w [] w' [])) (he : e = 0) : Calls Tryz.prog f args w (Ret fun v w' => v = x ∧ St w [] w' []) := h.mono (by
  rintro e' w' (⟨v, h1, h2, h3⟩ | ⟨c, h1, h2, _⟩)
  · exact ⟨v, h1, h3⟩
  exact absurd he h2)
theorem got_bad {f : Nat} {args : Array Value} {w : World} {x : Value} {e : Int} (h : Calls Tryz.prog f args w (Z.Bo (fun v w' => e = 0 ∧ v = x ∧ St w [] w' []) fun c w' => e ≠ 0 ∧ c = mperr e ∧ St w [] w' [])) (he : e ≠ 0) : Calls Tryz.prog f args w (MPan e fun w' => St w [] w' []) := h.mono (by
  rintro e' w' (⟨v, h1, h2, h3⟩ | ⟨c, h1, h2, h3⟩)
  · exact absurd h2 he
  exact ⟨c, h1, h3⟩)
theorem bk_new_ok (A : Option Addr) (n c : Nat) (ls : List LgV) (w : World) (hx : Sl w A (ls.flatMap LgV.cells)) (hl : ls.length = n) (hn : n ≤ 1000) (hc : n ≤ c) (h : okSet ls) :
    Calls Tryz.prog 29 #[.slice A n c] w (Ret fun v w' => ∃ g sv so, v = .tuple #[.pointer (some ⟨g, 0, none⟩), .int .i64 0] ∧ St w [] w' (bkE g sv so (newB ls))) := by
  have := bk_new A n c ls w hx hl hn hc
  simpa only [if_pos h] using this
theorem bk_new_bad (A : Option Addr) (n c : Nat) (ls : List LgV) (w : World) (hx : Sl w A (ls.flatMap LgV.cells)) (hl : ls.length = n) (hn : n ≤ 1000) (hc : n ≤ c) (h : ¬ okSet ls) :
    Calls Tryz.prog 29 #[.slice A n c] w (Ret fun v w' => v = .tuple #[.pointer none, .int .i64 2] ∧ St w [] w' []) := by
  have := bk_new A n c ls w hx hl hn hc
  simpa only [if_neg h] using this
theorem rp_new_ok (a b c d : Int) (w : World) (h : okC a b c d) : Calls Tryz.prog 31 #[.agg #[.int .i64 a, .int .i64 b, .int .i64 c, .int .i64 d]] w (Ret fun v w' => ∃ g, v = .tuple #[.pointer (some ⟨g, 0, none⟩), .int .i64 0] ∧ St w [] w' [Ent.blk g 157 (newR a b c d).cells.toArray]) := by
  have := rp_new a b c d w
  simpa only [if_pos h] using this
theorem rp_new_bad (a b c d : Int) (w : World) (h : ¬ okC a b c d) : Calls Tryz.prog 31 #[.agg #[.int .i64 a, .int .i64 b, .int .i64 c, .int .i64 d]] w (Ret fun v w' => v = .tuple #[.pointer none, .int .i64 2] ∧ St w [] w' []) := by
  have := rp_new a b c d w
  simpa only [if_neg h] using this
def rvP (m : MaV) (gr : Nat) : Value := if m.up then .pointer (some ⟨gr, 0, none⟩) else .pointer none
def rpE (m : MaV) (gr : Nat) : List Ent := if m.up then [Ent.blk gr 157 m.r.cells.toArray] else []
def maE (g gb gr : Nat) (C : Option Addr) (kc : Nat) (sv so : Value) (m : MaV) : List Ent := Ent.blk g 55 #[.pointer (some ⟨gb, 0, none⟩), .slice C m.b.l.length kc, rvP m gr, .int .i64 m.last] :: (bkE gb sv so m.b ++ rpE m gr)
def newM (ls : List LgV) (a b c d : Int) (up : Bool) : MaV := ⟨newB ls, up, newR a b c d, 0⟩
theorem newM_ok {ls : List LgV} {a b c d : Int} {up : Bool} (h : okSet ls) (h2 : okC a b c d) : (newM ls a b c d up).ok := ⟨newB_ok h, newR_ok h2, Int.le_refl _, Int.le_refl _, ⟨Int.le_refl 0, by show (0 : Int) < 1073741824; decide⟩⟩
def cfgV (A : Option Addr) (n k : Nat) (a b c d : Int) (up : Bool) : Value := .agg #[.slice A n k, .int .i64 a, .int .i64 b, .int .i64 c, .int .i64 d, .bool up]
theorem mx_new_badB (A : Option Addr) (n k : Nat) (ls : List LgV) (a b c d : Int) (up : Bool) (w : World) (hx : Sl w A (ls.flatMap LgV.cells)) (hl : ls.length = n) (hn : n ≤ 1000) (hk : n ≤ k) (h : ¬ okSet ls) :
    Calls Tryz.prog 11 #[cfgV A n k a b c d up] w (Ret fun v w' => v = .tuple #[.pointer none, .int .i64 2] ∧ St w [] w' []) := by
  have hs := St.start w; unfold cfgV; refine V576 ?_; clear hs; intro g1 w1 hs; refine V650 ?_; clear hs; intro g2 w2 hs; refine V35 ?_; clear hs; intro g3 w3 hs; refine V92 ?_; refine V858 ?_; refine V247 ?_; refine V2 ?_; refine Z.ZO.call rfl rfl (by rfl) rfl rfl call29 rfl (bk_new_bad A n k ls _ (hx.st (Jn hs)) hl hn hk h) ?_; rintro v2_2 w2_2 ⟨rfl, hy⟩; replace hs := U0 (hs.call hy); clear hy; refine V527 ?_; refine Z.ZO.callP rfl rfl rfl call28 rfl (got_bad (mx_gotBk _ 2 _) J12) ?_; rintro c2_5 w2_5 ⟨rfl, hy⟩; replace hs := U0 (hs.call hy); clear hy; replace hs := hs.sel [0, 1] J12
  repeat (first | refine Z.pthen ?_ | refine Z.pblock ?_ | refine Z.pscope ?_)
  refine V466 ?_; rintro vD wD ⟨rfl, hz⟩; replace hs := hs.regain (L2 := []) hz; refine ⟨[_, _], J76, ?_⟩; exact ⟨_, rfl, rfl, Jn hs⟩
theorem mx_new_badR (A : Option Addr) (n k : Nat) (ls : List LgV) (a b c d : Int) (up : Bool) (w : World) (hx : Sl w A (ls.flatMap LgV.cells)) (hl : ls.length = n) (hn : n ≤ 1000) (hk : n ≤ k) (h : okSet ls) (h2 : ¬ okC a b c d) :
    Calls Tryz.prog 11 #[cfgV A n k a b c d up] w (Ret fun v w' => v = .tuple #[.pointer none, .int .i64 2] ∧ St w [] w' []) := by
  have hs := St.start w; unfold cfgV; refine V576 ?_; clear hs; intro g1 w1 hs; refine V650 ?_; clear hs; intro g2 w2 hs; refine V35 ?_; clear hs; intro g3 w3 hs; refine V92 ?_; refine V858 ?_; refine V247 ?_; refine V2 ?_; refine Z.ZO.call rfl rfl (by rfl) rfl rfl call29 rfl (bk_new_ok A n k ls _ (hx.st (Jn hs)) hl hn hk h) ?_; rintro v2_2 w2_2 ⟨gb, sv, so, rfl, hy⟩; replace hs := U0 (hs.call hy); clear hy; replace hs := U10 hs; refine V527 ?_; refine Z.ZO.call rfl rfl (by rfl) rfl rfl call28 rfl (got_ok (mx_gotBk _ 0 _) rfl) ?_; rintro v2_5 w2_5 ⟨rfl, hy⟩; replace hs := U0 (hs.call hy); clear hy; replace hs := hs.sel [3, 4, 5] J12; refine V607 ?_; refine V858 ?_; refine V253 ?_; refine V2 ?_; refine Z.ZO.call rfl rfl (by rfl) rfl rfl call31 rfl (rp_new_bad a b c d _ h2) ?_; rintro v3_2 w3_2 ⟨rfl, hy⟩; replace hs := U0 (hs.call hy); clear hy; refine V527 ?_; refine Z.ZO.callP rfl rfl rfl call30 rfl (got_bad (mx_gotRp _ 2 _) J12) ?_; rintro c3_5 w3_5 ⟨rfl, hy⟩; replace hs := U0 (hs.call hy); clear hy; replace hs := hs.sel [0, 1] J12
  repeat (first | refine Z.pthen ?_ | refine Z.pblock ?_ | refine Z.pscope ?_)
  refine V466 ?_; rintro vD wD ⟨rfl, hz⟩; replace hs := hs.regain (L2 := []) hz; refine ⟨[_, _], J76, ?_⟩; exact ⟨_, rfl, rfl, Jn hs⟩
theorem mx_new_ok (A : Option Addr) (n k : Nat) (ls : List LgV) (a b c d : Int) (up : Bool) (w : World) (hx : Sl w A (ls.flatMap LgV.cells)) (hl : ls.length = n) (hn : n ≤ 1000) (hk : n ≤ k) (h : okSet ls) (h2 : okC a b c d) :
    Calls Tryz.prog 11 #[cfgV A n k a b c d up] w (Ret fun v w' => ∃ g gb gr C kc sv so, v = .tuple #[.pointer (some ⟨g, 0, none⟩), .int .i64 0] ∧ St w [] w' (maE g gb gr C kc sv so (newM ls a b c d up) ++ [Ent.row (.slice C n kc) 75 5 n (ls.flatMap LgV.cells)])) := by
  have hs := St.start w; unfold cfgV; have hpos := h.1; subst hl; refine V576 ?_; clear hs; intro g1 w1 hs; refine V650 ?_; clear hs; intro g2 w2 hs; refine V35 ?_; clear hs; intro g3 w3 hs; refine V92 ?_; refine V858 ?_; refine V247 ?_; refine V2 ?_; refine Z.ZO.call rfl rfl (by rfl) rfl rfl call29 rfl (bk_new_ok A _ k ls _ (hx.st (Jn hs)) rfl hn hk h) ?_; rintro v2_2 w2_2 ⟨gb, sv, so, rfl, hy⟩; replace hs := U0 (hs.call hy); clear hy; replace hs := U10 hs; refine V527 ?_; refine Z.ZO.call rfl rfl (by rfl) rfl rfl call28 rfl (got_ok (mx_gotBk _ 0 _) rfl) ?_; rintro v2_5 w2_5 ⟨rfl, hy⟩; replace hs := U0 (hs.call hy); clear hy; refine V607 ?_; refine V858 ?_; refine V8 ?_; refine Z.l rfl rfl (by rfl) (Z.keepS hs) (Z.Yd.loadA _ rfl isAgg24 (fun _ => Z.cellsBo (cs := [.slice A ls.length k, .int .i64 a, .int .i64 b, .int .i64 c, .int .i64 d, .bool up]) [.int .i64 a, .int .i64 b, .int .i64 c, .int .i64 d] J0 ⟨[.bool up], rfl⟩) (by exact sizeOf24)) ?_; refine V2 ?_; refine Z.ZO.call rfl rfl (by rfl) rfl rfl call31 rfl (rp_new_ok a b c d _ h2) ?_; rintro v3_2 w3_2 ⟨gr, rfl, hy⟩; replace hs := U0 (hs.call hy); clear hy; refine V527 ?_; refine Z.ZO.call rfl rfl (by rfl) rfl rfl call30 rfl (got_ok (mx_gotRp _ 0 _) rfl) ?_; rintro v3_5 w3_5 ⟨rfl, hy⟩; replace hs := U0 (hs.call hy); clear hy; refine V1 ?_; refine V447 ?_; refine V210 ?_; refine Z.drawK (fun j => j != 9) mixed hs ?_; clear hs; intro wd4 hs; refine V234 ?_
  refine Z.t 1 rfl rfl rfl (by rfl) J3 (Jk hs) (Z.Yd.fieldA (m := 0) rfl J3) ?_; refine Z.t 2 rfl rfl rfl (by rfl) J3 (Jk hs) J31 ?_; refine Z.t 3 rfl rfl rfl (by rfl) J3 (Jk hs) (Z.Yd.cut3 0 0 0 rfl rfl rfl rfl underlying22 sizeOf75 (fun hG => ⟨J2, J2, J2, J2, J2⟩)) ?_; refine V267 ?_; refine Z.t 5 rfl rfl rfl (by rfl) J3 (Jk hs) J31 ?_; refine V262 ?_; refine Z.ZO.appendF (i0 := Tryz.t75) (size := 5) (bytes := 40) (olds := []) (news := ls.flatMap LgV.cells) rfl rfl (by rfl) hs underlying22 J3 rfl rfl rfl rfl J12 rfl rfl (fun _ => ⟨rfl, rfl⟩) rfl sl_nil (by rw [Z.flat_length lg_len]) (hx.st (Jn hs)) (flat_one lg_one ls) J5 J5 J17 J5 ?_; clear hs; intro v25 w25 hs; replace hs := U9 hs; obtain ⟨C, kc, rfl, -, -, -⟩ := row_slv hs (j := 0) rfl; refine Z.tk (Dn := fun j => j != 9) (i := 6) (fun _ => (Jk hs)) ?_; refine Z.t 7 rfl rfl rfl (by rfl) J3 (Jk hs) (Z.Yd.buildL [(0, 1), (1, 1), (2, 1), (3, 1)] [.pointer none, .slice none 0 0, .pointer none, .int .i64 0] rfl rfl J18) ?_; refine V412 ?_; refine V15 ?_; clear hs; intro g27 w27 hs; refine Z.tk (Dn := fun j => j != 9) (i := 8) (fun _ => (Jk hs)) ?_; refine V586 ?_; refine V435 ?_; clear hs; intro ws hs; replace hs := U1 hs; refine Z.tk (Dn := fun j => j != 9) (i := 9) (fun h => absurd h J12) ?_; refine V40 ?_; refine Z.only [1, 2, 3, 5] rfl ?_; refine V30 ?_; refine V78 ?_; refine V107 ?_; refine V857 ?_; refine Z.only [2, 3, 5, 29] rfl ?_; refine V6 ?_; refine Z.cond rfl (fun hc5 => ?_) (fun hc5 => ?_)
  · (try simp at hc5)
    refine V42 ?_; refine Z.l rfl rfl (by rfl) (Z.keepS hs) J97 ?_; refine V245 ?_; refine V19 ?_; refine V2 ?_; refine Z.ZO.store rfl rfl hs sizeOf53 rfl rfl rfl J1 J9 ?_; clear hs; intro ws hs; replace hs := U1 hs; refine V857 ?_; refine V72 ?_; refine V858 ?_; refine Z.l rfl rfl (by rfl) (Z.keepS hs) J97 ?_; refine V2 ?_; refine V435 ?_; clear hs; intro ws hs; replace hs := U1 hs; refine V451 ?_; clear hs; intro ws hs; replace hs := U1 hs; refine V857 ?_; refine V124 ?_; refine Z.outDr call26 (mx_caught_ret g3 _ _ _) ?_; rintro vD wD ⟨rfl, hy⟩; replace hs := hs.call hy; refine ⟨[_, _], J76, ?_⟩; simp only [Nat.sub_self, Nat.zero_add, List.nil_append] at hs; subst hc5; exact ⟨_, rfl, g27, gb, gr, C, kc, sv, so, rfl, hs.sel [0, 3, 4, 5, 2, 1] J12⟩
  (try simp at hc5)
  refine V862 ?_; refine Z.l rfl rfl (by rfl) (Z.keepS hs) J97 ?_; refine V2 ?_; refine V435 ?_; clear hs; intro ws hs; replace hs := U1 hs; refine V451 ?_; clear hs; intro ws hs; replace hs := U1 hs; refine V857 ?_; refine V124 ?_; refine Z.outDr call26 (mx_caught_ret g3 _ _ _) ?_; rintro vD wD ⟨rfl, hy⟩; replace hs := hs.call hy; refine ⟨[_, _], J76, ?_⟩; simp only [Nat.sub_self, Nat.zero_add, List.nil_append] at hs; subst hc5; exact ⟨_, rfl, g27, gb, gr, C, kc, sv, so, rfl, hs.sel [0, 3, 4, 5, 1] J12⟩

theorem elP_byts (m : RpV) (hm : m.ok) (room : Int) : ∀ p ∈ elP m room, Byts p.2 := by
  intro p hp; unfold elP elP1 at hp
  rcases List.mem_append.1 hp with h | h
  · split at h
    · rename_i hb
      obtain rfl : p = _ := by simpa using h
      exact encL_bytes (statV_ok m room (hm.full hb.1))
    simp at h
  split at h
  · obtain rfl : p = _ := by simpa using h
    intro x hx; obtain rfl : x = m.head := by simpa using hx
    have := hm.head
    omega
  simp at h
theorem elsV_len (m : RpV) (t room : Int) : (elsV m t room).2.1.length ≤ 2 := by
  unfold elsV
  split
  · unfold elP elP1
    split <;> split <;> simp
  simp

theorem pt_sz (q : PtV) : q.cells.length = 2 := rfl
def bX (l : List Int) (pre : List Nat) (k : Nat) : Int := if k ∈ pre then elt l (k : Int) else 0
def bcs (l : List Int) (pre : List Nat) : List Value := [.int .i64 (bX l pre 0), .int .i64 (bX l pre 1), .int .i64 (bX l pre 2), .int .i64 (bX l pre 3)]
@[simp] theorem bcs_len (l : List Int) (pre : List Nat) : (bcs l pre).length = 4 := rfl
structure RxV where
  w : Int
  t : Int
  a : Int
  b : Int
  c : Int
  d : Int
  n : Int
def RxV.cells (x : RxV) : List Value := [.int .i64 x.w, .int .i64 x.t, .int .i64 x.a, .int .i64 x.b, .int .i64 x.c, .int .i64 x.d, .int .i64 x.n]
def RxV.at (x : RxV) (now : Int) : Int := if x.w < 5 then now + max 0 (min 2000000 x.t) else x.t
def actV (m : RpV) (x : RxV) : RpV :=
  if x.w = 0 ∨ x.w = 1 ∨ x.w = 2 ∨ x.w = 5 then (updV m (x.at m.now) x.a x.b x.c x.d x.n).1
  else if x.w = 3 ∨ x.w = 4 ∨ x.w = 6 then (elsV m (x.at m.now) x.n).1 else m


def runR (m : RpV) (l : List RxV) : RpV := l.foldl actV m
theorem list7 {α : Type} {l : List α} (h : l.length = 7) : ∃ a b c d e f g, l = [a, b, c, d, e, f, g] := by
  match l, h with
  | [a, b, c, d, e, f, g], _ => exact ⟨a, b, c, d, e, f, g, rfl⟩

theorem rp_noneNil (w : World) : Calls Tryz.prog 87 #[.pointer none] w (Ret fun v w' => v = .bool true ∧ St w [] w' []) := by
  have hs := St.start w; refine V572 ?_; refine V859 ?_; refine Z.yes (s := 5) (b := true) rfl (J16) rfl ?_; refine V4 ?_; refine V299 ?_; refine V20 ?_; refine V186 ?_; exact ⟨_, rfl, rfl, hs⟩

def NoR (w : World) (p : Value) : Prop := ∀ W L, St w [] W L → Calls Tryz.prog 87 #[p] W (Ret fun v w' => v = .bool true ∧ St W [] w' [])
theorem NoR.st {w W : World} {p : Value} {L : List Ent} (h : NoR w p) (hs : St w [] W L) : NoR W p := fun W' L' h' => h W' (L' ++ L) (hs.call h')
theorem noR_nil (w : World) : NoR w (.pointer none) := fun W _ _ => rp_noneNil W
theorem rn_request (p : Value) (w : World) (hp : NoR w p) : Calls Tryz.prog 38 #[p] w (Ret fun v w' => v = .bool false ∧ St w [] w' []) := by
  have hs := St.start w; refine Z.enter func38 rfl ntmps38 rfl rfl ?_; refine V242 ?_; refine V62 ?_; refine Z.ZO.call rfl rfl (by rfl) rfl rfl call87 rfl (hp _ _ hs) ?_; rintro v1_1 w1_1 ⟨rfl, hy⟩; replace hs := U0 (hs.call hy); clear hy; refine V11 ?_; refine Z.yes (s := 6) (b := false) rfl (J16) rfl ?_; refine V4 ?_; refine V299 ?_; refine V14 ?_; refine V186 ?_; exact ⟨_, rfl, rfl, hs⟩
theorem rn_copy (p : Value) (w : World) (hp : NoR w p) : Calls Tryz.prog 46 #[p] w (Ret fun v w' => v = .pointer none ∧ St w [] w' []) := by
  have hs := St.start w; refine Z.enter func46 rfl ntmps46 rfl rfl ?_; refine V336 ?_; refine V268 ?_; refine Z.ZO.call rfl rfl (by rfl) rfl rfl call87 rfl (hp _ _ hs) ?_; rintro v1_1 w1_1 ⟨rfl, hy⟩; replace hs := U0 (hs.call hy); clear hy; refine V857 ?_; refine Z.only [0, 5] rfl ?_; refine V6 ?_; refine Z.cond rfl (fun hc1 => ?_) (fun h => absurd h J16); refine V154 ?_
  repeat (first | refine Z.rthen ?_ | refine Z.rblock ?_ | refine Z.rscope ?_)
  refine V199 ?_; exact ⟨_, rfl, rfl, hs⟩


def ndV (ps : List (Int × List Int)) : Int := (ps.map fun p => 1 + (p.2.length : Int)).sum
theorem nd_fits (m : RpV) (t room : Int) (h : okE m t room) : ndV (elP m room) ≤ room := by
  have h0 := h.2; unfold elP elP1
  by_cases hb : bufB m room
  · have h1 : 1 + ((encL (statV m room)).length : Int) ≤ room := by
      rw [encL_size]; unfold statV; have := hb.2
      split <;> simp [RepV.short] <;> omega
    rw [if_pos hb]
    by_cases hp : powB m room
    · have h2 := hp.2
      unfold elR1 at h2; rw [if_pos hb] at h2; rw [if_pos hp]; simp [ndV]
      omega
    rw [if_neg hp]; simp [ndV]
    omega
  rw [if_neg hb]
  by_cases hp : powB m room
  · have h2 := hp.2
    unfold elR1 at h2; rw [if_neg hb] at h2; rw [if_pos hp]; simp [ndV]
    omega
  rw [if_neg hp]; simp [ndV]
  omega
theorem elP_l3 (m : RpV) (room : Int) : ∀ p ∈ elP m room, p.2.length ≤ 3 := by
  intro p hp; unfold elP elP1 at hp
  rcases List.mem_append.1 hp with h | h
  · split at h
    · obtain rfl : p = _ := by simpa using h
      simp only; rw [encL_size]
      split <;> omega
    simp at h
  split at h
  · obtain rfl : p = _ := by simpa using h
    simp
  simp at h
theorem elP_len (m : RpV) (room : Int) : (elP m room).length ≤ 2 := by
  unfold elP elP1
  split <;> split <;> simp

structure AcV where
  w : Int
  n : Int
  D : Option Addr
  c : Nat
  d : List Int
def AcV.cells (x : AcV) : List Value := [.int .i64 x.w, .int .i64 x.n, .slice x.D x.d.length x.c]

theorem blk_lent {w0 w : World} {M : List Nat} {L1 L2 : List Ent} {g T : Nat} {cs : Array Value} (hs : St w0 M w (L1 ++ L2)) (hm : Ent.blk g T cs ∈ L2) : Sx w (idsOf L1) (some ⟨g, 0, none⟩) cs.toList := fun hp => by
  have hb : w.heap[g]? = some (.cells cs T (0, 0)) := hs.ok _ (List.mem_append_right _ hm); refine ⟨g, 0, rfl, SX.lt_of_some hb, fun hin => ?_, fun i u hu => ?_⟩
  · have hn := hs.nodup
    simp only [idsOf, List.flatMap_append] at hn; exact (List.nodup_append.1 hn).2.2 g hin g (List.mem_flatMap.2 ⟨_, hm, by simp [Ent.blk, Ent.obj]⟩) rfl
  rw [SX.cell_blk hb]
  simpa using hu

def AcV.at (x : AcV) (now : Int) : Int := if x.w < 5 then now + max 0 (min 1000 x.n) else x.n
def isD (x : AcV) : Prop := x.w = 0 ∨ x.w = 1 ∨ x.w = 2
def isT (x : AcV) : Prop := x.w = 3 ∨ x.w = 4 ∨ x.w = 5
instance (x : AcV) : Decidable (isD x) := by unfold isD; infer_instance
instance (x : AcV) : Decidable (isT x) := by unfold isT; infer_instance
def actBk (m : BkV) (x : AcV) : BkV := if isD x then (divV m x.n x.d).1 else if isT x then (tickV m (x.at m.now)).1 else m
theorem divV_l (m : BkV) (size : Int) (dem : List Int) : (divV m size dem).1.l = m.l ∧ (divV m size dem).1.now = m.now := by unfold divV; split <;> exact ⟨rfl, rfl⟩
theorem tickV_l (m : BkV) (t : Int) : (tickV m t).1.l = m.l := by unfold tickV; split <;> rfl

theorem bytes_nd (r : List Prt) : bytesP r = ndV r := rfl
theorem grpS_snoc (l : List (LgV × Int)) (x : LgV) (d k : Int) : grpS (l ++ [(x, d)]) k = grpS l k + if x.gr = k then d else 0 := by simp [grpS]
theorem grpS_bd {l : List (LgV × Int)} (h : ∀ p ∈ l, 0 ≤ p.2 ∧ p.2 ≤ 8388608) (k : Int) : 0 ≤ grpS l k ∧ grpS l k ≤ l.length * 8388608 := by
  induction l with
  | nil => simp [grpS]
  | cons p r ih =>
    have h1 := ih fun x hx => h x (by simp [hx])
    have h2 := h p J16; have e : grpS (p :: r) k = (if p.1.gr = k then p.2 else 0) + grpS r k := by simp [grpS]
    rw [e, List.length_cons]
    split <;> omega
def gcs (l : List (LgV × Int)) : List Value := [.int .i64 (grpS l 0), .int .i64 (grpS l 1), .int .i64 (grpS l 2), .int .i64 (grpS l 3)]
@[simp] theorem gcs_len (l : List (LgV × Int)) : (gcs l).length = 4 := rfl
theorem gcs_get (l : List (LgV × Int)) {k : Int} (h : 0 ≤ k ∧ k ≤ 3) : (gcs l)[0 + k.toNat * 1]? = some (.int .i64 (grpS l k)) := by
  have : k = 0 ∨ k = 1 ∨ k = 2 ∨ k = 3 := by omega
  rcases this with rfl | rfl | rfl | rfl <;> rfl
theorem gcs_set (l : List (LgV × Int)) (x : LgV) (d : Int) (h : 0 ≤ x.gr ∧ x.gr ≤ 3) : (gcs l).set (x.gr.toNat * 1) (.int .i64 (grpS l x.gr + d)) = gcs (l ++ [(x, d)]) := by
  have h4 : x.gr = 0 ∨ x.gr = 1 ∨ x.gr = 2 ∨ x.gr = 3 := by omega
  unfold gcs; simp only [grpS_snoc]
  rcases h4 with h4 | h4 | h4 | h4 <;> rw [h4] <;> simp
theorem askd_bd {d : Int} (h : 0 ≤ d ∧ d ≤ 8388608) : 0 ≤ askd d ∧ askd d ≤ 8388611 := by unfold askd; split <;> omega
theorem zip_snd {α β : Type} {a : List α} {b : List β} {P : β → Prop} (h : ∀ y ∈ b, P y) : ∀ p ∈ a.zip b, P p.2 := fun p hp => h _ (List.of_mem_zip hp).2
theorem plan_okT {m : MaV} (hm : m.ok) {now n : Int} (h : okRd m now n) : okT m.b now := ⟨by have := hm.bn; have := h.2.1; omega, h.2.2⟩
theorem plan_okU {m : MaV} (hm : m.ok) {now n head : Int} {dem : List Int} (h : okPl m now n head dem) : okU m.r now (grpS (m.b.l.zip dem) 0) (grpS (m.b.l.zip dem) 1) (grpS (m.b.l.zip dem) 2) (grpS (m.b.l.zip dem) 3) head := by
  obtain ⟨h1, h2, h3, h4⟩ := h; have hp := hm.b.pos; have hz : (m.b.l.zip dem).length ≤ 10 := by rw [List.length_zip]; omega
  have hb := grpS_bd (zip_snd (a := m.b.l) h4); have hrn := hm.rn; have h1' := h1.2; rw [okU_iff]; have g0 := hb 0; have g1 := hb 1; have g2 := hb 2; have g3 := hb 3; refine ⟨by omega, ⟨by omega, by omega, by omega, by omega⟩, h2⟩
theorem upd_now {m : RpV} {t a b c d h : Int} (hu : okU m t a b c d h) : (updV m t a b c d h).1.now = t ∧ (updV m t a b c d h).2 = 0 := by
  unfold updV; rw [if_pos hu]; exact ⟨rfl, rfl⟩
theorem plR_ok {m : MaV} (hm : m.ok) {now n head : Int} {dem : List Int} (h : okPl m now n head dem) : (plR m now head dem).ok ∧ (plR m now head dem).now ≤ now := by
  unfold plR
  split
  · exact ⟨hm.r.updV _ _ _ _ _ _, by rw [(upd_now (plan_okU hm h)).1]; exact Int.le_refl _⟩
  exact ⟨hm.r, by have := hm.rn; have := h.1.2.1; omega⟩
theorem els_ok {r : RpV} {now n : Int} (h1 : r.now ≤ now ∧ now < 1073741824) (hn : 0 ≤ n) : elsV r now n = (elM r now n, elP r n, 0) := if_pos ⟨h1, hn⟩
theorem bytesP_nn (r : List Prt) : 0 ≤ bytesP r := by
  induction r with
  | nil => simp [bytesP]
  | cons p r ih => have e : bytesP (p :: r) = (1 + (p.2.length : Int)) + bytesP r := by simp [bytesP]
                   omega
theorem els_bytes {r : RpV} {now n : Int} (h1 : r.now ≤ now ∧ now < 1073741824) (hn : 0 ≤ n) : 0 ≤ bytesP (elsV r now n).2.1 ∧ bytesP (elsV r now n).2.1 ≤ n := by
  rw [els_ok h1 hn]; exact ⟨bytesP_nn _, by rw [bytes_nd]; exact nd_fits r now n ⟨h1, hn⟩⟩
theorem plN_bd {m : MaV} (hm : m.ok) {now n head : Int} {dem : List Int} (h : okPl m now n head dem) : 0 ≤ plN m now n head dem ∧ plN m now n head dem ≤ 16384 := by
  unfold plN; have hn := h.1.1
  split
  · have := els_bytes (r := plR m now head dem) (now := now) (n := n) ⟨(plR_ok hm h).2, h.1.2.2⟩ J5
    omega
  omega
theorem plan_okD {m : MaV} (hm : m.ok) {now n head : Int} {dem : List Int} (h : okPl m now n head dem) : okD (tickV m.b now).1 (plN m now n head dem) (dem.map askd) := by
  have := plN_bd hm h; refine ⟨by omega, ?_, ?_⟩
  · rw [List.length_map, tickV_l]; exact h.2.2.1
  intro x hx; obtain ⟨d, hd, rfl⟩ := List.mem_map.1 hx; have := askd_bd (h.2.2.2 d hd)
  omega
theorem plan_div {m : MaV} (hm : m.ok) {now n head : Int} {dem : List Int} (h : okPl m now n head dem) : (plD m now n head dem).2.2 = 0 := by
  unfold plD; rw [divV, if_pos (plan_okD hm h)]
theorem plan_out {m : MaV} (hm : m.ok) {now n head : Int} {dem : List Int} (h : okPl m now n head dem) : (plD m now n head dem).2.1.length = m.b.l.length ∧ ∀ k : Nat, k < m.b.l.length → 0 ≤ elt (plD m now n head dem).2.1 (k : Int) ∧ elt (plD m now n head dem).2.1 (k : Int) ≤ 8388611 := by
  have hd := plan_okD hm h; have hr := rounds_ok (hm.b.tick now) hd 2; have e : (plD m now n head dem).2.1 = (rounds (tickV m.b now).1 (plN m now n head dem) (dem.map askd) 2).out := by
    unfold plD; rw [divV, if_pos hd]
  rw [e]; have hl := hr.ol; rw [tickV_l] at hl; refine ⟨hl, fun k hk => ?_⟩; have h1 := hr.og k (by rw [tickV_l]; exact hk); have hdl : k < dem.length := by have := h.2.2.1; omega
  have h2 : elt (dem.map askd) (k : Int) = askd dem[k] := by simp [elt, hdl]
  have h3 := askd_bd (h.2.2.2 dem[k] (List.getElem_mem _)); rw [h2] at h1
  omega
theorem plan_ok {m : MaV} (hm : m.ok) {now n head : Int} {dem : List Int} : (planV m now n head dem).1.ok := by
  unfold planV
  split
  · rename_i h
    have ht := plan_okT hm h.1; refine ⟨(hm.b.tick now).div _ _, (plR_ok hm h).1, ?_, (plR_ok hm h).2, ⟨by have := hm.ln; have := h.1.2.1; show 0 ≤ now; omega, h.1.2.2⟩⟩
    show (plD m now n head dem).1.now ≤ now
    unfold plD; rw [(divV_l _ _ _).2, tickV, if_pos ht]; exact Int.le_refl _
  exact hm
def PtV.mp (q : PtV) : MpV := ⟨q.lc, q.B, q.c, q.l⟩
theorem pt_mp (qs : List PtV) : (qs.map PtV.mp).flatMap MpV.cells = qs.flatMap PtV.cells := by rw [List.flatMap_map]; rfl
theorem bytesP_bd {r : List Prt} (h1 : r.length ≤ 100) (h2 : ∀ p ∈ r, p.2.length ≤ 100000) : ∀ i, 0 ≤ bytesP (r.take i) ∧ bytesP (r.take i) ≤ 100000000 := by
  intro i; refine ⟨bytesP_nn _, ?_⟩; have key : ∀ l : List Prt, (∀ p ∈ l, p.2.length ≤ 100000) → bytesP l ≤ l.length * 100001 := by
    intro l
    induction l with
    | nil => intro _; simp [bytesP]
    | cons p l ih =>
      intro h; have h3 := ih fun x hx => h x (by simp [hx])
      have h4 := h p J16; have e : bytesP (p :: l) = (1 + (p.2.length : Int)) + bytesP l := by simp [bytesP]
      rw [e, List.length_cons]
      omega
  have h5 := key (r.take i) fun p hp => h2 p (List.mem_of_mem_take hp)
  have h6 : (r.take i).length ≤ 100 := by rw [List.length_take]; omega
  omega

def PlR (g gb gr : Nat) (C : Option Addr) (kc : Nat) (sv so : Value) (X : MaV × List Int × Int) (M : List Nat) (w : World) (v : Value) (w' : World) : Prop := ∃ ov, v = .tuple #[ov, .int .i64 X.2.2] ∧ St w M w' (Ent.row ov 3 1 X.2.1.length (ints .i64 X.2.1) :: maE g gb gr C kc sv so X.1)
theorem mx_plan_up (g gb gr : Nat) (C : Option Addr) (kc : Nat) (sv so : Value) (m : MaV) (now n head : Int) (D : Option Addr) (nd cd : Nat) (dem : List Int) (w : World) (hs : St w (idsOf (maE g gb gr C kc sv so m)) w (maE g gb gr C kc sv so m)) (hm : m.ok) (hup : m.up = true)
    (hC : Sx w (idsOf (maE g gb gr C kc sv so m)) C (m.b.l.flatMap LgV.cells)) (hD : Sx w (idsOf (maE g gb gr C kc sv so m)) D (ints .i64 dem)) (hdl : dem.length = nd) (hnd : nd ≤ 1000) :
    Calls Tryz.prog 16 #[.pointer (some ⟨g, 0, none⟩), .int .i64 now, .int .i64 n, .int .i64 head, .slice D nd cd] w (Ret fun v w' => PlR g gb gr C kc sv so (planV m now n head dem) (idsOf (maE g gb gr C kc sv so m)) w v w') := by
  generalize hM : idsOf (maE g gb gr C kc sv so m) = M at *; have hpos := hm.b.pos; obtain ⟨bC, oC, rfl, hC2⟩ := hC.some (by rw [Z.flat_length lg_len]; omega); replace hs : St w M w (Ent.blk g 55 #[.pointer (some ⟨gb, 0, none⟩), .slice (some ⟨bC, oC, none⟩) m.b.l.length kc, .pointer (some ⟨gr, 0, none⟩), .int .i64 m.last] :: Ent.blk gb 147 #[sv, so, .int .i64 m.b.now] :: Ent.row sv 149 6 m.b.l.length (m.b.chs.flatMap chC) :: Ent.row so 3 1 m.b.l.length (ints .i64 (natI (ordL m.b.l))) :: Ent.blk gr 157 m.r.cells.toArray :: []) := by simpa [maE, bkE, rvP, rpE, hup] using hs
  have hfail : ¬ okPl m now n head dem → ∀ w', St w M w' (Ent.blk g 55 #[.pointer (some ⟨gb, 0, none⟩), .slice (some ⟨bC, oC, none⟩) m.b.l.length kc, .pointer (some ⟨gr, 0, none⟩), .int .i64 m.last] :: Ent.blk gb 147 #[sv, so, .int .i64 m.b.now] :: Ent.row sv 149 6 m.b.l.length (m.b.chs.flatMap chC) :: Ent.row so 3 1 m.b.l.length (ints .i64 (natI (ordL m.b.l))) :: Ent.blk gr 157 m.r.cells.toArray :: []) → PlR g gb gr (some ⟨bC, oC, none⟩) kc sv so (planV m now n head dem) M w (.tuple #[.slice none 0 0, .int .i64 2]) w' := fun hno w' h => by
    rw [planV, if_neg hno]; exact ⟨_, rfl, St.nil J110 _ 1⟩
  refine V501 ?_; clear hs; intro g10 w10 hs; refine V35 ?_; clear hs; intro g11 w11 hs; refine V857 ?_; refine V252 ?_; refine V858 ?_; refine V145 ?_; refine V857 ?_; refine V252 ?_; refine V333 ?_; refine V2 ?_; refine Z.ZO.callB rfl rfl (by rfl) rfl rfl call40 rfl (mx_ready g gb _ _ m now n _ (hs.celOf (cs := [_, _, _, _]) J0)) ?_ ?_
  · skip
    rintro v2_3 w2_3 ⟨hrd, rfl, hy⟩; replace hs := U0 (hs.call hy); clear hy
    skip
    refine V857 ?_; refine V252 ?_; refine V858 ?_; refine Z.lb 8 rfl ?_; refine V26 ?_; refine V245 ?_; refine V8 ?_; refine V55 ?_; refine V527 ?_; refine Z.ZO.callB rfl rfl (by rfl) rfl rfl call41 rfl (mx_must _ 2 _) ?_ ?_
    · skip
      rintro v3_16 w3_16 ⟨hm3, rfl, hy⟩; replace hs := U0 (hs.call hy); clear hy; have h3 : (0 ≤ head ∧ head ≤ 63) ∧ nd = m.b.l.length := by simp at hm3; omega
      refine V857 ?_; refine V252 ?_; refine V858 ?_; refine V2 ?_; refine V98 ?_; clear hs; intro g12 w12 hs; refine V857 ?_; refine V547 ?_; replace hs := (hs.nil 3 1).sel [1, 0, 2, 3, 4, 5, 6, 7, 8] J12; refine V18 ?_; refine V248 ?_; refine V203 ?_; refine V861 ?_; refine Z.loopk (ι := Nat × Value) [0, 1, 2, 3, 10, 11, 12, 40, 41] rfl (fun x => [(13, [], x.2), (42, [], .int .i64 (x.1 : Int))]) (fun x wr => (x.1 ≤ nd ∧ okAs (dem.take x.1)) ∧ St w M wr (Ent.blk g12 37 (gcs ((m.b.l.zip dem).take x.1)).toArray :: Ent.row x.2 3 1 x.1 (ints .i64 ((dem.take x.1).map askd)) :: Ent.blk g11 31 #[.int .i64 0] :: Ent.blk g10 34 #[.slice none 0 0] :: Ent.blk g 55 #[.pointer (some ⟨gb, 0, none⟩), .slice (some ⟨bC, oC, none⟩) m.b.l.length kc, .pointer (some ⟨gr, 0, none⟩), .int .i64 m.last] :: Ent.blk gb 147 #[sv, so, .int .i64 m.b.now] :: Ent.row sv 149 6 m.b.l.length (m.b.chs.flatMap chC) :: Ent.row so 3 1 m.b.l.length (ints .i64 (natI (ordL m.b.l))) :: Ent.blk gr 157 m.r.cells.toArray :: [])) (fun x => nd - x.1) (0, .slice none 0 0) J11 ⟨⟨Nat.zero_le _, by simp [okAs]⟩, hs⟩ ?_; clear hs; rintro ⟨i, av⟩ w7 ⟨⟨hi, hda⟩, hs⟩; refine V203 ?_
      (try dsimp only at hs)
      dsimp only at hi hda hs; obtain ⟨Av, cv, rfl, -, -, -⟩ := row_slv hs (j := 1) rfl; refine V121 ?_; refine Z.only [0, 1, 2, 3, 10, 11, 12, 13, 40, 41, 42, 43] rfl ?_; refine V210 ?_; refine Z.cond rfl (fun hc7 => ?_) (fun hc7 => ?_)
      · (try simp at hc7)
        obtain ⟨d, hd⟩ : ∃ d, dem[i]? = some d := ⟨_, List.getElem?_eq_getElem J5⟩; obtain ⟨ch, hch⟩ : ∃ c, m.b.l[i]? = some c := ⟨_, List.getElem?_eq_getElem J5⟩; have he : elt dem (i : Int) = d := by simp [elt, hd]
        obtain ⟨bD, oD, rfl, hD2⟩ := hD.some J70; have hcd : ∀ L W, Keep w M L W → W.cell? ⟨bD, oD + (i : Int).toNat * 1, none⟩ = some (.int .i64 d) := fun L W hW => by rw [← he]; exact Z.cellXi hD2 J5 J5 W hW
        have hgr := (hm.b.set.2.1 ch (List.mem_of_getElem? hch)).2.2.2.2; have hta : dem.take (i + 1) = dem.take i ++ [d] := by rw [List.take_add_one, hd]; rfl
        have htz : (m.b.l.zip dem).take (i + 1) = (m.b.l.zip dem).take i ++ [(ch, d)] := by
          have h7 : (m.b.l.zip dem)[i]? = some (ch, d) := by rw [List.getElem?_zip_eq_some]; exact ⟨hch, hd⟩
          rw [List.take_add_one, h7]
          rfl
        have hgb := grpS_bd (l := (m.b.l.zip dem).take i) J98 ch.gr; have hzl : ((m.b.l.zip dem).take i).length ≤ 10 := by rw [List.length_take, List.length_zip]; omega
        refine V454 ?_; refine V139 ?_; refine V31 ?_; refine V401 ?_; refine V858 ?_; refine V689 ?_; refine Z.ZO.callB rfl rfl (by rfl) rfl rfl call41 rfl (mx_must _ 2 _) ?_ ?_
        · skip
          rintro v9_6 w9_6 ⟨hm9, rfl, hy⟩; replace hs := U0 (hs.call hy); clear hy; have hd9 : 0 ≤ d ∧ d ≤ 8388608 := by simp at hm9; omega
          have had := askd_bd hd9; refine V857 ?_; refine V401 ?_; refine V858 ?_; refine V212 ?_; clear hs; intro ws hs; replace hs := U1 hs; refine V857 ?_; refine V263 ?_; refine V84 ?_; refine Z.only [0, 1, 2, 3, 10, 11, 12, 13, 15, 40, 41, 42, 68] rfl ?_; refine V6 ?_; refine Z.cutt (ι := Unit) [0, 1, 2, 3, 10, 11, 12, 13, 40, 41, 42] rfl (fun _ => [(15, [], .int .i64 (askd d))]) (fun _ wr => St w M wr (Ent.blk g12 37 (gcs ((m.b.l.zip dem).take (i + 1))).toArray :: Ent.row (.slice Av i cv) 3 1 i (ints .i64 ((dem.take i).map askd)) :: Ent.blk g11 31 #[.int .i64 0] :: Ent.blk g10 34 #[.slice none 0 0] :: Ent.blk g 55 #[.pointer (some ⟨gb, 0, none⟩), .slice (some ⟨bC, oC, none⟩) m.b.l.length kc, .pointer (some ⟨gr, 0, none⟩), .int .i64 m.last] :: Ent.blk gb 147 #[sv, so, .int .i64 m.b.now] :: Ent.row sv 149 6 m.b.l.length (m.b.chs.flatMap chC) :: Ent.row so 3 1 m.b.l.length (ints .i64 (natI (ordL m.b.l))) :: Ent.blk gr 157 m.r.cells.toArray :: [])) ?_ ?_
          · skip
            refine Z.cond rfl (fun hc11 => ?_) (fun hc11 => ?_)
            · (try simp at hc11)
              refine V93 ?_; refine V263 ?_; refine V6 ?_; rw [gcs_set _ _ _ hgr, ← htz] at hs; exact Z.meet () J44 hs
            (try simp at hc11)
            refine V361 ?_; rw [gcs_set _ _ _ hgr, ← htz] at hs; exact Z.meet () J44 hs
          clear hs; rintro _ w11 hs; refine V263 ?_; refine V42 ?_; refine V527 ?_; refine V57 ?_; clear hs; intro g73 w73 hs; refine V2 ?_; refine V39 ?_; clear hs; intro g74 cap74 w74 hs; replace hs := U3 hs; refine V1 ?_; refine V203 ?_; refine V332 ?_; refine V203 ?_; refine V6 ?_; have ea : ints .i64 ((dem.take i).map askd) ++ [.int .i64 (askd d)] = ints .i64 ((dem.take (i + 1)).map askd) := by rw [hta]; simp [ints]
          rw [ea] at hs; exact Z.again (i + 1, _) J102 ⟨⟨by simp only; omega, by rw [hta]; intro z hz; rcases List.mem_append.1 hz with h | h; exact hda z h; (obtain rfl : z = d := by simpa using h); exact hd9⟩, hs⟩ J22
        skip
        rintro c9_6 w9_6 ⟨hm9, rfl, hy⟩; replace hs := U0 (hs.call hy); clear hy; have hno : ¬ okPl m now n head dem := fun h => by have h1 := h.2.2.2 d (List.mem_of_getElem? hd); simp at hm9; omega
        replace hs := hs.sel [2, 3, 4, 5, 6, 7, 8] J12
        repeat (first | refine Z.pthen ?_ | refine Z.pblock ?_ | refine Z.pscope ?_)
        refine V70 ?_; rintro vD wD ⟨rfl, hz⟩; replace hs := hs.regain hz; refine ⟨[_, _], J42, ?_⟩; exact ⟨_, rfl, hfail hno _ (hs.sub (List.sublist_append_right _ _))⟩
      (try simp at hc7)
      refine V181 ?_; refine V277 ?_; refine V38 ?_; refine V183 ?_; clear hs; intro ws hs; replace hs := U1 hs; refine V857 ?_; refine V568 ?_; refine V858 ?_; refine V245 ?_; refine V3 ?_; refine V385 ?_; refine V859 ?_; have hrd2 := plan_okT hm hrd; obtain ⟨ht1, ht2⟩ : (tickV m.b now).2 = 0 ∧ (tickV m.b now).1.now = now := by rw [tickV, if_pos hrd2]; exact ⟨rfl, rfl⟩
      have htk := hm.b.tick now; have htl := tickV_l m.b now; replace hs : St w M _ (bkE gb sv so m.b ++ [_, _, _, _, _, _]) := hs.sel [5, 6, 7, 0, 1, 2, 3, 4, 8] J12; refine V2 ?_; refine Z.ZO.call rfl rfl (by rfl) rfl rfl call42 rfl (bk_tick gb sv so m.b now _ hs.lend hm.b) ?_; rintro v16_5 w16_5 ⟨rfl, hz⟩; replace hs := hs.regain hz; rw [ht1]; replace hs := U10 hs; refine V62 ?_; refine Z.ZO.call rfl rfl (by rfl) rfl rfl call41 rfl (mx_must_ok _ 2 _ J16) ?_; rintro v16_7 w16_7 ⟨rfl, hy⟩; replace hs := U0 (hs.call hy); clear hy; obtain rfl : i = nd := by omega
      rw [List.take_of_length_le J5] at hda; rw [List.take_of_length_le (l := dem) J5, List.take_of_length_le (l := m.b.l.zip dem) (by rw [List.length_zip]; omega)] at hs; have hok : okPl m now n head dem := ⟨hrd, h3.1, by omega, hda⟩; have hbl : (plD m now n head dem).1.l = m.b.l := by unfold plD; rw [(divV_l _ _ _).1, tickV_l]
      have hN := (plan_out hm hok).1; refine V857 ?_; refine V568 ?_; refine V125 ?_; refine V83 ?_; refine V857 ?_; refine Z.only [0, 1, 2, 3, 10, 11, 12, 13, 92] rfl ?_; refine V6 ?_; refine Z.cond rfl (fun hc17 => ?_) (fun h => absurd h J16); refine V141 ?_; refine Z.drawL [Ent.blk g 55 #[.pointer (some ⟨gb, 0, none⟩), .slice (some ⟨bC, oC, none⟩) m.b.l.length kc, .pointer (some ⟨gr, 0, none⟩), .int .i64 now], Ent.blk g12 37 (gcs (m.b.l.zip dem)).toArray] (fun j => j != 7) mixed hs ?_; clear hs; intro wd18 hs; refine Z.tX 0 [0, 1, 2, 3, 7] rfl rfl rfl (by rfl) J3 (Jk hs) (Z.Yd.pure rfl) ?_; refine Z.tX 1 [1, 2, 3, 7] rfl rfl rfl (by rfl) J3 (Jk hs) (Z.Yd.nilc rfl rfl) ?_; refine Z.tX 2 [2, 3, 7] rfl rfl rfl (by rfl) J3 (Jk hs) (Z.Yd.fieldA (m := 2) rfl J3) ?_; refine Z.t 3 rfl rfl rfl (by rfl) J3 (Jk hs) J51 ?_; refine Z.tb [4] J3 rfl (Jk hs) rfl ?_; refine Z.t 5 rfl rfl rfl (by rfl) J3 (Jk hs) (Z.Yd.loadA _ rfl isAgg37 (fun _ => Z.cellsB (cs := gcs (m.b.l.zip dem)) J0) J100) ?_; refine Z.tb [6] J3 rfl (Jk hs) rfl ?_; replace hs := hs.sel [8, 0, 1, 2, 3, 4, 5, 6, 7] J12; have hro := plR_ok hm hok; have hn1 := hrd.1; have hplr : (updV m.r now (grpS (m.b.l.zip dem) 0) (grpS (m.b.l.zip dem) 1) (grpS (m.b.l.zip dem) 2) (grpS (m.b.l.zip dem) 3) head).1 = plR m now head dem := by unfold plR; rw [hup]; rfl
      refine Z.tn 7 rfl rfl J3 rfl trivial ?_; refine Z.ZO.call rfl rfl (by rfl) rfl rfl call43 rfl (rp_update gr _ m.r now (grpS (m.b.l.zip dem) 0) (grpS (m.b.l.zip dem) 1) (grpS (m.b.l.zip dem) 2) (grpS (m.b.l.zip dem) 3) head _ (hs.lend (L1 := [_])) hm.r) ?_; rintro v18_7 w18_7 ⟨rfl, hz⟩; replace hs := hs.regain (L1 := [_]) hz; rw [hplr] at hs; replace hs := U6 hs; refine Z.tk (Dn := fun j => j != 7) (i := 7) (fun h => absurd h J12) ?_; refine V40 ?_; refine Z.only [0, 1, 2, 10, 11, 13] rfl ?_; refine V300 ?_; refine V277 ?_; refine V19 ?_; refine Z.l rfl rfl (by rfl) (Z.keepS hs) J51 ?_; refine V2 ?_; refine Z.ZO.call rfl rfl (by rfl) rfl rfl call46 rfl (rp_Copy gr (plR m now head dem) _ (hs.celOf J0)) ?_; rintro v19_5 w19_5 ⟨g2, rfl, hy⟩; replace hs := U0 (hs.call hy); clear hy; refine V527 ?_; refine Z.ZO.call rfl rfl (by rfl) rfl rfl call47 rfl (rp_elements g2 _ (plR m now head dem) now n _ (hs.lend (L1 := [_])) hro.1 J5) ?_; rintro v19_8 w19_8 ⟨sve, qs, rfl, hqs, hz⟩; replace hs := hs.regain (L1 := [_]) hz; have hel := els_ok (r := plR m now head dem) (now := now) (n := n) ⟨hro.2, hrd.2.2⟩ (by have := hrd.1; omega); have hbb := els_bytes (r := plR m now head dem) (now := now) (n := n) ⟨hro.2, hrd.2.2⟩ J5; rw [hel] at hs hqs hbb ⊢; simp only at hbb; simp only [ptsL, List.cons_append, List.nil_append] at hs hqs; obtain ⟨Be, ce, rfl, -, -, -⟩ := row_slv hs (j := 1) rfl
      have hql : qs.length ≤ 2 := by have h7 := congrArg List.length hqs; rw [List.length_map] at h7; have := elP_len (plR m now head dem) n; omega
      have hqf : ∀ q ∈ qs.map PtV.mp, q.l.length ≤ 100000 := fun q hq => by
        obtain ⟨z, hz1, rfl⟩ := List.mem_map.1 hq; have h7 := elP_l3 (plR m now head dem) n z.plain (by rw [← hqs]; exact List.mem_map_of_mem hz1); have h8 : z.l.length ≤ 3 := h7
        show z.l.length ≤ 100000
        omega
      have hpm : (qs.map PtV.mp).map MpV.plain = elP (plR m now head dem) n := by rw [← hqs]; simp [PtV.mp, MpV.plain, PtV.plain]
      refine V527 ?_; refine Z.ZO.call rfl rfl (by rfl) rfl rfl call45 rfl (got_ok (mx_gotPt _ 0 _) rfl) ?_; rintro v19_11 w19_11 ⟨rfl, hy⟩; replace hs := U0 (hs.call hy); clear hy; refine V2 ?_; refine Z.ZO.call rfl rfl (by rfl) rfl rfl call44 rfl (mx_bytes Be _ ce (qs.map PtV.mp) _ (by rw [pt_mp]; exact hs.slm (A := Be) J0) J16 J5 hqf (bytesP_bd (by rw [List.length_map, List.length_map]; omega) (fun p hp ↦ by obtain ⟨q, hq, rfl⟩ := List.mem_map.1 hp; exact hqf q hq))) ?_; rintro v19_12 w19_12 ⟨rfl, hy⟩; replace hs := U0 (hs.call hy); clear hy; rw [hpm]; replace hs := hs.sub (((List.sublist_append_right _ _).cons _).cons _); refine V395 ?_; refine Z.only [0, 2, 10, 11, 13] rfl ?_; refine V125 ?_; refine V384 ?_; refine V385 ?_; refine V11 ?_; have hpn : n - bytesP (elP (plR m now head dem) n) = plN m now n head dem := by unfold plN; rw [hup, hel]; rfl
      rw [hpn]; have hdv : divV (tickV m.b now).1 (plN m now n head dem) (dem.map askd) = ((plD m now n head dem).1, (plD m now n head dem).2.1, 0) := by
        have h8 := plan_div hm hok; rw [← h8]
        rfl
      replace hs : St w M _ (bkE gb sv so (tickV m.b now).1 ++ [_, _, _, _, _, _]) := hs.sel [1, 2, 3, 4, 5, 6, 7, 8, 0] J12; refine V2 ?_; refine Z.ZO.call rfl rfl (by rfl) rfl rfl call49 rfl (bk_divide gb sv so (tickV m.b now).1 (plN m now n head dem) Av i cv (dem.map askd) _ hs.lend htk (Z.row_lentv hs (j := 1) rfl) (by rw [List.length_map]; omega)) ?_; rintro v20_6 w20_6 ⟨ov, rfl, hz⟩; replace hs := hs.regain hz; rw [hdv]; rw [hdv] at hs; replace hs := U10 hs; obtain ⟨Aw, cw, rfl, -, -, -⟩ := row_slv hs (j := 0) rfl; refine V527 ?_; refine Z.ZO.call rfl rfl (by rfl) rfl rfl call48 rfl (got_ok (mx_gotIs _ 0 _) rfl) ?_; rintro v20_9 w20_9 ⟨rfl, hy⟩; replace hs := U0 (hs.call hy); clear hy; refine V248 ?_; refine V296 ?_; refine V861 ?_
      refine Z.loopk (ι := Nat × Value) [10, 11, 124, 125] rfl (fun x => [(126, [], .int .i64 (x.1 : Int))]) (fun x wr => x.1 ≤ (plD m now n head dem).2.1.length ∧ St w M wr (Ent.row x.2 3 1 x.1 (ints .i64 (((plD m now n head dem).2.1.take x.1).map fun y => max 0 (y - 3))) :: Ent.row (.slice Aw (plD m now n head dem).2.1.length cw) 3 1 (plD m now n head dem).2.1.length (ints .i64 (plD m now n head dem).2.1) :: Ent.blk g11 31 #[.int .i64 0] :: Ent.blk g10 34 #[x.2] :: Ent.blk g 55 #[.pointer (some ⟨gb, 0, none⟩), .slice (some ⟨bC, oC, none⟩) m.b.l.length kc, .pointer (some ⟨gr, 0, none⟩), .int .i64 now] :: Ent.blk gb 147 #[sv, so, .int .i64 (plD m now n head dem).1.now] :: Ent.row sv 149 6 (plD m now n head dem).1.l.length ((plD m now n head dem).1.chs.flatMap chC) :: Ent.row so 3 1 (plD m now n head dem).1.l.length (ints .i64 (natI (ordL (plD m now n head dem).1.l))) :: Ent.blk gr 157 (plR m now head dem).cells.toArray :: [])) (fun x => (plD m now n head dem).2.1.length - x.1) (0, .slice none 0 0) J6 ⟨Nat.zero_le _, by simpa [hbl, ints] using (hs.nil 3 1).sel [0, 1, 7, 8, 9, 2, 3, 4, 10] J12⟩ ?_; clear hs; rintro ⟨k, vo⟩ w21 ⟨hk, hs⟩; refine V296 ?_
      (try dsimp only at hs)
      dsimp only at hk hs; obtain ⟨Ao, co, rfl, -, -, -⟩ := row_slv hs (j := 0) rfl; refine V0 ?_
      skip
      refine V18 ?_; refine V857 ?_; refine Z.only [10, 11, 124, 125, 126, 127] rfl ?_; refine V210 ?_; refine Z.cond rfl (fun hc21 => ?_) (fun hc21 => ?_)
      · (try simp at hc21)
        obtain ⟨gw, cw', e9, -, -⟩ := row_form (j := 1) hs rfl J5
        cases e9
        obtain ⟨y, hy0⟩ : ∃ y, (plD m now n head dem).2.1[k]? = some y := ⟨_, List.getElem?_eq_getElem J5⟩; have hyb := (plan_out hm hok).2 k (by have := (plan_out hm hok).1; omega); rw [show elt (plD m now n head dem).2.1 (k : Int) = y from by simp [elt, hy0]] at hyb; have hyc : (ints .i64 (plD m now n head dem).2.1)[0 + (k : Int).toNat * 1]? = some (.int .i64 y) := by
          rw [show 0 + (k : Int).toNat * 1 = k from by omega]; unfold ints; rw [List.getElem?_map, hy0]
          rfl
        refine V334 ?_; clear hs; intro g134 w134 hs; refine V2 ?_; refine V39 ?_; clear hs; intro g135 cap135 w135 hs; replace hs := U3 hs; refine V681 ?_; clear hs; intro ws hs; replace hs := U1 hs; refine V857 ?_; refine V296 ?_; refine V332 ?_; refine V296 ?_; refine V6 ?_; have ea : ints .i64 (((plD m now n head dem).2.1.take k).map fun y => max 0 (y - 3)) ++ [.int .i64 (max 0 (y - 3))] = ints .i64 (((plD m now n head dem).2.1.take (k + 1)).map fun y => max 0 (y - 3)) := by rw [List.take_add_one, hy0]; simp [ints]
        rw [ea] at hs; exact Z.again (k + 1, _) J8 ⟨by simp only; omega, hs⟩ J22
      (try simp at hc21)
      refine V181 ?_; obtain rfl : k = (plD m now n head dem).2.1.length := by omega
      rw [List.take_of_length_le (Nat.le_refl _)] at hs; refine V116 ?_; refine V681 ?_; clear hs; intro ws hs; replace hs := U1 hs; refine V451 ?_; clear hs; intro ws hs; replace hs := U1 hs; refine V857 ?_; refine Z.only [10, 11] rfl ?_; refine V90 ?_; refine Z.outDr call26 (mx_caught_ret g11 _ _ _) ?_; rintro vD wD ⟨rfl, hy⟩; replace hs := hs.call hy; refine ⟨[_, _], J42, ?_⟩; refine ⟨_, rfl, .slice Ao (plD m now n head dem).2.1.length co, ?_⟩; rw [planV, if_pos hok]; exact ⟨rfl, by simpa [maE, bkE, rvP, rpE, hup, hbl] using hs.sel [0, 4, 5, 6, 7, 8] J12⟩
    skip
    rintro c3_16 w3_16 ⟨hm3, rfl, hy⟩; replace hs := U0 (hs.call hy); clear hy; have hno : ¬ okPl m now n head dem := fun h => by have h1 := h.2.1; have h2 := h.2.2.1; simp at hm3; omega
    repeat (first | refine Z.pthen ?_ | refine Z.pblock ?_ | refine Z.pscope ?_)
    refine V70 ?_; rintro vD wD ⟨rfl, hz⟩; replace hs := hs.regain hz; refine ⟨[_, _], J42, ?_⟩; exact ⟨_, rfl, hfail hno _ (hs.sub (List.sublist_append_right _ _))⟩
  skip
  rintro c2_3 w2_3 ⟨hrd, rfl, hy⟩; replace hs := U0 (hs.call hy); clear hy; have hno : ¬ okPl m now n head dem := fun h => hrd h.1
  repeat (first | refine Z.pthen ?_ | refine Z.pblock ?_ | refine Z.pscope ?_)
  refine V70 ?_; rintro vD wD ⟨rfl, hz⟩; replace hs := hs.regain hz; refine ⟨[_, _], J42, ?_⟩; exact ⟨_, rfl, hfail hno _ (hs.sub (List.sublist_append_right _ _))⟩
theorem mx_plan_dn (g gb gr : Nat) (C : Option Addr) (kc : Nat) (sv so : Value) (m : MaV) (now n head : Int) (D : Option Addr) (nd cd : Nat) (dem : List Int) (w : World) (hs : St w (idsOf (maE g gb gr C kc sv so m)) w (maE g gb gr C kc sv so m)) (hm : m.ok) (hup : m.up = false)
    (hC : Sx w (idsOf (maE g gb gr C kc sv so m)) C (m.b.l.flatMap LgV.cells)) (hD : Sx w (idsOf (maE g gb gr C kc sv so m)) D (ints .i64 dem)) (hdl : dem.length = nd) (hnd : nd ≤ 1000) :
    Calls Tryz.prog 16 #[.pointer (some ⟨g, 0, none⟩), .int .i64 now, .int .i64 n, .int .i64 head, .slice D nd cd] w (Ret fun v w' => PlR g gb gr C kc sv so (planV m now n head dem) (idsOf (maE g gb gr C kc sv so m)) w v w') := by
  generalize hM : idsOf (maE g gb gr C kc sv so m) = M at *; have hpos := hm.b.pos; obtain ⟨bC, oC, rfl, hC2⟩ := hC.some (by rw [Z.flat_length lg_len]; omega); replace hs : St w M w (Ent.blk g 55 #[.pointer (some ⟨gb, 0, none⟩), .slice (some ⟨bC, oC, none⟩) m.b.l.length kc, .pointer none, .int .i64 m.last] :: Ent.blk gb 147 #[sv, so, .int .i64 m.b.now] :: Ent.row sv 149 6 m.b.l.length (m.b.chs.flatMap chC) :: Ent.row so 3 1 m.b.l.length (ints .i64 (natI (ordL m.b.l))) :: []) := by simpa [maE, bkE, rvP, rpE, hup] using hs
  have hfail : ¬ okPl m now n head dem → ∀ w', St w M w' (Ent.blk g 55 #[.pointer (some ⟨gb, 0, none⟩), .slice (some ⟨bC, oC, none⟩) m.b.l.length kc, .pointer none, .int .i64 m.last] :: Ent.blk gb 147 #[sv, so, .int .i64 m.b.now] :: Ent.row sv 149 6 m.b.l.length (m.b.chs.flatMap chC) :: Ent.row so 3 1 m.b.l.length (ints .i64 (natI (ordL m.b.l))) :: []) → PlR g gb gr (some ⟨bC, oC, none⟩) kc sv so (planV m now n head dem) M w (.tuple #[.slice none 0 0, .int .i64 2]) w' := fun hno w' h => by
    rw [planV, if_neg hno]; exact ⟨_, rfl, St.nil J110 _ 1⟩
  refine V501 ?_; clear hs; intro g10 w10 hs; refine V35 ?_; clear hs; intro g11 w11 hs; refine V857 ?_; refine V252 ?_; refine V858 ?_; refine V145 ?_; refine V857 ?_; refine V252 ?_; refine V333 ?_; refine V2 ?_; refine Z.ZO.callB rfl rfl (by rfl) rfl rfl call40 rfl (mx_ready g gb _ _ m now n _ (hs.celOf (cs := [_, _, _, _]) J0)) ?_ ?_
  · skip
    rintro v2_3 w2_3 ⟨hrd, rfl, hy⟩; replace hs := U0 (hs.call hy); clear hy
    skip
    refine V857 ?_; refine V252 ?_; refine V858 ?_; refine Z.lb 8 rfl ?_; refine V26 ?_; refine V245 ?_; refine V8 ?_; refine V55 ?_; refine V527 ?_; refine Z.ZO.callB rfl rfl (by rfl) rfl rfl call41 rfl (mx_must _ 2 _) ?_ ?_
    · skip
      rintro v3_16 w3_16 ⟨hm3, rfl, hy⟩; replace hs := U0 (hs.call hy); clear hy; have h3 : (0 ≤ head ∧ head ≤ 63) ∧ nd = m.b.l.length := by simp at hm3; omega
      refine V857 ?_; refine V252 ?_; refine V858 ?_; refine V2 ?_; refine V98 ?_; clear hs; intro g12 w12 hs; refine V857 ?_; refine V547 ?_; replace hs := (hs.nil 3 1).sel [1, 0, 2, 3, 4, 5, 6, 7] J12; refine V18 ?_; refine V248 ?_; refine V203 ?_; refine V861 ?_; refine Z.loopk (ι := Nat × Value) [0, 1, 2, 3, 10, 11, 12, 40, 41] rfl (fun x => [(13, [], x.2), (42, [], .int .i64 (x.1 : Int))]) (fun x wr => (x.1 ≤ nd ∧ okAs (dem.take x.1)) ∧ St w M wr (Ent.blk g12 37 (gcs ((m.b.l.zip dem).take x.1)).toArray :: Ent.row x.2 3 1 x.1 (ints .i64 ((dem.take x.1).map askd)) :: Ent.blk g11 31 #[.int .i64 0] :: Ent.blk g10 34 #[.slice none 0 0] :: Ent.blk g 55 #[.pointer (some ⟨gb, 0, none⟩), .slice (some ⟨bC, oC, none⟩) m.b.l.length kc, .pointer none, .int .i64 m.last] :: Ent.blk gb 147 #[sv, so, .int .i64 m.b.now] :: Ent.row sv 149 6 m.b.l.length (m.b.chs.flatMap chC) :: Ent.row so 3 1 m.b.l.length (ints .i64 (natI (ordL m.b.l))) :: [])) (fun x => nd - x.1) (0, .slice none 0 0) J11 ⟨⟨Nat.zero_le _, by simp [okAs]⟩, hs⟩ ?_; clear hs; rintro ⟨i, av⟩ w7 ⟨⟨hi, hda⟩, hs⟩; refine V203 ?_
      (try dsimp only at hs)
      dsimp only at hi hda hs; obtain ⟨Av, cv, rfl, -, -, -⟩ := row_slv hs (j := 1) rfl; refine V121 ?_; refine Z.only [0, 1, 2, 3, 10, 11, 12, 13, 40, 41, 42, 43] rfl ?_; refine V210 ?_; refine Z.cond rfl (fun hc7 => ?_) (fun hc7 => ?_)
      · (try simp at hc7)
        obtain ⟨d, hd⟩ : ∃ d, dem[i]? = some d := ⟨_, List.getElem?_eq_getElem J5⟩; obtain ⟨ch, hch⟩ : ∃ c, m.b.l[i]? = some c := ⟨_, List.getElem?_eq_getElem J5⟩; have he : elt dem (i : Int) = d := by simp [elt, hd]
        obtain ⟨bD, oD, rfl, hD2⟩ := hD.some J70; have hcd : ∀ L W, Keep w M L W → W.cell? ⟨bD, oD + (i : Int).toNat * 1, none⟩ = some (.int .i64 d) := fun L W hW => by rw [← he]; exact Z.cellXi hD2 J5 J5 W hW
        have hgr := (hm.b.set.2.1 ch (List.mem_of_getElem? hch)).2.2.2.2; have hta : dem.take (i + 1) = dem.take i ++ [d] := by rw [List.take_add_one, hd]; rfl
        have htz : (m.b.l.zip dem).take (i + 1) = (m.b.l.zip dem).take i ++ [(ch, d)] := by
          have h7 : (m.b.l.zip dem)[i]? = some (ch, d) := by rw [List.getElem?_zip_eq_some]; exact ⟨hch, hd⟩
          rw [List.take_add_one, h7]
          rfl
        have hgb := grpS_bd (l := (m.b.l.zip dem).take i) J98 ch.gr; have hzl : ((m.b.l.zip dem).take i).length ≤ 10 := by rw [List.length_take, List.length_zip]; omega
        refine V454 ?_; refine V139 ?_; refine V31 ?_; refine V401 ?_; refine V858 ?_; refine V689 ?_; refine Z.ZO.callB rfl rfl (by rfl) rfl rfl call41 rfl (mx_must _ 2 _) ?_ ?_
        · skip
          rintro v9_6 w9_6 ⟨hm9, rfl, hy⟩; replace hs := U0 (hs.call hy); clear hy; have hd9 : 0 ≤ d ∧ d ≤ 8388608 := by simp at hm9; omega
          have had := askd_bd hd9; refine V857 ?_; refine V401 ?_; refine V858 ?_; refine V212 ?_; clear hs; intro ws hs; replace hs := U1 hs; refine V857 ?_; refine V263 ?_; refine V84 ?_; refine Z.only [0, 1, 2, 3, 10, 11, 12, 13, 15, 40, 41, 42, 68] rfl ?_; refine V6 ?_; refine Z.cutt (ι := Unit) [0, 1, 2, 3, 10, 11, 12, 13, 40, 41, 42] rfl (fun _ => [(15, [], .int .i64 (askd d))]) (fun _ wr => St w M wr (Ent.blk g12 37 (gcs ((m.b.l.zip dem).take (i + 1))).toArray :: Ent.row (.slice Av i cv) 3 1 i (ints .i64 ((dem.take i).map askd)) :: Ent.blk g11 31 #[.int .i64 0] :: Ent.blk g10 34 #[.slice none 0 0] :: Ent.blk g 55 #[.pointer (some ⟨gb, 0, none⟩), .slice (some ⟨bC, oC, none⟩) m.b.l.length kc, .pointer none, .int .i64 m.last] :: Ent.blk gb 147 #[sv, so, .int .i64 m.b.now] :: Ent.row sv 149 6 m.b.l.length (m.b.chs.flatMap chC) :: Ent.row so 3 1 m.b.l.length (ints .i64 (natI (ordL m.b.l))) :: [])) ?_ ?_
          · skip
            refine Z.cond rfl (fun hc11 => ?_) (fun hc11 => ?_)
            · (try simp at hc11)
              refine V93 ?_; refine V263 ?_; refine V6 ?_; rw [gcs_set _ _ _ hgr, ← htz] at hs; exact Z.meet () J44 hs
            (try simp at hc11)
            refine V361 ?_; rw [gcs_set _ _ _ hgr, ← htz] at hs; exact Z.meet () J44 hs
          clear hs; rintro _ w11 hs; refine V263 ?_; refine V42 ?_; refine V527 ?_; refine V57 ?_; clear hs; intro g73 w73 hs; refine V2 ?_; refine V39 ?_; clear hs; intro g74 cap74 w74 hs; replace hs := U3 hs; refine V1 ?_; refine V203 ?_; refine V332 ?_; refine V203 ?_; refine V6 ?_; have ea : ints .i64 ((dem.take i).map askd) ++ [.int .i64 (askd d)] = ints .i64 ((dem.take (i + 1)).map askd) := by rw [hta]; simp [ints]
          rw [ea] at hs; exact Z.again (i + 1, _) J102 ⟨⟨by simp only; omega, by rw [hta]; intro z hz; rcases List.mem_append.1 hz with h | h; exact hda z h; (obtain rfl : z = d := by simpa using h); exact hd9⟩, hs⟩ J22
        skip
        rintro c9_6 w9_6 ⟨hm9, rfl, hy⟩; replace hs := U0 (hs.call hy); clear hy; have hno : ¬ okPl m now n head dem := fun h => by have h1 := h.2.2.2 d (List.mem_of_getElem? hd); simp at hm9; omega
        replace hs := hs.sel [2, 3, 4, 5, 6, 7] J12
        repeat (first | refine Z.pthen ?_ | refine Z.pblock ?_ | refine Z.pscope ?_)
        refine V70 ?_; rintro vD wD ⟨rfl, hz⟩; replace hs := hs.regain hz; refine ⟨[_, _], J42, ?_⟩; exact ⟨_, rfl, hfail hno _ (hs.sub (List.sublist_append_right _ _))⟩
      (try simp at hc7)
      refine V181 ?_; refine V277 ?_; refine V38 ?_; refine V183 ?_; clear hs; intro ws hs; replace hs := U1 hs; refine V857 ?_; refine V568 ?_; refine V858 ?_; refine V245 ?_; refine V3 ?_; refine V385 ?_; refine V859 ?_; have hrd2 := plan_okT hm hrd; obtain ⟨ht1, ht2⟩ : (tickV m.b now).2 = 0 ∧ (tickV m.b now).1.now = now := by rw [tickV, if_pos hrd2]; exact ⟨rfl, rfl⟩
      have htk := hm.b.tick now; have htl := tickV_l m.b now; replace hs : St w M _ (bkE gb sv so m.b ++ [_, _, _, _, _]) := hs.sel [5, 6, 7, 0, 1, 2, 3, 4] J12; refine V2 ?_; refine Z.ZO.call rfl rfl (by rfl) rfl rfl call42 rfl (bk_tick gb sv so m.b now _ hs.lend hm.b) ?_; rintro v16_5 w16_5 ⟨rfl, hz⟩; replace hs := hs.regain hz; rw [ht1]; replace hs := U10 hs; refine V62 ?_; refine Z.ZO.call rfl rfl (by rfl) rfl rfl call41 rfl (mx_must_ok _ 2 _ J16) ?_; rintro v16_7 w16_7 ⟨rfl, hy⟩; replace hs := U0 (hs.call hy); clear hy; obtain rfl : i = nd := by omega
      rw [List.take_of_length_le J5] at hda; rw [List.take_of_length_le (l := dem) J5, List.take_of_length_le (l := m.b.l.zip dem) (by rw [List.length_zip]; omega)] at hs; have hok : okPl m now n head dem := ⟨hrd, h3.1, by omega, hda⟩; have hbl : (plD m now n head dem).1.l = m.b.l := by unfold plD; rw [(divV_l _ _ _).1, tickV_l]
      have hN := (plan_out hm hok).1; refine V857 ?_; refine V568 ?_; refine V125 ?_; refine V83 ?_; refine V857 ?_; refine Z.only [0, 1, 2, 3, 10, 11, 12, 13, 92] rfl ?_; refine V6 ?_; refine Z.cond rfl (fun h => absurd h J16) (fun hc17 => ?_); refine V47 ?_; refine V125 ?_; refine V384 ?_; refine V385 ?_; refine V11 ?_; have hpd : plD m now n head dem = divV (tickV m.b now).1 n (dem.map askd) := by unfold plD plN; rw [hup]; rfl
      have hdv : divV (tickV m.b now).1 n (dem.map askd) = ((plD m now n head dem).1, (plD m now n head dem).2.1, 0) := by
        have h8 := plan_okD hm hok; rw [show plN m now n head dem = n from by unfold plN; rw [hup]; rfl] at h8; rw [hpd, divV, if_pos h8]
      replace hs : St w M _ (bkE gb sv so (tickV m.b now).1 ++ [_, _, _, _, _]) := hs.sel [0, 1, 2, 3, 4, 5, 6, 7] J12; refine V2 ?_; refine Z.ZO.call rfl rfl (by rfl) rfl rfl call49 rfl (bk_divide gb sv so (tickV m.b now).1 n Av i cv (dem.map askd) _ hs.lend htk (Z.row_lentv hs (j := 1) rfl) (by rw [List.length_map]; omega)) ?_; rintro v20_6 w20_6 ⟨ov, rfl, hz⟩; replace hs := hs.regain hz; rw [hdv]; rw [hdv] at hs; replace hs := U10 hs; obtain ⟨Aw, cw, rfl, -, -, -⟩ := row_slv hs (j := 0) rfl; refine V527 ?_; refine Z.ZO.call rfl rfl (by rfl) rfl rfl call48 rfl (got_ok (mx_gotIs _ 0 _) rfl) ?_; rintro v20_9 w20_9 ⟨rfl, hy⟩; replace hs := U0 (hs.call hy); clear hy; refine V248 ?_; refine V296 ?_; refine V861 ?_
      refine Z.loopk (ι := Nat × Value) [10, 11, 124, 125] rfl (fun x => [(126, [], .int .i64 (x.1 : Int))]) (fun x wr => x.1 ≤ (plD m now n head dem).2.1.length ∧ St w M wr (Ent.row x.2 3 1 x.1 (ints .i64 (((plD m now n head dem).2.1.take x.1).map fun y => max 0 (y - 3))) :: Ent.row (.slice Aw (plD m now n head dem).2.1.length cw) 3 1 (plD m now n head dem).2.1.length (ints .i64 (plD m now n head dem).2.1) :: Ent.blk g11 31 #[.int .i64 0] :: Ent.blk g10 34 #[x.2] :: Ent.blk g 55 #[.pointer (some ⟨gb, 0, none⟩), .slice (some ⟨bC, oC, none⟩) m.b.l.length kc, .pointer none, .int .i64 now] :: Ent.blk gb 147 #[sv, so, .int .i64 (plD m now n head dem).1.now] :: Ent.row sv 149 6 (plD m now n head dem).1.l.length ((plD m now n head dem).1.chs.flatMap chC) :: Ent.row so 3 1 (plD m now n head dem).1.l.length (ints .i64 (natI (ordL (plD m now n head dem).1.l))) :: [])) (fun x => (plD m now n head dem).2.1.length - x.1) (0, .slice none 0 0) J6 ⟨Nat.zero_le _, by simpa [hbl, ints] using (hs.nil 3 1).sel [0, 1, 7, 8, 9, 2, 3, 4] J12⟩ ?_; clear hs; rintro ⟨k, vo⟩ w21 ⟨hk, hs⟩; refine V296 ?_
      (try dsimp only at hs)
      dsimp only at hk hs; obtain ⟨Ao, co, rfl, -, -, -⟩ := row_slv hs (j := 0) rfl; refine V0 ?_
      skip
      refine V18 ?_; refine V857 ?_; refine Z.only [10, 11, 124, 125, 126, 127] rfl ?_; refine V210 ?_; refine Z.cond rfl (fun hc21 => ?_) (fun hc21 => ?_)
      · (try simp at hc21)
        obtain ⟨gw, cw', e9, -, -⟩ := row_form (j := 1) hs rfl J5
        cases e9
        obtain ⟨y, hy0⟩ : ∃ y, (plD m now n head dem).2.1[k]? = some y := ⟨_, List.getElem?_eq_getElem J5⟩; have hyb := (plan_out hm hok).2 k (by have := (plan_out hm hok).1; omega); rw [show elt (plD m now n head dem).2.1 (k : Int) = y from by simp [elt, hy0]] at hyb; have hyc : (ints .i64 (plD m now n head dem).2.1)[0 + (k : Int).toNat * 1]? = some (.int .i64 y) := by
          rw [show 0 + (k : Int).toNat * 1 = k from by omega]; unfold ints; rw [List.getElem?_map, hy0]
          rfl
        refine V334 ?_; clear hs; intro g134 w134 hs; refine V2 ?_; refine V39 ?_; clear hs; intro g135 cap135 w135 hs; replace hs := U3 hs; refine V681 ?_; clear hs; intro ws hs; replace hs := U1 hs; refine V857 ?_; refine V296 ?_; refine V332 ?_; refine V296 ?_; refine V6 ?_; have ea : ints .i64 (((plD m now n head dem).2.1.take k).map fun y => max 0 (y - 3)) ++ [.int .i64 (max 0 (y - 3))] = ints .i64 (((plD m now n head dem).2.1.take (k + 1)).map fun y => max 0 (y - 3)) := by rw [List.take_add_one, hy0]; simp [ints]
        rw [ea] at hs; exact Z.again (k + 1, _) J8 ⟨by simp only; omega, hs⟩ J22
      (try simp at hc21)
      refine V181 ?_; obtain rfl : k = (plD m now n head dem).2.1.length := by omega
      rw [List.take_of_length_le (Nat.le_refl _)] at hs; refine V116 ?_; refine V681 ?_; clear hs; intro ws hs; replace hs := U1 hs; refine V451 ?_; clear hs; intro ws hs; replace hs := U1 hs; refine V857 ?_; refine Z.only [10, 11] rfl ?_; refine V90 ?_; refine Z.outDr call26 (mx_caught_ret g11 _ _ _) ?_; rintro vD wD ⟨rfl, hy⟩; replace hs := hs.call hy; refine ⟨[_, _], J42, ?_⟩; refine ⟨_, rfl, .slice Ao (plD m now n head dem).2.1.length co, ?_⟩; rw [planV, if_pos hok]; exact ⟨rfl, by simpa [maE, bkE, rvP, rpE, hup, hbl] using hs.sel [0, 4, 5, 6, 7] J12⟩
    skip
    rintro c3_16 w3_16 ⟨hm3, rfl, hy⟩; replace hs := U0 (hs.call hy); clear hy; have hno : ¬ okPl m now n head dem := fun h => by have h1 := h.2.1; have h2 := h.2.2.1; simp at hm3; omega
    repeat (first | refine Z.pthen ?_ | refine Z.pblock ?_ | refine Z.pscope ?_)
    refine V70 ?_; rintro vD wD ⟨rfl, hz⟩; replace hs := hs.regain hz; refine ⟨[_, _], J42, ?_⟩; exact ⟨_, rfl, hfail hno _ (hs.sub (List.sublist_append_right _ _))⟩
  skip
  rintro c2_3 w2_3 ⟨hrd, rfl, hy⟩; replace hs := U0 (hs.call hy); clear hy; have hno : ¬ okPl m now n head dem := fun h => hrd h.1
  repeat (first | refine Z.pthen ?_ | refine Z.pblock ?_ | refine Z.pscope ?_)
  refine V70 ?_; rintro vD wD ⟨rfl, hz⟩; replace hs := hs.regain hz; refine ⟨[_, _], J42, ?_⟩; exact ⟨_, rfl, hfail hno _ (hs.sub (List.sublist_append_right _ _))⟩

def BuR (g gb gr : Nat) (C : Option Addr) (kc : Nat) (sv so : Value) (X : MaV × List Int × Int) (M : List Nat) (w : World) (v : Value) (w' : World) : Prop := ∃ ov, v = .tuple #[ov, .int .i64 X.2.2] ∧ St w M w' (Ent.row ov 5 1 X.2.1.length (ints .u8 X.2.1) :: maE g gb gr C kc sv so X.1)
theorem buN_nn (r : List Prt) : 0 ≤ buN r := by
  unfold buN
  split
  · exact Int.le_refl _
  unfold needP; have h1 : ∀ l : List Prt, l ≠ [] → 0 ≤ totP l - extP (lastP l) := by
    intro l
    induction l with
    | nil => intro h; exact absurd rfl h
    | cons p l ih =>
      intro _; have hb := extP_bd p; rw [totP_cons]
      cases l with
      | nil => simp [totP, lastP]; omega
      | cons q l =>
        rw [lastP_cons J16]; have := ih J16
        omega
  exact h1 r J72
theorem bu_long {m : MaV} {now n : Int} {r : List Prt} (h : okBu m now n r) (h2 : n < buN r) : buildV m now n r = (m, [], 4) := by unfold buildV; rw [if_neg (fun k => k h), if_pos h2]
theorem bu_none {m : MaV} {now n : Int} {r : List Prt} (h : okBu m now n r) (h2 : buN r ≤ n) (h3 : (buE m now n r).2.1 ++ r = []) : buildV m now n r = (m, [], 10) := by unfold buildV; rw [if_neg (fun k => k h), if_neg J5, if_pos h3]
theorem bu_main {m : MaV} {now n : Int} {r : List Prt} (h : okBu m now n r) (h2 : buN r ≤ n) (h3 : (buE m now n r).2.1 ++ r ≠ []) : buildV m now n r = ({ m with r := (buE m now n r).1, last := now }, (bldV n ((buE m now n r).2.1 ++ r)).1, 0) := by unfold buildV; rw [if_neg (fun k => k h), if_neg J5, if_neg h3]
theorem comb {P : MpV → Prop} {qs : List PtV} {ps : List MpV} (h1 : ∀ q ∈ qs, P q.mp) (h2 : ∀ q ∈ ps, P q) : ∀ q ∈ qs.map PtV.mp ++ ps, P q := by
  intro q hq
  rcases List.mem_append.1 hq with h | h
  · obtain ⟨z, hz, rfl⟩ := List.mem_map.1 h
    exact h1 z hz
  exact h2 q h
def ctlG (p : Prt) : Prop := ¬ sduB p.1 ∧ ctlN p.1 ≠ 0 ∧ (p.2.length : Int) = ctlN p.1
theorem el_ctl (m : RpV) (room : Int) : ∀ p ∈ elP m room, ctlG p := by
  intro p hp; unfold elP elP1 at hp
  rcases List.mem_append.1 hp with h | h
  · split at h
    · obtain rfl : p = _ := by simpa using h
      unfold ctlG; simp only [encLc, encL_size]
      split <;> exact ⟨by unfold sduB; omega, by decide, rfl⟩
    simp at h
  split at h
  · obtain rfl : p = _ := by simpa using h
    exact ⟨by unfold sduB; omega, by show ctlN 26 ≠ 0; decide, rfl⟩
  simp at h
theorem vldP_ctl {r : List Prt} : ∀ {l : List Prt}, (∀ p ∈ l, ctlG p) → vldP false (l ++ r) = vldP false r
  | [], _ => rfl
  | p :: l, h => by
    obtain ⟨h1, h2, h3⟩ := h p J16; rw [List.cons_append, vldP_cons, if_neg h1, decide_eq_true h2, decide_eq_true h3, vldP_ctl fun q hq => h q (by simp [hq])]
    rfl
theorem totP_ctl : ∀ {l : List Prt}, (∀ p ∈ l, ctlG p) → totP l = bytesP l
  | [], _ => rfl
  | p :: l, h => by
    obtain ⟨h1, h2, h3⟩ := h p J16; have e : bytesP (p :: l) = (1 + (p.2.length : Int)) + bytesP l := by simp [bytesP]
    rw [totP_cons, e, ext_no h1, totP_ctl fun q hq => h q (by simp [hq])]
    omega
theorem lastP_ctl : ∀ {l : List Prt}, (∀ p ∈ l, ctlG p) → extP (lastP l) = 0
  | [], _ => rfl
  | [p], h => ext_no (h p J16).1
  | p :: q :: l, h => by
    rw [lastP_cons J16]; exact lastP_ctl fun x hx => h x (by simp only [List.mem_cons] at hx ⊢; exact .inr hx)
theorem need_ctl {l r : List Prt} (h : ∀ p ∈ l, ctlG p) : needP (l ++ r) = bytesP l + buN r := by
  unfold buN
  by_cases hr : r = []
  · subst hr
    rw [if_pos rfl, List.append_nil, needP, lastP_ctl h, totP_ctl h]
    omega
  rw [if_neg hr]; have e : lastP (l ++ r) = lastP r := by unfold lastP; rw [List.getLastD_eq_getLast?, List.getLastD_eq_getLast?, List.getLast?_append]; cases h9 : r.getLast? with
    | none => exact absurd (List.getLast?_eq_none_iff.1 h9) hr
    | some x => rfl
  unfold needP; rw [e, totP_app, totP_ctl h]
  omega
theorem buE_ctl {m : MaV} {now n : Int} {r : List Prt} : ∀ p ∈ (buE m now n r).2.1, ctlG p := by
  unfold buE
  split
  · unfold elsV
    split
    · exact el_ctl _ _
    intro p hp; cases hp
  intro p hp; cases hp
theorem buE_bytes {m : MaV} (hm : m.ok) {now n : Int} {r : List Prt} (h : okBu m now n r) (h2 : buN r ≤ n) : bytesP (buE m now n r).2.1 ≤ n - buN r := by
  unfold buE
  split
  · exact (els_bytes (r := m.r) (now := now) ⟨by have := hm.rn; have := h.1.2.1; omega, h.1.2.2⟩ J5).2
  simp [bytesP]; omega
theorem bu_fits {m : MaV} (hm : m.ok) {now n : Int} {r : List Prt} (h : okBu m now n r) (h2 : buN r ≤ n) (h3 : (buE m now n r).2.1 ++ r ≠ []) : (bldV n ((buE m now n r).2.1 ++ r)).2 = 0 := by
  refine bld_zero h.1.1 ⟨h3, by rw [vldP_ctl buE_ctl]; exact h.2.2⟩ ?_; rw [need_ctl buE_ctl]; have := buE_bytes hm h h2
  omega
theorem bu_arg {m : MaV} {now n : Int} {r : List Prt} (h : ¬ okBu m now n r) : buildV m now n r = (m, [], 2) := if_pos h
theorem mx_build_up (g gb gr : Nat) (C : Option Addr) (kc : Nat) (sv so : Value) (m : MaV) (now n : Int) (A : Option Addr) (nn c : Nat) (ps : List MpV) (w : World) (hs : St w (idsOf (maE g gb gr C kc sv so m)) w (maE g gb gr C kc sv so m)) (hm : m.ok) (hup : m.up = true)
    (hx : Sx w (idsOf (maE g gb gr C kc sv so m)) A (ps.flatMap MpV.cells)) (hB : ∀ q ∈ ps, Sx w (idsOf (maE g gb gr C kc sv so m)) q.B (ints .u8 q.l)) (hby : ∀ q ∈ ps, ∀ y ∈ q.l, 0 ≤ y ∧ y < 256) (hl : ps.length = nn) (hn : nn ≤ 90) (hf : ∀ q ∈ ps, q.l.length ≤ 100000) :
    Calls Tryz.prog 23 #[.pointer (some ⟨g, 0, none⟩), .int .i64 now, .int .i64 n, .slice A nn c] w (Ret fun v w' => BuR g gb gr C kc sv so (buildV m now n (ps.map MpV.plain)) (idsOf (maE g gb gr C kc sv so m)) w v w') := by
  generalize hM : idsOf (maE g gb gr C kc sv so m) = M at *; have hpos := hm.b.pos; obtain ⟨r, hr⟩ : ∃ r, ps.map MpV.plain = r := ⟨_, rfl⟩; have hrl : r.length = nn := by rw [← hr, List.length_map, hl]
  rw [hr]; replace hs : St w M w (Ent.blk g 55 #[.pointer (some ⟨gb, 0, none⟩), .slice C m.b.l.length kc, .pointer (some ⟨gr, 0, none⟩), .int .i64 m.last] :: Ent.blk gb 147 #[sv, so, .int .i64 m.b.now] :: Ent.row sv 149 6 m.b.l.length (m.b.chs.flatMap chC) :: Ent.row so 3 1 m.b.l.length (ints .i64 (natI (ordL m.b.l))) :: Ent.blk gr 157 m.r.cells.toArray :: []) := by simpa [maE, bkE, rvP, rpE, hup] using hs
  have hfail : ∀ e : Int, buildV m now n r = (m, [], e) → ∀ w', St w M w' (Ent.blk g 55 #[.pointer (some ⟨gb, 0, none⟩), .slice C m.b.l.length kc, .pointer (some ⟨gr, 0, none⟩), .int .i64 m.last] :: Ent.blk gb 147 #[sv, so, .int .i64 m.b.now] :: Ent.row sv 149 6 m.b.l.length (m.b.chs.flatMap chC) :: Ent.row so 3 1 m.b.l.length (ints .i64 (natI (ordL m.b.l))) :: Ent.blk gr 157 m.r.cells.toArray :: []) → BuR g gb gr C kc sv so (buildV m now n r) M w (.tuple #[.slice none 0 0, .int .i64 e]) w' := fun e he w' h => by
    rw [he]; exact ⟨_, rfl, St.nil J110 _ 1⟩
  refine Z.enterD func23 rfl ntmps23 rfl rfl ?_; refine V304 ?_; refine V238 ?_; clear hs; intro g8 w8 hs; refine V35 ?_; clear hs; intro g9 w9 hs; refine V857 ?_; refine V235 ?_; refine V858 ?_; refine V145 ?_; refine V857 ?_; refine V235 ?_; refine V333 ?_; refine V2 ?_; refine Z.ZO.callB rfl rfl (by rfl) rfl rfl call40 rfl (mx_ready g gb _ _ m now n _ (hs.celOf (cs := [_, _, _, _]) J0)) ?_ ?_
  · skip
    rintro v2_3 w2_3 ⟨hrd, rfl, hy⟩; replace hs := U0 (hs.call hy); clear hy
    skip
    refine V857 ?_; refine V235 ?_; refine V511 ?_; refine V311 ?_; refine V539 ?_; refine V233 ?_; refine V861 ?_; refine Z.loopk (ι := Nat) [0, 1, 2, 3, 8, 9, 10, 21, 22] rfl (fun i => [(23, [], .int .i64 (i : Int))]) (fun i wr => (i ≤ nn ∧ ∀ p ∈ r.take i, knowB m p.1 = true) ∧ St w M wr (Ent.blk g9 31 #[.int .i64 0] :: Ent.blk g8 48 #[.slice none 0 0] :: Ent.blk g 55 #[.pointer (some ⟨gb, 0, none⟩), .slice C m.b.l.length kc, .pointer (some ⟨gr, 0, none⟩), .int .i64 m.last] :: Ent.blk gb 147 #[sv, so, .int .i64 m.b.now] :: Ent.row sv 149 6 m.b.l.length (m.b.chs.flatMap chC) :: Ent.row so 3 1 m.b.l.length (ints .i64 (natI (ordL m.b.l))) :: Ent.blk gr 157 m.r.cells.toArray :: [])) (fun i => nn - i) 0 J6 ⟨⟨Nat.zero_le _, by simp⟩, hs⟩ ?_; clear hs; rintro i w5 ⟨⟨hi, hkn⟩, hs⟩; refine V233 ?_; refine V121 ?_; refine Z.only [0, 1, 2, 3, 8, 9, 10, 21, 22, 23, 24] rfl ?_; refine V210 ?_; refine Z.cond rfl (fun hc5 => ?_) (fun hc5 => ?_)
    · (try simp at hc5)
      obtain ⟨bA, oA, rfl, hx2⟩ := hx.some J69; obtain ⟨q, hqi⟩ : ∃ q, ps[i]? = some q := ⟨_, List.getElem?_eq_getElem J5⟩; have hone := mp_one q; have htk : r.take (i + 1) = r.take i ++ [q.plain] := by rw [← hr, plain_take hqi]
      refine V368 ?_; clear hs; intro g12 w12 hs; refine V860 ?_; clear hs; intro ws hs; replace hs := U1 hs; replace hs := U2 hs; refine V857 ?_; refine Z.only [0, 1, 2, 3, 8, 9, 10, 12, 21, 22, 23] rfl ?_; refine V210 ?_; refine Z.drawL [Ent.blk g12 77 q.cells.toArray, Ent.blk g 55 #[.pointer (some ⟨gb, 0, none⟩), .slice C m.b.l.length kc, .pointer (some ⟨gr, 0, none⟩), .int .i64 m.last]] (fun _ => true) mixed hs ?_; clear hs; intro wd7 hs; refine V140 ?_; rintro v7_6 w7_6 ⟨rfl, hy⟩; replace hs := U0 (hs.call hy); clear hy; refine V428 ?_; refine Z.ZO.callB rfl rfl (by rfl) rfl rfl call41 rfl (mx_must _ 2 _) ?_ ?_
      · skip
        rintro v8_1 w8_1 ⟨hm8, rfl, hy⟩; replace hs := U0 (hs.call hy); clear hy
        skip
        refine V857 ?_; refine V233 ?_; refine V332 ?_; refine V233 ?_; refine V6 ?_; exact Z.again (i + 1) J40 ⟨⟨by omega, by rw [htk]; intro p hp; rcases List.mem_append.1 hp with h | h; exact hkn p h; (obtain rfl : p = _ := by simpa using h); exact hm8⟩, hs.tl⟩ J5
      skip
      rintro c8_1 w8_1 ⟨hm8, rfl, hy⟩; replace hs := U0 (hs.call hy); clear hy; have he := bu_arg (r := r) (n := n) (now := now) (m := m) (fun h => by have h1 := h.2.1 q.plain J106; have h2 : (lvV m.b q.lc).2 = true := h1; rw [hm8] at h2; cases h2); replace hs := hs.tl
      repeat (first | refine Z.pthen ?_ | refine Z.pblock ?_ | refine Z.pscope ?_)
      refine V34 ?_; rintro vD wD ⟨rfl, hz⟩; replace hs := hs.regain hz; refine ⟨[_, _], J27, ?_⟩; exact ⟨_, rfl, hfail _ he _ (hs.sub (List.sublist_append_right _ _))⟩
    (try simp at hc5)
    refine V403 ?_; obtain rfl : i = nn := by omega
    rw [List.take_of_length_le J5] at hkn; refine V18 ?_; refine V275 ?_; refine Z.only [0, 1, 2, 3, 8, 9, 10, 42] rfl ?_; refine V6 ?_; refine Z.cutt (ι := Unit) [0, 1, 2, 3, 8, 9] rfl (fun _ => [(10, [], .int .i64 (buN r))]) (fun _ wr => vldP false r = true ∧ St w M wr (Ent.blk g9 31 #[.int .i64 0] :: Ent.blk g8 48 #[.slice none 0 0] :: Ent.blk g 55 #[.pointer (some ⟨gb, 0, none⟩), .slice C m.b.l.length kc, .pointer (some ⟨gr, 0, none⟩), .int .i64 m.last] :: Ent.blk gb 147 #[sv, so, .int .i64 m.b.now] :: Ent.row sv 149 6 m.b.l.length (m.b.chs.flatMap chC) :: Ent.row so 3 1 m.b.l.length (ints .i64 (natI (ordL m.b.l))) :: Ent.blk gr 157 m.r.cells.toArray :: [])) ?_ ?_
    · skip
      refine Z.cond rfl (fun hc10 => ?_) (fun hc10 => ?_)
      · (try simp at hc10)
        refine V509 ?_; rintro v11_1 w11_1 ⟨rfl, hy⟩; replace hs := U0 (hs.call hy); clear hy; rw [hr]; have hrn : r ≠ [] := fun h => by rw [h] at hrl; simp at hrl; omega
        refine V527 ?_; refine Z.ZO.callB rfl rfl (by rfl) rfl rfl call65 rfl (mx_gotI _ _ _) ?_ ?_
        · skip
          rintro v11_4 w11_4 ⟨hE, rfl, hy⟩; replace hs := U0 (hs.call hy); clear hy; have hno : okN r := by
            by_cases h : okN r
            · exact h
            rw [needV, if_neg h] at hE; cases hE
          have hbn : buN r = needP r := if_neg hrn; have hnv : needV r = (needP r, 0) := if_pos hno; rw [hnv]; refine V1 ?_; refine V311 ?_; refine V6 ?_; exact Z.meet () J123 ⟨hno.2, hs⟩
        skip
        rintro c11_4 w11_4 ⟨hE, rfl, hy⟩; replace hs := U0 (hs.call hy); clear hy; have hno : ¬ okN r := fun h => hE (by rw [needV, if_pos h])
        have he : buildV m now n r = (m, [], (needV r).2) := by rw [needV, if_neg hno]; exact bu_arg (fun h => hno ⟨hrn, h.2.2⟩)
        repeat (first | refine Z.pthen ?_ | refine Z.pblock ?_ | refine Z.pscope ?_)
        refine V34 ?_; rintro vD wD ⟨rfl, hz⟩; replace hs := hs.regain hz; refine ⟨[_, _], J27, ?_⟩; exact ⟨_, rfl, hfail _ he _ (hs.sub (List.sublist_append_right _ _))⟩
      (try simp at hc10)
      refine V361 ?_; obtain rfl : i = 0 := by omega
      obtain rfl : r = [] := List.eq_nil_of_length_eq_zero hrl; exact Z.meet () J14 ⟨rfl, hs⟩
    clear hs; rintro _ w10 ⟨hv, hs⟩; refine V311 ?_; refine V0 ?_; refine V625 ?_; refine Z.ZO.callB rfl rfl (by rfl) rfl rfl call41 rfl (mx_must _ 4 _) ?_ ?_
    · skip
      rintro v12_3 w12_3 ⟨hm12, rfl, hy⟩; replace hs := U0 (hs.call hy); clear hy; have hok : okBu m now n r := ⟨hrd, hkn, hv⟩; have hle : buN r ≤ n := by simpa using hm12
      have hnn := buN_nn r; have hn1 := hrd.1; refine V857 ?_; refine V311 ?_; refine V511 ?_; refine V322 ?_; refine V857 ?_; refine Z.only [0, 1, 2, 3, 8, 9, 10, 15, 56] rfl ?_; refine V6 ?_; refine Z.cond rfl (fun hc14 => ?_) (fun h => absurd h J16); refine V42 ?_; refine V245 ?_; refine V19 ?_; refine Z.l rfl rfl (by rfl) (Z.keepS hs) J51 ?_; refine V2 ?_; refine Z.ZO.call rfl rfl (by rfl) rfl rfl call46 rfl (rp_Copy gr m.r _ (hs.celOf J0)) ?_; rintro v15_4 w15_4 ⟨g2, rfl, hy⟩; replace hs := U0 (hs.call hy); clear hy; refine V50 ?_; refine V17 ?_; refine V2 ?_; refine Z.ZO.call rfl rfl (by rfl) rfl rfl call47 rfl (rp_elements g2 _ m.r now (n - buN r) _ (hs.lend (L1 := [_])) hm.r J5) ?_; rintro v15_9 w15_9 ⟨sve, qs, rfl, hqs, hz⟩; replace hs := hs.regain (L1 := [_]) hz; have hel := els_ok (r := m.r) (now := now) (n := n - buN r) ⟨by have := hm.rn; have := hrd.2.1; omega, hrd.2.2⟩ J5; rw [hel] at hs hqs ⊢; simp only [ptsL, List.cons_append, List.nil_append] at hs hqs; obtain ⟨Be, ce, rfl, hce, -, -⟩ := row_slv hs (j := 1) rfl; replace hs := St.rot (L1 := Ent.row _ 77 2 qs.length (qs.flatMap PtV.cells) :: qs.map PtV.row) hs.tl; replace hs := U6 hs; have hbe : (buE m now n r).2.1 = elP m.r (n - buN r) ∧ (buE m now n r).1 = elM m.r now (n - buN r) := by unfold buE; rw [hup, hel]; exact ⟨rfl, rfl⟩
      refine V527 ?_; refine Z.ZO.call rfl rfl (by rfl) rfl rfl call45 rfl (got_ok (mx_gotPt _ 0 _) rfl) ?_; rintro v15_12 w15_12 ⟨rfl, hy⟩; replace hs := U0 (hs.call hy); clear hy; have hbl : (buE m now n r).2.1.length = qs.length := by rw [hbe.1, ← hqs, List.length_map]
      have hpl : (qs.map PtV.mp ++ ps).map MpV.plain = (buE m now n r).2.1 ++ r := by rw [List.map_append, hr, hbe.1, ← hqs, List.map_map]; rfl
      have hql : qs.length ≤ 2 := by have h7 := congrArg List.length hqs; rw [List.length_map] at h7; have := elP_len m.r (n - buN r); omega
      refine V1 ?_; refine Z.only [0, 1, 2, 3, 8, 9, 10, 15] rfl ?_; refine V303 ?_; refine V27 ?_; refine V859 ?_; refine V27 ?_; refine V5 ?_; refine V62 ?_; refine Z.ZO.callB rfl rfl (by rfl) rfl rfl call41 rfl (mx_must _ 10 _) ?_ ?_
      · skip
        rintro v16_6 w16_6 ⟨hm16, rfl, hy⟩; replace hs := U0 (hs.call hy); clear hy; have hPn : (buE m now n r).2.1 ++ r ≠ [] := fun h => by
          have h7 := congrArg List.length h; rw [List.length_append, hbl, List.length_nil] at h7; simp at hm16
          omega
        refine V857 ?_; refine V322 ?_; refine V857 ?_; refine Z.only [0, 1, 2, 3, 8, 9, 10, 15, 81] rfl ?_; refine V6 ?_; refine Z.cond rfl (fun hc17 => ?_) (fun h => absurd h J16); refine V42 ?_; refine V245 ?_; refine V19 ?_; refine Z.l rfl rfl (by rfl) (Z.keepS hs) J51 ?_; refine V50 ?_; refine V17 ?_; replace hs : St w M _ ([_] ++ _) := hs.selT (L1 := [_, _, _, _, _, _, _]) [6, 0, 1, 2, 3, 4, 5] J12; refine V2 ?_; refine Z.ZO.call rfl rfl (by rfl) rfl rfl call47 rfl (rp_elements gr _ m.r now (n - buN r) _ (hs.lend (L1 := [_])) hm.r J5) ?_; rintro v18_8 w18_8 ⟨sv2, qs2, rfl, hqs2, hz⟩; replace hs := hs.regain (L1 := [_]) hz; rw [hel] at hs; simp only [ptsL, List.cons_append, List.nil_append] at hs; replace hs := hs.sub (((List.sublist_append_right _ _).cons _).cons_cons _); refine V857 ?_; refine Z.only [0, 1, 2, 3, 8, 9, 15] rfl ?_; refine V858 ?_; refine V277 ?_; refine V38 ?_; refine V183 ?_; clear hs; intro ws hs; replace hs := U1 hs; refine V857 ?_; refine Z.only [2, 3, 8, 9, 15] rfl ?_; refine V333 ?_; refine V27 ?_; refine V859 ?_; refine V27 ?_; refine Z.l rfl rfl (by rfl) (Z.keepS hs) (Z.Yd.cut3 0 qs.length qs.length rfl rfl rfl rfl underlying47 sizeOf77 (fun hG => ⟨J2, J2, J2, J2, J2⟩)) ?_; refine V859 ?_; rw [slA_zero]; refine V2 ?_
        refine Z.ZO.appendC (i0 := Tryz.t77) (size := 2) (bytes := 32) (olds := qs.flatMap PtV.cells) (news := ps.flatMap MpV.cells) rfl rfl (by rfl) hs underlying47 J3 rfl rfl rfl rfl J12 rfl rfl (fun h => SX.row_none hs (j := 7) rfl h) (by rw [Z.flat_length pt_sz]; rfl) (by exact hs.slm (A := Be) J0) (by rw [fl_len mp_len, hl]) (hx.st hs) (flat_one mp_one ps) J17 J5 ?_; intro Bz cz w8 hs8 _ hSl; clear hs; have hs := hs8; refine V2 ?_; refine Z.ZO.call rfl rfl (by rfl) rfl rfl call68 rfl (mc_Build n Bz _ cz (qs.map PtV.mp ++ ps) _ (by rw [List.flatMap_append, pt_mp]; exact hSl) J45 J5 (comb (P := fun q ↦ q.l.length ≤ 100000) (fun q hq ↦ by have h7 := elP_l3 m.r (n - buN r) q.plain J121; exact Nat.le_trans h7 J5) hf) (comb (P := fun q ↦ Sl _ q.B (ints .u8 q.l)) (fun q hq ↦ hs.slm (A := q.B) (List.mem_append_right [_, _, _, _, _, _, _, _] (List.mem_map_of_mem (f := PtV.row) hq))) (fun q hq ↦ (hB q hq).st hs)) (comb (P := fun q ↦ ∀ y ∈ q.l, 0 ≤ y ∧ y < 256) (fun q hq ↦ elP_byts m.r hm.r (n - buN r) q.plain J121) hby)) ?_; rintro v20_9 w20_9 ⟨svb, rfl, hy⟩; replace hs := U0 (hs.call hy); clear hy; have hz0 := bu_fits hm hok hle hPn; rw [hpl, hz0]; rw [hpl] at hs; obtain ⟨Bb, cb, rfl, -, -, -⟩ := row_slv hs (j := 0) rfl; refine V527 ?_; refine Z.ZO.call rfl rfl (by rfl) rfl rfl call67 rfl (got_ok (mx_gotBy _ 0 _) rfl) ?_; rintro v20_12 w20_12 ⟨rfl, hy⟩; replace hs := U0 (hs.call hy); clear hy; refine V595 ?_; clear hs; intro ws hs; replace hs := U1 hs
        refine V451 ?_; clear hs; intro ws hs; replace hs := U1 hs; refine V857 ?_; refine V503 ?_; refine Z.outDr call26 (mx_caught_ret g9 _ _ _) ?_; rintro vD wD ⟨rfl, hy⟩; replace hs := hs.call hy; refine ⟨[_, _], J27, ?_⟩; refine ⟨_, rfl, .slice Bb (bldV n ((buE m now n r).2.1 ++ r)).1.length cb, ?_⟩; rw [bu_main hok hle hPn]; exact ⟨rfl, by simpa [maE, bkE, rvP, rpE, hup, hbe.2] using hs.sel [0, 4, 5, 6, 7, 1] J12⟩
      skip
      rintro c16_6 w16_6 ⟨hm16, rfl, hy⟩; replace hs := U0 (hs.call hy); clear hy
      have he := bu_none hok hle (by
        have h7 : ((buE m now n r).2.1 ++ r).length = 0 := by rw [List.length_append, hbl]; simp at hm16; omega
        exact List.eq_nil_of_length_eq_zero h7)
      replace hs := hs.sel [0, 1, 2, 3, 4, 5, 6] J12
      repeat (first | refine Z.pthen ?_ | refine Z.pblock ?_ | refine Z.pscope ?_)
      refine V34 ?_; rintro vD wD ⟨rfl, hz⟩; replace hs := hs.regain hz; refine ⟨[_, _], J27, ?_⟩; exact ⟨_, rfl, hfail _ he _ (hs.sub (List.sublist_append_right _ _))⟩
    skip
    rintro c12_3 w12_3 ⟨hm12, rfl, hy⟩; replace hs := U0 (hs.call hy); clear hy; have hok : okBu m now n r := ⟨hrd, hkn, hv⟩; have he := bu_long hok (by simpa using hm12)
    repeat (first | refine Z.pthen ?_ | refine Z.pblock ?_ | refine Z.pscope ?_)
    refine V34 ?_; rintro vD wD ⟨rfl, hz⟩; replace hs := hs.regain hz; refine ⟨[_, _], J27, ?_⟩; exact ⟨_, rfl, hfail _ he _ (hs.sub (List.sublist_append_right _ _))⟩
  skip
  rintro c2_3 w2_3 ⟨hrd, rfl, hy⟩; replace hs := U0 (hs.call hy); clear hy; have he := bu_arg (r := r) (n := n) (now := now) (m := m) (fun h => hrd h.1)
  repeat (first | refine Z.pthen ?_ | refine Z.pblock ?_ | refine Z.pscope ?_)
  refine V34 ?_; rintro vD wD ⟨rfl, hz⟩; replace hs := hs.regain hz; refine ⟨[_, _], J27, ?_⟩; exact ⟨_, rfl, hfail _ he _ (hs.sub (List.sublist_append_right _ _))⟩
theorem mx_build_dn (g gb gr : Nat) (C : Option Addr) (kc : Nat) (sv so : Value) (m : MaV) (now n : Int) (A : Option Addr) (nn c : Nat) (ps : List MpV) (w : World) (hs : St w (idsOf (maE g gb gr C kc sv so m)) w (maE g gb gr C kc sv so m)) (hm : m.ok) (hup : m.up = false)
    (hx : Sx w (idsOf (maE g gb gr C kc sv so m)) A (ps.flatMap MpV.cells)) (hB : ∀ q ∈ ps, Sx w (idsOf (maE g gb gr C kc sv so m)) q.B (ints .u8 q.l)) (hby : ∀ q ∈ ps, ∀ y ∈ q.l, 0 ≤ y ∧ y < 256) (hl : ps.length = nn) (hn : nn ≤ 90) (hf : ∀ q ∈ ps, q.l.length ≤ 100000) :
    Calls Tryz.prog 23 #[.pointer (some ⟨g, 0, none⟩), .int .i64 now, .int .i64 n, .slice A nn c] w (Ret fun v w' => BuR g gb gr C kc sv so (buildV m now n (ps.map MpV.plain)) (idsOf (maE g gb gr C kc sv so m)) w v w') := by
  generalize hM : idsOf (maE g gb gr C kc sv so m) = M at *; have hpos := hm.b.pos; obtain ⟨r, hr⟩ : ∃ r, ps.map MpV.plain = r := ⟨_, rfl⟩; have hrl : r.length = nn := by rw [← hr, List.length_map, hl]
  rw [hr]; replace hs : St w M w (Ent.blk g 55 #[.pointer (some ⟨gb, 0, none⟩), .slice C m.b.l.length kc, .pointer none, .int .i64 m.last] :: Ent.blk gb 147 #[sv, so, .int .i64 m.b.now] :: Ent.row sv 149 6 m.b.l.length (m.b.chs.flatMap chC) :: Ent.row so 3 1 m.b.l.length (ints .i64 (natI (ordL m.b.l))) :: []) := by simpa [maE, bkE, rvP, rpE, hup] using hs
  have hfail : ∀ e : Int, buildV m now n r = (m, [], e) → ∀ w', St w M w' (Ent.blk g 55 #[.pointer (some ⟨gb, 0, none⟩), .slice C m.b.l.length kc, .pointer none, .int .i64 m.last] :: Ent.blk gb 147 #[sv, so, .int .i64 m.b.now] :: Ent.row sv 149 6 m.b.l.length (m.b.chs.flatMap chC) :: Ent.row so 3 1 m.b.l.length (ints .i64 (natI (ordL m.b.l))) :: []) → BuR g gb gr C kc sv so (buildV m now n r) M w (.tuple #[.slice none 0 0, .int .i64 e]) w' := fun e he w' h => by
    rw [he]; exact ⟨_, rfl, St.nil J110 _ 1⟩
  refine Z.enterD func23 rfl ntmps23 rfl rfl ?_; refine V304 ?_; refine V238 ?_; clear hs; intro g8 w8 hs; refine V35 ?_; clear hs; intro g9 w9 hs; refine V857 ?_; refine V235 ?_; refine V858 ?_; refine V145 ?_; refine V857 ?_; refine V235 ?_; refine V333 ?_; refine V2 ?_; refine Z.ZO.callB rfl rfl (by rfl) rfl rfl call40 rfl (mx_ready g gb _ _ m now n _ (hs.celOf (cs := [_, _, _, _]) J0)) ?_ ?_
  · skip
    rintro v2_3 w2_3 ⟨hrd, rfl, hy⟩; replace hs := U0 (hs.call hy); clear hy
    skip
    refine V857 ?_; refine V235 ?_; refine V511 ?_; refine V311 ?_; refine V539 ?_; refine V233 ?_; refine V861 ?_; refine Z.loopk (ι := Nat) [0, 1, 2, 3, 8, 9, 10, 21, 22] rfl (fun i => [(23, [], .int .i64 (i : Int))]) (fun i wr => (i ≤ nn ∧ ∀ p ∈ r.take i, knowB m p.1 = true) ∧ St w M wr (Ent.blk g9 31 #[.int .i64 0] :: Ent.blk g8 48 #[.slice none 0 0] :: Ent.blk g 55 #[.pointer (some ⟨gb, 0, none⟩), .slice C m.b.l.length kc, .pointer none, .int .i64 m.last] :: Ent.blk gb 147 #[sv, so, .int .i64 m.b.now] :: Ent.row sv 149 6 m.b.l.length (m.b.chs.flatMap chC) :: Ent.row so 3 1 m.b.l.length (ints .i64 (natI (ordL m.b.l))) :: [])) (fun i => nn - i) 0 J6 ⟨⟨Nat.zero_le _, by simp⟩, hs⟩ ?_; clear hs; rintro i w5 ⟨⟨hi, hkn⟩, hs⟩; refine V233 ?_; refine V121 ?_; refine Z.only [0, 1, 2, 3, 8, 9, 10, 21, 22, 23, 24] rfl ?_; refine V210 ?_; refine Z.cond rfl (fun hc5 => ?_) (fun hc5 => ?_)
    · (try simp at hc5)
      obtain ⟨bA, oA, rfl, hx2⟩ := hx.some J69; obtain ⟨q, hqi⟩ : ∃ q, ps[i]? = some q := ⟨_, List.getElem?_eq_getElem J5⟩; have hone := mp_one q; have htk : r.take (i + 1) = r.take i ++ [q.plain] := by rw [← hr, plain_take hqi]
      refine V368 ?_; clear hs; intro g12 w12 hs; refine V860 ?_; clear hs; intro ws hs; replace hs := U1 hs; replace hs := U2 hs; refine V857 ?_; refine Z.only [0, 1, 2, 3, 8, 9, 10, 12, 21, 22, 23] rfl ?_; refine V210 ?_; refine Z.drawL [Ent.blk g12 77 q.cells.toArray, Ent.blk g 55 #[.pointer (some ⟨gb, 0, none⟩), .slice C m.b.l.length kc, .pointer none, .int .i64 m.last]] (fun _ => true) mixed hs ?_; clear hs; intro wd7 hs; refine V140 ?_; rintro v7_6 w7_6 ⟨rfl, hy⟩; replace hs := U0 (hs.call hy); clear hy; refine V428 ?_; refine Z.ZO.callB rfl rfl (by rfl) rfl rfl call41 rfl (mx_must _ 2 _) ?_ ?_
      · skip
        rintro v8_1 w8_1 ⟨hm8, rfl, hy⟩; replace hs := U0 (hs.call hy); clear hy
        skip
        refine V857 ?_; refine V233 ?_; refine V332 ?_; refine V233 ?_; refine V6 ?_; exact Z.again (i + 1) J40 ⟨⟨by omega, by rw [htk]; intro p hp; rcases List.mem_append.1 hp with h | h; exact hkn p h; (obtain rfl : p = _ := by simpa using h); exact hm8⟩, hs.tl⟩ J5
      skip
      rintro c8_1 w8_1 ⟨hm8, rfl, hy⟩; replace hs := U0 (hs.call hy); clear hy; have he := bu_arg (r := r) (n := n) (now := now) (m := m) (fun h => by have h1 := h.2.1 q.plain J106; have h2 : (lvV m.b q.lc).2 = true := h1; rw [hm8] at h2; cases h2); replace hs := hs.tl
      repeat (first | refine Z.pthen ?_ | refine Z.pblock ?_ | refine Z.pscope ?_)
      refine V34 ?_; rintro vD wD ⟨rfl, hz⟩; replace hs := hs.regain hz; refine ⟨[_, _], J27, ?_⟩; exact ⟨_, rfl, hfail _ he _ (hs.sub (List.sublist_append_right _ _))⟩
    (try simp at hc5)
    refine V403 ?_; obtain rfl : i = nn := by omega
    rw [List.take_of_length_le J5] at hkn; refine V18 ?_; refine V275 ?_; refine Z.only [0, 1, 2, 3, 8, 9, 10, 42] rfl ?_; refine V6 ?_; refine Z.cutt (ι := Unit) [0, 1, 2, 3, 8, 9] rfl (fun _ => [(10, [], .int .i64 (buN r))]) (fun _ wr => vldP false r = true ∧ St w M wr (Ent.blk g9 31 #[.int .i64 0] :: Ent.blk g8 48 #[.slice none 0 0] :: Ent.blk g 55 #[.pointer (some ⟨gb, 0, none⟩), .slice C m.b.l.length kc, .pointer none, .int .i64 m.last] :: Ent.blk gb 147 #[sv, so, .int .i64 m.b.now] :: Ent.row sv 149 6 m.b.l.length (m.b.chs.flatMap chC) :: Ent.row so 3 1 m.b.l.length (ints .i64 (natI (ordL m.b.l))) :: [])) ?_ ?_
    · skip
      refine Z.cond rfl (fun hc10 => ?_) (fun hc10 => ?_)
      · (try simp at hc10)
        refine V509 ?_; rintro v11_1 w11_1 ⟨rfl, hy⟩; replace hs := U0 (hs.call hy); clear hy; rw [hr]; have hrn : r ≠ [] := fun h => by rw [h] at hrl; simp at hrl; omega
        refine V527 ?_; refine Z.ZO.callB rfl rfl (by rfl) rfl rfl call65 rfl (mx_gotI _ _ _) ?_ ?_
        · skip
          rintro v11_4 w11_4 ⟨hE, rfl, hy⟩; replace hs := U0 (hs.call hy); clear hy; have hno : okN r := by
            by_cases h : okN r
            · exact h
            rw [needV, if_neg h] at hE; cases hE
          have hbn : buN r = needP r := if_neg hrn; have hnv : needV r = (needP r, 0) := if_pos hno; rw [hnv]; refine V1 ?_; refine V311 ?_; refine V6 ?_; exact Z.meet () J123 ⟨hno.2, hs⟩
        skip
        rintro c11_4 w11_4 ⟨hE, rfl, hy⟩; replace hs := U0 (hs.call hy); clear hy; have hno : ¬ okN r := fun h => hE (by rw [needV, if_pos h])
        have he : buildV m now n r = (m, [], (needV r).2) := by rw [needV, if_neg hno]; exact bu_arg (fun h => hno ⟨hrn, h.2.2⟩)
        repeat (first | refine Z.pthen ?_ | refine Z.pblock ?_ | refine Z.pscope ?_)
        refine V34 ?_; rintro vD wD ⟨rfl, hz⟩; replace hs := hs.regain hz; refine ⟨[_, _], J27, ?_⟩; exact ⟨_, rfl, hfail _ he _ (hs.sub (List.sublist_append_right _ _))⟩
      (try simp at hc10)
      refine V361 ?_; obtain rfl : i = 0 := by omega
      obtain rfl : r = [] := List.eq_nil_of_length_eq_zero hrl; exact Z.meet () J14 ⟨rfl, hs⟩
    clear hs; rintro _ w10 ⟨hv, hs⟩; refine V311 ?_; refine V0 ?_; refine V625 ?_; refine Z.ZO.callB rfl rfl (by rfl) rfl rfl call41 rfl (mx_must _ 4 _) ?_ ?_
    · skip
      rintro v12_3 w12_3 ⟨hm12, rfl, hy⟩; replace hs := U0 (hs.call hy); clear hy; have hok : okBu m now n r := ⟨hrd, hkn, hv⟩; have hle : buN r ≤ n := by simpa using hm12
      have hnn := buN_nn r; have hn1 := hrd.1; refine V857 ?_; refine V311 ?_; refine V511 ?_; refine V322 ?_; refine V857 ?_; refine Z.only [0, 1, 2, 3, 8, 9, 10, 15, 56] rfl ?_; refine V6 ?_; refine Z.cond rfl (fun h => absurd h J16) (fun hc14 => ?_); refine V862 ?_; obtain ⟨qs, hq0⟩ : ∃ qs : List PtV, qs = [] := ⟨_, rfl⟩; have hqs : qs.map PtV.plain = [] := by rw [hq0]; rfl
      have hbe : (buE m now n r).2.1 = [] ∧ (buE m now n r).1 = m.r := by unfold buE; rw [hup]; exact ⟨rfl, rfl⟩
      have hbl : (buE m now n r).2.1.length = qs.length := by rw [hbe.1, hq0]; rfl
      have hpl : (qs.map PtV.mp ++ ps).map MpV.plain = (buE m now n r).2.1 ++ r := by rw [List.map_append, hr, hbe.1, hq0]; rfl
      have hql : qs.length = 0 := by rw [hq0]; rfl
      refine V18 ?_; refine V27 ?_; refine V859 ?_; refine V27 ?_; refine V5 ?_; refine V62 ?_; refine Z.ZO.callB rfl rfl (by rfl) rfl rfl call41 rfl (mx_must _ 10 _) ?_ ?_
      · skip
        rintro v16_6 w16_6 ⟨hm16, rfl, hy⟩; replace hs := U0 (hs.call hy); clear hy; have hPn : (buE m now n r).2.1 ++ r ≠ [] := fun h => by
          have h7 := congrArg List.length h; rw [List.length_append, hbl, List.length_nil] at h7; simp at hm16
          omega
        refine V857 ?_; refine V322 ?_; refine V857 ?_; refine Z.only [0, 1, 2, 3, 8, 9, 10, 15, 81] rfl ?_; refine V6 ?_; refine Z.cond rfl (fun h => absurd h J16) (fun hc17 => ?_); refine V862 ?_; refine V277 ?_; refine V38 ?_; refine V183 ?_; clear hs; intro ws hs; replace hs := U1 hs; refine V857 ?_; refine Z.only [2, 3, 8, 9, 15] rfl ?_; refine V333 ?_; refine V27 ?_; refine V859 ?_; refine V27 ?_; refine Z.l rfl rfl (by rfl) (Z.keepS hs) (Z.Yd.cut3 0 0 0 rfl rfl rfl rfl underlying47 sizeOf77 (fun hG => ⟨J2, J2, J2, J2, J2⟩)) ?_; refine V859 ?_; rw [slA_zero]; refine V2 ?_; refine Z.ZO.appendC (i0 := Tryz.t77) (size := 2) (bytes := 32) (olds := qs.flatMap PtV.cells) (news := ps.flatMap MpV.cells) rfl rfl (by rfl) hs underlying47 J3 rfl rfl rfl rfl J12 rfl rfl (fun _ => rfl) (by rw [hq0]; rfl) (by rw [hq0]; exact sl_nil) (by rw [fl_len mp_len, hl]) (hx.st hs) (flat_one mp_one ps) J17 J5 ?_; intro Bz cz w8 hs8 _ hSl; clear hs; have hs := hs8; refine V2 ?_; refine Z.ZO.call rfl rfl (by rfl) rfl rfl call68 rfl (mc_Build n Bz _ cz (qs.map PtV.mp ++ ps) _ (by rw [List.flatMap_append, pt_mp]; exact hSl) J45 J5 (comb (P := fun q ↦ q.l.length ≤ 100000) (fun q hq ↦ by rw [hq0] at hq; cases hq) hf) (comb (P := fun q ↦ Sl _ q.B (ints .u8 q.l)) (fun q hq ↦ by rw [hq0] at hq; cases hq) (fun q hq ↦ (hB q hq).st hs)) (comb (P := fun q ↦ ∀ y ∈ q.l, 0 ≤ y ∧ y < 256) (fun q hq ↦ by rw [hq0] at hq; cases hq) hby)) ?_; rintro v20_9 w20_9 ⟨svb, rfl, hy⟩
        replace hs := U0 (hs.call hy); clear hy; have hz0 := bu_fits hm hok hle hPn; rw [hpl, hz0]; rw [hpl] at hs; obtain ⟨Bb, cb, rfl, -, -, -⟩ := row_slv hs (j := 0) rfl; refine V527 ?_; refine Z.ZO.call rfl rfl (by rfl) rfl rfl call67 rfl (got_ok (mx_gotBy _ 0 _) rfl) ?_; rintro v20_12 w20_12 ⟨rfl, hy⟩; replace hs := U0 (hs.call hy); clear hy; refine V595 ?_; clear hs; intro ws hs; replace hs := U1 hs; refine V451 ?_; clear hs; intro ws hs; replace hs := U1 hs; refine V857 ?_; refine V503 ?_; refine Z.outDr call26 (mx_caught_ret g9 _ _ _) ?_; rintro vD wD ⟨rfl, hy⟩; replace hs := hs.call hy; refine ⟨[_, _], J27, ?_⟩; refine ⟨_, rfl, .slice Bb (bldV n ((buE m now n r).2.1 ++ r)).1.length cb, ?_⟩; rw [bu_main hok hle hPn]; exact ⟨rfl, by simpa [maE, bkE, rvP, rpE, hup, hbe.2] using hs.sel [0, 3, 4, 5, 6] J12⟩
      skip
      rintro c16_6 w16_6 ⟨hm16, rfl, hy⟩; replace hs := U0 (hs.call hy); clear hy
      have he := bu_none hok hle (by
        have h7 : ((buE m now n r).2.1 ++ r).length = 0 := by rw [List.length_append, hbl]; simp at hm16; omega
        exact List.eq_nil_of_length_eq_zero h7)
      skip
      repeat (first | refine Z.pthen ?_ | refine Z.pblock ?_ | refine Z.pscope ?_)
      refine V34 ?_; rintro vD wD ⟨rfl, hz⟩; replace hs := hs.regain hz; refine ⟨[_, _], J27, ?_⟩; exact ⟨_, rfl, hfail _ he _ (hs.sub (List.sublist_append_right _ _))⟩
    skip
    rintro c12_3 w12_3 ⟨hm12, rfl, hy⟩; replace hs := U0 (hs.call hy); clear hy; have hok : okBu m now n r := ⟨hrd, hkn, hv⟩; have he := bu_long hok (by simpa using hm12)
    repeat (first | refine Z.pthen ?_ | refine Z.pblock ?_ | refine Z.pscope ?_)
    refine V34 ?_; rintro vD wD ⟨rfl, hz⟩; replace hs := hs.regain hz; refine ⟨[_, _], J27, ?_⟩; exact ⟨_, rfl, hfail _ he _ (hs.sub (List.sublist_append_right _ _))⟩
  skip
  rintro c2_3 w2_3 ⟨hrd, rfl, hy⟩; replace hs := U0 (hs.call hy); clear hy; have he := bu_arg (r := r) (n := n) (now := now) (m := m) (fun h => hrd h.1)
  repeat (first | refine Z.pthen ?_ | refine Z.pblock ?_ | refine Z.pscope ?_)
  refine V34 ?_; rintro vD wD ⟨rfl, hz⟩; replace hs := hs.regain hz; refine ⟨[_, _], J27, ?_⟩; exact ⟨_, rfl, hfail _ he _ (hs.sub (List.sublist_append_right _ _))⟩

def EnX (w : World) (M : List Nat) (g gb : Nat) (m : MaV) : Prop := ∃ ch rv lv A c B d, Sx w M (some ⟨g, 0, none⟩) [.pointer (some ⟨gb, 0, none⟩), ch, rv, lv] ∧ Sx w M (some ⟨gb, 0, none⟩) [.slice A m.b.l.length c, .slice B m.b.l.length d, .int .i64 m.b.now] ∧ Sx w M A (m.b.chs.flatMap chC) ∧ Sx w M B (ints .i64 (natI (ordL m.b.l)))
theorem cel_sl {w : World} {g : Nat} {cs : List Value} (h : Sl w (some ⟨g, 0, none⟩) cs) (hp : 0 < cs.length) : Cel w g cs := by
  obtain ⟨b, off, e, hb, hc⟩ := h hp; simp only [Option.some.injEq, Addr.mk.injEq, and_true] at e; obtain ⟨rfl, rfl⟩ := e; exact ⟨hb, fun i u hu => by have := hc i u hu; rwa [Nat.zero_add] at this⟩
theorem EnX.bk {w W : World} {M : List Nat} {L : List Ent} {g gb : Nat} {m : MaV} (h : EnX w M g gb m) (hW : St w M W L) : BkR W gb m.b := by
  obtain ⟨ch, rv, lv, A, c, B, d, h1, h2, h3, h4⟩ := h; exact ⟨A, c, B, d, cel_sl (h2.st hW) J16, h3.st hW, h4.st hW⟩
theorem EnX.cel {w W : World} {M : List Nat} {L : List Ent} {g gb : Nat} {m : MaV} (h : EnX w M g gb m) (hW : St w M W L) : ∃ ch rv lv, Cel W g [.pointer (some ⟨gb, 0, none⟩), ch, rv, lv] := by
  obtain ⟨ch, rv, lv, A, c, B, d, h1, h2, h3, h4⟩ := h; exact ⟨ch, rv, lv, cel_sl (h1.st hW) J16⟩
theorem EnX.lent {w W : World} {M : List Nat} {L1 L2 : List Ent} {g gb : Nat} {m : MaV} (h : EnX w M g gb m) (hW : St w M W (L1 ++ L2)) : EnX W (idsOf L1) g gb m := by
  obtain ⟨ch, rv, lv, A, c, B, d, h1, h2, h3, h4⟩ := h; exact ⟨ch, rv, lv, A, c, B, d, h1.lent hW, h2.lent hW, h3.lent hW, h4.lent hW⟩
def ctE (gc g : Nat) (s0 s1 s2 s3 : Value) (xs : List MpV) (x : CtV) : List Ent := [Ent.blk gc 117 #[.pointer (some ⟨g, 0, none⟩), s0, s1, s2, s3], Ent.row s0 77 2 xs.length (xs.flatMap MpV.cells), Ent.row s1 86 6 x.rp.length (x.rp.flatMap RepV.cells), Ent.row s2 3 1 x.pw.length (ints .i64 x.pw), Ent.row s3 123 1 x.id.length (ints .u64 x.id)]
theorem mx_power (gc g : Nat) (s0 s1 s2 s3 : Value) (xs : List MpV) (x : CtV) (q : MpV) (w : World) (hs : St w (idsOf (ctE gc g s0 s1 s2 s3 xs x)) w (ctE gc g s0 s1 s2 s3 xs x)) (hq : Sx w (idsOf (ctE gc g s0 s1 s2 s3 xs x)) q.B (ints .u8 q.l)) (hqb : Byts q.l) (hql : q.l.length ≤ 1000000) (hxl : x.pw.length ≤ 100000) :
    Calls Tryz.prog 51 #[.pointer (some ⟨gc, 0, none⟩), .agg q.cells.toArray] w (Z.Bo (fun v w' => powE q.lc q.l = 0 ∧ v = .tuple #[] ∧ ∃ s', St w (idsOf (ctE gc g s0 s1 s2 s3 xs x)) w' (ctE gc g s0 s1 s' s3 xs { x with pw := x.pw ++ [powV q.lc q.l] })) fun c w' => powE q.lc q.l ≠ 0 ∧ c = mperr (powE q.lc q.l) ∧ St w (idsOf (ctE gc g s0 s1 s2 s3 xs x)) w' (ctE gc g s0 s1 s2 s3 xs x)) := by
  generalize hM : idsOf (ctE gc g s0 s1 s2 s3 xs x) = M at *; unfold ctE at hs; obtain ⟨A3, c3, rfl, -, -, -⟩ := row_slv hs (j := 3) rfl; have hone := mp_one q; refine Z.enter func51 rfl ntmps51 rfl rfl ?_; refine V91 ?_; clear hs; intro g3 w3 hs; refine V857 ?_; refine V269 ?_; refine V6 ?_; refine Z.drawP [Ent.blk g3 77 q.cells.toArray, Ent.blk gc 117 #[.pointer (some ⟨g, 0, none⟩), s0, s1, .slice A3 x.pw.length c3, s3]] (fun j => j != 16) mixed hs ?_; clear hs; intro wd1 hs; refine V59 ?_; refine Z.tXP 4 [4, 5, 12, 13, 14, 15, 16] (fun _ _ _ _ _ h => h) rfl rfl rfl (by rfl) J3 (Jk hs) (Z.Yd.fieldA (m := 2) rfl J3) ?_; refine Z.tXP 5 [5, 12, 13, 14, 15, 16] (fun _ _ _ _ _ h => h) rfl rfl rfl (by rfl) J3 (Jk hs) J30 ?_; refine V146 ?_; refine Z.ZO.call rfl rfl (by rfl) rfl rfl call102 rfl (decpow_any q.lc q.B _ q.c q.l _ (hq.st hs).sx rfl hql hqb) ?_; rintro v1_7 w1_7 ⟨rfl, hy⟩; replace hs := U0 (hs.call hy); clear hy; refine V89 ?_; refine Z.ZO.callB rfl rfl (by rfl) rfl rfl call65 rfl (mx_gotI _ _ _) ?_ ?_
  · skip
    rintro v1_10 w1_10 ⟨hE, rfl, hy⟩; replace hs := U0 (hs.call hy); clear hy
    skip
    refine V326 ?_; refine V57 ?_; clear hs; intro g15 w15 hs; refine V327 ?_; refine V39 ?_; clear hs; intro g16 cap16 w16 hs; replace hs := U3 hs; refine V95 ?_; refine Z.tXP 15 [15, 16] (fun _ _ _ _ _ h => h) rfl rfl rfl (by rfl) J3 (Jk hs) (Z.Yd.fieldA (m := 2) rfl J3) ?_; refine Z.tnP 16 rfl rfl J3 rfl trivial ?_; refine V113 ?_; clear hs; intro ws hs; replace hs := U1 hs; refine V312 ?_; exact .inl ⟨_, rfl, hE, rfl, _, by simpa [ctE, ints, RepV.cells] using hs.tl⟩
  skip
  rintro c1_10 w1_10 ⟨hE, rfl, hy⟩; replace hs := U0 (hs.call hy); clear hy
  skip
  refine V309 ?_; exact .inr ⟨_, rfl, hE, rfl, hs.tl⟩
theorem mx_ident (gc g : Nat) (s0 s1 s2 s3 : Value) (xs : List MpV) (x : CtV) (q : MpV) (w : World) (hs : St w (idsOf (ctE gc g s0 s1 s2 s3 xs x)) w (ctE gc g s0 s1 s2 s3 xs x)) (hq : Sx w (idsOf (ctE gc g s0 s1 s2 s3 xs x)) q.B (ints .u8 q.l)) (hqb : Byts q.l) (hql : q.l.length ≤ 1000000) (hxl : x.id.length ≤ 100000) :
    Calls Tryz.prog 52 #[.pointer (some ⟨gc, 0, none⟩), .agg q.cells.toArray] w (Z.Bo (fun v w' => idE q.lc q.l = 0 ∧ v = .tuple #[] ∧ ∃ s', St w (idsOf (ctE gc g s0 s1 s2 s3 xs x)) w' (ctE gc g s0 s1 s2 s' xs { x with id := x.id ++ [idV q.lc q.l] })) fun c w' => idE q.lc q.l ≠ 0 ∧ c = mperr (idE q.lc q.l) ∧ St w (idsOf (ctE gc g s0 s1 s2 s3 xs x)) w' (ctE gc g s0 s1 s2 s3 xs x)) := by
  generalize hM : idsOf (ctE gc g s0 s1 s2 s3 xs x) = M at *; unfold ctE at hs; obtain ⟨A4, c4, rfl, -, -, -⟩ := row_slv hs (j := 4) rfl; have hone := mp_one q; refine Z.enter func52 rfl ntmps52 rfl rfl ?_; refine V91 ?_; clear hs; intro g3 w3 hs; refine V857 ?_; refine V269 ?_; refine V6 ?_; refine Z.drawP [Ent.blk g3 77 q.cells.toArray, Ent.blk gc 117 #[.pointer (some ⟨g, 0, none⟩), s0, s1, s2, .slice A4 x.id.length c4]] (fun j => j != 16) mixed hs ?_; clear hs; intro wd1 hs; refine V59 ?_; refine Z.tXP 4 [4, 5, 12, 13, 14, 15, 16] (fun _ _ _ _ _ h => h) rfl rfl rfl (by rfl) J3 (Jk hs) (Z.Yd.fieldA (m := 3) rfl J3) ?_; refine Z.tXP 5 [5, 12, 13, 14, 15, 16] (fun _ _ _ _ _ h => h) rfl rfl rfl (by rfl) J3 (Jk hs) J63 ?_; refine V146 ?_; refine Z.ZO.call rfl rfl (by rfl) rfl rfl call104 rfl (decid_any q.lc q.B _ q.c q.l _ (hq.st hs).sx rfl J5 hqb) ?_; rintro v1_7 w1_7 ⟨rfl, hy⟩; replace hs := U0 (hs.call hy); clear hy; refine V89 ?_; refine Z.ZO.callB rfl rfl (by rfl) rfl rfl call103 rfl (mx_gotU _ _ _) ?_ ?_
  · skip
    rintro v1_10 w1_10 ⟨hE, rfl, hy⟩; replace hs := U0 (hs.call hy); clear hy
    skip
    refine V326 ?_; refine Z.ZO.litL (T' := 123) [(0, 1)] [.int .u64 0] rfl rfl (by rfl) rfl rfl J19 hs ?_; clear hs; intro g15 w15 hs; refine V327 ?_; refine V250 ?_; clear hs; intro g16 cap16 w16 hs; replace hs := U3 hs; refine V95 ?_; refine Z.tXP 15 [15, 16] (fun _ _ _ _ _ h => h) rfl rfl rfl (by rfl) J3 (Jk hs) (Z.Yd.fieldA (m := 3) rfl J3) ?_; refine Z.tnP 16 rfl rfl J3 rfl trivial ?_; refine Z.ZO.store rfl rfl hs sizeOf59 rfl rfl rfl J1 J9 ?_; clear hs; intro ws hs; replace hs := U1 hs; refine V312 ?_; exact .inl ⟨_, rfl, hE, rfl, _, by simpa [ctE, ints, RepV.cells] using hs.tl⟩
  skip
  rintro c1_10 w1_10 ⟨hE, rfl, hy⟩; replace hs := U0 (hs.call hy); clear hy
  skip
  refine V309 ?_; exact .inr ⟨_, rfl, hE, rfl, hs.tl⟩
theorem mx_status (gc g : Nat) (s0 s1 s2 s3 : Value) (xs : List MpV) (x : CtV) (q : MpV) (w : World) (hs : St w (idsOf (ctE gc g s0 s1 s2 s3 xs x)) w (ctE gc g s0 s1 s2 s3 xs x)) (hq : Sx w (idsOf (ctE gc g s0 s1 s2 s3 xs x)) q.B (ints .u8 q.l)) (hqb : Byts q.l) (hql : q.l.length ≤ 1000000) (hxl : x.rp.length ≤ 100000) :
    Calls Tryz.prog 53 #[.pointer (some ⟨gc, 0, none⟩), .agg q.cells.toArray] w (Z.Bo (fun v w' => repE q.lc q.l = 0 ∧ v = .tuple #[] ∧ ∃ s', St w (idsOf (ctE gc g s0 s1 s2 s3 xs x)) w' (ctE gc g s0 s' s2 s3 xs { x with rp := x.rp ++ [repV q.lc q.l] })) fun c w' => repE q.lc q.l ≠ 0 ∧ c = mperr (repE q.lc q.l) ∧ St w (idsOf (ctE gc g s0 s1 s2 s3 xs x)) w' (ctE gc g s0 s1 s2 s3 xs x)) := by
  generalize hM : idsOf (ctE gc g s0 s1 s2 s3 xs x) = M at *; unfold ctE at hs; obtain ⟨A2, c2, rfl, -, -, -⟩ := row_slv hs (j := 2) rfl; have hone := mp_one q; refine Z.enter func53 rfl ntmps53 rfl rfl ?_; refine V91 ?_; clear hs; intro g3 w3 hs; refine V857 ?_; refine V269 ?_; refine V6 ?_; refine Z.drawP [Ent.blk g3 77 q.cells.toArray, Ent.blk gc 117 #[.pointer (some ⟨g, 0, none⟩), s0, .slice A2 x.rp.length c2, s2, s3]] (fun j => j != 16) mixed hs ?_; clear hs; intro wd1 hs; refine V59 ?_; refine Z.tXP 4 [4, 5, 12, 13, 14, 15, 16] (fun _ _ _ _ _ h => h) rfl rfl rfl (by rfl) J3 (Jk hs) (Z.Yd.fieldA (m := 1) rfl J3) ?_; refine Z.tXP 5 [5, 12, 13, 14, 15, 16] (fun _ _ _ _ _ h => h) rfl rfl rfl (by rfl) J3 (Jk hs) J64 ?_; refine V146 ?_; refine Z.ZO.call rfl rfl (by rfl) rfl rfl call106 rfl (decrep_any q.lc q.B _ q.c q.l _ (hq.st hs).sx rfl hql hqb) ?_; rintro v1_7 w1_7 ⟨rfl, hy⟩; replace hs := U0 (hs.call hy); clear hy; refine V89 ?_; refine Z.ZO.callB rfl rfl (by rfl) rfl rfl call105 rfl (mx_gotBr _ _ _) ?_ ?_
  · skip
    rintro v1_10 w1_10 ⟨hE, rfl, hy⟩; replace hs := U0 (hs.call hy); clear hy
    skip
    refine V326 ?_; refine V169 ?_; clear hs; intro g15 w15 hs; refine V327 ?_; refine V251 ?_; clear hs; intro g16 cap16 w16 hs; replace hs := U3 hs; refine V95 ?_; refine Z.tXP 15 [15, 16] (fun _ _ _ _ _ h => h) rfl rfl rfl (by rfl) J3 (Jk hs) (Z.Yd.fieldA (m := 1) rfl J3) ?_; refine Z.tnP 16 rfl rfl J3 rfl trivial ?_; refine Z.ZO.store rfl rfl hs sizeOf58 rfl rfl rfl J1 J9 ?_; clear hs; intro ws hs; replace hs := U1 hs; refine V312 ?_; exact .inl ⟨_, rfl, hE, rfl, _, by simpa [ctE, ints, RepV.cells] using hs.tl⟩
  skip
  rintro c1_10 w1_10 ⟨hE, rfl, hy⟩; replace hs := U0 (hs.call hy); clear hy
  skip
  refine V309 ?_; exact .inr ⟨_, rfl, hE, rfl, hs.tl⟩
theorem mx_sdu (gc g gb : Nat) (s0 s1 s2 s3 : Value) (m : MaV) (xs : List MpV) (x : CtV) (q : MpV) (w : World) (hs : St w (idsOf (ctE gc g s0 s1 s2 s3 xs x)) w (ctE gc g s0 s1 s2 s3 xs x)) (hE : EnX w (idsOf (ctE gc g s0 s1 s2 s3 xs x)) g gb m) (hm : m.ok) (hxl : xs.length ≤ 100000) :
    Calls Tryz.prog 55 #[.pointer (some ⟨gc, 0, none⟩), .agg q.cells.toArray] w (Ret fun v w' => v = .tuple #[] ∧ ∃ s', St w (idsOf (ctE gc g s0 s1 s2 s3 xs x)) w' (ctE gc g s' s1 s2 s3 (if knowB m q.lc then xs ++ [q] else xs) x)) := by
  generalize hM : idsOf (ctE gc g s0 s1 s2 s3 xs x) = M at *; have hE2 := hE; obtain ⟨ch, rv, lv, A, c, B, d, h1, h2, h3, h4⟩ := hE2; unfold ctE at hs; obtain ⟨A1, c1, rfl, -, -, -⟩ := row_slv hs (j := 1) rfl; have hone := mp_one q; refine Z.enter func55 rfl ntmps55 rfl rfl ?_; refine V91 ?_; clear hs; intro g3 w3 hs; refine V857 ?_; refine V269 ?_; refine V210 ?_; refine Z.drawL [Ent.blk g3 77 q.cells.toArray, Ent.blk gc 117 #[.pointer (some ⟨g, 0, none⟩), .slice A1 xs.length c1, s1, s2, s3]] (fun _ => true) mixed hs ?_; clear hs; intro wd1 hs; refine V44 ?_; refine Z.t 3 rfl rfl rfl (by rfl) J3 (Jk hs) J97 ?_; refine Z.t 4 rfl rfl rfl (by rfl) J3 (Jk hs) (Z.Yd.nilc rfl rfl) ?_; refine Z.t 5 rfl rfl rfl (by rfl) J3 (Jk hs) (Z.Yd.fieldA (m := 0) rfl J3) ?_; refine Z.t 6 rfl rfl rfl (by rfl) J3 (Jk hs) (Z.Yd.load rfl isAgg52 (fun _ => Z.cellX (i := 0) h1 rfl)) ?_; refine Z.t 7 rfl rfl rfl (by rfl) J3 (Jk hs) (Z.Yd.fieldA (m := 0) rfl J3) ?_; refine Z.t 8 rfl rfl rfl (by rfl) J3 (Jk hs) (Z.Yd.load rfl isAgg3 (fun _ => Z.cellB (cs := q.cells.toArray) J0 rfl)) ?_; refine V586 ?_; refine Z.ZO.call rfl rfl (by rfl) rfl rfl call64 rfl (bk_level gb m.b q.lc _ (hE.bk hs) hm.b) ?_; rintro v1_9 w1_9 ⟨rfl, hy⟩; replace hs := U0 (hs.call hy); clear hy; refine V419 ?_; refine Z.tb [10, 11, 12, 13, 14] J3 rfl (Jk hs) rfl ?_; refine V40 ?_; refine Z.only [0, 3, 5] rfl ?_; refine V511 ?_; refine Z.only [0, 3, 19] rfl ?_; refine V6 ?_
  refine Z.cond rfl (fun hc2 => ?_) (fun hc2 => ?_)
  · (try simp at hc2)
    refine Z.drawL [Ent.blk g3 77 q.cells.toArray, Ent.blk gc 117 #[.pointer (some ⟨g, 0, none⟩), .slice A1 xs.length c1, s1, s2, s3]] (fun j => j != 12) mixed hs ?_; clear hs; intro wd3 hs; refine V557 ?_; refine Z.t 2 rfl rfl rfl (by rfl) J3 (Jk hs) (Z.Yd.nilc rfl rfl) ?_; refine Z.t 3 rfl rfl rfl (by rfl) J3 (Jk hs) (Z.Yd.fieldA (m := 1) rfl J3) ?_; refine V267 ?_; refine Z.t 5 rfl rfl rfl (by rfl) J3 (Jk hs) J47 ?_; refine Z.t 6 rfl rfl rfl (by rfl) J3 (Jk hs) (Z.Yd.loadA _ rfl isAgg77 (fun _ => Z.cellsB (cs := q.cells) J0) J20) ?_; refine Z.tn 7 rfl rfl J3 rfl trivial ?_; refine V58 ?_; clear hs; intro g27 w27 hs; refine Z.tk (Dn := fun j => j != 12) (i := 7) (fun _ => (Jk hs)) ?_; refine V412 ?_; refine V75 ?_; clear hs; intro g28 cap28 w28 hs; replace hs := U3 hs; refine Z.tk (Dn := fun j => j != 12) (i := 8) (fun _ => (Jk hs)) ?_; refine V586 ?_; refine V128 ?_; refine Z.tk (Dn := fun j => j != 12) (i := 9) (fun _ => (Jk hs)) ?_; refine V562 ?_; refine Z.ZO.quiet rfl (by rfl) (Z.keepS hs) (Z.Yd.fieldA (m := 1) rfl J3) ?_; refine Z.tk (Dn := fun j => j != 12) (i := 10) (fun _ => (Jk hs)) ?_; refine Z.t 11 rfl rfl rfl (by rfl) J3 (Jk hs) (Z.Yd.fieldA (m := 0) rfl J3) ?_; refine Z.tn 12 rfl rfl J3 rfl trivial ?_; refine V170 ?_; clear hs; intro ws hs; replace hs := U1 hs; refine Z.tk (Dn := fun j => j != 12) (i := 12) (fun h => absurd h J12) ?_; refine V40 ?_; refine V77 ?_; exact ⟨_, rfl, rfl, _, by simpa [ctE, knowB, hc2, MpV.cells] using hs.tl⟩
  (try simp at hc2)
  refine V323 ?_; exact ⟨_, rfl, rfl, _, by simpa [ctE, knowB, hc2, MpV.cells] using hs.tl⟩

theorem hGo_cnt {l : List Int} : ∀ (F p : Nat) (acc : List (Int × Int)) (d pt : Bool), (hGo l F p acc d pt).2.1.length ≤ acc.length + F
  | 0, _, _, _, _ => by simp [hGo]
  | F + 1, p, acc, d, pt => by
    rw [hGo]
    split
    · simp
    split
    · simp
    split
    · split
      · split
        · simp
        refine Nat.le_trans (hGo_cnt F _ _ _ _) ?_; simp; omega
      refine Nat.le_trans (hGo_cnt F _ _ _ _) ?_; simp; omega
    simp
theorem ptGo_cnt {l : List Int} : ∀ (hs : List (Int × Int)) (p : Nat) (acc : List Prt), (ptGo l hs p acc).2.length ≤ acc.length + hs.length
  | [], p, acc => by
    unfold ptGo
    split <;> simp
  | z :: hs, p, acc => by
    rw [ptGo]
    split
    · refine Nat.le_trans (ptGo_cnt hs _ _) ?_
      simp
    split
    · simp
    split
    · simp
    refine Nat.le_trans (ptGo_cnt hs _ _) ?_; simp; omega
theorem par_cnt (l : List Int) : (parV l).2.length ≤ 16385 := by
  unfold parV
  split
  · simp
  split
  · simp
  have h1 := ptGo_cnt (l := l) (hdV l).2.1 (hdV l).2.2 []; have h2 := hGo_cnt (l := l) (l.length + 1) 0 [] false false; unfold hdV at h1 ⊢; simp only [List.length_nil] at h1 h2
  omega
theorem ptGo_mem {l : List Int} : ∀ (hs : List (Int × Int)) (p : Nat) (acc : List Prt), (∀ x ∈ acc, ∀ y ∈ x.2, y ∈ l) → ∀ x ∈ (ptGo l hs p acc).2, ∀ y ∈ x.2, y ∈ l
  | [], p, acc, h => by
    unfold ptGo
    split
    · intro x hx; cases hx
    exact h
  | z :: hs, p, acc, h => by
    rw [ptGo]
    split
    · exact ptGo_mem hs p acc h
    split
    · intro x hx; cases hx
    split
    · intro x hx; cases hx
    refine ptGo_mem hs _ _ ?_; intro x hx
    rcases List.mem_append.1 hx with h1 | h1
    · exact h x h1
    obtain rfl : x = _ := by simpa using h1
    intro y hy; exact List.mem_of_mem_drop (List.mem_of_mem_take hy)
theorem par_mem (l : List Int) : ∀ x ∈ (parV l).2, ∀ y ∈ x.2, y ∈ l := by
  unfold parV
  split
  · intro x hx; cases hx
  split
  · intro x hx; cases hx
  exact ptGo_mem _ _ _ J16
def fnK (x : Int) : Nat := if x = 26 then 51 else if x = 27 ∨ x = 28 then 52 else 53
theorem fnK_call (x : Int) : ∀ args w, (callFunc (fnK x) args).run Tryz.prog w = .ok (.enter (fnK x) args) w := by
  unfold fnK
  split
  · exact call51
  split
  · exact call52
  exact call53
def mapL (gc : Nat) : List (Int × Value) := [(26, .func (.func (fnK 26)) #[.pointer (some ⟨gc, 0, none⟩)] #[]), (27, .func (.func (fnK 27)) #[.pointer (some ⟨gc, 0, none⟩)] #[]), (28, .func (.func (fnK 28)) #[.pointer (some ⟨gc, 0, none⟩)] #[]), (29, .func (.func (fnK 29)) #[.pointer (some ⟨gc, 0, none⟩)] #[]), (30, .func (.func (fnK 30)) #[.pointer (some ⟨gc, 0, none⟩)] #[])]
theorem map_mlk (gc : Nat) (x : Int) : (ctlN x ≠ 0 → mlk (mapL gc) x = some (.func (.func (fnK x)) #[.pointer (some ⟨gc, 0, none⟩)] #[])) ∧ (ctlN x = 0 → mlk (mapL gc) x = none) := by
  unfold mlk mapL ctlN
  by_cases h1 : x = 26
  · subst h1; exact ⟨fun _ => rfl, by simp⟩
  by_cases h2 : x = 27
  · subst h2; exact ⟨fun _ => rfl, by simp⟩
  by_cases h3 : x = 28
  · subst h3; exact ⟨fun _ => rfl, by simp⟩
  by_cases h4 : x = 29
  · subst h4; exact ⟨fun _ => rfl, by simp⟩
  by_cases h5 : x = 30
  · subst h5; exact ⟨fun _ => rfl, by simp⟩
  have e1 : ((26 : Int) == x) = false := by simp; omega
  have e2 : ((27 : Int) == x) = false := by simp; omega
  have e3 : ((28 : Int) == x) = false := by simp; omega
  have e4 : ((29 : Int) == x) = false := by simp; omega
  have e5 : ((30 : Int) == x) = false := by simp; omega
  simp [List.find?_cons, e1, e2, e3, e4, e5, h1, h2, h3, h4, h5]
theorem map_get (gc : Nat) (x : Int) : ((mlk (mapL gc) x).getD .nilFunc = if ctlN x ≠ 0 then .func (.func (fnK x)) #[.pointer (some ⟨gc, 0, none⟩)] #[] else .nilFunc) ∧ (mlk (mapL gc) x).isSome = decide (ctlN x ≠ 0) := by
  obtain ⟨h1, h2⟩ := map_mlk gc x
  by_cases h : ctlN x = 0
  · rw [h2 h, if_neg (fun k => k h)]; exact ⟨rfl, by simp [h]⟩
  rw [h1 h, if_pos h]; exact ⟨rfl, by simp [h]⟩
theorem mx_store (gc g : Nat) (s0 s1 s2 s3 : Value) (xs : List MpV) (x : CtV) (m : MaV) (q : MpV) (w : World) (hc : ctlN q.lc ≠ 0) (hs : St w (idsOf (ctE gc g s0 s1 s2 s3 xs x)) w (ctE gc g s0 s1 s2 s3 xs x)) (hq : Sx w (idsOf (ctE gc g s0 s1 s2 s3 xs x)) q.B (ints .u8 q.l)) (hqb : Byts q.l) (hql : q.l.length ≤ 1000000) (hx1 : x.pw.length ≤ 100000) (hx2 : x.id.length ≤ 100000) (hx3 : x.rp.length ≤ 100000) :
    Calls Tryz.prog (fnK q.lc) #[.pointer (some ⟨gc, 0, none⟩), .agg q.cells.toArray] w (Z.Bo (fun v w' => (recS m x q.plain).1 = 0 ∧ v = .tuple #[] ∧ ∃ s1' s2' s3', St w (idsOf (ctE gc g s0 s1 s2 s3 xs x)) w' (ctE gc g s0 s1' s2' s3' xs (recS m x q.plain).2)) fun c w' => (recS m x q.plain).1 ≠ 0 ∧ c = mperr (recS m x q.plain).1 ∧ ∃ s1' s2' s3', St w (idsOf (ctE gc g s0 s1 s2 s3 xs x)) w' (ctE gc g s0 s1' s2' s3' xs x)) := by
  have hcl : q.lc = 26 ∨ (q.lc = 27 ∨ q.lc = 28) ∨ (q.lc = 29 ∨ q.lc = 30) := by
    unfold ctlN at hc
    split at hc
    · omega
    split at hc
    · omega
    split at hc
    · omega
    split at hc <;> omega
  by_cases h1 : q.lc = 26
  · have e1 : fnK q.lc = 51 := if_pos h1
    have e2 : recS m x q.plain = (powE q.lc q.l, { x with pw := x.pw ++ [powV q.lc q.l] }) := by unfold recS; rw [if_pos (by exact h1)]; rw [h1]; rfl
    rw [e1, e2]; refine (mx_power gc g s0 s1 s2 s3 xs x q w hs hq hqb hql hx1).mono ?_; rintro e w' (⟨v, rfl, h2, h3, s', h4⟩ | ⟨c, rfl, h2, h3, h4⟩)
    · exact .inl ⟨v, rfl, h2, h3, _, _, _, h4⟩
    exact .inr ⟨c, rfl, h2, h3, _, _, _, h4⟩
  by_cases h2 : q.lc = 27 ∨ q.lc = 28
  · have e1 : fnK q.lc = 52 := by unfold fnK; rw [if_neg h1, if_pos h2]
    have e2 : recS m x q.plain = (idE q.lc q.l, { x with id := x.id ++ [idV q.lc q.l] }) := by unfold recS; rw [if_neg (by exact h1), if_pos (by exact h2)]; rfl
    rw [e1, e2]; refine (mx_ident gc g s0 s1 s2 s3 xs x q w hs hq hqb hql hx2).mono ?_; rintro e w' (⟨v, rfl, h2, h3, s', h4⟩ | ⟨c, rfl, h2, h3, h4⟩)
    · exact .inl ⟨v, rfl, h2, h3, _, _, _, h4⟩
    exact .inr ⟨c, rfl, h2, h3, _, _, _, h4⟩
  have h3 : q.lc = 29 ∨ q.lc = 30 := by omega
  have e1 : fnK q.lc = 53 := by unfold fnK; rw [if_neg h1, if_neg h2]
  have e2 : recS m x q.plain = (repE q.lc q.l, { x with rp := x.rp ++ [repV q.lc q.l] }) := by unfold recS; rw [if_neg (by exact h1), if_neg (by exact h2), if_pos (by exact h3)]; rfl
  rw [e1, e2]; refine (mx_status gc g s0 s1 s2 s3 xs x q w hs hq hqb hql hx3).mono ?_; rintro e w' (⟨v, rfl, h2, h3, s', h4⟩ | ⟨c, rfl, h2, h3, h4⟩)
  · exact .inl ⟨v, rfl, h2, h3, _, _, _, h4⟩
  exact .inr ⟨c, rfl, h2, h3, _, _, _, h4⟩
theorem recS_ctl {m : MaV} {x : CtV} {p : Prt} (h : ctlN p.1 ≠ 0) : (recS m x p).2.sd = x.sd ∧ (recS m x p).2.pw.length ≤ x.pw.length + 1 ∧ (recS m x p).2.id.length ≤ x.id.length + 1 ∧ (recS m x p).2.rp.length ≤ x.rp.length + 1 := by
  have hcl : p.1 = 26 ∨ (p.1 = 27 ∨ p.1 = 28) ∨ (p.1 = 29 ∨ p.1 = 30) := by
    unfold ctlN at h
    split at h
    · omega
    split at h
    · omega
    split at h
    · omega
    split at h <;> omega
  unfold recS
  split
  · simp
  split
  · simp
  rw [if_pos J5]; simp
theorem recS_no {m : MaV} {x : CtV} {p : Prt} (h : ctlN p.1 = 0) : recS m x p = if knowB m p.1 then (0, { x with sd := x.sd ++ [p] }) else (0, x) := by
  unfold ctlN at h; unfold recS; rw [if_neg (fun k => by rw [if_pos (.inl k)] at h; omega), if_neg (fun k => by revert h; split <;> (try split) <;> (try split) <;> (try split) <;> omega), if_neg (fun k => by revert h; split <;> (try split) <;> (try split) <;> (try split) <;> omega)]
def ReR (R : Int × CtV) (v : Value) (w w' : World) : Prop := ∃ (s0 s1 s2 s3 : Value) (xs : List MpV) (qs : List (MpV × Nat)), v = .tuple #[.agg #[s0, s1, s2, s3], .int .i64 R.1] ∧ xs.map MpV.plain = R.2.sd ∧ (∀ q ∈ xs, q ∈ qs.map Prod.fst) ∧ St w [] w' ([Ent.row s0 77 2 xs.length (xs.flatMap MpV.cells), Ent.row s1 86 6 R.2.rp.length (R.2.rp.flatMap RepV.cells), Ent.row s2 3 1 R.2.pw.length (ints .i64 R.2.pw), Ent.row s3 123 1 R.2.id.length (ints .u64 R.2.id)] ++ rowsQ qs)
theorem ReR.fail {e : Int} {w w' : World} (hs : St w [] w' []) : ReR (e, CtV.nil) (.tuple #[.agg #[.slice none 0 0, .slice none 0 0, .slice none 0 0, .slice none 0 0], .int .i64 e]) w w' := ⟨_, _, _, _, [], [], rfl, rfl, by simp, (((hs.nil _ 1).nil _ 1).nil _ 6).nil _ 2⟩
theorem sl_cel {w : World} {g : Nat} {cs : List Value} (h : Cel w g cs) : Sl w (some ⟨g, 0, none⟩) cs := fun _ => ⟨g, 0, rfl, h.1, fun i u hu => by rw [Nat.zero_add]; exact h.2 i u hu⟩
theorem bkX {w : World} {g gb : Nat} {m : MaV} {ch rv lv : Value} (h : BkR w gb m.b) (hc : Cel w g [.pointer (some ⟨gb, 0, none⟩), ch, rv, lv]) : EnX w [] g gb m := by
  obtain ⟨A, c, B, d, h1, h2, h3⟩ := h; exact ⟨ch, rv, lv, A, c, B, d, (sl_cel hc).sx, (sl_cel h1).sx, h2.sx, h3.sx⟩
theorem mx_receive (g gb : Nat) (m : MaV) (A : Option Addr) (n c : Nat) (l : List Int) (w : World) (hE : EnX w [] g gb m) (hm : m.ok) (hx : Sl w A (ints .u8 l)) (hl : l.length = n) (hn : n ≤ 100000) (hb : ∀ x ∈ l, 0 ≤ x ∧ x < 256) :
    Calls Tryz.prog 17 #[.pointer (some ⟨g, 0, none⟩), .slice A n c] w (Ret fun v w' => ReR (recV m l) v w w') := by
  have hs := St.start w; obtain ⟨ch, rv, lv, hcel⟩ := hE.cel hs; obtain ⟨R, hR⟩ : ∃ R, recV m l = R := ⟨_, rfl⟩; rw [hR]; have hcnt := par_cnt l; have hgood := par_good hb; have hmem := par_mem l; have hlen := par_len l; unfold recV at hR; refine Z.enterD func17 rfl ntmps17 rfl rfl ?_; refine V304 ?_; refine V285 ?_; clear hs; intro g4 w4 hs; refine V35 ?_; clear hs; intro g5 w5 hs; refine V157 ?_; refine V858 ?_; refine V145 ?_; refine V157 ?_; refine V858 ?_; refine V62 ?_; refine Z.ZO.call rfl rfl (by rfl) rfl rfl call37 rfl (mx_none g gb ch rv lv _ (hcel.st (Jn hs))) ?_; rintro v2_1 w2_1 ⟨rfl, hy⟩; replace hs := U0 (hs.call hy); clear hy; refine V62 ?_; refine Z.ZO.call rfl rfl (by rfl) rfl rfl call41 rfl (mx_must_ok _ 1 _ rfl) ?_; rintro v2_3 w2_3 ⟨rfl, hy⟩; replace hs := U0 (hs.call hy); clear hy; refine V157 ?_; refine V303 ?_; refine Z.l rfl rfl (by rfl) (Z.keepS hs) (Z.Yd.buildL [(0, 1), (1, 4)] [.pointer none, .slice none 0 0, .slice none 0 0, .slice none 0 0, .slice none 0 0] rfl rfl J18) ?_; refine V616 ?_; clear hs; intro g19 w19 hs; refine V1 ?_; refine Z.only [1, 4, 5, 6] rfl ?_; refine V858 ?_; refine V2 ?_; refine Z.ZO.mkMap rfl rfl (by rfl) hs .i64 ?_; clear hs; intro g20 w20 hs; refine V191 ?_; clear hs; intro ws hs; replace hs := U7 hs; refine V191 ?_; clear hs; intro ws hs; replace hs := U7 hs; refine V191 ?_; clear hs; intro ws hs; replace hs := U7 hs; refine V191 ?_; clear hs; intro ws hs; replace hs := U7 hs; refine V191 ?_
  clear hs; intro ws hs; replace hs := U7 hs; refine V31 ?_; refine Z.only [1, 4, 5, 6, 7] rfl ?_; refine V268 ?_; refine Z.ZO.call rfl rfl (by rfl) rfl rfl call54 rfl (mc_Parse A n c l _ (hx.st (Jn hs)) hl hn hb) ?_; rintro v5_1 w5_1 ⟨qs, svp, rfl, hqp, hy⟩; replace hs := U0 (hs.call hy); clear hy; refine V527 ?_; refine Z.ZO.callB rfl rfl (by rfl) rfl rfl call45 rfl (mx_gotPt _ _ _) ?_ ?_
  · skip
    rintro v5_4 w5_4 ⟨hE5, rfl, hy⟩; replace hs := U0 (hs.call hy); clear hy; rw [if_neg (fun k => k hE5)] at hR; replace hs := St.rot (L1 := _ :: rowsQ qs) hs; replace hs := U6 hs; obtain ⟨Ap, cp, rfl, -, -, -⟩ := row_slv hs (j := 4) rfl; replace hs := ((((hs.nil 123 1).nil 3 1).nil 86 6).nil 77 2); replace hs : St w [] _ (ctE g19 g (.slice none 0 0) (.slice none 0 0) (.slice none 0 0) (.slice none 0 0) [] CtV.nil ++ ([Ent.row (.slice Ap qs.length cp) 77 2 qs.length (cellsQ qs), Ent.mp g20 .i64 (mapL g19), Ent.blk g5 31 #[.int .i64 0], Ent.blk g4 61 #[.slice none 0 0, .slice none 0 0, .slice none 0 0, .slice none 0 0]] ++ rowsQ qs)) := hs.selT (L1 := [_, _, _, _, _, _, _, _, _]) [5, 0, 1, 2, 3, 8, 4, 6, 7] J12; have hql : qs.length ≤ 16385 := by have h7 := congrArg List.length hqp; rw [plainQ, List.length_map] at h7; omega
    have hqm : ∀ x ∈ qs, x.1.plain ∈ (parV l).2 := fun x hx => by rw [← hqp]; exact List.mem_map_of_mem hx
    refine V275 ?_; refine V407 ?_; refine V861 ?_; refine Z.loopk (ι := Nat × CtV × List MpV × Value × Value × Value × Value) [4, 5, 6, 7, 36, 37] rfl (fun z => [(38, [], .int .i64 (z.1 : Int))]) (fun z wr => (z.1 ≤ qs.length ∧ recGo m ((plainQ qs).drop z.1) z.2.1 = R ∧ z.2.2.1.map MpV.plain = z.2.1.sd ∧ (∀ q ∈ z.2.2.1, q ∈ qs.map Prod.fst) ∧ z.2.2.1.length ≤ z.1 ∧ z.2.1.pw.length ≤ z.1 ∧ z.2.1.id.length ≤ z.1 ∧ z.2.1.rp.length ≤ z.1) ∧ St w [] wr (ctE g19 g z.2.2.2.1 z.2.2.2.2.1 z.2.2.2.2.2.1 z.2.2.2.2.2.2 z.2.2.1 z.2.1 ++ ([Ent.row (.slice Ap qs.length cp) 77 2 qs.length (cellsQ qs), Ent.mp g20 .i64 (mapL g19), Ent.blk g5 31 #[.int .i64 0], Ent.blk g4 61 #[.slice none 0 0, .slice none 0 0, .slice none 0 0, .slice none 0 0]] ++ rowsQ qs))) (fun z => qs.length - z.1) (0, CtV.nil, [], .slice none 0 0, .slice none 0 0, .slice none 0 0, .slice none 0 0) J6 ⟨⟨Nat.zero_le _, by rw [List.drop_zero, hqp]; exact hR, rfl, by simp, Nat.le_refl _, Nat.le_refl _, Nat.le_refl _, Nat.le_refl _⟩, hs⟩ ?_; clear hs; rintro ⟨i, x, xs, s0, s1, s2, s3⟩ w6 ⟨⟨hi, hgo, hxp, hxm, hk0, hk1, hk2, hk3⟩, hs⟩; refine V407 ?_
    (try dsimp only at hs)
    dsimp only at hi hgo hxp hxm hk0 hk1 hk2 hk3; simp only [ctE, List.cons_append, List.nil_append] at hs; refine V121 ?_; refine Z.only [4, 5, 6, 7, 36, 37, 38, 39] rfl ?_; refine V210 ?_; refine Z.cond rfl (fun hc6 => ?_) (fun hc6 => ?_)
    · (try simp at hc6)
      obtain ⟨z, hz⟩ : ∃ z, qs[i]? = some z := ⟨_, List.getElem?_eq_getElem J5⟩; obtain ⟨q, kq⟩ := z; have hqi : (q, kq) ∈ qs := List.mem_of_getElem? hz; have hpg := hgood _ (hqm _ hqi); have hpl := hlen _ (hqm _ hqi); have hpm := hmem _ (hqm _ hqi); have hone := mp_one q; have hdr : (plainQ qs).drop i = q.plain :: (plainQ qs).drop (i + 1) := drop_at (by rw [plainQ, List.getElem?_map, hz]; rfl); rw [hdr, recGo] at hgo; obtain ⟨gp, cp', e9, -, -⟩ := row_form (j := 5) hs rfl J5
      cases e9
      refine V272 ?_; refine V28 ?_; refine Z.l rfl rfl (by rfl) (Z.keepS hs) (Z.Yd.loadA _ rfl isAgg77 (fun _ => Z.cellsRf (enc := fun x : MpV × Nat => x.1.cells) J0 (fun _ => rfl) hz rfl) J20) ?_; refine V274 ?_; clear hs; intro g9 w9 hs; refine V860 ?_; clear hs; intro ws hs; replace hs := U1 hs; replace hs := U2 hs; refine V857 ?_; refine Z.only [4, 5, 6, 7, 9, 36, 37, 38] rfl ?_; refine V125 ?_; refine V48 ?_; refine Z.l rfl rfl (by rfl) (Z.keepS hs) (Z.Yd.lookupT rfl rfl underlying119 underlying3 zeroValue118 J0) ?_; refine V126 ?_; refine Z.only [4, 5, 6, 7, 9, 10, 11, 36, 37, 38] rfl ?_; refine V858 ?_; obtain ⟨em1, em2⟩ := map_get g19 q.lc; rw [em1, em2]; refine V18 ?_; refine V857 ?_; refine Z.only [4, 5, 6, 7, 9, 10, 36, 37, 38, 49] rfl ?_; refine V6 ?_; refine Z.cond rfl (fun hc9 => ?_) (fun hc9 => ?_)
      · (try simp at hc9)
        refine V363 ?_; refine V85 ?_; have hcn : ctlN q.lc ≠ 0 := by simpa using hc9
        rw [if_pos hcn]; replace hs : St w [] _ (ctE g19 g s0 s1 s2 s3 xs x ++ ([_, _, _, _, _] ++ rowsQ qs)) := hs.selT (L1 := [_, _, _, _, _, _, _, _, _, _]) [1, 2, 3, 4, 5, 0, 6, 7, 8, 9] J12; obtain ⟨jq, hjq⟩ := List.getElem?_of_mem (List.mem_append_right [_, _, _, _, _] (List.mem_map_of_mem (f := fun x : MpV × Nat => Ent.row (.slice x.1.B x.1.l.length x.2) 5 1 x.1.l.length (ints .u8 x.1.l)) hqi)); have hqx := Z.row_lentv hs hjq; have hfk := fnK_call q.lc; refine V2 ?_; refine Z.ZO.callB rfl rfl (by rfl) rfl rfl hfk J34 (mx_store g19 g s0 s1 s2 s3 xs x m q _ hcn hs.lend hqx (fun y hy ↦ hb y (hpm y hy)) J104 J5 J5 J5) ?_ ?_
        · skip
          rintro v10_2 w10_2 ⟨he, rfl, s1', s2', s3', hz⟩; replace hs := hs.regain hz; rw [if_neg (fun k => k he)] at hgo; refine V857 ?_; refine V407 ?_; refine V6 ?_; refine Z.exit ?_; refine Z.xthen ?_; refine Z.xblock ?_; refine V6 ?_; refine V127 ?_; refine V407 ?_; refine V6 ?_; have hrc := recS_ctl (m := m) (x := x) (p := q.plain) hcn; have hs2 : St w [] _ (ctE g19 g s0 s1' s2' s3' xs (recS m x q.plain).2 ++ ([_, _, _, _] ++ rowsQ qs)) := hs.selT (L1 := [_, _, _, _, _, _, _, _, _, _]) [0, 1, 2, 3, 4, 6, 7, 8, 9] J12; exact Z.again (i + 1, (recS m x q.plain).2, xs, s0, s1', s2', s3') J14 ⟨⟨by simp only; omega, hgo, by rw [hrc.1]; exact hxp, hxm, by simp only; omega, by simp only; omega, by simp only; omega, by simp only; omega⟩, hs2⟩ J22
        skip
        rintro c10_2 w10_2 ⟨he, rfl, s1', s2', s3', hz⟩; replace hs := hs.regain hz; rw [if_pos he] at hgo; subst hgo; replace hs := hs.sel [8, 9] J12
        repeat (first | refine Z.pthen ?_ | refine Z.pblock ?_ | refine Z.pscope ?_)
        refine V441 ?_; rintro vD wD ⟨rfl, hz⟩; replace hs := hs.regain (L2 := []) hz; refine ⟨[_, _], J82, ?_⟩; exact ⟨_, rfl, ReR.fail (Jn hs)⟩
      (try simp at hc9)
      refine V489 ?_; refine V859 ?_; refine V85 ?_; have hcn : ctlN q.lc = 0 := by simpa using hc9
      replace hs : St w [] _ (ctE g19 g s0 s1 s2 s3 xs x ++ ([_, _, _, _, _] ++ rowsQ qs)) := hs.selT (L1 := [_, _, _, _, _, _, _, _, _, _]) [1, 2, 3, 4, 5, 0, 6, 7, 8, 9] J12; refine V2 ?_; refine Z.ZO.call rfl rfl (by rfl) rfl rfl call55 rfl (mx_sdu g19 g gb s0 s1 s2 s3 m xs x q _ hs.lend (hE.lent hs) hm J5) ?_; rintro v11_2 w11_2 ⟨rfl, s0', hz⟩; replace hs := hs.regain hz; rw [recS_no hcn] at hgo; refine V857 ?_; refine V407 ?_; refine V332 ?_; refine V407 ?_; refine V6 ?_
      by_cases hkn : knowB m q.lc = true
      · rw [if_pos hkn] at hs
        rw [if_pos (c := knowB m q.plain.1 = true) hkn] at hgo; simp only [ne_eq, not_true_eq_false, ↓reduceIte] at hgo; have hs2 : St w [] _ (ctE g19 g s0' s1 s2 s3 (xs ++ [q]) { x with sd := x.sd ++ [q.plain] } ++ ([_, _, _, _] ++ rowsQ qs)) := hs.selT (L1 := [_, _, _, _, _, _, _, _, _, _]) [0, 1, 2, 3, 4, 6, 7, 8, 9] J12; exact Z.again (i + 1, { x with sd := x.sd ++ [q.plain] }, xs ++ [q], s0', s1, s2, s3) J14 ⟨⟨by simp only; omega, hgo, by rw [List.map_append, hxp]; rfl, by intro z hz9; rcases List.mem_append.1 hz9 with h | h; exact hxm z h; (obtain rfl : z = _ := by simpa using h); exact List.mem_map_of_mem (f := Prod.fst) hqi, by simp; omega, by simp only; omega, by simp only; omega, by simp only; omega⟩, hs2⟩ J22
      rw [if_neg hkn] at hs; rw [if_neg (c := knowB m q.plain.1 = true) hkn] at hgo; simp only [ne_eq, not_true_eq_false, ↓reduceIte] at hgo; have hs2 : St w [] _ (ctE g19 g s0' s1 s2 s3 xs x ++ ([_, _, _, _] ++ rowsQ qs)) := hs.selT (L1 := [_, _, _, _, _, _, _, _, _, _]) [0, 1, 2, 3, 4, 6, 7, 8, 9] J12; exact Z.again (i + 1, x, xs, s0', s1, s2, s3) J14 ⟨⟨by simp only; omega, hgo, hxp, hxm, by simp only; omega, by simp only; omega, by simp only; omega, by simp only; omega⟩, hs2⟩ J22
    (try simp at hc6)
    refine V181 ?_; obtain ⟨B0, d0, rfl, -, -, -⟩ := row_slv hs (j := 1) rfl; obtain ⟨B1, d1, rfl, -, -, -⟩ := row_slv hs (j := 2) rfl; obtain ⟨B2, d2, rfl, -, -, -⟩ := row_slv hs (j := 3) rfl; obtain ⟨B3, d3, rfl, -, -, -⟩ := row_slv hs (j := 4) rfl; refine V18 ?_; refine V12 ?_; refine V8 ?_; refine Z.l rfl rfl (by rfl) (Z.keepS hs) (Z.Yd.loadA _ rfl isAgg61 (fun _ => Z.cellsBo (cs := [.pointer (some ⟨g, 0, none⟩), .slice B0 _ d0, .slice B1 _ d1, .slice B2 _ d2, .slice B3 _ d3]) [.slice B0 _ d0, .slice B1 _ d1, .slice B2 _ d2, .slice B3 _ d3] J0 ⟨[], rfl⟩) J128) ?_; refine V860 ?_; clear hs; intro ws hs; replace hs := U1 hs; replace hs := U2 hs; refine V451 ?_; clear hs; intro ws hs; replace hs := U1 hs; refine V857 ?_; refine V257 ?_; refine Z.outDr call26 (mx_caught_ret g5 _ _ _) ?_; rintro vD wD ⟨rfl, hy⟩; replace hs := hs.call hy; refine ⟨[_, _], J82, ?_⟩; obtain rfl : i = qs.length := by omega
    rw [List.drop_of_length_le (by rw [plainQ, List.length_map]; exact Nat.le_refl _)] at hgo; subst hgo; exact ⟨_, rfl, _, _, _, _, xs, qs, rfl, hxp, hxm, hs.selT (L1 := [_, _, _, _, _, _, _, _, _]) [1, 2, 3, 4] J12⟩
  skip
  rintro c5_4 w5_4 ⟨hE5, rfl, hy⟩; replace hs := U0 (hs.call hy); clear hy; rw [if_pos hE5] at hR; subst hR; replace hs := (St.rot (L1 := _ :: rowsQ qs) hs).sel [2, 3] J12
  repeat (first | refine Z.pthen ?_ | refine Z.pblock ?_ | refine Z.pscope ?_)
  refine V441 ?_; rintro vD wD ⟨rfl, hz⟩; replace hs := hs.regain (L2 := []) hz; refine ⟨[_, _], J82, ?_⟩; exact ⟨_, rfl, ReR.fail (Jn hs)⟩

theorem mx_request_up (g gb gr : Nat) (m : MaV) (ch lv : Value) (w : World) (hc : Cel w g [.pointer (some ⟨gb, 0, none⟩), ch, .pointer (some ⟨gr, 0, none⟩), lv]) (hr : Cel w gr m.r.cells) :
    Calls Tryz.prog 15 #[.pointer (some ⟨g, 0, none⟩)] w (Ret fun v w' => v = .bool m.r.reg ∧ St w [] w' []) := by
  have hs := St.start w; refine Z.enter func15 rfl ntmps15 rfl rfl ?_; refine V242 ?_; refine V197 ?_; rintro v1_1 w1_1 ⟨rfl, hy⟩; replace hs := U0 (hs.call hy); clear hy; refine V11 ?_; refine V279 ?_; refine Z.ZO.call rfl rfl (by rfl) rfl rfl call38 rfl (rp_request gr m.r _ (hr.st hs)) ?_; rintro v1_8 w1_8 ⟨rfl, hy⟩; replace hs := U0 (hs.call hy); clear hy; refine V20 ?_; refine V186 ?_; exact ⟨_, rfl, rfl, hs⟩
theorem mx_request_dn (g gb : Nat) (ch lv : Value) (w : World) (hc : Cel w g [.pointer (some ⟨gb, 0, none⟩), ch, .pointer none, lv]) :
    Calls Tryz.prog 15 #[.pointer (some ⟨g, 0, none⟩)] w (Ret fun v w' => v = .bool false ∧ St w [] w' []) := by
  have hs := St.start w; refine Z.enter func15 rfl ntmps15 rfl rfl ?_; refine V242 ?_; refine V197 ?_; rintro v1_1 w1_1 ⟨rfl, hy⟩; replace hs := U0 (hs.call hy); clear hy; refine V11 ?_; refine V279 ?_; refine Z.ZO.call rfl rfl (by rfl) rfl rfl call38 rfl (rn_request (.pointer none) _ (noR_nil _)) ?_; rintro v1_8 w1_8 ⟨rfl, hy⟩; replace hs := U0 (hs.call hy); clear hy; refine V20 ?_; refine V186 ?_; exact ⟨_, rfl, rfl, hs⟩
theorem mx_copy_up (g gb gr : Nat) (C : Option Addr) (kc : Nat) (m : MaV) (w : World) (hc : Cel w g [.pointer (some ⟨gb, 0, none⟩), .slice C m.b.l.length kc, rvP m gr, .int .i64 m.last]) (hb : BkR w gb m.b) (hm : m.ok) (hup : m.up = true) (hr : Cel w gr m.r.cells) :
    Calls Tryz.prog 21 #[.pointer (some ⟨g, 0, none⟩)] w (Ret fun v w' => ∃ g2 gb2 gr2 sv so, v = .pointer (some ⟨g2, 0, none⟩) ∧ St w [] w' (maE g2 gb2 gr2 C kc sv so m)) := by
  have hs := St.start w; have hrv : rvP m gr = .pointer (some ⟨gr, 0, none⟩) := by simp [rvP, hup]
  rw [hrv] at hc; refine Z.enter func21 rfl ntmps21 rfl rfl ?_; refine V336 ?_; refine V30 ?_; refine V197 ?_; rintro v1_1 w1_1 ⟨rfl, hy⟩; replace hs := U0 (hs.call hy); clear hy; refine V857 ?_; refine V631 ?_; refine Z.cond rfl (fun hc1 => ?_) (fun hc1 => ?_)
  · (exfalso; simp at hc1 <;> omega)
  (try simp at hc1)
  refine V47 ?_; refine V343 ?_; clear hs; intro wd3 hs; refine V532 ?_; rintro v3_4 w3_4 ⟨gb2, sv, so, rfl, hy⟩; replace hs := U0 (hs.call hy); clear hy; refine V69 ?_; refine V350 ?_; refine Z.ZO.call rfl rfl (by rfl) rfl rfl call46 rfl (rp_Copy gr m.r _ (hr.st (Jn hs))) ?_; rintro v3_13 w3_13 ⟨gr2, rfl, hy⟩; replace hs := U0 (hs.call hy); clear hy; refine V292 ?_; clear hs; intro g24 w24 hs; refine V497 ?_; simp only [bkE] at hs; exact ⟨_, rfl, _, gb2, gr2, sv, so, rfl, by simpa [maE, bkE, rvP, rpE, hup] using hs.sel [0, 2, 3, 4, 1] J12⟩
theorem mx_copy_dn (g gb gr : Nat) (C : Option Addr) (kc : Nat) (m : MaV) (w : World) (hc : Cel w g [.pointer (some ⟨gb, 0, none⟩), .slice C m.b.l.length kc, rvP m gr, .int .i64 m.last]) (hb : BkR w gb m.b) (hm : m.ok) (hup : m.up = false) :
    Calls Tryz.prog 21 #[.pointer (some ⟨g, 0, none⟩)] w (Ret fun v w' => ∃ g2 gb2 gr2 sv so, v = .pointer (some ⟨g2, 0, none⟩) ∧ St w [] w' (maE g2 gb2 gr2 C kc sv so m)) := by
  have hs := St.start w; have hrv : rvP m gr = .pointer none := by simp [rvP, hup]
  rw [hrv] at hc; refine Z.enter func21 rfl ntmps21 rfl rfl ?_; refine V336 ?_; refine V30 ?_; refine V197 ?_; rintro v1_1 w1_1 ⟨rfl, hy⟩; replace hs := U0 (hs.call hy); clear hy; refine V857 ?_; refine V631 ?_; refine Z.cond rfl (fun hc1 => ?_) (fun hc1 => ?_)
  · (exfalso; simp at hc1 <;> omega)
  (try simp at hc1)
  refine V47 ?_; refine V343 ?_; clear hs; intro wd3 hs; refine V532 ?_; rintro v3_4 w3_4 ⟨gb2, sv, so, rfl, hy⟩; replace hs := U0 (hs.call hy); clear hy; refine V69 ?_; refine V350 ?_; refine Z.ZO.call rfl rfl (by rfl) rfl rfl call46 rfl (rn_copy (.pointer none) _ (noR_nil _)) ?_; rintro v3_13 w3_13 ⟨rfl, hy⟩; replace hs := U0 (hs.call hy); clear hy; refine V292 ?_; clear hs; intro g24 w24 hs; refine V497 ?_; simp only [bkE] at hs; exact ⟨_, rfl, _, gb2, gr, sv, so, rfl, by simpa [maE, bkE, rvP, rpE, hup] using hs⟩

def CtQ (w : World) (vs : List Value) (xs : List MpV) (x : CtV) : Prop := ∃ A0 c0 A1 c1 A2 c2 A3 c3, vs = [.slice A0 xs.length c0, .slice A1 x.rp.length c1, .slice A2 x.pw.length c2, .slice A3 x.id.length c3] ∧ xs.map MpV.plain = x.sd ∧ Sl w A0 (xs.flatMap MpV.cells) ∧ Sl w A1 (x.rp.flatMap RepV.cells) ∧ Sl w A2 (ints .i64 x.pw) ∧ Sl w A3 (ints .u64 x.id) ∧ (∀ q ∈ xs, Sl w q.B (ints .u8 q.l)) ∧ (∀ q ∈ xs, ∀ z ∈ q.l, 0 ≤ z ∧ z < 256)
theorem repv_ext {a b : RepV} (h : a.long = b.long ∧ a.group = b.group ∧ a.a = b.a ∧ a.b = b.b ∧ a.c = b.c ∧ a.d = b.d) : a = b := by
  cases a; cases b; simp_all
instance : DecidableEq RepV := fun a b => decidable_of_iff (a.long = b.long ∧ a.group = b.group ∧ a.a = b.a ∧ a.b = b.b ∧ a.c = b.c ∧ a.d = b.d) ⟨repv_ext, fun h => by subst h; exact ⟨rfl, rfl, rfl, rfl, rfl, rfl⟩⟩
def sameC (x y : CtV) : Prop := x.sd = y.sd ∧ x.rp = y.rp ∧ x.pw = y.pw ∧ x.id = y.id
instance (x y : CtV) : Decidable (sameC x y) := by unfold sameC; infer_instance
theorem rep_len (r : RepV) : r.cells.length = 6 := rfl
theorem at_ne {α : Type} {l k : List α} {i : Nat} {x y : α} (hx : l[i]? = some x) (hy : k[i]? = some y) (h : x ≠ y) : l ≠ k := fun e => by
  subst e; rw [hx] at hy; exact h (Option.some.inj hy)
theorem tk_eq {α : Type} {l k : List α} {i : Nat} {x y : α} (ht : l.take i = k.take i) (hx : l[i]? = some x) (hy : k[i]? = some y) (h : x = y) : l.take (i + 1) = k.take (i + 1) := by
  rw [List.take_add_one, List.take_add_one, ht, hx, hy, h]
theorem ct_same (vs us : List Value) (xs ys : List MpV) (x y : CtV) (w : World) (hX : CtQ w vs xs x) (hY : CtQ w us ys y) (hn : xs.length ≤ 9223372036854775807 ∧ x.rp.length ≤ 1000000 ∧ x.pw.length ≤ 1000000 ∧ x.id.length ≤ 1000000) :
    Calls Tryz.prog 20 #[.agg vs.toArray, .agg us.toArray] w (Ret fun v w' => v = .bool (decide (sameC x y)) ∧ St w [] w' []) := by
  have hs := St.start w; obtain ⟨A0, c0, A1, c1, A2, c2, A3, c3, rfl, hp, h0, h1, h2, h3, h4, h5⟩ := hX; obtain ⟨B0, d0, B1, d1, B2, d2, B3, d3, rfl, kp, k0, k1, k2, k3, k4, k5⟩ := hY; refine Z.enter func20 rfl ntmps20 rfl rfl ?_; refine V91 ?_; clear hs; intro g2 w2 hs; refine V616 ?_; clear hs; intro g3 w3 hs; refine V1 ?_; refine V72 ?_; refine V30 ?_; refine V3 ?_; refine V256 ?_; refine V3 ?_; refine V256 ?_; refine V2 ?_; refine Z.ZO.call rfl rfl (by rfl) rfl rfl call24 rfl (mr_Same A0 B0 _ c0 _ d0 xs ys _ (h0.st (Jn hs)) (k0.st (Jn hs)) rfl rfl hn.1 (fun q hq ↦ (h4 q hq).st (Jn hs)) (fun q hq ↦ (k4 q hq).st (Jn hs)) h5 k5) ?_; rintro v1_4 w1_4 ⟨rfl, hy⟩; replace hs := U0 (hs.call hy); clear hy; rw [hp, kp]; refine V11 ?_; refine V278 ?_; refine V278 ?_; refine V50 ?_; refine V19 ?_; refine V116 ?_; refine V26 ?_; refine V19 ?_; refine V116 ?_; refine V26 ?_; refine V50 ?_; refine V265 ?_; refine V265 ?_; refine V31 ?_; refine Z.only [2, 3, 40] rfl ?_; refine V6 ?_; refine Z.cond rfl (fun hc1 => ?_) (fun hc1 => ?_)
  · (try simp at hc1)
    refine V189 ?_
    repeat (first | refine Z.rthen ?_ | refine Z.rblock ?_ | refine Z.rscope ?_)
    refine V199 ?_; refine ⟨_, rfl, congrArg Value.bool ?_, Jn hs⟩
    first
    | exact (decide_eq_true ⟨hq.1, hq.2.1, hq.2.2.1, by rwa [List.take_of_length_le J5, List.take_of_length_le J5] at ht⟩).symm
    | exact (decide_eq_false fun h ↦ at_ne hxi hyi hc16 h.2.2.2).symm
    | exact (decide_eq_false fun h ↦ at_ne hxi hyi hc11 h.2.2.1).symm
    | exact (decide_eq_false fun h ↦ at_ne hpi hqi (fun e ↦ by subst e; simp at hc6) h.2.1).symm
    | exact (decide_eq_false fun h ↦ by
        rcases hc1 with ((e | e) | e) | e
        · exact e h.1
        · exact e (by rw [h.2.1])
        · exact e (by rw [h.2.2.1])
        exact e (by rw [h.2.2.2])).symm
  (try simp at hc1)
  refine V427 ?_; have hq : x.sd = y.sd ∧ x.rp.length = y.rp.length ∧ x.pw.length = y.pw.length ∧ x.id.length = y.id.length := by obtain ⟨⟨⟨e0, e1⟩, e2⟩, e3⟩ := hc1; exact ⟨e0, by omega, by omega, by omega⟩
  refine V18 ?_; refine V857 ?_; refine Z.only [2, 3, 5] rfl ?_; refine V861 ?_; refine Z.loopk (ι := Nat) [2, 3] rfl (fun i => [(5, [], .int .i64 (i : Int))]) (fun i wr => (i ≤ x.rp.length ∧ (x.sd = y.sd ∧ x.rp.length = y.rp.length ∧ x.pw.length = y.pw.length ∧ x.id.length = y.id.length) ∧ x.rp.take i = y.rp.take i) ∧ St w [] wr [Ent.blk g3 61 #[.slice B0 ys.length d0, .slice B1 y.rp.length d1, .slice B2 y.pw.length d2, .slice B3 y.id.length d3], Ent.blk g2 61 #[.slice A0 xs.length c0, .slice A1 x.rp.length c1, .slice A2 x.pw.length c2, .slice A3 x.id.length c3]]) (fun i => x.rp.length - i) 0 J6 ⟨⟨Nat.zero_le _, hq, rfl⟩, hs⟩ ?_; clear hs; rintro i w4 ⟨⟨hi, hq, ht⟩, hs⟩; refine Z.only [2, 3, 5] rfl ?_; refine V514 ?_; refine V278 ?_; refine V1 ?_; refine Z.only [2, 3, 5, 45] rfl ?_; refine V6 ?_; refine Z.cond rfl (fun hc4 => ?_) (fun hc4 => ?_)
  · (try simp at hc4)
    obtain ⟨p, hpi⟩ : ∃ f, x.rp[i]? = some f := ⟨_, List.getElem?_eq_getElem J5⟩; obtain ⟨q, hqi⟩ : ∃ f, y.rp[i]? = some f := ⟨_, List.getElem?_eq_getElem J5⟩; obtain ⟨b, off, rfl, hb1, hx2⟩ := Z.Sl.some h1 (by rw [fl_len rep_len]; omega); obtain ⟨b', off', rfl, hb2, hy2⟩ := Z.Sl.some k1 (by rw [fl_len rep_len]; omega); refine V499 ?_; clear hs; intro wd6 hs; refine V109 ?_; refine Z.t 1 rfl rfl rfl (by rfl) J3 (Jk hs) J64 ?_; refine Z.tb [2] J3 rfl (Jk hs) rfl ?_; refine Z.t 3 rfl rfl rfl (by rfl) J3 (Jk hs) (Z.Yd.elem rfl rfl underlying58 sizeOf86 (fun hG => ⟨J2, J2⟩)) ?_; refine Z.t 4 rfl rfl rfl (by rfl) J3 (Jk hs) (Z.Yd.loadA _ rfl isAgg86 (fun _ W hK j u hu => Z.cellXf hx2.sx rep_len hpi hu W hK) J126) ?_; refine Z.t 5 rfl rfl rfl (by rfl) J3 (Jk hs) (Z.Yd.fieldA (m := 1) rfl J3) ?_; refine Z.t 6 rfl rfl rfl (by rfl) J3 (Jk hs) J64 ?_; refine Z.tb [7] J3 rfl (Jk hs) rfl ?_; refine Z.t 8 rfl rfl rfl (by rfl) J3 (Jk hs) (Z.Yd.elem rfl rfl underlying58 sizeOf86 (fun hG => ⟨J2, J2⟩)) ?_; refine Z.t 9 rfl rfl rfl (by rfl) J3 (Jk hs) (Z.Yd.loadA _ rfl isAgg86 (fun _ W hK j u hu => Z.cellXf hy2.sx rep_len hqi hu W hK) J126) ?_; refine Z.t 10 rfl rfl rfl (by rfl) J3 (Jk hs) (Z.Yd.neA (.st (.fc 0 1 (.b) (.fc 1 1 (.i) (.fc 2 4 (.ar 4 1 (.i)) (.fn))))) rfl rfl rfl rfl J3 J3 rfl) ?_; refine V40 ?_; refine Z.only [2, 3, 5, 58] rfl ?_; refine V6 ?_; refine Z.cond rfl (fun hc6 => ?_) (fun hc6 => ?_)
    · (try simp at hc6)
      refine V189 ?_
      repeat (first | refine Z.rthen ?_ | refine Z.rblock ?_ | refine Z.rscope ?_)
      refine V199 ?_; refine ⟨_, rfl, congrArg Value.bool ?_, Jn hs⟩
      first
      | exact (decide_eq_true ⟨hq.1, hq.2.1, hq.2.2.1, by rwa [List.take_of_length_le J5, List.take_of_length_le J5] at ht⟩).symm
      | exact (decide_eq_false fun h ↦ at_ne hxi hyi hc16 h.2.2.2).symm
      | exact (decide_eq_false fun h ↦ at_ne hxi hyi hc11 h.2.2.1).symm
      | exact (decide_eq_false fun h ↦ at_ne hpi hqi (fun e ↦ by subst e; simp at hc6) h.2.1).symm
      | exact (decide_eq_false fun h ↦ by
          rcases hc1 with ((e | e) | e) | e
          · exact e h.1
          · exact e (by rw [h.2.1])
          · exact e (by rw [h.2.2.1])
          exact e (by rw [h.2.2.2])).symm
    (try simp at hc6)
    refine V331 ?_; refine Z.only [2, 3, 5] rfl ?_; refine V6 ?_; exact Z.again (i + 1) J13 ⟨⟨by omega, hq, tk_eq ht hpi hqi (repv_ext hc6)⟩, hs⟩ J5
  (try simp at hc4)
  refine V403 ?_; replace hq : x.sd = y.sd ∧ x.rp = y.rp ∧ x.pw.length = y.pw.length ∧ x.id.length = y.id.length := ⟨hq.1, by rwa [List.take_of_length_le J5, List.take_of_length_le J5] at ht, hq.2.2.1, hq.2.2.2⟩; refine V18 ?_; refine V857 ?_; refine V411 ?_; refine V861 ?_; refine Z.loopk (ι := Nat) [2, 3] rfl (fun i => [(6, [], .int .i64 (i : Int))]) (fun i wr => (i ≤ x.pw.length ∧ (x.sd = y.sd ∧ x.rp = y.rp ∧ x.pw.length = y.pw.length ∧ x.id.length = y.id.length) ∧ x.pw.take i = y.pw.take i) ∧ St w [] wr [Ent.blk g3 61 #[.slice B0 ys.length d0, .slice B1 y.rp.length d1, .slice B2 y.pw.length d2, .slice B3 y.id.length d3], Ent.blk g2 61 #[.slice A0 xs.length c0, .slice A1 x.rp.length c1, .slice A2 x.pw.length c2, .slice A3 x.id.length c3]]) (fun i => x.pw.length - i) 0 J6 ⟨⟨Nat.zero_le _, hq, rfl⟩, hs⟩ ?_; clear hs; rintro i w9 ⟨⟨hi, hq, ht⟩, hs⟩; refine V411 ?_; refine V514 ?_; refine V19 ?_; refine V116 ?_; refine V248 ?_; refine Z.only [2, 3, 6, 63] rfl ?_; refine V6 ?_; refine Z.cond rfl (fun hc9 => ?_) (fun hc9 => ?_)
  · (try simp at hc9)
    have hxi : x.pw[i]? = some (elt x.pw (i : Int)) := by rw [elt_get J5]; exact List.getElem?_eq_getElem J5
    have hyi : y.pw[i]? = some (elt y.pw (i : Int)) := by rw [elt_get J5]; exact List.getElem?_eq_getElem J5
    obtain ⟨b, off, rfl, hb1, hx2⟩ := Z.Sl.some h2 J70; obtain ⟨b', off', rfl, hb2, hy2⟩ := Z.Sl.some k2 J70; refine V499 ?_; clear hs; intro wd11 hs; refine Z.t 0 rfl rfl rfl (by rfl) J3 (Jk hs) (Z.Yd.fieldA (m := 2) rfl J3) ?_; refine Z.t 1 rfl rfl rfl (by rfl) J3 (Jk hs) J30 ?_; refine Z.tb [2] J3 rfl (Jk hs) rfl ?_; refine Z.t 3 rfl rfl rfl (by rfl) J3 (Jk hs) (Z.Yd.elem rfl rfl underlying34 sizeOf3 (fun hG => ⟨J2, J2⟩)) ?_; refine Z.t 4 rfl rfl rfl (by rfl) J3 (Jk hs) (Z.Yd.load rfl isAgg3 (fun _ => Z.cellS hx2 rfl J5 J5)) ?_; refine Z.t 5 rfl rfl rfl (by rfl) J3 (Jk hs) (Z.Yd.fieldA (m := 2) rfl J3) ?_; refine Z.t 6 rfl rfl rfl (by rfl) J3 (Jk hs) J30 ?_; refine Z.tb [7] J3 rfl (Jk hs) rfl ?_; refine V566 ?_; refine Z.t 9 rfl rfl rfl (by rfl) J3 (Jk hs) (Z.Yd.load rfl isAgg3 (fun _ => Z.cellS hy2 rfl J5 J5)) ?_; refine Z.tb [10] J3 rfl (Jk hs) rfl ?_; refine V40 ?_; refine Z.only [2, 3, 6, 76] rfl ?_; refine V6 ?_; refine Z.cond rfl (fun hc11 => ?_) (fun hc11 => ?_)
    · (try simp at hc11)
      refine V189 ?_
      repeat (first | refine Z.rthen ?_ | refine Z.rblock ?_ | refine Z.rscope ?_)
      refine V199 ?_; refine ⟨_, rfl, congrArg Value.bool ?_, Jn hs⟩
      first
      | exact (decide_eq_true ⟨hq.1, hq.2.1, hq.2.2.1, by rwa [List.take_of_length_le J5, List.take_of_length_le J5] at ht⟩).symm
      | exact (decide_eq_false fun h ↦ at_ne hxi hyi hc16 h.2.2.2).symm
      | exact (decide_eq_false fun h ↦ at_ne hxi hyi hc11 h.2.2.1).symm
      | exact (decide_eq_false fun h ↦ at_ne hpi hqi (fun e ↦ by subst e; simp at hc6) h.2.1).symm
      | exact (decide_eq_false fun h ↦ by
          rcases hc1 with ((e | e) | e) | e
          · exact e h.1
          · exact e (by rw [h.2.1])
          · exact e (by rw [h.2.2.1])
          exact e (by rw [h.2.2.2])).symm
    (try simp at hc11)
    refine V331 ?_; refine V411 ?_; refine V6 ?_; exact Z.again (i + 1) J13 ⟨⟨by omega, hq, tk_eq ht hxi hyi hc11⟩, hs⟩ J5
  (try simp at hc9)
  refine V403 ?_; replace hq : x.sd = y.sd ∧ x.rp = y.rp ∧ x.pw = y.pw ∧ x.id.length = y.id.length := ⟨hq.1, hq.2.1, by rwa [List.take_of_length_le J5, List.take_of_length_le J5] at ht, hq.2.2.2⟩; refine V18 ?_; refine V857 ?_; refine Z.only [2, 3, 7] rfl ?_; refine V861 ?_; refine Z.loopk (ι := Nat) [2, 3] rfl (fun i => [(7, [], .int .i64 (i : Int))]) (fun i wr => (i ≤ x.id.length ∧ (x.sd = y.sd ∧ x.rp = y.rp ∧ x.pw = y.pw ∧ x.id.length = y.id.length) ∧ x.id.take i = y.id.take i) ∧ St w [] wr [Ent.blk g3 61 #[.slice B0 ys.length d0, .slice B1 y.rp.length d1, .slice B2 y.pw.length d2, .slice B3 y.id.length d3], Ent.blk g2 61 #[.slice A0 xs.length c0, .slice A1 x.rp.length c1, .slice A2 x.pw.length c2, .slice A3 x.id.length c3]]) (fun i => x.id.length - i) 0 J6 ⟨⟨Nat.zero_le _, hq, rfl⟩, hs⟩ ?_; clear hs; rintro i w14 ⟨⟨hi, hq, ht⟩, hs⟩; refine Z.only [2, 3, 7] rfl ?_; refine V514 ?_; refine V265 ?_; refine V1 ?_; refine Z.only [2, 3, 7, 81] rfl ?_; refine V6 ?_; refine Z.cond rfl (fun hc14 => ?_) (fun hc14 => ?_)
  · (try simp at hc14)
    have hxi : x.id[i]? = some (elt x.id (i : Int)) := by rw [elt_get J5]; exact List.getElem?_eq_getElem J5
    have hyi : y.id[i]? = some (elt y.id (i : Int)) := by rw [elt_get J5]; exact List.getElem?_eq_getElem J5
    obtain ⟨b, off, rfl, hb1, hx2⟩ := Z.Sl.some h3 J70; obtain ⟨b', off', rfl, hb2, hy2⟩ := Z.Sl.some k3 J70; refine V499 ?_; clear hs; intro wd16 hs; refine Z.t 0 rfl rfl rfl (by rfl) J3 (Jk hs) (Z.Yd.fieldA (m := 3) rfl J3) ?_; refine Z.t 1 rfl rfl rfl (by rfl) J3 (Jk hs) J63 ?_; refine Z.tb [2] J3 rfl (Jk hs) rfl ?_; refine Z.t 3 rfl rfl rfl (by rfl) J3 (Jk hs) (Z.Yd.elem rfl rfl underlying59 sizeOf123 (fun hG => ⟨J2, J2⟩)) ?_; refine Z.t 4 rfl rfl rfl (by rfl) J3 (Jk hs) (Z.Yd.load rfl isAgg123 (fun _ => Z.cellS hx2 rfl J5 J5)) ?_; refine Z.t 5 rfl rfl rfl (by rfl) J3 (Jk hs) (Z.Yd.fieldA (m := 3) rfl J3) ?_; refine Z.t 6 rfl rfl rfl (by rfl) J3 (Jk hs) J63 ?_; refine Z.tb [7] J3 rfl (Jk hs) rfl ?_; refine Z.t 8 rfl rfl rfl (by rfl) J3 (Jk hs) (Z.Yd.elem rfl rfl underlying59 sizeOf123 (fun hG => ⟨J2, J2⟩)) ?_; refine Z.t 9 rfl rfl rfl (by rfl) J3 (Jk hs) (Z.Yd.load rfl isAgg123 (fun _ => Z.cellS hy2 rfl J5 J5)) ?_; refine Z.tb [10] J3 rfl (Jk hs) rfl ?_; refine V40 ?_; refine Z.only [2, 3, 7, 94] rfl ?_; refine V6 ?_; refine Z.cond rfl (fun hc16 => ?_) (fun hc16 => ?_)
    · (try simp at hc16)
      refine V189 ?_
      repeat (first | refine Z.rthen ?_ | refine Z.rblock ?_ | refine Z.rscope ?_)
      refine V199 ?_; refine ⟨_, rfl, congrArg Value.bool ?_, Jn hs⟩
      first
      | exact (decide_eq_true ⟨hq.1, hq.2.1, hq.2.2.1, by rwa [List.take_of_length_le J5, List.take_of_length_le J5] at ht⟩).symm
      | exact (decide_eq_false fun h ↦ at_ne hxi hyi hc16 h.2.2.2).symm
      | exact (decide_eq_false fun h ↦ at_ne hxi hyi hc11 h.2.2.1).symm
      | exact (decide_eq_false fun h ↦ at_ne hpi hqi (fun e ↦ by subst e; simp at hc6) h.2.1).symm
      | exact (decide_eq_false fun h ↦ by
          rcases hc1 with ((e | e) | e) | e
          · exact e h.1
          · exact e (by rw [h.2.1])
          · exact e (by rw [h.2.2.1])
          exact e (by rw [h.2.2.2])).symm
    (try simp at hc16)
    refine V331 ?_; refine Z.only [2, 3, 7] rfl ?_; refine V6 ?_; exact Z.again (i + 1) J13 ⟨⟨by omega, hq, tk_eq ht hxi hyi hc16⟩, hs⟩ J5
  (try simp at hc14)
  refine V305 ?_; refine ⟨_, rfl, congrArg Value.bool ?_, Jn hs⟩
  first
  | exact (decide_eq_true ⟨hq.1, hq.2.1, hq.2.2.1, by rwa [List.take_of_length_le J5, List.take_of_length_le J5] at ht⟩).symm
  | exact (decide_eq_false fun h ↦ at_ne hxi hyi hc16 h.2.2.2).symm
  | exact (decide_eq_false fun h ↦ at_ne hxi hyi hc11 h.2.2.1).symm
  | exact (decide_eq_false fun h ↦ at_ne hpi hqi (fun e ↦ by subst e; simp at hc6) h.2.1).symm
  | exact (decide_eq_false fun h ↦ by
      rcases hc1 with ((e | e) | e) | e
      · exact e h.1
      · exact e (by rw [h.2.1])
      · exact e (by rw [h.2.2.1])
      exact e (by rw [h.2.2.2])).symm

theorem build_ok {m : MaV} (hm : m.ok) {now n : Int} {sd : List Prt} : (buildV m now n sd).1.ok := by
  unfold buildV
  split
  · exact hm
  rename_i h1
  have h1 : okBu m now n sd := Classical.not_not.1 h1
  split
  · exact hm
  split
  · exact hm
  have hr : (buE m now n sd).1.ok ∧ (buE m now n sd).1.now ≤ now := by
    unfold buE
    split
    · refine ⟨hm.r.elsV _ _, ?_⟩
      have h3 := hm.rn; have h4 := h1.1.2; unfold elsV
      split
      · show (elM m.r now (n - buN sd)).now ≤ now
        unfold elM
        split
        · exact Int.le_of_eq elM1_now.1
        exact Int.le_of_eq elM1_now.1
      show m.r.now ≤ now
      omega
    exact ⟨hm.r, by have := hm.rn; have := h1.1.2.1; show m.r.now ≤ now; omega⟩
  exact ⟨hm.b, hr.1, by have := hm.bn; have := h1.1.2.1; show m.b.now ≤ now; omega, hr.2, by have := hm.ln; have := h1.1.2.1; show 0 ≤ now; omega, h1.1.2.2⟩
theorem build_l (m : MaV) (now n : Int) (sd : List Prt) : (buildV m now n sd).1.b = m.b ∧ (buildV m now n sd).1.up = m.up := by
  unfold buildV
  split
  · exact ⟨rfl, rfl⟩
  split
  · exact ⟨rfl, rfl⟩
  split <;> exact ⟨rfl, rfl⟩
theorem plan_l (m : MaV) (now n head : Int) (dem : List Int) : (planV m now n head dem).1.b.l = m.b.l ∧ (planV m now n head dem).1.up = m.up := by
  unfold planV
  split
  · refine ⟨?_, rfl⟩
    show (plD m now n head dem).1.l = m.b.l
    unfold plD; rw [(divV_l _ _ _).1]; unfold tickV
    split <;> rfl
  exact ⟨rfl, rfl⟩
theorem plan_len {m : MaV} (hm : m.ok) {now n head : Int} {dem : List Int} : (planV m now n head dem).2.1.length ≤ 1000 := by
  unfold planV
  split
  · rename_i h
    show (List.map _ _).length ≤ 1000
    rw [List.length_map, (plan_out hm h).1]; have := hm.b.pos
    omega
  exact Nat.zero_le _
theorem mx_plan (g gb gr : Nat) (C : Option Addr) (kc : Nat) (sv so : Value) (m : MaV) (now n head : Int) (D : Option Addr) (nd cd : Nat) (dem : List Int) (w : World) (hs : St w (idsOf (maE g gb gr C kc sv so m)) w (maE g gb gr C kc sv so m)) (hm : m.ok)
    (hC : Sx w (idsOf (maE g gb gr C kc sv so m)) C (m.b.l.flatMap LgV.cells)) (hD : Sx w (idsOf (maE g gb gr C kc sv so m)) D (ints .i64 dem)) (hdl : dem.length = nd) (hnd : nd ≤ 1000) :
    Calls Tryz.prog 16 #[.pointer (some ⟨g, 0, none⟩), .int .i64 now, .int .i64 n, .int .i64 head, .slice D nd cd] w (Ret fun v w' => PlR g gb gr C kc sv so (planV m now n head dem) (idsOf (maE g gb gr C kc sv so m)) w v w') := by
  cases hup : m.up with
  | true => exact mx_plan_up g gb gr C kc sv so m now n head D nd cd dem w hs hm hup hC hD hdl hnd
  | false => exact mx_plan_dn g gb gr C kc sv so m now n head D nd cd dem w hs hm hup hC hD hdl hnd
theorem mx_build (g gb gr : Nat) (C : Option Addr) (kc : Nat) (sv so : Value) (m : MaV) (now n : Int) (A : Option Addr) (nn c : Nat) (ps : List MpV) (w : World) (hs : St w (idsOf (maE g gb gr C kc sv so m)) w (maE g gb gr C kc sv so m)) (hm : m.ok)
    (hx : Sx w (idsOf (maE g gb gr C kc sv so m)) A (ps.flatMap MpV.cells)) (hB : ∀ q ∈ ps, Sx w (idsOf (maE g gb gr C kc sv so m)) q.B (ints .u8 q.l)) (hby : ∀ q ∈ ps, ∀ y ∈ q.l, 0 ≤ y ∧ y < 256) (hl : ps.length = nn) (hn : nn ≤ 90) (hf : ∀ q ∈ ps, q.l.length ≤ 100000) :
    Calls Tryz.prog 23 #[.pointer (some ⟨g, 0, none⟩), .int .i64 now, .int .i64 n, .slice A nn c] w (Ret fun v w' => BuR g gb gr C kc sv so (buildV m now n (ps.map MpV.plain)) (idsOf (maE g gb gr C kc sv so m)) w v w') := by
  cases hup : m.up with
  | true => exact mx_build_up g gb gr C kc sv so m now n A nn c ps w hs hm hup hx hB hby hl hn hf
  | false => exact mx_build_dn g gb gr C kc sv so m now n A nn c ps w hs hm hup hx hB hby hl hn hf
theorem num29 (e : Int) (w : World) : Calls Tryz.prog 13 #[.int .i64 e] w (Ret fun v w' => v = .int .i64 e ∧ St w [] w' []) := by
  have hs := St.start w; refine Z.enter func13 rfl ntmps13 rfl rfl ?_; refine V242 ?_; refine V215 ?_; exact ⟨_, rfl, rfl, hs⟩
theorem same29 (A B : Option Addr) (n c k d : Nat) (xs ys : List Int) (w : World) (hA : Sl w A (ints .i64 xs)) (hB : Sl w B (ints .i64 ys)) (hl : xs.length = n) (hk : ys.length = k) (hn : n ≤ 1000) :
    Calls Tryz.prog 35 #[.slice A n c, .slice B k d] w (Ret fun v w' => v = .bool (decide (xs = ys)) ∧ St w [] w' []) := by
  have hs := St.start w; refine Z.enter func35 rfl ntmps35 rfl rfl ?_; refine V394 ?_; refine V125 ?_; refine V26 ?_; refine V859 ?_; refine V248 ?_; refine Z.only [0, 1, 10] rfl ?_; refine V6 ?_; refine Z.cond rfl (fun hc1 => ?_) (fun hc1 => ?_)
  · (try simp at hc1)
    have hne : ¬ xs = ys := fun h => by subst h; omega
    refine V189 ?_
    repeat (first | refine Z.rthen ?_ | refine Z.rblock ?_ | refine Z.rscope ?_)
    refine V199 ?_; exact ⟨_, rfl, by rw [decide_eq_false hne], hs⟩
  (try simp at hc1)
  have hnk : n = k := by omega
  refine V463 ?_; refine Z.only [0, 1, 5] rfl ?_; refine V861 ?_; refine Z.loopk (ι := Nat) [0, 1] rfl (fun i => [(5, [], .int .i64 (i : Int))]) (fun i wr => (i ≤ n ∧ xs.take i = ys.take i) ∧ St w [] wr []) (fun i => n - i) 0 J6 ⟨⟨by omega, rfl⟩, hs⟩ ?_; clear hs; rintro i w4 ⟨⟨hi, ht⟩, hs⟩; refine Z.only [0, 1, 5] rfl ?_; refine V217 ?_; refine V248 ?_; refine Z.only [0, 1, 5, 14] rfl ?_; refine V6 ?_; refine Z.cond rfl (fun hc4 => ?_) (fun hc4 => ?_)
  · (try simp at hc4)
    have hxi : xs[i]? = some (elt xs (i : Int)) := by rw [elt_get J5]; exact List.getElem?_eq_getElem J5
    have hyi : ys[i]? = some (elt ys (i : Int)) := by rw [elt_get J5]; exact List.getElem?_eq_getElem J5
    obtain ⟨b, off, rfl, hb1, hx2⟩ := Z.Sl.some hA J70; obtain ⟨b', off', rfl, hb2, hy2⟩ := Z.Sl.some hB J70; refine V499 ?_; clear hs; intro wd6 hs; refine V228 ?_; refine Z.t 3 rfl rfl rfl (by rfl) J3 (Jk hs) (Z.Yd.load rfl isAgg3 (fun _ => Z.cellS hx2 rfl J5 J5)) ?_; refine V229 ?_; refine Z.t 7 rfl rfl rfl (by rfl) J3 (Jk hs) (Z.Yd.load rfl isAgg3 (fun _ => Z.cellS hy2 rfl J5 J5)) ?_; refine Z.tb [8] J3 rfl (Jk hs) rfl ?_; refine V40 ?_; refine Z.only [0, 1, 5, 25] rfl ?_; refine V6 ?_; refine Z.cond rfl (fun hc6 => ?_) (fun hc6 => ?_)
    · (try simp at hc6)
      have hne : ¬ xs = ys := fun h => by
        rw [h] at hc6; simp at hc6
      refine V189 ?_
      repeat (first | refine Z.rthen ?_ | refine Z.rblock ?_ | refine Z.rscope ?_)
      refine V199 ?_; exact ⟨_, rfl, by rw [decide_eq_false hne], hs⟩
    (try simp at hc6)
    refine V331 ?_; refine Z.only [0, 1, 5] rfl ?_; refine V6 ?_; refine Z.again (i + 1) J13 ⟨⟨by omega, ?_⟩, hs⟩ J5; rw [List.take_add_one, List.take_add_one, hxi, hyi, ht]
    simp_all
  (try simp at hc4)
  refine V305 ?_; rw [List.take_of_length_le J5, List.take_of_length_le J5] at ht; exact ⟨_, rfl, by rw [decide_eq_true ht], hs⟩
theorem plans29 (g gb gr : Nat) (C : Option Addr) (kc : Nat) (sv so : Value) (m : MaV) (now n head dm want no : Int) (w : World) (hs : St w (idsOf (maE g gb gr C kc sv so m)) w (maE g gb gr C kc sv so m)) (hm : m.ok)
    (hC : Sx w (idsOf (maE g gb gr C kc sv so m)) C (m.b.l.flatMap LgV.cells)) :
    Calls Tryz.prog 25 #[.pointer (some ⟨g, 0, none⟩), .int .i64 now, .int .i64 n, .int .i64 head, .int .i64 dm, .int .i64 want, .int .i64 no] w (Ret fun v w' => v = .bool (decide ((planV m now n head [dm]).2 = (if no ≠ 0 then [] else [want], no))) ∧ St w (idsOf (maE g gb gr C kc sv so m)) w' (maE g gb gr C kc sv so (planV m now n head [dm]).1)) := by
  obtain ⟨R, hR⟩ : ∃ R, planV m now n head [dm] = R := ⟨_, rfl⟩; have hlen : R.2.1.length ≤ 1000 := by rw [← hR]; exact plan_len hm
  refine Z.enter func25 rfl ntmps25 rfl rfl ?_; refine V121 ?_; refine Z.only [0, 1, 2, 3, 4, 5, 6] rfl ?_; refine V858 ?_; refine Z.lb 5 rfl ?_; refine V2 ?_; refine V57 ?_; clear hs; intro g23 w23 hs; replace hs : St w _ _ (maE g gb gr C kc sv so m ++ [Ent.blk g23 3 #[.int .i64 dm]]) := St.rot (L1 := [_]) hs; refine V2 ?_; refine Z.ZO.call rfl rfl (by rfl) rfl rfl call16 rfl (mx_plan g gb gr C kc sv so m now n head (some ⟨g23, 0, none⟩) 1 1 [dm] _ hs.lend hm (hC.lent hs) (Z.blk_lentj hs (j := 0) rfl) rfl J12) ?_; rintro v1_6 w1_6 ⟨ov, rfl, hz⟩; rw [hR] at hz; rw [hR]; replace hs := hs.regain hz; obtain ⟨Ao, co, rfl, -, -, -⟩ := row_slv hs (j := 0) rfl; refine V126 ?_; refine Z.only [5, 6, 15, 16] rfl ?_; refine V84 ?_; refine Z.only [5, 6, 15, 16, 28] rfl ?_; refine V6 ?_; refine Z.cond rfl (fun hc2 => ?_) (fun hc2 => ?_)
  · (try simp at hc2)
    refine V363 ?_; refine V26 ?_; refine V11 ?_; refine Z.split (s := 32) rfl (fun hsp32 => ?_) (fun hsp32 => ?_)
    · refine Z.yes (s := 32) (b := true) rfl hsp32 rfl ?_
      (try simp at hsp32)
      refine V859 ?_; refine Z.yes (s := 32) (b := true) rfl rfl rfl ?_; refine V160 ?_; refine V115 ?_; rintro v3_5 w3_5 ⟨rfl, hy⟩; replace hs := U0 (hs.call hy); clear hy; refine V11 ?_; refine Z.yes (s := 32) (b := true) rfl rfl rfl ?_; refine V20 ?_; refine V1 ?_; refine Z.only [14] rfl ?_; refine V90 ?_
      repeat (first | refine Z.rthen ?_ | refine Z.rblock ?_ | refine Z.rscope ?_)
      refine V199 ?_; exact ⟨_, rfl, by congr 1; rw [Bool.eq_iff_iff]; simp [Prod.ext_iff, hc2, hsp32], hs.sub ((List.sublist_append_left _ _).cons _)⟩
    refine Z.yes (s := 32) (b := false) rfl hsp32 rfl ?_
    (try simp at hsp32)
    refine V4 ?_; refine V36 ?_; refine V14 ?_; refine V1 ?_; refine Z.only [14] rfl ?_; refine V90 ?_
    repeat (first | refine Z.rthen ?_ | refine Z.rblock ?_ | refine Z.rscope ?_)
    refine V199 ?_; exact ⟨_, rfl, by congr 1; rw [Bool.eq_iff_iff]; simp [Prod.ext_iff, hc2, hsp32], hs.sub ((List.sublist_append_left _ _).cons _)⟩
  (try simp at hc2)
  refine V862 ?_; refine V527 ?_; refine V57 ?_; clear hs; intro g40 w40 hs; refine V2 ?_; refine Z.ZO.call rfl rfl (by rfl) rfl rfl call35 rfl (same29 Ao (some ⟨g40, 0, none⟩) _ co 1 1 R.2.1 [want] _ (hs.slm J0) (hs.blkSl J0) rfl rfl hlen) ?_; rintro v4_3 w4_3 ⟨rfl, hy⟩; replace hs := U0 (hs.call hy); clear hy; refine V859 ?_; refine Z.split (s := 42) rfl (fun hsp42 => ?_) (fun hsp42 => ?_)
  · refine Z.yes (s := 42) (b := true) rfl hsp42 rfl ?_
    (try simp at hsp42)
    refine V859 ?_; refine Z.yes (s := 42) (b := true) rfl rfl rfl ?_; refine V160 ?_; refine V115 ?_; rintro v4_6 w4_6 ⟨rfl, hy⟩; replace hs := U0 (hs.call hy); clear hy; refine V859 ?_; refine Z.yes (s := 42) (b := true) rfl rfl rfl ?_; refine V20 ?_; refine V1 ?_; refine Z.only [14] rfl ?_; refine V422 ?_; exact ⟨_, rfl, by congr 1; rw [Bool.eq_iff_iff]; simp [Prod.ext_iff, hc2, hsp42], hs.sub (((List.sublist_append_left _ _).cons _).cons _)⟩
  refine Z.yes (s := 42) (b := false) rfl hsp42 rfl ?_
  (try simp at hsp42)
  refine V4 ?_; refine V14 ?_; refine V1 ?_; refine Z.only [14] rfl ?_; refine V422 ?_; exact ⟨_, rfl, by congr 1; rw [Bool.eq_iff_iff]; simp [Prod.ext_iff, hc2, hsp42], hs.sub (((List.sublist_append_left _ _).cons _).cons _)⟩
theorem builds29 (g gb gr : Nat) (C : Option Addr) (kc : Nat) (sv so : Value) (m : MaV) (now n : Int) (s : ByteArray) (no : Int) (A : Option Addr) (nn c : Nat) (ps : List MpV) (w : World) (hs : St w (idsOf (maE g gb gr C kc sv so m)) w (maE g gb gr C kc sv so m)) (hm : m.ok)
    (hx : Sx w (idsOf (maE g gb gr C kc sv so m)) A (ps.flatMap MpV.cells)) (hB : ∀ q ∈ ps, Sx w (idsOf (maE g gb gr C kc sv so m)) q.B (ints .u8 q.l)) (hby : ∀ q ∈ ps, ∀ y ∈ q.l, 0 ≤ y ∧ y < 256) (hl : ps.length = nn) (hn : nn ≤ 90) (hf : ∀ q ∈ ps, q.l.length ≤ 100000) :
    Calls Tryz.prog 19 #[.pointer (some ⟨g, 0, none⟩), .int .i64 now, .int .i64 n, .string s, .int .i64 no, .slice A nn c] w (Ret fun v w' => v = .bool (((Z.strOf (buildV m now n (ps.map MpV.plain)).2.1).toList == s.toList) && decide ((buildV m now n (ps.map MpV.plain)).2.2 = no)) ∧ St w (idsOf (maE g gb gr C kc sv so m)) w' (maE g gb gr C kc sv so (buildV m now n (ps.map MpV.plain)).1)) := by
  obtain ⟨R, hR⟩ : ∃ R, buildV m now n (ps.map MpV.plain) = R := ⟨_, rfl⟩; refine Z.enter func19 rfl ntmps19 rfl rfl ?_; refine V121 ?_; refine Z.only [0, 1, 2, 3, 4, 5] rfl ?_; refine V858 ?_; refine V259 ?_; refine V2 ?_; refine Z.ZO.call rfl rfl (by rfl) rfl rfl call23 rfl (mx_build g gb gr C kc sv so m now n A nn c ps _ hs hm hx hB hby hl hn hf) ?_; rintro v1_4 w1_4 ⟨ov, rfl, hs⟩; rw [hR] at hs; rw [hR]; obtain ⟨Ao, co, rfl, -, -, -⟩ := row_slv hs (j := 0) rfl; refine V126 ?_; refine Z.only [3, 4, 13, 14] rfl ?_; refine V303 ?_; refine Z.l rfl rfl (by rfl) (Z.keepS hs) (Z.Yd.b2s rfl underlying48 underlying5 underlying9 rfl (fun W hW => by obtain ⟨L', hR', hsub⟩ := hW; exact hR'.slm (hsub _ J0))) ?_; refine V859 ?_; refine Z.l rfl rfl (by rfl) (Z.keepS hs) (Z.Yd.strEq rfl rfl) ?_; refine V859 ?_; refine Z.split (s := 27) rfl (fun hsp27 => ?_) (fun hsp27 => ?_)
  · refine Z.yes (s := 27) (b := true) rfl hsp27 rfl ?_
    (try simp at hsp27)
    refine V859 ?_; refine Z.yes (s := 27) (b := true) rfl rfl rfl ?_; refine V160 ?_; refine V115 ?_; rintro v2_6 w2_6 ⟨rfl, hy⟩; replace hs := U0 (hs.call hy); clear hy; refine V11 ?_; refine Z.yes (s := 27) (b := true) rfl rfl rfl ?_; refine V20 ?_; refine V1 ?_; refine Z.only [12] rfl ?_; refine V422 ?_; exact ⟨_, rfl, by congr 1; rw [Bool.eq_iff_iff]; simp [hsp27], hs.tl⟩
  refine Z.yes (s := 27) (b := false) rfl hsp27 rfl ?_
  (try simp at hsp27)
  refine V4 ?_; refine V36 ?_; refine V14 ?_; refine V1 ?_; refine Z.only [12] rfl ?_; refine V422 ?_; exact ⟨_, rfl, by congr 1; rw [Bool.eq_iff_iff]; simp [hsp27], hs.tl⟩

def k29l : List LgV := [⟨3, 1, 10, 100, 2⟩]
def k29m0 : MaV := newM k29l 0 0 0 0 false
def k29m1 : MaV := (planV k29m0 1 20 0 [50]).1
def k29m2 : MaV := (planV k29m1 1 2 0 [50]).1
def k29m3 : MaV := (planV k29m2 0 20 0 [50]).1
def k29m4 : MaV := (buildV k29m3 1 5 [(3, [1, 2])]).1
def k29m5 : MaV := (buildV k29m4 1 2 [(3, [1, 2])]).1
def k29m6 : MaV := (buildV k29m5 1 5 []).1
def k29m7 : MaV := (buildV k29m6 1 5 [(4, [1])]).1
def k29u0 : MaV := newM k29l 0 0 0 0 true
def k29u1 : MaV := (planV k29u0 1 20 5 [50]).1
theorem k29s : okSet k29l := by decide +kernel
theorem k29c : okC 0 0 0 0 := by decide +kernel
theorem e29_1 : (planV k29m0 1 20 0 [50]).2 = ([17], 0) := by decide +kernel
theorem e29_2 : (planV k29m1 1 2 0 [50]).2 = ([0], 0) := by decide +kernel
theorem e29_3 : (planV k29m2 0 20 0 [50]).2 = ([], 2) := by decide +kernel
theorem e29_8 : (recV k29m7 [63, 61, 3, 7, 1, 2]).1 = 0 ∧ sameC (recV k29m7 [63, 61, 3, 7, 1, 2]).2 ⟨[(3, [1, 2])], [⟨false, 0, 7, 0, 0, 0⟩], [], []⟩ := by decide +kernel
theorem e29_9 : (planV k29u0 1 20 5 [50]).2 = ([13], 0) := by decide +kernel
theorem blk_lentm {w0 w : World} {M : List Nat} {L1 L2 : List Ent} {g T : Nat} {cs : Array Value} (hs : St w0 M w (L1 ++ L2)) (hm : Ent.blk g T cs ∈ L2) : Sx w (idsOf L1) (some ⟨g, 0, none⟩) cs.toList := by
  obtain ⟨j, hj⟩ := List.getElem?_of_mem hm; exact Z.blk_lentj hs hj
theorem St.mid {w0 w : World} {M : List Nat} {L1 L2 : List Ent} {e : Ent} (hs : St w0 M w (e :: (L1 ++ L2))) : St w0 M w (L1 ++ (e :: L2)) := hs.perm List.perm_middle
theorem recGo_sd {m : MaV} : ∀ (r : List Prt) (x : CtV), (∀ p ∈ (recGo m r x).2.sd, p ∈ x.sd ∨ p ∈ r) ∧ (recGo m r x).2.rp.length ≤ x.rp.length + r.length ∧ (recGo m r x).2.pw.length ≤ x.pw.length + r.length ∧ (recGo m r x).2.id.length ≤ x.id.length + r.length ∧ (recGo m r x).2.sd.length ≤ x.sd.length + r.length
  | [], x => ⟨fun p hp => .inl hp, Nat.le_refl _, Nat.le_refl _, Nat.le_refl _, Nat.le_refl _⟩
  | p :: r, x => by
    rw [recGo]
    split
    · exact ⟨fun p hp => (by cases hp), Nat.zero_le _, Nat.zero_le _, Nat.zero_le _, Nat.zero_le _⟩
    obtain ⟨h1, h2, h3, h4, h5⟩ := recGo_sd (m := m) r (recS m x p).2; have key : (∀ q ∈ (recS m x p).2.sd, q ∈ x.sd ∨ q = p) ∧ (recS m x p).2.rp.length ≤ x.rp.length + 1 ∧ (recS m x p).2.pw.length ≤ x.pw.length + 1 ∧ (recS m x p).2.id.length ≤ x.id.length + 1 ∧ (recS m x p).2.sd.length ≤ x.sd.length + 1 := by
      by_cases hc : ctlN p.1 = 0
      · rw [recS_no hc]
        split
        · refine ⟨fun q hq => ?_, by simp, by simp, by simp, by simp⟩
          rcases List.mem_append.1 hq with h | h
          · exact .inl h
          exact .inr (by simpa using h)
        exact ⟨fun q hq => .inl hq, by simp, by simp, by simp, by simp⟩
      obtain ⟨k1, k2, k3, k4⟩ := recS_ctl (m := m) (x := x) hc; exact ⟨fun q hq => .inl (by rwa [k1] at hq), k4, k2, k3, by rw [k1]; omega⟩
    obtain ⟨k1, k2, k3, k4, k5⟩ := key; refine ⟨fun q hq => ?_, by simp only [List.length_cons]; omega, by simp only [List.length_cons]; omega, by simp only [List.length_cons]; omega, by simp only [List.length_cons]; omega⟩
    rcases h1 q hq with h | h
    · rcases k1 q h with h' | h'
      · exact .inl h'
      exact .inr (by rw [h']; exact List.mem_cons_self ..)
    exact .inr (List.mem_cons_of_mem _ h)
theorem rec_bd (m : MaV) (l : List Int) : (∀ p ∈ (recV m l).2.sd, p ∈ (parV l).2) ∧ (recV m l).2.rp.length ≤ 16385 ∧ (recV m l).2.pw.length ≤ 16385 ∧ (recV m l).2.id.length ≤ 16385 ∧ (recV m l).2.sd.length ≤ 16385 := by
  have hc := par_cnt l; unfold recV
  split
  · exact ⟨fun p hp => (by cases hp), Nat.zero_le _, Nat.zero_le _, Nat.zero_le _, Nat.zero_le _⟩
  obtain ⟨h1, h2, h3, h4, h5⟩ := recGo_sd (m := m) (parV l).2 CtV.nil; have e : CtV.nil.rp.length = 0 ∧ CtV.nil.pw.length = 0 ∧ CtV.nil.id.length = 0 ∧ CtV.nil.sd.length = 0 := ⟨rfl, rfl, rfl, rfl⟩; refine ⟨fun p hp => ?_, by omega, by omega, by omega, by omega⟩
  rcases h1 p hp with h | h
  · cases h
  exact h
theorem rec_ctq {w0 W : World} {M : List Nat} {L : List Ent} {m : MaV} {l : List Int} {s0 s1 s2 s3 : Value} {xs : List MpV} {qs : List (MpV × Nat)} (hb : ∀ x ∈ l, 0 ≤ x ∧ x < 256) (hs : St w0 M W L) (hp : xs.map MpV.plain = (recV m l).2.sd) (hm : ∀ q ∈ xs, q ∈ qs.map Prod.fst)
    (hL : ∀ e ∈ ([Ent.row s0 77 2 xs.length (xs.flatMap MpV.cells), Ent.row s1 86 6 (recV m l).2.rp.length ((recV m l).2.rp.flatMap RepV.cells), Ent.row s2 3 1 (recV m l).2.pw.length (ints .i64 (recV m l).2.pw), Ent.row s3 123 1 (recV m l).2.id.length (ints .u64 (recV m l).2.id)] ++ rowsQ qs), e ∈ L) : CtQ W [s0, s1, s2, s3] xs (recV m l).2 := by
  obtain ⟨j0, h0⟩ := List.getElem?_of_mem (hL (Ent.row s0 77 2 xs.length (xs.flatMap MpV.cells)) J16); obtain ⟨j1, h1⟩ := List.getElem?_of_mem (hL (Ent.row s1 86 6 (recV m l).2.rp.length ((recV m l).2.rp.flatMap RepV.cells)) J16); obtain ⟨j2, h2⟩ := List.getElem?_of_mem (hL (Ent.row s2 3 1 (recV m l).2.pw.length (ints .i64 (recV m l).2.pw)) J16); obtain ⟨j3, h3⟩ := List.getElem?_of_mem (hL (Ent.row s3 123 1 (recV m l).2.id.length (ints .u64 (recV m l).2.id)) J16); obtain ⟨A0, c0, rfl, -, -, -⟩ := row_slv hs h0; obtain ⟨A1, c1, rfl, -, -, -⟩ := row_slv hs h1; obtain ⟨A2, c2, rfl, -, -, -⟩ := row_slv hs h2; obtain ⟨A3, c3, rfl, -, -, -⟩ := row_slv hs h3; refine ⟨A0, c0, A1, c1, A2, c2, A3, c3, rfl, hp, hs.slm (List.mem_of_getElem? h0), hs.slm (List.mem_of_getElem? h1), hs.slm (List.mem_of_getElem? h2), hs.slm (List.mem_of_getElem? h3), fun q hq => rowsQ_sl hs (fun e he => hL e (List.mem_append_right _ he)) q (hm q hq), fun q hq z hz => ?_⟩; have h5 : q.plain ∈ (recV m l).2.sd := by rw [← hp]; exact List.mem_map_of_mem hq
  exact hb z (par_mem l _ ((rec_bd m l).1 _ h5) z hz)
theorem en_of {w0 W : World} {M : List Nat} {L : List Ent} {g gb gr : Nat} {C : Option Addr} {kc : Nat} {sv so : Value} {m : MaV} (hs : St w0 M W L) (hL : ∀ e ∈ maE g gb gr C kc sv so m, e ∈ L) : EnX W [] g gb m :=
  bkX (hs.bkR (sv := sv) (so := so) (m := m.b) (fun e he => hL e (List.mem_cons_of_mem _ (List.mem_append_left _ he)))) (hs.celOf (cs := [_, _, _, _]) (hL _ (List.mem_cons_self ..)))
theorem pl29 (g gb gr : Nat) (C : Option Addr) (kc : Nat) (sv so : Value) (m : MaV) (now n head dm want no : Int) (w : World) (hs : St w (idsOf (maE g gb gr C kc sv so m)) w (maE g gb gr C kc sv so m)) (hm : m.ok)
    (hC : Sx w (idsOf (maE g gb gr C kc sv so m)) C (m.b.l.flatMap LgV.cells)) (hv : (planV m now n head [dm]).2 = (if no ≠ 0 then [] else [want], no)) :
    Calls Tryz.prog 25 #[.pointer (some ⟨g, 0, none⟩), .int .i64 now, .int .i64 n, .int .i64 head, .int .i64 dm, .int .i64 want, .int .i64 no] w (Ret fun v w' => v = .bool true ∧ St w (idsOf (maE g gb gr C kc sv so m)) w' (maE g gb gr C kc sv so (planV m now n head [dm]).1)) := by
  have := plans29 g gb gr C kc sv so m now n head dm want no w hs hm hC
  rwa [decide_eq_true hv] at this
theorem bu29 (g gb gr : Nat) (C : Option Addr) (kc : Nat) (sv so : Value) (m : MaV) (now n : Int) (s : ByteArray) (no : Int) (A : Option Addr) (nn c : Nat) (ps : List MpV) (sd : List Prt) (w : World) (hs : St w (idsOf (maE g gb gr C kc sv so m)) w (maE g gb gr C kc sv so m)) (hm : m.ok)
    (hx : Sx w (idsOf (maE g gb gr C kc sv so m)) A (ps.flatMap MpV.cells)) (hB : ∀ q ∈ ps, Sx w (idsOf (maE g gb gr C kc sv so m)) q.B (ints .u8 q.l)) (hby : ∀ q ∈ ps, ∀ y ∈ q.l, 0 ≤ y ∧ y < 256) (hl : ps.length = nn) (hn : nn ≤ 90) (hf : ∀ q ∈ ps, q.l.length ≤ 100000) (hsd : ps.map MpV.plain = sd) (hv : (((Z.strOf (buildV m now n sd).2.1).toList == s.toList) && decide ((buildV m now n sd).2.2 = no)) = true) :
    Calls Tryz.prog 19 #[.pointer (some ⟨g, 0, none⟩), .int .i64 now, .int .i64 n, .string s, .int .i64 no, .slice A nn c] w (Ret fun v w' => v = .bool true ∧ St w (idsOf (maE g gb gr C kc sv so m)) w' (maE g gb gr C kc sv so (buildV m now n sd).1)) := by
  have := builds29 g gb gr C kc sv so m now n s no A nn c ps w hs hm hx hB hby hl hn hf
  rwa [hsd, hv] at this
def ex4 (B : Option Addr) : MpV := ⟨4, B, 1, [1]⟩
theorem ex_b {B : Option Addr} : ∀ y ∈ (exS B).l, 0 ≤ y ∧ y < 256 := by show ∀ y ∈ [(1 : Int), 2], 0 ≤ y ∧ y < 256; decide
theorem ex_n {B : Option Addr} : (exS B).l.length ≤ 100000 := by show 2 ≤ 100000; decide
theorem ex_b4 {B : Option Addr} : ∀ y ∈ (ex4 B).l, 0 ≤ y ∧ y < 256 := by show ∀ y ∈ [(1 : Int)], 0 ≤ y ∧ y < 256; decide
theorem ex_n4 {B : Option Addr} : (ex4 B).l.length ≤ 100000 := by show 1 ≤ 100000; decide
theorem k29o0 : k29m0.ok := newM_ok k29s k29c
theorem k29o1 : k29m1.ok := plan_ok k29o0
theorem k29o2 : k29m2.ok := plan_ok k29o1
theorem k29o3 : k29m3.ok := plan_ok k29o2
theorem k29o4 : k29m4.ok := build_ok k29o3
theorem k29o5 : k29m5.ok := build_ok k29o4
theorem k29o6 : k29m6.ok := build_ok k29o5
theorem k29o7 : k29m7.ok := build_ok k29o6
theorem k29p0 : k29u0.ok := newM_ok k29s k29c
theorem k29p1 : k29u1.ok := plan_ok k29p0
theorem k29l1 : k29m1.b.l = k29l := (plan_l _ _ _ _ _).1
theorem k29l2 : k29m2.b.l = k29l := (plan_l _ _ _ _ _).1.trans k29l1
theorem ex_one4 {B : Option Addr} {P : MpV → Prop} (h : P (ex4 B)) : ∀ q ∈ [ex4 B], P q := fun q hq => by rw [List.mem_singleton.1 hq]; exact h
theorem St.mid2 {w0 w : World} {M : List Nat} {L1 L2 : List Ent} {e f : Ent} (hs : St w0 M w (e :: f :: (L1 ++ L2))) : St w0 M w (L1 ++ (e :: f :: L2)) := hs.perm (List.perm_append_comm_assoc L1 [e, f] L2)
theorem ex_one {B : Option Addr} {P : MpV → Prop} (h : P (exS B)) : ∀ q ∈ [exS B], P q := fun q hq => by rw [List.mem_singleton.1 hq]; exact h
theorem works29 (w : World) : Calls Tryz.prog 10 #[] w (Ret fun v w' => v = .bool true ∧ St w [] w' []) := by
  have hs := St.start w; refine Z.enter func10 rfl ntmps10 rfl rfl ?_; refine V121 ?_; refine Z.only [] rfl ?_; refine V858 ?_; refine Z.l rfl rfl (by rfl) (Z.keepS hs) (Z.Yd.buildL [(0, 1), (1, 1), (2, 1), (3, 1), (4, 1)] [.int .i64 0, .int .i64 0, .int .i64 0, .int .i64 0, .int .i64 0] rfl rfl J18) ?_; refine V2 ?_; refine Z.ZO.litL (T' := 75) [(0, 5)] [.int .i64 0, .int .i64 0, .int .i64 0, .int .i64 0, .int .i64 0] rfl rfl (by rfl) rfl rfl J19 hs ?_; clear hs; intro g10 w10 hs; refine Z.l rfl rfl (by rfl) (Z.keepS hs) (Z.Yd.buildL [(0, 1), (1, 4), (5, 1)] [.slice none 0 0, .int .i64 0, .int .i64 0, .int .i64 0, .int .i64 0, .bool false] rfl rfl J18) ?_; refine V2 ?_; refine Z.ZO.alloc rfl rfl (by rfl) zeroValue26 rfl hs ?_; clear hs; intro g1 w1 hs; refine V860 ?_; clear hs; intro ws hs; replace hs := U1 hs; replace hs := U2 hs; refine V857 ?_; refine V264 ?_; refine V858 ?_; refine V2 ?_; refine Z.ZO.litL (T' := 5) [(0, 1), (1, 1)] [.int .u8 0, .int .u8 0] rfl rfl (by rfl) rfl rfl J19 hs ?_; clear hs; intro g12 w12 hs; refine V164 ?_; refine V274 ?_; clear hs; intro g2 w2 hs; refine V860 ?_; clear hs; intro ws hs; replace hs := U1 hs; replace hs := U2 hs; refine V857 ?_; refine Z.only [1, 2] rfl ?_; refine V858 ?_; refine Z.l rfl rfl (by rfl) (Z.keepS hs) (Z.Yd.loadA _ rfl isAgg26 (fun _ => Z.cellsB (cs := [.slice (some ⟨g10, 0, none⟩) 1 1, .int .i64 0, .int .i64 0, .int .i64 0, .int .i64 0, .bool false]) J0) J116) ?_; refine V2 ?_
  refine Z.ZO.call rfl rfl (by rfl) rfl rfl call11 rfl (mx_new_ok (some ⟨g10, 0, none⟩) 1 1 k29l 0 0 0 0 false _ (by have h0 := hs.blkSl (g := g10) J0; exact h0) rfl J12 J12 k29s k29c) ?_; rintro v3_1 w3_1 ⟨gm, gb, gr, C, kc, sv, so, rfl, hy⟩; replace hs := U0 (hs.call hy); clear hy; simp only [List.append_assoc, List.cons_append, List.nil_append] at hs; replace hs : St w [] _ (maE gm gb gr C kc sv so k29m0 ++ (_ :: _)) := hs; refine V126 ?_; refine Z.only [1, 2, 3, 4] rfl ?_; refine V268 ?_; refine V115 ?_; rintro v4_1 w4_1 ⟨rfl, hy⟩; replace hs := U0 (hs.call hy); clear hy; refine V11 ?_; refine Z.yes (s := 22) (b := false) rfl (J16) rfl ?_; refine V543 ?_; refine V160 ?_; refine Z.ZO.call rfl rfl (by rfl) rfl rfl call25 rfl (pl29 gm gb gr C kc sv so k29m0 1 20 0 50 17 0 _ hs.lend k29o0 (Z.row_lentv hs (j := 0) rfl) e29_1) ?_; rintro v4_5 w4_5 ⟨rfl, hz⟩; replace hs : St w [] _ (maE gm gb gr C kc sv so k29m1 ++ _) := hs.regain hz; refine V543 ?_; refine V276 ?_; refine Z.yes (s := 27) (b := false) rfl (J16) rfl ?_; refine V859 ?_; refine Z.yes (s := 27) (b := false) rfl rfl rfl ?_; refine V160 ?_; refine Z.ZO.call rfl rfl (by rfl) rfl rfl call25 rfl (pl29 gm gb gr C kc sv so k29m1 1 2 0 50 0 0 _ hs.lend k29o1 (by rw [k29l1]; exact Z.row_lentv hs (j := 0) rfl) e29_2) ?_; rintro v4_10 w4_10 ⟨rfl, hz⟩; replace hs : St w [] _ (maE gm gb gr C kc sv so k29m2 ++ _) := hs.regain hz; refine V859 ?_; refine Z.yes (s := 27) (b := false) rfl rfl rfl ?_
  refine V276 ?_; refine Z.yes (s := 32) (b := false) rfl (J16) rfl ?_; refine V859 ?_; refine Z.yes (s := 32) (b := false) rfl rfl rfl ?_; refine V160 ?_; refine Z.ZO.call rfl rfl (by rfl) rfl rfl call25 rfl (pl29 gm gb gr C kc sv so k29m2 0 20 0 50 0 2 _ hs.lend k29o2 (by rw [k29l2]; exact Z.row_lentv hs (j := 0) rfl) e29_3) ?_; rintro v4_15 w4_15 ⟨rfl, hz⟩; replace hs : St w [] _ (maE gm gb gr C kc sv so k29m3 ++ _) := hs.regain hz; refine V859 ?_; refine Z.yes (s := 32) (b := false) rfl rfl rfl ?_; refine V14 ?_; refine V857 ?_; refine Z.only [1, 2, 3, 36] rfl ?_; refine V6 ?_; refine Z.cond rfl (fun h => absurd h J16) (fun hc4 => ?_); refine V47 ?_; refine V125 ?_; refine V142 ?_; refine V2 ?_; refine V58 ?_; clear hs; intro g39 w39 hs; replace hs : St w [] _ (maE gm gb gr C kc sv so k29m3 ++ (_ :: _)) := St.mid hs; refine V2 ?_; refine Z.ZO.call rfl rfl (by rfl) rfl rfl call19 rfl (bu29 gm gb gr C kc sv so k29m3 1 5 _ 0 (some ⟨g39, 0, none⟩) 1 1 [exS (some ⟨g12, 0, none⟩)] [(3, [1, 2])] _ hs.lend k29o3 (blk_lentm hs J0) (ex_one (blk_lentm hs J0)) (ex_one ex_b) rfl J12 (ex_one ex_n) rfl J138) ?_; rintro v6_3 w6_3 ⟨rfl, hz⟩; replace hs : St w [] _ (maE gm gb gr C kc sv so k29m4 ++ _) := hs.regain hz; refine V11 ?_; refine Z.yes (s := 42) (b := false) rfl (J16) rfl ?_; refine V859 ?_; refine V142 ?_; refine V436 ?_; refine V160 ?_; refine V58 ?_; clear hs; intro g45 w45 hs
  replace hs : St w [] _ (maE gm gb gr C kc sv so k29m4 ++ (_ :: _)) := St.mid hs; refine V160 ?_; refine Z.ZO.call rfl rfl (by rfl) rfl rfl call19 rfl (bu29 gm gb gr C kc sv so k29m4 1 2 _ 4 (some ⟨g45, 0, none⟩) 1 1 [exS (some ⟨g12, 0, none⟩)] [(3, [1, 2])] _ hs.lend k29o4 (blk_lentm hs J0) (ex_one (blk_lentm hs J0)) (ex_one ex_b) rfl J12 (ex_one ex_n) rfl J138) ?_; rintro v6_9 w6_9 ⟨rfl, hz⟩; replace hs : St w [] _ (maE gm gb gr C kc sv so k29m5 ++ _) := hs.regain hz; refine V859 ?_; refine V436 ?_; refine V276 ?_; refine Z.yes (s := 49) (b := false) rfl (J16) rfl ?_; refine V859 ?_; refine Z.yes (s := 49) (b := false) rfl rfl rfl ?_; refine V160 ?_; refine Z.ZO.call rfl rfl (by rfl) rfl rfl call19 rfl (bu29 gm gb gr C kc sv so k29m5 1 5 _ 10 none 0 0 [] [] _ hs.lend k29o5 (fun h ↦ absurd h J12) J16 J16 rfl J12 J16 rfl J138) ?_; rintro v6_14 w6_14 ⟨rfl, hz⟩; replace hs : St w [] _ (maE gm gb gr C kc sv so k29m6 ++ _) := hs.regain hz; refine V859 ?_; refine Z.yes (s := 49) (b := false) rfl rfl rfl ?_; refine V276 ?_; refine Z.yes (s := 54) (b := false) rfl (J16) rfl ?_; refine V859 ?_; refine V553 ?_; refine V160 ?_; refine V132 ?_; clear hs; intro g56 w56 hs; refine V164 ?_; refine V553 ?_; refine V160 ?_; refine V58 ?_; clear hs; intro g58 w58 hs; replace hs : St w [] _ (maE gm gb gr C kc sv so k29m6 ++ (_ :: _)) := St.mid2 hs; refine V160 ?_
  refine Z.ZO.call rfl rfl (by rfl) rfl rfl call19 rfl (bu29 gm gb gr C kc sv so k29m6 1 5 _ 2 (some ⟨g58, 0, none⟩) 1 1 [ex4 (some ⟨g56, 0, none⟩)] [(4, [1])] _ hs.lend k29o6 (blk_lentm hs J0) (ex_one4 (blk_lentm hs J0)) (ex_one4 ex_b4) rfl J12 (ex_one4 ex_n4) rfl J138) ?_; rintro v6_22 w6_22 ⟨rfl, hz⟩; replace hs : St w [] _ (maE gm gb gr C kc sv so k29m7 ++ _) := hs.regain hz; refine V859 ?_; refine V553 ?_; refine V14 ?_; refine V857 ?_; refine Z.only [1, 2, 3, 61] rfl ?_; refine V6 ?_; refine Z.cond rfl (fun h => absurd h J16) (fun hc6 => ?_); refine V862 ?_; refine V62 ?_; refine Z.ZO.litL (T' := 5) [(0, 1), (1, 1), (2, 1), (3, 1), (4, 1), (5, 1)] [.int .u8 0, .int .u8 0, .int .u8 0, .int .u8 0, .int .u8 0, .int .u8 0] rfl rfl (by rfl) rfl rfl J19 hs ?_; clear hs; intro g64 w64 hs; refine V2 ?_; refine Z.ZO.convB rfl rfl (by rfl) hs rfl underlying48 underlying5 J1 ?_; clear hs; intro w65 hs hsl; simp only [List.eraseIdx_cons_zero, List.eraseIdx_cons_succ] at hs; refine V2 ?_; refine Z.ZO.call rfl rfl (by rfl) rfl rfl call17 rfl (mx_receive gm gb k29m7 (some ⟨g64, 0, none⟩) 6 6 [63, 61, 3, 7, 1, 2] _ (en_of (gr := gr) (C := C) (kc := kc) (sv := sv) (so := so) hs (fun e he ↦ by simp [he])) k29o7 hsl rfl J12 J12) ?_; rintro v8_3 w8_3 ⟨s0, s1, s2, s3, xs, qs, rfl, hxp, hxm, hy⟩; replace hs := U0 (hs.call hy); clear hy; have hbd := rec_bd k29m7 [63, 61, 3, 7, 1, 2]; have hxl := congrArg List.length hxp; rw [List.length_map] at hxl
  replace hbd : xs.length ≤ 9223372036854775807 ∧ (recV k29m7 [63, 61, 3, 7, 1, 2]).2.rp.length ≤ 1000000 ∧ (recV k29m7 [63, 61, 3, 7, 1, 2]).2.pw.length ≤ 1000000 ∧ (recV k29m7 [63, 61, 3, 7, 1, 2]).2.id.length ≤ 1000000 := by omega
  rw [e29_8.1]; obtain ⟨B0, d0, rfl, -, -, -⟩ := row_slv hs (j := 0) rfl; obtain ⟨B1, d1, rfl, -, -, -⟩ := row_slv hs (j := 1) rfl; obtain ⟨B2, d2, rfl, -, -, -⟩ := row_slv hs (j := 2) rfl; obtain ⟨B3, d3, rfl, -, -, -⟩ := row_slv hs (j := 3) rfl; refine V625 ?_; refine V285 ?_; clear hs; intro g5 w5 hs; refine V860 ?_; clear hs; intro ws hs; replace hs := U1 hs; replace hs := U2 hs; refine V1 ?_; refine Z.only [1, 2, 5, 6] rfl ?_; refine V268 ?_; refine V115 ?_; rintro v9_1 w9_1 ⟨rfl, hy⟩; replace hs := U0 (hs.call hy); clear hy; refine V11 ?_; refine Z.yes (s := 72) (b := false) rfl (J16) rfl ?_; refine Z.l rfl rfl (by rfl) (Z.keepS hs) (Z.Yd.loadA _ rfl isAgg61 (fun _ => Z.cellsB (cs := [.slice B0 _ d0, .slice B1 _ d1, .slice B2 _ d2, .slice B3 _ d3]) J0) J128) ?_; refine V142 ?_; refine V555 ?_; refine V160 ?_; refine V58 ?_; clear hs; intro g75 w75 hs; refine V464 ?_; refine V134 ?_; refine V555 ?_; refine V160 ?_; refine V169 ?_; clear hs; intro g78 w78 hs; refine V135 ?_; have hct := rec_ctq (s0 := .slice B0 xs.length d0) (s1 := .slice B1 (recV k29m7 [63, 61, 3, 7, 1, 2]).2.rp.length d1) (s2 := .slice B2 (recV k29m7 [63, 61, 3, 7, 1, 2]).2.pw.length d2) (s3 := .slice B3 (recV k29m7 [63, 61, 3, 7, 1, 2]).2.id.length d3) J12 hs hxp hxm (fun e he ↦ by simp only [List.cons_append, List.nil_append, List.mem_cons] at he; rcases he with h | h | h | h | h <;> simp [h]); refine V555 ?_; refine V160 ?_
  refine Z.ZO.call rfl rfl (by rfl) rfl rfl call20 rfl (ct_same _ [.slice (some ⟨g75, 0, none⟩) 1 1, .slice (some ⟨g78, 0, none⟩) 1 1, .slice none 0 0, .slice none 0 0] xs [exS (some ⟨g12, 0, none⟩)] _ ⟨[(3, [1, 2])], [⟨false, 0, 7, 0, 0, 0⟩], [], []⟩ _ hct ⟨_, _, _, _, _, _, _, _, rfl, rfl, by have h0 := hs.blkSl (g := g75) J0; exact h0, by have h0 := hs.blkSl (g := g78) J0; exact h0, sl_nil23, sl_nil23, ex_one (by have h0 := hs.blkSl (g := g12) J0; exact h0), ex_one ex_b⟩ hbd) ?_; rintro v9_11 w9_11 ⟨rfl, hy⟩; replace hs := U0 (hs.call hy); clear hy; rw [decide_eq_true e29_8.2]; refine V859 ?_; refine V555 ?_; refine V14 ?_; refine V857 ?_; refine Z.only [1, 2, 82] rfl ?_; refine V6 ?_; refine Z.cond rfl (fun h => absurd h J16) (fun hc9 => ?_); refine V862 ?_; replace hs := ((hs.tl.tl.tl.tl.tl.tl.tl).sub (List.sublist_append_right _ _)).sub (List.sublist_append_right _ _); refine V78 ?_; refine V393 ?_; clear hs; intro ws hs; replace hs := U1 hs; refine V857 ?_; refine Z.only [1, 2] rfl ?_; refine V858 ?_; refine Z.l rfl rfl (by rfl) (Z.keepS hs) (Z.Yd.loadA _ rfl isAgg26 (fun _ => Z.cellsB (cs := [.slice (some ⟨g10, 0, none⟩) 1 1, .int .i64 0, .int .i64 0, .int .i64 0, .int .i64 0, .bool true]) J0) J116) ?_; refine V2 ?_; refine Z.ZO.call rfl rfl (by rfl) rfl rfl call11 rfl (mx_new_ok (some ⟨g10, 0, none⟩) 1 1 k29l 0 0 0 0 true _ (by have h0 := hs.blkSl (g := g10) J0; exact h0) rfl J12 J12 k29s k29c) ?_
  rintro v12_1 w12_1 ⟨gn, gc, gs, C2, kc2, sv2, so2, rfl, hy⟩; replace hs := U0 (hs.call hy); clear hy; simp only [List.append_assoc, List.cons_append, List.nil_append] at hs; replace hs : St w [] _ (maE gn gc gs C2 kc2 sv2 so2 k29u0 ++ (_ :: _)) := hs; refine V126 ?_; refine Z.only [2, 7, 8] rfl ?_; refine V858 ?_; refine V62 ?_; refine V115 ?_; rintro v13_1 w13_1 ⟨rfl, hy⟩; replace hs := U0 (hs.call hy); clear hy; refine V11 ?_; refine Z.yes (s := 92) (b := true) rfl (J16) rfl ?_; refine V859 ?_; refine Z.yes (s := 92) (b := true) rfl rfl rfl ?_; refine V160 ?_; refine Z.ZO.call rfl rfl (by rfl) rfl rfl call25 rfl (pl29 gn gc gs C2 kc2 sv2 so2 k29u0 1 20 5 50 13 0 _ hs.lend k29p0 (Z.row_lentv hs (j := 0) rfl) e29_9) ?_; rintro v13_5 w13_5 ⟨rfl, hz⟩; replace hs : St w [] _ (maE gn gc gs C2 kc2 sv2 so2 k29u1 ++ _) := hs.regain hz; refine V485 ?_; refine Z.yes (s := 96) (b := true) rfl (J16) rfl ?_; refine V859 ?_; refine V142 ?_; refine Z.yes (s := 96) (b := true) rfl rfl rfl ?_; refine V160 ?_; refine V58 ?_; clear hs; intro g99 w99 hs; replace hs : St w [] _ (maE gn gc gs C2 kc2 sv2 so2 k29u1 ++ (_ :: _)) := St.mid hs; refine V160 ?_; refine Z.ZO.call rfl rfl (by rfl) rfl rfl call19 rfl (bu29 gn gc gs C2 kc2 sv2 so2 k29u1 1 8 _ 0 (some ⟨g99, 0, none⟩) 1 1 [exS (some ⟨g12, 0, none⟩)] [(3, [1, 2])] _ hs.lend k29p1 (blk_lentm hs J0) (ex_one (blk_lentm hs J0)) (ex_one ex_b) rfl J12 (ex_one ex_n) rfl J138) ?_; rintro v13_11 w13_11 ⟨rfl, hz⟩
  replace hs := hs.regain hz; refine V20 ?_; refine V65 ?_; refine V422 ?_; exact ⟨_, rfl, by simp, Jn hs⟩

structure Ac9 where
  what : Int
  now : Int
  n : Int
  head : Int
  D : Option Addr
  dc : Nat
  dem : List Int
  P : Option Addr
  pc : Nat
  ps : List MpV
  B : Option Addr
  bc : Nat
  bl : List Int
def Ac9.cells (x : Ac9) : List Value := [.int .i64 x.what, .int .i64 x.now, .int .i64 x.n, .int .i64 x.head, .slice x.D x.dem.length x.dc, .slice x.P x.ps.length x.pc, .slice x.B x.bl.length x.bc]
theorem ac9_len (x : Ac9) : x.cells.length = 7 := rfl
structure Ac9.good (W : World) (x : Ac9) : Prop where
  d : Sl W x.D (ints .i64 x.dem)
  p : Sl W x.P (x.ps.flatMap MpV.cells)
  q : ∀ q ∈ x.ps, Sl W q.B (ints .u8 q.l)
  y : ∀ q ∈ x.ps, ∀ z ∈ q.l, 0 ≤ z ∧ z < 256
  b : Sl W x.B (ints .u8 x.bl)
  z : ∀ z ∈ x.bl, 0 ≤ z ∧ z < 256
  m : x.ps.length ≤ maxLen
  c : x.bl.length ≤ x.bc
theorem Ac9.good.st {w W : World} {L : List Ent} {x : Ac9} (h : x.good w) (hW : St w [] W L) : x.good W := ⟨h.d.st hW, h.p.st hW, fun q hq => (h.q q hq).st hW, h.y, h.b.st hW, h.z, h.m, h.c⟩
def few1 (x : Ac9) : Prop := x.dem.length ≤ 10 ∧ x.ps.length ≤ 6 ∧ x.bl.length ≤ 600 ∧ ∀ q ∈ x.ps, q.l.length ≤ 300
instance (x : Ac9) : Decidable (few1 x) := by unfold few1; infer_instance
def few9 (l : List Ac9) (most : Int) : Prop := (l.length : Int) ≤ most ∧ ∀ x ∈ l, few1 x
instance (l : List Ac9) (most : Int) : Decidable (few9 l most) := by unfold few9; infer_instance
theorem take_all {α : Type} {P : α → Prop} {l : List α} {i : Nat} {x : α} (h : ∀ y ∈ l.take i, P y) (hx : l[i]? = some x) (hp : P x) : ∀ y ∈ l.take (i + 1), P y := by
  intro y hy; rw [List.take_add_one, hx] at hy
  rcases List.mem_append.1 hy with h1 | h1
  · exact h y h1
  obtain rfl : y = x := by simpa using h1
  exact hp
theorem few29 (A : Option Addr) (n c : Nat) (most : Int) (l : List Ac9) (w : World) (hx : Sl w A (l.flatMap Ac9.cells)) (hl : l.length = n) (hn : n ≤ maxLen) (hg : ∀ x ∈ l, x.good w) :
    Calls Tryz.prog 9 #[.slice A n c, .int .i64 most] w (Ret fun v w' => v = .bool (decide (few9 l most)) ∧ St w [] w' []) := by
  have hs := St.start w; unfold maxLen at hn; refine Z.enter func9 rfl ntmps9 rfl rfl ?_; refine V394 ?_; refine V125 ?_; refine V353 ?_; refine V31 ?_; refine Z.only [0, 10] rfl ?_; refine V6 ?_; refine Z.cond rfl (fun hc1 => ?_) (fun hc1 => ?_)
  · (try simp at hc1)
    refine V189 ?_
    repeat (first | refine Z.rthen ?_ | refine Z.rblock ?_ | refine Z.rscope ?_)
    refine V199 ?_; refine ⟨_, rfl, congrArg Value.bool ?_, hs⟩; exact (decide_eq_false fun h ↦ by have h1 := h.1; omega).symm
  (try simp at hc1)
  refine V463 ?_; refine Z.only [0, 5] rfl ?_; refine V861 ?_; refine Z.loopk (ι := Nat) [0] rfl (fun i => [(5, [], .int .i64 (i : Int))]) (fun i wr => (i ≤ n ∧ (n : Int) ≤ most ∧ ∀ x ∈ l.take i, few1 x) ∧ St w [] wr []) (fun i => n - i) 0 J6 ⟨⟨Nat.zero_le _, by simpa using hc1, by simp⟩, hs⟩ ?_; clear hs; rintro i w4 ⟨⟨hi, hmo, hf⟩, hs⟩; refine Z.only [0, 5] rfl ?_; refine V217 ?_; refine V353 ?_; refine V1 ?_; refine Z.only [0, 5, 14] rfl ?_; refine V6 ?_; refine Z.cond rfl (fun hc4 => ?_) (fun hc4 => ?_)
  · (try simp at hc4)
    obtain ⟨x, hxi⟩ : ∃ x, l[i]? = some x := ⟨_, List.getElem?_eq_getElem J5⟩; obtain ⟨b, off, rfl, hb1, hx2⟩ := Z.Sl.some hx (by rw [fl_len ac9_len]; omega); have hgx := hg x (List.mem_of_getElem? hxi); have hpm := hgx.m; unfold maxLen at hpm; refine V150 ?_; refine V217 ?_; refine V590 ?_; refine V54 ?_; refine Z.l rfl rfl (by rfl) (Z.keepS hs) (Z.Yd.load rfl isAgg34 (fun _ => Z.cellXf (j := 4) hx2.sx ac9_len hxi rfl)) ?_; refine V26 ?_; refine V259 ?_; refine V131 ?_; refine V27 ?_; refine Z.lb 5 rfl ?_; refine V590 ?_; refine V508 ?_; refine Z.l rfl rfl (by rfl) (Z.keepS hs) (Z.Yd.load rfl isAgg48 (fun _ => Z.cellXf (j := 6) hx2.sx ac9_len hxi rfl)) ?_; refine V29 ?_; refine V31 ?_; refine Z.only [0, 5, 41] rfl ?_; refine V6 ?_; refine Z.cond rfl (fun hc6 => ?_) (fun hc6 => ?_)
    · (try simp at hc6)
      refine V189 ?_
      repeat (first | refine Z.rthen ?_ | refine Z.rblock ?_ | refine Z.rscope ?_)
      refine V199 ?_; refine ⟨_, rfl, congrArg Value.bool ?_, hs⟩; exact (decide_eq_false fun h ↦ by have h1 := h.2 x (List.mem_of_getElem? hxi); unfold few1 at h1; omega).symm
    (try simp at hc6)
    refine V862 ?_; refine V1 ?_; refine V589 ?_; refine V861 ?_; refine Z.loopk (ι := Nat) [0, 5] rfl (fun j => [(6, [], .int .i64 (j : Int))]) (fun j wr => (j ≤ x.ps.length ∧ (x.dem.length ≤ 10 ∧ x.ps.length ≤ 6 ∧ x.bl.length ≤ 600) ∧ ∀ q ∈ x.ps.take j, q.l.length ≤ 300) ∧ St w [] wr []) (fun j => x.ps.length - j) 0 J6 ⟨⟨Nat.zero_le _, by obtain ⟨⟨e0, e1⟩, e2⟩ := hc6; exact ⟨by omega, by omega, by omega⟩, by simp⟩, hs⟩ ?_; clear hs; rintro j w9 ⟨⟨hj, hf3, hq⟩, hs⟩; refine V589 ?_; refine V182 ?_; refine V50 ?_; refine V131 ?_; refine V275 ?_; refine Z.only [0, 5, 6, 49] rfl ?_; refine V6 ?_; refine Z.cond rfl (fun hc9 => ?_) (fun hc9 => ?_)
    · (try simp at hc9)
      obtain ⟨q, hqj⟩ : ∃ q, x.ps[j]? = some q := ⟨_, List.getElem?_eq_getElem J5⟩; obtain ⟨bp, offp, ePe, hbp, hp2⟩ := Z.Sl.some hgx.p J69; refine V445 ?_; refine V131 ?_; rw [ePe]; refine V18 ?_; refine V28 ?_; refine V8 ?_; refine Z.l rfl rfl (by rfl) (Z.keepS hs) (Z.Yd.load rfl isAgg48 (fun _ => Z.cellXf (j := 1) hp2.sx mp_len hqj rfl)) ?_; refine V29 ?_; refine V1 ?_; refine Z.only [0, 5, 6, 62] rfl ?_; refine V6 ?_; refine Z.cond rfl (fun hc11 => ?_) (fun hc11 => ?_)
      · (try simp at hc11)
        refine V189 ?_
        repeat (first | refine Z.rthen ?_ | refine Z.rblock ?_ | refine Z.rscope ?_)
        refine V199 ?_; refine ⟨_, rfl, congrArg Value.bool ?_, hs⟩; exact (decide_eq_false fun h ↦ by have h1 := (h.2 x (List.mem_of_getElem? hxi)).2.2.2 q (List.mem_of_getElem? hqj); omega).symm
      (try simp at hc11)
      refine V331 ?_; refine V589 ?_; refine V6 ?_; exact Z.again (j + 1) J13 ⟨⟨by omega, hf3, take_all hq hqj J5⟩, hs⟩ J5
    (try simp at hc9)
    refine V10 ?_; refine V302 ?_; refine Z.only [0, 5] rfl ?_; refine V6 ?_; exact Z.again (i + 1) J11 ⟨⟨by omega, hmo, take_all hf hxi ⟨hf3.1, hf3.2.1, hf3.2.2, by rwa [List.take_of_length_le J5] at hq⟩⟩, hs⟩ J5
  (try simp at hc4)
  refine V305 ?_; refine ⟨_, rfl, congrArg Value.bool ?_, hs⟩; exact (decide_eq_true ⟨by omega, by rwa [List.take_of_length_le J5] at hf⟩).symm
def NoE (w : World) (a : Option Addr) : Prop := a = none ∨ ∃ g ch rv lv, a = some ⟨g, 0, none⟩ ∧ Cel w g [.pointer none, ch, rv, lv]
theorem NoE.st {w W : World} {L : List Ent} {a : Option Addr} (h : NoE w a) (hW : St w [] W L) : NoE W a := by
  rcases h with h | ⟨g, ch, rv, lv, h, hc⟩
  · exact .inl h
  exact .inr ⟨g, ch, rv, lv, h, hc.st hW⟩

def runB (m : BkV) (l : List AcV) : BkV := l.foldl actBk m
theorem rd_logical {W : World} {cs : List Value} (z : Rd Tryz.prog W 75 cs) : ∃ x : LgV, cs = x.cells ∧ True := by
  obtain ⟨hl, hf⟩ := Rd.field underlying75 z; have c5 : Tryz.prog.cellsOf 75 = 5 := by kernel_rfl
  have c1 : Tryz.prog.cellsOf 3 = 1 := by kernel_rfl
  rw [c5] at hl; obtain ⟨x0, x1, x2, x3, x4, rfl⟩ := list5 hl; obtain ⟨a, ha, -⟩ := Rd.int underlying3 (hf 0 _ rfl); obtain ⟨b, hb, -⟩ := Rd.int underlying3 (hf 1 _ rfl); obtain ⟨p, hp, -⟩ := Rd.int underlying3 (hf 2 _ rfl); obtain ⟨q, hq, -⟩ := Rd.int underlying3 (hf 3 _ rfl); obtain ⟨r, hr, -⟩ := Rd.int underlying3 (hf 4 _ rfl); simp [c1] at ha hb hp hq hr; subst ha hb hp hq hr; exact ⟨⟨a, b, p, q, r⟩, rfl, trivial⟩
theorem rd_logicals {W : World} {A : Option Addr} {n c : Nat} (z : Rd Tryz.prog W 22 [.slice A n c]) : ∃ l : List LgV, l.length = n ∧ n ≤ c ∧ c ≤ maxLen ∧ Sl W A (l.flatMap LgV.cells) := by
  have c8 : Tryz.prog.cellsOf 75 = 5 := by kernel_rfl
  obtain ⟨xs, h1, h2, h3, -, h5⟩ := Rd.rows LgV.cells (fun _ => True) underlying22 (by rw [c8]; decide) (fun r hr => rd_logical hr) (fun x => c8.symm) z; exact ⟨xs, h1, h2, h3, h5⟩
theorem ints_flat (xs : List Int) : ints .i64 xs = xs.flatMap fun x : Int => [Value.int .i64 x] := by
  induction xs with
  | nil => rfl
  | cons x xs ih => rw [List.flatMap_cons, ← ih]; rfl
theorem rd_intsB {W : World} {A : Option Addr} {n c : Nat} (z : Rd Tryz.prog W 34 [.slice A n c]) : ∃ l : List Int, l.length = n ∧ n ≤ c ∧ c ≤ maxLen ∧ Sl W A (ints .i64 l) := by
  have c8 : Tryz.prog.cellsOf 3 = 1 := by kernel_rfl
  obtain ⟨xs, h1, h2, h3, -, h5⟩ := Rd.rows (fun x : Int => [Value.int .i64 x]) (fun _ => True) underlying34 (by rw [c8]; decide) (fun r hr => by
    obtain ⟨n, hn, -⟩ := Rd.int underlying3 hr
    exact ⟨n, hn, trivial⟩) (fun x => c8.symm) z
  refine ⟨xs, h1, h2, h3, ?_⟩; rw [ints_flat]; exact h5

theorem sl_of1 {W : World} {T e : TypeId} {x : Value} (ht : Tryz.prog.underlying T = some (.slice e)) (z : Rd Tryz.prog W T [x]) : ∃ A n c, x = .slice A n c := by
  rcases Rd.slice ht z with h1 | ⟨a, len, cap, rows, h1, -⟩
  · exact ⟨none, 0, 0, by simpa using h1⟩
  exact ⟨some a, len, cap, by simpa using h1⟩
theorem rd_act29 {W : World} {cs : List Value} (z : Rd Tryz.prog W 50 cs) : ∃ x : Ac9, cs = x.cells ∧ x.good W := by
  obtain ⟨hl, hf⟩ := Rd.field underlying50 z; have c7 : Tryz.prog.cellsOf 50 = 7 := by kernel_rfl
  have c1 : Tryz.prog.cellsOf 3 = 1 := by kernel_rfl
  have c2 : Tryz.prog.cellsOf 34 = 1 := by kernel_rfl
  have c3 : Tryz.prog.cellsOf 47 = 1 := by kernel_rfl
  have c4 : Tryz.prog.cellsOf 48 = 1 := by kernel_rfl
  rw [c7] at hl; obtain ⟨x0, x1, x2, x3, x4, x5, x6, rfl⟩ := list7 hl; obtain ⟨a, ha, -⟩ := Rd.int underlying3 (hf 0 _ rfl); obtain ⟨b, hb, -⟩ := Rd.int underlying3 (hf 1 _ rfl); obtain ⟨c, hc, -⟩ := Rd.int underlying3 (hf 2 _ rfl); obtain ⟨d, hd, -⟩ := Rd.int underlying3 (hf 3 _ rfl); have h4 : Rd Tryz.prog W 34 (([x0, x1, x2, x3, x4, x5, x6].drop 4).take (Tryz.prog.cellsOf 34)) := hf 4 _ rfl; have h5 : Rd Tryz.prog W 47 (([x0, x1, x2, x3, x4, x5, x6].drop 5).take (Tryz.prog.cellsOf 47)) := hf 5 _ rfl; have h6 : Rd Tryz.prog W 48 (([x0, x1, x2, x3, x4, x5, x6].drop 6).take (Tryz.prog.cellsOf 48)) := hf 6 _ rfl; simp [c1] at ha hb hc hd; rw [c2] at h4; rw [c3] at h5; rw [c4] at h6; have h4' : Rd Tryz.prog W 34 [x4] := by simpa using h4
  have h5' : Rd Tryz.prog W 47 [x5] := by simpa using h5
  have h6' : Rd Tryz.prog W 48 [x6] := by simpa using h6
  obtain ⟨A, n, k, rfl⟩ := sl_of1 underlying34 h4'; obtain ⟨A2, n2, k2, rfl⟩ := sl_of1 underlying47 h5'; obtain ⟨A3, n3, k3, rfl⟩ := sl_of1 underlying48 h6'; obtain ⟨l, h1, -, -, hl4⟩ := rd_intsB h4'; obtain ⟨ps, p1, p2, p3, p4, p5⟩ := rd_parts23 h5'; obtain ⟨bl, b1, b0, b2, b3, b4⟩ := Rb.rd_bytes h6'; subst ha hb hc hd h1 p1 b1; exact ⟨⟨a, b, c, d, A, k, l, A2, k2, ps, A3, k3, bl⟩, rfl, ⟨hl4, p5, p3, p4, b4, b3, p2, b0⟩⟩
theorem rd_acts29 {W : World} {A : Option Addr} {n c : Nat} (z : Rd Tryz.prog W 27 [.slice A n c]) : ∃ l : List Ac9, l.length = n ∧ n ≤ maxLen ∧ (∀ x ∈ l, x.good W) ∧ Sl W A (l.flatMap Ac9.cells) := by
  have c8 : Tryz.prog.cellsOf 50 = 7 := by kernel_rfl
  obtain ⟨xs, h1, h2, h3, h4, h5⟩ := Rd.rows Ac9.cells (fun x => x.good W) underlying27 (by rw [c8]; decide) (fun r hr => rd_act29 hr) (fun x => c8.symm) z; exact ⟨xs, h1, by omega, h4, h5⟩

def okN9 (ls : List LgV) (a b c d : Int) : Prop := okSet ls ∧ okC a b c d
instance (ls : List LgV) (a b c d : Int) : Decidable (okN9 ls a b c d) := by unfold okN9; infer_instance
theorem rd_cfg29 {W : World} {cs : List Value} (z : Rd Tryz.prog W 26 cs) : ∃ (A : Option Addr) (n k : Nat) (a b c d : Int) (up : Bool) (ls : List LgV), cs = [.slice A n k, .int .i64 a, .int .i64 b, .int .i64 c, .int .i64 d, .bool up] ∧ ls.length = n ∧ n ≤ k ∧ k ≤ maxLen ∧ Sl W A (ls.flatMap LgV.cells) := by
  obtain ⟨hl, hf⟩ := Rd.field underlying26 z; have c6 : Tryz.prog.cellsOf 26 = 6 := by kernel_rfl
  have c1 : Tryz.prog.cellsOf 3 = 1 := by kernel_rfl
  have cb : Tryz.prog.cellsOf 4 = 1 := by kernel_rfl
  have c2 : Tryz.prog.cellsOf 22 = 1 := by kernel_rfl
  have c4 : Tryz.prog.cellsOf 24 = 4 := by kernel_rfl
  rw [c6] at hl; obtain ⟨x0, x1, x2, x3, x4, x5, rfl⟩ := list6 hl; have h0 : Rd Tryz.prog W 22 (([x0, x1, x2, x3, x4, x5].drop 0).take (Tryz.prog.cellsOf 22)) := hf 0 _ rfl; have h1 : Rd Tryz.prog W 24 (([x0, x1, x2, x3, x4, x5].drop 1).take (Tryz.prog.cellsOf 24)) := hf 1 _ rfl; obtain ⟨up, hu⟩ := Rd.bool underlying4 (hf 2 _ rfl); rw [c2] at h0; rw [c4] at h1; have h0' : Rd Tryz.prog W 22 [x0] := by simpa using h0
  have h1' : Rd Tryz.prog W 24 [x1, x2, x3, x4] := by simpa using h1
  obtain ⟨A, n, k, rfl⟩ := sl_of1 underlying22 h0'; obtain ⟨ls, l1, l2, l3, l4⟩ := rd_logicals h0'; obtain ⟨hl2, hf2⟩ := Rd.field underlying24 h1'; obtain ⟨a, ha, -⟩ := Rd.int underlying3 (hf2 0 _ rfl); obtain ⟨b, hb, -⟩ := Rd.int underlying3 (hf2 1 _ rfl); obtain ⟨c, hc, -⟩ := Rd.int underlying3 (hf2 2 _ rfl); obtain ⟨d, hd, -⟩ := Rd.int underlying3 (hf2 3 _ rfl); simp [c1] at ha hb hc hd; simp [cb] at hu; subst ha hb hc hd hu; exact ⟨A, n, k, a, b, c, d, up, ls, rfl, l1, l2, l3, l4⟩

end Go.Proofs.YtbojkoiopkaciaaGreat
