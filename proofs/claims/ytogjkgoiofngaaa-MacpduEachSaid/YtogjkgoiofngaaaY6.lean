/- Part 6 of the proofs that lead to the statement. -/
import Derived.Test.YtogjkgoiofngaaaY5
import Derived.Test.YtogjkgoiofngaaaRows
import Derived.WalkKit
import Derived.ProofKit
import Derived.OpenShut
import Derived.ShutString
import Derived.ChangeOld
import Derived.Below
/- MAC PDUs: the document's Parse. -/
namespace Go.Proofs.Ytogjkgoiofngaaa
open Go.RowKit
set_option linter.unusedSimpArgs false
set_option linter.unusedVariables false
--newlaws

theorem qu8 {p q : Int} (h : 0 ≤ p ∧ p ≤ 255) (hq : 0 < q) : IntKind.u8.wrap (p.tdiv q) = p / q := by
  have h1 : p.tdiv q = p / q := Int.tdiv_eq_ediv_of_nonneg h.1
  rw [h1]
  have h2 : 0 ≤ p / q := Int.ediv_nonneg h.1 (by omega)
  have h3 : p / q ≤ p := Int.ediv_le_self _ h.1
  exact Z.wu8 (by omega)
/-- what the document's Parse returns: parts that read b -/
def ParD (R : Int × List Prt) (A : Option Addr) (l : List Int) (w : World) (v : Value) (w' : World) : Prop := ∃ (ps : List MpV) (sv : Value), v = .tuple #[sv, .int .i64 R.1] ∧ ps.map MpV.plain = R.2 ∧ (∀ q ∈ ps, ∀ W, Sl W A (ints .u8 l) → Sl W q.B (ints .u8 q.l)) ∧ SX.St w [] w' [SX.Ent.row sv 47 2 ps.length (ps.flatMap MpV.cells)]
theorem ParD.fail {e : Int} {A : Option Addr} {l : List Int} {w w' : World} (hs : SX.St w [] w' []) : ParD (e, []) A l w (.tuple #[.slice none 0 0, .int .i64 e]) w' := ⟨[], _, rfl, rfl, by simp, hs.nil _ 2⟩
theorem byB_at {l : List Int} {p : Nat} : elt l (p : Int) = byB l p := rfl
theorem hdT1 {b : Int} {cnt : Nat} {data part E : Bool} (h : 63 < b) : (true || E) = decide (hdBad b cnt data part) := by
  rw [decide_eq_true (show hdBad b cnt data part from .inl fun k => by omega)]
  rfl
theorem hdT2 {b x : Int} {cnt : Nat} {data part E : Bool} (hx : b % 32 = x) (h1 : ¬ sduB x) (h2 : ctlN x = 0 ∧ ¬ x = 31) : (true || E) = decide (hdBad b cnt data part) := by
  subst hx
  rw [decide_eq_true (show hdBad b cnt data part from .inl fun k => k.2.elim h1 (fun k => k.elim (fun k => k h2.1) h2.2))]
  rfl
theorem hdT3 {b x : Int} {cnt : Nat} {data part : Bool} (hx : b % 32 = x) (h0 : b / 64 = 0) (hT : sduB x ∨ ctlN x ≠ 0 ∨ x = 31) : (decide (0 < ctlN x) && data || x == 31 && b / 32 % 2 == 1 && (part || decide ((1 : Int) < cnt))) = decide (hdBad b cnt data part) := by
  have hc := ctlN_bd x
  rw [Bool.eq_iff_iff]
  simp only [Bool.or_eq_true, Bool.and_eq_true, decide_eq_true_eq, beq_iff_eq]
  unfold hdBad
  rw [hx]
  constructor
  · rintro (⟨h1, h2⟩ | ⟨⟨h1, h2⟩, h3⟩)
    · exact .inr (.inl ⟨by omega, h2⟩)
    · exact .inr (.inr ⟨h1, h2, h3.imp id (fun k => by omega)⟩)
  · rintro (h | ⟨h1, h2⟩ | ⟨h1, h2, h3⟩)
    · exact absurd ⟨h0, hT⟩ h
    · exact .inl ⟨by omega, h2⟩
    · exact .inr ⟨⟨h1, h2⟩, h3.imp id (fun k => by omega)⟩
theorem lnE_a {l : List Int} {p : Nat} (h : (l.length : Int) ≤ p) : lnE l p = 5 := by unfold lnE; rw [if_pos (by omega)]
theorem lnE_b {l : List Int} {p : Nat} {b : Int} (h : p < l.length) (hb : byB l p = b) (h1 : 127 < b) (h2 : (l.length : Int) ≤ p + 1) : lnE l p = 5 := by unfold lnE; rw [if_neg (by omega), hb, if_neg (by omega), if_pos (by omega)]
theorem lnE_c {l : List Int} {p : Nat} {b c : Int} (h : p + 1 < l.length) (hb : byB l p = b) (hbb : b < 256) (h1 : 127 < b) (hc : byB l (p + 1) = c) (h2 : (b - 128) * 256 + c ≤ 127) : lnE l p = 9 := by unfold lnE; rw [if_neg (by omega), hb, if_neg (by omega), if_neg (by omega), hc, if_neg (by omega)]
theorem lnE_d {l : List Int} {p : Nat} {b : Int} (h : p < l.length) (hb : byB l p = b) (h1 : b = 0) : lnE l p = 9 := by unfold lnE; rw [if_neg (by omega), hb, if_pos (by omega), if_pos h1]
theorem lnE_e {l : List Int} {p : Nat} {b : Int} (h : p < l.length) (hb : byB l p = b) (h0 : b ≠ 0) (h1 : b ≤ 127) : lnE l p = 0 ∧ lnP l p = p + 1 ∧ lnV l p = b := by
  unfold lnE lnP lnV
  rw [hb, if_neg (by omega), if_pos (by omega), if_neg h0, if_pos (by omega), if_pos (by omega)]
  exact ⟨rfl, rfl, rfl⟩
theorem lnE_f {l : List Int} {p : Nat} {b c : Int} (h : p + 1 < l.length) (hb : byB l p = b) (hbb : b < 256) (h1 : 127 < b) (hc : byB l (p + 1) = c) (h2 : 127 < (b - 128) * 256 + c) : lnE l p = 0 ∧ lnP l p = p + 2 ∧ lnV l p = (b - 128) * 256 + c := by
  unfold lnE lnP lnV
  rw [hb, hc, if_neg (by omega), if_neg (by omega), if_neg (by omega), if_pos (by omega), if_neg (by omega), if_neg (by omega)]
  exact ⟨rfl, rfl, by omega⟩
theorem ret_ln {l : List Int} {q P0 : Nat} {E E0 : Int} {H0 : List (Int × Int)} {X : Int × List (Int × Int) × Nat} {Y R : Int × List Prt} (hE : lnE l q = E) (h0 : E ≠ 0) (hG : (if lnE l q ≠ 0 then (lnE l q, [], 0) else X) = (E0, H0, P0)) (hR : (if E0 ≠ 0 then (E0, []) else Y) = R) : R = (E, []) := by
  rw [hE, if_pos h0] at hG
  simp only [Prod.mk.injEq] at hG
  obtain ⟨rfl, rfl, rfl⟩ := hG
  rw [if_pos h0] at hR
  exact hR.symm
theorem retL {A : Option Addr} {l : List Int} {q P0 : Nat} {E E0 : Int} {H0 : List (Int × Int)} {X : Int × List (Int × Int) × Nat} {Y R : Int × List Prt} {w w' : World} (hE : lnE l q = E) (h0 : E ≠ 0) (hG : (if lnE l q ≠ 0 then (lnE l q, [], 0) else X) = (E0, H0, P0)) (hR : (if E0 ≠ 0 then (E0, []) else Y) = R) (hs : SX.St w [] w' []) :
    SX.Ret (fun v w' => ParD R A l w v w') (Ending.returned (.tuple #[.slice none 0 0, .int .i64 E])) w' := by
  have h := ret_ln hE h0 hG hR
  subst h
  exact ⟨_, rfl, ParD.fail hs⟩
theorem hd_all {a : List (Int × Int)} {z h : Int × Int} {i : Nat} (ha : ∀ x ∈ a, hdG x) (hz : hdT z) (hh : (a ++ [z])[i]? = some h) : hdT h := by
  rcases List.mem_append.1 (List.mem_of_getElem? hh) with h1 | h1
  · exact (ha h h1).1
  · obtain rfl : h = z := by simpa using h1
    exact hz
set_option maxHeartbeats 4000000 in
set_option maxRecDepth 100000 in
theorem mr_Parse (A : Option Addr) (c : Nat) (l : List Int) (w : World) (hx : Sl w A (ints .u8 l)) (hc : l.length ≤ c) (hn : l.length ≤ 100000) (hb : ∀ x ∈ l, 0 ≤ x ∧ x < 256) :
    Calls Try.prog 26 #[.slice A l.length c] w (SX.Ret fun v w' => ParD (parV l) A l w v w') := by
  have hs := SX.St.start w
  obtain ⟨R, hR⟩ : ∃ R, parV l = R := ⟨_, rfl⟩
  rw [hR]
  obtain ⟨⟨E0, H0, P0⟩, hV⟩ : ∃ V, hdV l = V := ⟨_, rfl⟩
  have hgd : E0 = 0 → ∃ a z, H0 = a ++ [z] ∧ (∀ x ∈ a, hdG x) ∧ hdT z := fun h => by
    have := hGo_good hb (l.length + 1) 0 [] false false (by simp)
    rw [show hGo l (l.length + 1) 0 [] false false = _ from hV] at this
    exact this h
  have hV' : hGo l (l.length + 1) 0 [] false false = (E0, H0, P0) := hV
  unfold parV at hR
  rw [hV] at hR
  simp only at hR
  have hfl : ∀ e : Int, e ≠ 0 → E0 = e → R = (e, []) ∨ 16384 < l.length := fun e he h => by
    rw [← hR]
    by_cases h1 : 16384 < l.length
    · exact .inr h1
    · rw [if_neg h1, h, if_pos he]; exact .inl rfl
  refine Z.enter Try.func26 rfl Try.ntmps26 rfl rfl ?_
  refine Z.seq ?_
  refine Z.region ?_
  refine Z.lb 2 rfl ?_
  refine Z.lnil ?_
  refine Z.only [0] rfl ?_
  refine Z.nthen ?_
  refine Z.seq ?_
  refine Z.seq ?_
  refine Z.region ?_
  refine Z.lb 1 rfl ?_
  refine Z.l rfl rfl (by rfl) (Z.keepS hs) (Z.Yd.lenS rfl Try.underlying26) ?_
  refine Z.lb 1 rfl ?_
  refine Z.lnil ?_
  refine Z.only [0, 18] rfl ?_
  refine Z.nthen ?_
  refine Z.cond rfl (fun hc1 => ?_) (fun hc1 => ?_)
  · first
      | (exfalso; simp at hc1 <;> omega)
      | (
        (try simp at hc1)
        rw [if_pos (by omega)] at hR
        subst hR
        refine Z.seq ?_
        refine Z.region ?_
        refine Z.lb 2 rfl ?_
        refine Z.lnil ?_
        refine Z.only [2, 3] rfl ?_
        refine Z.nthen ?_
        refine Z.ret ?_
        repeat (first | refine Z.rthen ?_ | refine Z.rblock ?_ | refine Z.rscope ?_)
        -- ret#0
        refine Z.out2 (by exact ⟨rfl, rfl, trivial⟩) ?_
        first
        | exact ⟨_, rfl, ps, _, rfl, rfl, hB, hs.sel [0] (by decide)⟩
        | exact ⟨_, rfl, ParD.fail (hs.sub (List.nil_sublist _))⟩
        | exact retL (lnE_a hsp104) (by decide) hG hR (hs.sub (List.nil_sublist _))
        | exact retL (lnE_b hp1 hb2e hc21.1 hc21.2) (by decide) hG hR (hs.sub (List.nil_sublist _))
        | exact retL (lnE_c hp2 hb2e hbd2.2 hc25 hb3e hc28) (by decide) hG hR (hs.sub (List.nil_sublist _))
        | (exfalso; omega)
        | exact retL (lnE_d hp1 hb2e hc30) (by decide) hG hR (hs.sub (List.nil_sublist _))
        | trivial
        )
  · first
      | (exfalso; simp at hc1 <;> omega)
      | (
        (try simp at hc1)
        rw [if_neg (by omega)] at hR
        refine Z.skip ?_
        refine Z.nthen ?_
        refine Z.seq ?_
        refine Z.region ?_
        refine Z.lb 1 rfl ?_
        refine Z.lnil ?_
        refine Z.only [0, 4] rfl ?_
        refine Z.nthen ?_
        refine Z.seq ?_
        refine Z.region ?_
        replace hs := hs.nil 96 2
        refine Z.l rfl rfl (by rfl) (Z.keepS hs) (Z.Yd.pure rfl) ?_
        refine Z.lb 1 rfl ?_
        refine Z.lnil ?_
        refine Z.only [0, 4, 5, 6] rfl ?_
        refine Z.nthen ?_
        refine Z.seq ?_
        refine Z.region ?_
        refine Z.lb 2 rfl ?_
        refine Z.lnil ?_
        refine Z.only [0, 4, 5, 6, 7, 8] rfl ?_
        refine Z.nthen ?_
        refine Z.seq ?_
        refine Z.seq ?_
        refine Z.region ?_
        refine Z.lb 1 rfl ?_
        refine Z.lnil ?_
        refine Z.only [0, 4, 5, 6, 7, 8, 9] rfl ?_
        refine Z.nthen ?_
        refine Z.block ?_
        refine Z.loopk (ι := Nat × List (Int × Int) × Bool × Bool × Bool × Value × Nat) [0] rfl (fun x => [(4, [], x.2.2.2.2.2.1), (5, [], .int .i64 (x.1 : Int)), (6, [], .int .i64 (x.2.2.2.2.2.2 : Int)), (7, [], .bool x.2.2.1), (8, [], .bool x.2.2.2.1), (9, [], .bool x.2.2.2.2.1)]) (fun x wr => (x.1 ≤ l.length ∧ x.2.1.length ≤ x.1 ∧ x.2.2.2.2.2.2 = x.2.1.length ∧ (x.2.2.2.2.1 = true → ∃ F, l.length + 1 ≤ F + x.1 ∧ hGo l F x.1 x.2.1 x.2.2.1 x.2.2.2.1 = (E0, H0, P0)) ∧ (x.2.2.2.2.1 = false → (E0, H0, P0) = (0, x.2.1, x.1))) ∧ SX.St w [] wr [SX.Ent.row x.2.2.2.2.2.1 96 2 x.2.1.length (x.2.1.flatMap encH)]) (fun x => l.length - x.1) (0, [], false, false, true, .slice none 0 0, 0) (by refine ⟨?_, ?_, ?_, ?_, ?_, ?_, trivial⟩ <;> (first | rfl | (refine Z.lookv rfl ?_; simp; done) | (refine Z.lookv rfl ?_; simp; omega))) ⟨⟨Nat.zero_le _, Nat.zero_le _, rfl, fun _ => ⟨l.length + 1, by simp only; omega, hV'⟩, fun h => by cases h⟩, hs⟩ ?_
        clear hs
        rintro ⟨p, acc, data, part, more, vo, cnt⟩ w7 ⟨⟨hp, hac, hcn, hmo, hno⟩, hs⟩
        refine Z.only [0, 4, 5, 6, 7, 8, 9] rfl ?_
        (try dsimp only at hs)
        dsimp only at hp hac hcn hmo hno hs
        subst hcn
        obtain ⟨Av, cv, rfl, -, -, -⟩ := SX.row_slv hs (j := 0) rfl
        have hc0 : ((p, acc, data, part, more, Value.slice Av acc.length cv, acc.length) : Nat × List (Int × Int) × Bool × Bool × Bool × Value × Nat).2.2.2.2.2.2 = acc.length := rfl
        refine Z.seq ?_
        refine Z.seq ?_
        refine Z.region ?_
        refine Z.lb 1 rfl ?_
        refine Z.lnil ?_
        refine Z.only [0, 4, 5, 6, 7, 8, 19] rfl ?_
        refine Z.nthen ?_
        refine Z.cond rfl (fun hc7 => ?_) (fun hc7 => ?_)
        · first
            | (exfalso; simp at hc7 <;> omega)
            | (
              (try simp at hc7)
              obtain ⟨F, hF, hG⟩ := hmo (by assumption)
              obtain ⟨F, rfl⟩ : ∃ F', F = F' + 1 := ⟨F - 1, by omega⟩
              refine Z.skip ?_
              refine Z.nthen ?_
              refine Z.seq ?_
              refine Z.block ?_
              refine Z.seq ?_
              refine Z.seq ?_
              refine Z.region ?_
              refine Z.lb 2 rfl ?_
              refine Z.l rfl rfl (by rfl) (Z.keepS hs) (Z.Yd.lenS rfl Try.underlying26) ?_
              refine Z.lb 1 rfl ?_
              refine Z.lnil ?_
              refine Z.only [0, 4, 5, 6, 7, 8, 25] rfl ?_
              refine Z.nthen ?_
              refine Z.cond rfl (fun hc9 => ?_) (fun hc9 => ?_)
              · first
                  | (exfalso; simp at hc9 <;> omega)
                  | (
                    (try simp at hc9)
                    rw [hGo, if_pos (by omega)] at hG
                    simp only [Prod.mk.injEq] at hG
                    obtain ⟨rfl, rfl, rfl⟩ := hG
                    rw [if_pos (by decide)] at hR
                    subst hR
                    refine Z.seq ?_
                    refine Z.region ?_
                    refine Z.lb 2 rfl ?_
                    refine Z.lnil ?_
                    refine Z.only [2, 3] rfl ?_
                    refine Z.nthen ?_
                    refine Z.ret ?_
                    repeat (first | refine Z.rthen ?_ | refine Z.rblock ?_ | refine Z.rscope ?_)
                    -- ret#1
                    refine Z.out2 (by exact ⟨rfl, rfl, trivial⟩) ?_
                    first
                    | exact ⟨_, rfl, ps, _, rfl, rfl, hB, hs.sel [0] (by decide)⟩
                    | exact ⟨_, rfl, ParD.fail (hs.sub (List.nil_sublist _))⟩
                    | exact retL (lnE_a hsp104) (by decide) hG hR (hs.sub (List.nil_sublist _))
                    | exact retL (lnE_b hp1 hb2e hc21.1 hc21.2) (by decide) hG hR (hs.sub (List.nil_sublist _))
                    | exact retL (lnE_c hp2 hb2e hbd2.2 hc25 hb3e hc28) (by decide) hG hR (hs.sub (List.nil_sublist _))
                    | (exfalso; omega)
                    | exact retL (lnE_d hp1 hb2e hc30) (by decide) hG hR (hs.sub (List.nil_sublist _))
                    | trivial
                    )
              · first
                  | (exfalso; simp at hc9 <;> omega)
                  | (
                    (try simp at hc9)
                    have hpl : p < l.length := by omega
                    rw [hGo, if_neg (fun k => k hpl)] at hG
                    have hbd := byB_bd hb hpl
                    obtain ⟨b, hbe⟩ : ∃ b, byB l p = b := ⟨_, rfl⟩
                    rw [hbe] at hG hbd
                    obtain ⟨x, hxe⟩ : ∃ x, b % 32 = x := ⟨_, rfl⟩
                    rw [hxe] at hG
                    obtain ⟨ba, oa, rfl, hba, hx2⟩ := Z.Sl.some hx (by rw [ints_length]; omega)
                    have hcl : ∀ L W, SX.Keep w [] L W → W.cell? ⟨ba, oa + (p : Int).toNat * 1, none⟩ = some (.int .u8 b) := fun L W hW => by rw [← hbe, ← byB_at]; exact Z.cellS hx2 rfl (by omega) (by omega) W hW
                    refine Z.skip ?_
                    refine Z.nthen ?_
                    refine Z.seq ?_
                    refine Z.region ?_
                    refine Z.lb 2 rfl ?_
                    refine Z.l rfl rfl (by rfl) (Z.keepS hs) (Z.Yd.elem rfl rfl Try.underlying26 Try.sizeOf5 (fun hG => ⟨(by first | omega | (have hG' := Z.gh rfl hG; simp at hG'; omega)), (by first | omega | (have hG' := Z.gh rfl hG; simp at hG'; omega))⟩)) ?_
                    refine Z.l rfl rfl (by rfl) (Z.keepS hs) (Z.Yd.load rfl Try.isAgg5 (fun _ => hcl _)) ?_
                    refine Z.l rfl rfl (by rfl) (Z.keepS hs) (Z.Yd.quo rfl rfl (by intro hG; first | decide | omega) (fun _ => qu8 ⟨by omega, by omega⟩ (by omega))) ?_
                    refine Z.l rfl rfl (by rfl) (Z.keepS hs) (Z.Yd.rem rfl rfl (by intro hG; first | decide | omega) (by intro hG; first | exact Z.tmodn (by omega) | exact rfl)) ?_
                    refine Z.lb 2 rfl ?_
                    refine Z.lnil ?_
                    refine Z.only [0, 4, 5, 6, 7, 8, 9] rfl ?_
                    refine Z.nthen ?_
                    refine Z.seq ?_
                    refine Z.region ?_
                    refine Z.lb 2 rfl ?_
                    refine Z.l rfl rfl (by rfl) (Z.keepS hs) (Z.Yd.elem rfl rfl Try.underlying26 Try.sizeOf5 (fun hG => ⟨(by first | omega | (have hG' := Z.gh rfl hG; simp at hG'; omega)), (by first | omega | (have hG' := Z.gh rfl hG; simp at hG'; omega))⟩)) ?_
                    refine Z.l rfl rfl (by rfl) (Z.keepS hs) (Z.Yd.load rfl Try.isAgg5 (fun _ => hcl _)) ?_
                    refine Z.l rfl rfl (by rfl) (Z.keepS hs) (Z.Yd.convI rfl ⟨_, Try.underlying5⟩ Try.underlying3 (fun hG => Z.wi64 (by first | omega | (have hG' := Z.gh rfl hG; simp at hG'; omega)))) ?_
                    refine Z.l rfl rfl (by rfl) (Z.keepS hs) (Z.Yd.rem rfl rfl (by intro hG; first | decide | omega) (by intro hG; first | exact Z.tmodn (by omega) | exact rfl)) ?_
                    refine Z.l rfl rfl (by rfl) (Z.keepS hs) (Z.Yd.buildL [(0, 1), (1, 1)] [.int .i64 0, .int .i64 0] rfl rfl (by intro w; kernel_rfl)) ?_
                    refine Z.le rfl trivial ?_
                    refine Z.ZO.alloc rfl rfl (by rfl) Try.zeroValue96 rfl hs ?_
                    clear hs; intro g10 w10 hs
                    refine Z.le rfl trivial ?_
                    first | refine Z.ZO.storeA rfl rfl hs rfl rfl (by kernel_rfl) (by first | (simp [Value.oneCell']; done) | (refine Z.all_one ?_; assumption)) (by first | exact SX.at0 | exact SX.at1 | exact SX.at2 | exact SX.at3 | exact SX.at4 | exact SX.at5 | exact Z.at6 | exact Z.at7 | exact Z.at8 | exact Z.at9 | exact Z.at10 | exact Z.at11 | exact Z.at12) (by rfl) ?_ | refine Z.ZO.storeP rfl rfl hs rfl rfl (by kernel_rfl) (by first | (simp [Value.oneCell']; done) | (refine Z.all_one ?_; assumption)) (by first | exact SX.at0 | exact SX.at1 | exact SX.at2 | exact SX.at3 | exact SX.at4 | exact SX.at5 | exact Z.at6 | exact Z.at7 | exact Z.at8 | exact Z.at9 | exact Z.at10 | exact Z.at11 | exact Z.at12) (by first | decide | (simp; done) | (simp; omega)) ?_ | refine Z.ZO.storePR rfl rfl hs rfl rfl (by kernel_rfl) (by first | (simp [Value.oneCell']; done) | (refine Z.all_one ?_; assumption)) (by first | exact SX.at0 | exact SX.at1 | exact SX.at2 | exact SX.at3 | exact SX.at4 | exact SX.at5 | exact Z.at6 | exact Z.at7 | exact Z.at8 | exact Z.at9 | exact Z.at10 | exact Z.at11 | exact Z.at12) (by first | decide | (simp; done) | (simp; omega)) ?_
                    clear hs; intro ws hs
                    simp only [Nat.zero_add, Nat.add_zero, Nat.reduceAdd, Int.reduceToNat, Nat.reduceMul, List.set_cons_zero, List.set_cons_succ, List.setIfInBounds_toArray] at hs
                    try simp only [Z.putL, Nat.zero_add] at hs
                    refine Z.lnil ?_
                    refine Z.only [0, 4, 5, 6, 7, 8, 9, 10] rfl ?_
                    refine Z.nthen ?_
                    refine Z.seq ?_
                    refine Z.seq ?_
                    refine Z.cutt (ι := Unit) [0, 4, 5, 6, 7, 8, 9, 10] rfl (fun _ => [(85, [], .bool (decide (hdBad b acc.length data part)))]) (fun _ wr => SX.St w [] wr [SX.Ent.blk g10 96 #[.int .i64 x, .int .i64 (-1)], SX.Ent.row (.slice Av acc.length cv) 96 2 acc.length (acc.flatMap encH)]) ?_ ?_
                    · skip
                      refine Z.region ?_
                      rw [hxe] at hs
                      refine Z.l rfl rfl (by rfl) (Z.keepS hs) (Z.Yd.pure rfl) ?_
                      refine Z.lb 1 rfl ?_
                      refine Z.l rfl rfl (by rfl) (Z.keepS hs) (Z.Yd.elem rfl rfl Try.underlying26 Try.sizeOf5 (fun hG => ⟨(by first | omega | (have hG' := Z.gh rfl hG; simp at hG'; omega)), (by first | omega | (have hG' := Z.gh rfl hG; simp at hG'; omega))⟩)) ?_
                      refine Z.l rfl rfl (by rfl) (Z.keepS hs) (Z.Yd.load rfl Try.isAgg5 (fun _ => hcl _)) ?_
                      refine Z.lb 2 rfl ?_
                      refine Z.l rfl rfl (by rfl) (Z.keepS hs) (Z.Yd.fieldA (m := 0) rfl (by kernel_rfl)) ?_
                      refine Z.l rfl rfl (by rfl) (Z.keepS hs) (by first | exact Z.Yd.load rfl Try.isAgg3 (fun _ => Z.cellB (by first | ((repeat (first | exact List.mem_cons_self | refine List.mem_cons_of_mem _ ?_ | refine List.mem_append_right _ ?_)); done) | fail) rfl) | exact Z.Yd.load rfl Try.isAgg3 (fun _ => Z.cellO (by assumption) (by simp) (by assumption)) | fail "load 13.7") ?_
                      refine Z.split (s := 45) rfl (fun hsp45 => ?_) (fun hsp45 => ?_)
                      · first
                          | (exfalso; simp at hsp45 <;> omega)
                          | (
                            refine Z.yes (s := 45) (b := true) rfl hsp45 rfl ?_
                            (try simp at hsp45)
                            refine Z.ls rfl rfl rfl (by rfl) ?_
                            refine Z.ls rfl rfl rfl (by rfl) ?_
                            refine Z.ls rfl rfl rfl (by rfl) ?_
                            refine Z.lsU rfl rfl rfl (by rfl) ?_
                            refine Z.lsU rfl rfl rfl (by rfl) ?_
                            refine Z.lsU rfl rfl rfl (by rfl) ?_
                            refine Z.lsU rfl rfl rfl (by rfl) ?_
                            refine Z.ls rfl rfl rfl (by rfl) ?_
                            refine Z.ls rfl rfl rfl (by rfl) ?_
                            refine Z.lsU rfl rfl rfl (by rfl) ?_
                            refine Z.lsU rfl rfl rfl (by rfl) ?_
                            refine Z.lsU rfl rfl rfl (by rfl) ?_
                            refine Z.ls rfl rfl rfl (by rfl) ?_
                            refine Z.l rfl rfl (by rfl) (Z.keepS hs) (Z.Yd.pickT rfl rfl) ?_
                            refine Z.lb 1 rfl ?_
                            refine Z.l rfl rfl (by rfl) (Z.keepS hs) (Z.Yd.fieldA (m := 0) rfl (by kernel_rfl)) ?_
                            refine Z.l rfl rfl (by rfl) (Z.keepS hs) (by first | exact Z.Yd.load rfl Try.isAgg3 (fun _ => Z.cellB (by first | ((repeat (first | exact List.mem_cons_self | refine List.mem_cons_of_mem _ ?_ | refine List.mem_append_right _ ?_)); done) | fail) rfl) | exact Z.Yd.load rfl Try.isAgg3 (fun _ => Z.cellO (by assumption) (by simp) (by assumption)) | fail "load 13.24") ?_
                            refine Z.split (s := 62) rfl (fun hsp62 => ?_) (fun hsp62 => ?_)
                            · first
                                | (exfalso; simp at hsp62 <;> omega)
                                | (
                                  refine Z.yes (s := 62) (b := true) rfl hsp62 rfl ?_
                                  (try simp at hsp62)
                                  refine Z.ls rfl rfl rfl (by rfl) ?_
                                  refine Z.ls rfl rfl rfl (by rfl) ?_
                                  refine Z.ls rfl rfl rfl (by rfl) ?_
                                  refine Z.lsU rfl rfl rfl (by rfl) ?_
                                  refine Z.ls rfl rfl rfl (by rfl) ?_
                                  refine Z.l rfl rfl (by rfl) (Z.keepS hs) (Z.Yd.pickT rfl rfl) ?_
                                  refine Z.lb 1 rfl ?_
                                  refine Z.l rfl rfl (by rfl) (Z.keepS hs) (Z.Yd.fieldA (m := 0) rfl (by kernel_rfl)) ?_
                                  refine Z.l rfl rfl (by rfl) (Z.keepS hs) (by first | exact Z.Yd.load rfl Try.isAgg3 (fun _ => Z.cellB (by first | ((repeat (first | exact List.mem_cons_self | refine List.mem_cons_of_mem _ ?_ | refine List.mem_append_right _ ?_)); done) | fail) rfl) | exact Z.Yd.load rfl Try.isAgg3 (fun _ => Z.cellO (by assumption) (by simp) (by assumption)) | fail "load 13.33") ?_
                                  refine Z.lb 12 rfl ?_
                                  refine Z.lnil ?_
                                  refine Z.only [0, 4, 5, 6, 7, 8, 9, 10, 85] rfl ?_
                                  refine Z.nthen ?_
                                  exact Z.meet () (by refine ⟨?_, ?_, ?_, ?_, ?_, ?_, ?_, ?_, ?_, trivial⟩ <;> first | rfl | (exact congrArg (fun z ↦ some (([] : List (Nat × Bool)), Value.bool z)) (by first | exact hdT1 hsp45 | exact hdT2 hxe hsp50 hsp62 | (refine hdT3 hxe ?_ ?_; omega; first | exact .inl hsp50 | (right; by_cases h9 : ctlN x = 0; exact .inr (hsp62 h9); exact .inl h9))))) hs
                                  )
                            · first
                                | (exfalso; simp at hsp62 <;> omega)
                                | (
                                  refine Z.yes (s := 62) (b := false) rfl hsp62 rfl ?_
                                  (try simp at hsp62)
                                  refine Z.le rfl (by exact ⟨rfl, trivial⟩) ?_
                                  refine Z.ZO.call rfl rfl (by rfl) rfl rfl Try.call22 rfl (mr_Control _ _) ?_
                                  rintro v13_25 w13_25 ⟨rfl, hy⟩
                                  replace hs := hs.call hy
                                  clear hy
                                  try simp only [List.cons_append, List.nil_append, List.append_nil] at hs
                                  refine Z.lb 4 rfl ?_
                                  refine Z.yes (s := 62) (b := false) rfl rfl rfl ?_
                                  refine Z.l rfl rfl (by rfl) (Z.keepS hs) (Z.Yd.pickF rfl rfl) ?_
                                  refine Z.lb 1 rfl ?_
                                  refine Z.l rfl rfl (by rfl) (Z.keepS hs) (Z.Yd.fieldA (m := 0) rfl (by kernel_rfl)) ?_
                                  refine Z.l rfl rfl (by rfl) (Z.keepS hs) (by first | exact Z.Yd.load rfl Try.isAgg3 (fun _ => Z.cellB (by first | ((repeat (first | exact List.mem_cons_self | refine List.mem_cons_of_mem _ ?_ | refine List.mem_append_right _ ?_)); done) | fail) rfl) | exact Z.Yd.load rfl Try.isAgg3 (fun _ => Z.cellO (by assumption) (by simp) (by assumption)) | fail "load 13.33") ?_
                                  refine Z.lb 12 rfl ?_
                                  refine Z.lnil ?_
                                  refine Z.only [0, 4, 5, 6, 7, 8, 9, 10, 85] rfl ?_
                                  refine Z.nthen ?_
                                  exact Z.meet () (by refine ⟨?_, ?_, ?_, ?_, ?_, ?_, ?_, ?_, ?_, trivial⟩ <;> first | rfl | (exact congrArg (fun z ↦ some (([] : List (Nat × Bool)), Value.bool z)) (by first | exact hdT1 hsp45 | exact hdT2 hxe hsp50 hsp62 | (refine hdT3 hxe ?_ ?_; omega; first | exact .inl hsp50 | (right; by_cases h9 : ctlN x = 0; exact .inr (hsp62 h9); exact .inl h9))))) hs
                                  )
                            )
                      · first
                          | (exfalso; simp at hsp45 <;> omega)
                          | (
                            refine Z.yes (s := 45) (b := false) rfl hsp45 rfl ?_
                            (try simp at hsp45)
                            refine Z.le rfl (by exact ⟨rfl, trivial⟩) ?_
                            refine Z.ZO.call rfl rfl (by rfl) rfl rfl Try.call48 rfl (mr_sdu _ _) ?_
                            rintro v13_8 w13_8 ⟨rfl, hy⟩
                            replace hs := hs.call hy
                            clear hy
                            try simp only [List.cons_append, List.nil_append, List.append_nil] at hs
                            refine Z.lb 2 rfl ?_
                            refine Z.l rfl rfl (by rfl) (Z.keepS hs) (Z.Yd.fieldA (m := 0) rfl (by kernel_rfl)) ?_
                            refine Z.l rfl rfl (by rfl) (Z.keepS hs) (by first | exact Z.Yd.load rfl Try.isAgg3 (fun _ => Z.cellB (by first | ((repeat (first | exact List.mem_cons_self | refine List.mem_cons_of_mem _ ?_ | refine List.mem_append_right _ ?_)); done) | fail) rfl) | exact Z.Yd.load rfl Try.isAgg3 (fun _ => Z.cellO (by assumption) (by simp) (by assumption)) | fail "load 13.12") ?_
                            refine Z.yes (s := 45) (b := false) rfl rfl rfl ?_
                            refine Z.split (s := 50) rfl (fun hsp50 => ?_) (fun hsp50 => ?_)
                            · first
                                | (exfalso; simp at hsp50 <;> omega)
                                | (
                                  refine Z.yes (s := 50) (b := true) rfl hsp50 rfl ?_
                                  (try simp at hsp50)
                                  refine Z.le rfl (by exact ⟨rfl, trivial⟩) ?_
                                  refine Z.ZO.call rfl rfl (by rfl) rfl rfl Try.call22 rfl (mr_Control _ _) ?_
                                  rintro v13_13 w13_13 ⟨rfl, hy⟩
                                  replace hs := hs.call hy
                                  clear hy
                                  try simp only [List.cons_append, List.nil_append, List.append_nil] at hs
                                  refine Z.lb 1 rfl ?_
                                  refine Z.yes (s := 50) (b := true) rfl rfl rfl ?_
                                  refine Z.l rfl rfl (by rfl) (Z.keepS hs) (Z.Yd.pickT rfl rfl) ?_
                                  refine Z.lb 1 rfl ?_
                                  refine Z.l rfl rfl (by rfl) (Z.keepS hs) (Z.Yd.fieldA (m := 0) rfl (by kernel_rfl)) ?_
                                  refine Z.l rfl rfl (by rfl) (Z.keepS hs) (by first | exact Z.Yd.load rfl Try.isAgg3 (fun _ => Z.cellB (by first | ((repeat (first | exact List.mem_cons_self | refine List.mem_cons_of_mem _ ?_ | refine List.mem_append_right _ ?_)); done) | fail) rfl) | exact Z.Yd.load rfl Try.isAgg3 (fun _ => Z.cellO (by assumption) (by simp) (by assumption)) | fail "load 13.18") ?_
                                  refine Z.lb 2 rfl ?_
                                  refine Z.yes (s := 45) (b := false) rfl rfl rfl ?_
                                  refine Z.l rfl rfl (by rfl) (Z.keepS hs) (Z.Yd.pickF rfl rfl) ?_
                                  refine Z.lb 1 rfl ?_
                                  refine Z.l rfl rfl (by rfl) (Z.keepS hs) (Z.Yd.fieldA (m := 0) rfl (by kernel_rfl)) ?_
                                  refine Z.l rfl rfl (by rfl) (Z.keepS hs) (by first | exact Z.Yd.load rfl Try.isAgg3 (fun _ => Z.cellB (by first | ((repeat (first | exact List.mem_cons_self | refine List.mem_cons_of_mem _ ?_ | refine List.mem_append_right _ ?_)); done) | fail) rfl) | exact Z.Yd.load rfl Try.isAgg3 (fun _ => Z.cellO (by assumption) (by simp) (by assumption)) | fail "load 13.24") ?_
                                  refine Z.split (s := 62) rfl (fun hsp62 => ?_) (fun hsp62 => ?_)
                                  · first
                                      | (exfalso; simp at hsp62 <;> omega)
                                      | (
                                        refine Z.yes (s := 62) (b := true) rfl hsp62 rfl ?_
                                        (try simp at hsp62)
                                        refine Z.ls rfl rfl rfl (by rfl) ?_
                                        refine Z.ls rfl rfl rfl (by rfl) ?_
                                        refine Z.ls rfl rfl rfl (by rfl) ?_
                                        refine Z.lsU rfl rfl rfl (by rfl) ?_
                                        refine Z.ls rfl rfl rfl (by rfl) ?_
                                        refine Z.l rfl rfl (by rfl) (Z.keepS hs) (Z.Yd.pickT rfl rfl) ?_
                                        refine Z.lb 1 rfl ?_
                                        refine Z.l rfl rfl (by rfl) (Z.keepS hs) (Z.Yd.fieldA (m := 0) rfl (by kernel_rfl)) ?_
                                        refine Z.l rfl rfl (by rfl) (Z.keepS hs) (by first | exact Z.Yd.load rfl Try.isAgg3 (fun _ => Z.cellB (by first | ((repeat (first | exact List.mem_cons_self | refine List.mem_cons_of_mem _ ?_ | refine List.mem_append_right _ ?_)); done) | fail) rfl) | exact Z.Yd.load rfl Try.isAgg3 (fun _ => Z.cellO (by assumption) (by simp) (by assumption)) | fail "load 13.33") ?_
                                        refine Z.lb 12 rfl ?_
                                        refine Z.lnil ?_
                                        refine Z.only [0, 4, 5, 6, 7, 8, 9, 10, 85] rfl ?_
                                        refine Z.nthen ?_
                                        exact Z.meet () (by refine ⟨?_, ?_, ?_, ?_, ?_, ?_, ?_, ?_, ?_, trivial⟩ <;> first | rfl | (exact congrArg (fun z ↦ some (([] : List (Nat × Bool)), Value.bool z)) (by first | exact hdT1 hsp45 | exact hdT2 hxe hsp50 hsp62 | (refine hdT3 hxe ?_ ?_; omega; first | exact .inl hsp50 | (right; by_cases h9 : ctlN x = 0; exact .inr (hsp62 h9); exact .inl h9))))) hs
                                        )
                                  · first
                                      | (exfalso; simp at hsp62 <;> omega)
                                      | (
                                        refine Z.yes (s := 62) (b := false) rfl hsp62 rfl ?_
                                        (try simp at hsp62)
                                        refine Z.le rfl (by exact ⟨rfl, trivial⟩) ?_
                                        refine Z.ZO.call rfl rfl (by rfl) rfl rfl Try.call22 rfl (mr_Control _ _) ?_
                                        rintro v13_25 w13_25 ⟨rfl, hy⟩
                                        replace hs := hs.call hy
                                        clear hy
                                        try simp only [List.cons_append, List.nil_append, List.append_nil] at hs
                                        refine Z.lb 4 rfl ?_
                                        refine Z.yes (s := 62) (b := false) rfl rfl rfl ?_
                                        refine Z.l rfl rfl (by rfl) (Z.keepS hs) (Z.Yd.pickF rfl rfl) ?_
                                        refine Z.lb 1 rfl ?_
                                        refine Z.l rfl rfl (by rfl) (Z.keepS hs) (Z.Yd.fieldA (m := 0) rfl (by kernel_rfl)) ?_
                                        refine Z.l rfl rfl (by rfl) (Z.keepS hs) (by first | exact Z.Yd.load rfl Try.isAgg3 (fun _ => Z.cellB (by first | ((repeat (first | exact List.mem_cons_self | refine List.mem_cons_of_mem _ ?_ | refine List.mem_append_right _ ?_)); done) | fail) rfl) | exact Z.Yd.load rfl Try.isAgg3 (fun _ => Z.cellO (by assumption) (by simp) (by assumption)) | fail "load 13.33") ?_
                                        refine Z.lb 12 rfl ?_
                                        refine Z.lnil ?_
                                        refine Z.only [0, 4, 5, 6, 7, 8, 9, 10, 85] rfl ?_
                                        refine Z.nthen ?_
                                        exact Z.meet () (by refine ⟨?_, ?_, ?_, ?_, ?_, ?_, ?_, ?_, ?_, trivial⟩ <;> first | rfl | (exact congrArg (fun z ↦ some (([] : List (Nat × Bool)), Value.bool z)) (by first | exact hdT1 hsp45 | exact hdT2 hxe hsp50 hsp62 | (refine hdT3 hxe ?_ ?_; omega; first | exact .inl hsp50 | (right; by_cases h9 : ctlN x = 0; exact .inr (hsp62 h9); exact .inl h9))))) hs
                                        )
                                  )
                            · first
                                | (exfalso; simp at hsp50 <;> omega)
                                | (
                                  refine Z.yes (s := 50) (b := false) rfl hsp50 rfl ?_
                                  (try simp at hsp50)
                                  refine Z.ls rfl rfl rfl (by rfl) ?_
                                  refine Z.ls rfl rfl rfl (by rfl) ?_
                                  refine Z.l rfl rfl (by rfl) (Z.keepS hs) (Z.Yd.pickF rfl rfl) ?_
                                  refine Z.lb 1 rfl ?_
                                  refine Z.l rfl rfl (by rfl) (Z.keepS hs) (Z.Yd.fieldA (m := 0) rfl (by kernel_rfl)) ?_
                                  refine Z.l rfl rfl (by rfl) (Z.keepS hs) (by first | exact Z.Yd.load rfl Try.isAgg3 (fun _ => Z.cellB (by first | ((repeat (first | exact List.mem_cons_self | refine List.mem_cons_of_mem _ ?_ | refine List.mem_append_right _ ?_)); done) | fail) rfl) | exact Z.Yd.load rfl Try.isAgg3 (fun _ => Z.cellO (by assumption) (by simp) (by assumption)) | fail "load 13.18") ?_
                                  refine Z.lb 2 rfl ?_
                                  refine Z.yes (s := 45) (b := false) rfl rfl rfl ?_
                                  refine Z.l rfl rfl (by rfl) (Z.keepS hs) (Z.Yd.pickF rfl rfl) ?_
                                  refine Z.lb 1 rfl ?_
                                  refine Z.l rfl rfl (by rfl) (Z.keepS hs) (Z.Yd.fieldA (m := 0) rfl (by kernel_rfl)) ?_
                                  refine Z.l rfl rfl (by rfl) (Z.keepS hs) (by first | exact Z.Yd.load rfl Try.isAgg3 (fun _ => Z.cellB (by first | ((repeat (first | exact List.mem_cons_self | refine List.mem_cons_of_mem _ ?_ | refine List.mem_append_right _ ?_)); done) | fail) rfl) | exact Z.Yd.load rfl Try.isAgg3 (fun _ => Z.cellO (by assumption) (by simp) (by assumption)) | fail "load 13.24") ?_
                                  refine Z.split (s := 62) rfl (fun hsp62 => ?_) (fun hsp62 => ?_)
                                  · first
                                      | (exfalso; simp at hsp62 <;> omega)
                                      | (
                                        refine Z.yes (s := 62) (b := true) rfl hsp62 rfl ?_
                                        (try simp at hsp62)
                                        refine Z.ls rfl rfl rfl (by rfl) ?_
                                        refine Z.ls rfl rfl rfl (by rfl) ?_
                                        refine Z.ls rfl rfl rfl (by rfl) ?_
                                        refine Z.lsU rfl rfl rfl (by rfl) ?_
                                        refine Z.ls rfl rfl rfl (by rfl) ?_
                                        refine Z.l rfl rfl (by rfl) (Z.keepS hs) (Z.Yd.pickT rfl rfl) ?_
                                        refine Z.lb 1 rfl ?_
                                        refine Z.l rfl rfl (by rfl) (Z.keepS hs) (Z.Yd.fieldA (m := 0) rfl (by kernel_rfl)) ?_
                                        refine Z.l rfl rfl (by rfl) (Z.keepS hs) (by first | exact Z.Yd.load rfl Try.isAgg3 (fun _ => Z.cellB (by first | ((repeat (first | exact List.mem_cons_self | refine List.mem_cons_of_mem _ ?_ | refine List.mem_append_right _ ?_)); done) | fail) rfl) | exact Z.Yd.load rfl Try.isAgg3 (fun _ => Z.cellO (by assumption) (by simp) (by assumption)) | fail "load 13.33") ?_
                                        refine Z.lb 12 rfl ?_
                                        refine Z.lnil ?_
                                        refine Z.only [0, 4, 5, 6, 7, 8, 9, 10, 85] rfl ?_
                                        refine Z.nthen ?_
                                        exact Z.meet () (by refine ⟨?_, ?_, ?_, ?_, ?_, ?_, ?_, ?_, ?_, trivial⟩ <;> first | rfl | (exact congrArg (fun z ↦ some (([] : List (Nat × Bool)), Value.bool z)) (by first | exact hdT1 hsp45 | exact hdT2 hxe hsp50 hsp62 | (refine hdT3 hxe ?_ ?_; omega; first | exact .inl hsp50 | (right; by_cases h9 : ctlN x = 0; exact .inr (hsp62 h9); exact .inl h9))))) hs
                                        )
                                  · first
                                      | (exfalso; simp at hsp62 <;> omega)
                                      | (
                                        refine Z.yes (s := 62) (b := false) rfl hsp62 rfl ?_
                                        (try simp at hsp62)
                                        refine Z.le rfl (by exact ⟨rfl, trivial⟩) ?_
                                        refine Z.ZO.call rfl rfl (by rfl) rfl rfl Try.call22 rfl (mr_Control _ _) ?_
                                        rintro v13_25 w13_25 ⟨rfl, hy⟩
                                        replace hs := hs.call hy
                                        clear hy
                                        try simp only [List.cons_append, List.nil_append, List.append_nil] at hs
                                        refine Z.lb 4 rfl ?_
                                        refine Z.yes (s := 62) (b := false) rfl rfl rfl ?_
                                        refine Z.l rfl rfl (by rfl) (Z.keepS hs) (Z.Yd.pickF rfl rfl) ?_
                                        refine Z.lb 1 rfl ?_
                                        refine Z.l rfl rfl (by rfl) (Z.keepS hs) (Z.Yd.fieldA (m := 0) rfl (by kernel_rfl)) ?_
                                        refine Z.l rfl rfl (by rfl) (Z.keepS hs) (by first | exact Z.Yd.load rfl Try.isAgg3 (fun _ => Z.cellB (by first | ((repeat (first | exact List.mem_cons_self | refine List.mem_cons_of_mem _ ?_ | refine List.mem_append_right _ ?_)); done) | fail) rfl) | exact Z.Yd.load rfl Try.isAgg3 (fun _ => Z.cellO (by assumption) (by simp) (by assumption)) | fail "load 13.33") ?_
                                        refine Z.lb 12 rfl ?_
                                        refine Z.lnil ?_
                                        refine Z.only [0, 4, 5, 6, 7, 8, 9, 10, 85] rfl ?_
                                        refine Z.nthen ?_
                                        exact Z.meet () (by refine ⟨?_, ?_, ?_, ?_, ?_, ?_, ?_, ?_, ?_, trivial⟩ <;> first | rfl | (exact congrArg (fun z ↦ some (([] : List (Nat × Bool)), Value.bool z)) (by first | exact hdT1 hsp45 | exact hdT2 hxe hsp50 hsp62 | (refine hdT3 hxe ?_ ?_; omega; first | exact .inl hsp50 | (right; by_cases h9 : ctlN x = 0; exact .inr (hsp62 h9); exact .inl h9))))) hs
                                        )
                                  )
                            )
                    · clear hs
                      rintro _ w13 hs
                      refine Z.only [0, 4, 5, 6, 7, 8, 9, 10, 85] rfl ?_
                      refine Z.cond rfl (fun hc13 => ?_) (fun hc13 => ?_)
                      · first
                          | (exfalso; simp at hc13 <;> omega)
                          | (
                            (try simp at hc13)
                            have hbad : hdBad b acc.length data part := by assumption
                            rw [if_pos hbad] at hG
                            simp only [Prod.mk.injEq] at hG
                            obtain ⟨rfl, rfl, rfl⟩ := hG
                            rw [if_pos (by decide)] at hR
                            subst hR
                            refine Z.seq ?_
                            refine Z.region ?_
                            refine Z.lb 2 rfl ?_
                            refine Z.lnil ?_
                            refine Z.only [2, 3] rfl ?_
                            refine Z.nthen ?_
                            refine Z.ret ?_
                            repeat (first | refine Z.rthen ?_ | refine Z.rblock ?_ | refine Z.rscope ?_)
                            -- ret#2
                            refine Z.out2 (by exact ⟨rfl, rfl, trivial⟩) ?_
                            first
                            | exact ⟨_, rfl, ps, _, rfl, rfl, hB, hs.sel [0] (by decide)⟩
                            | exact ⟨_, rfl, ParD.fail (hs.sub (List.nil_sublist _))⟩
                            | exact retL (lnE_a hsp104) (by decide) hG hR (hs.sub (List.nil_sublist _))
                            | exact retL (lnE_b hp1 hb2e hc21.1 hc21.2) (by decide) hG hR (hs.sub (List.nil_sublist _))
                            | exact retL (lnE_c hp2 hb2e hbd2.2 hc25 hb3e hc28) (by decide) hG hR (hs.sub (List.nil_sublist _))
                            | (exfalso; omega)
                            | exact retL (lnE_d hp1 hb2e hc30) (by decide) hG hR (hs.sub (List.nil_sublist _))
                            | trivial
                            )
                      · first
                          | (exfalso; simp at hc13 <;> omega)
                          | (
                            (try simp at hc13)
                            have hnb : ¬ hdBad b acc.length data part := by assumption
                            rw [if_neg hnb] at hG
                            refine Z.skip ?_
                            refine Z.nthen ?_
                            refine Z.seq ?_
                            refine Z.region ?_
                            refine Z.lb 1 rfl ?_
                            refine Z.l rfl rfl (by rfl) (Z.keepS hs) (Z.Yd.add rfl rfl (fun hG => Z.wi64 (by first | omega | (have hG' := Z.gh rfl hG; simp at hG'; omega)))) ?_
                            refine Z.lb 1 rfl ?_
                            refine Z.lnil ?_
                            refine Z.only [0, 4, 5, 6, 7, 8, 9, 10] rfl ?_
                            refine Z.nthen ?_
                            refine Z.seq ?_
                            refine Z.seq ?_
                            refine Z.region ?_
                            refine Z.l rfl rfl (by rfl) (Z.keepS hs) (Z.Yd.fieldA (m := 0) rfl (by kernel_rfl)) ?_
                            refine Z.l rfl rfl (by rfl) (Z.keepS hs) (by first | exact Z.Yd.load rfl Try.isAgg3 (fun _ => Z.cellB (by first | ((repeat (first | exact List.mem_cons_self | refine List.mem_cons_of_mem _ ?_ | refine List.mem_append_right _ ?_)); done) | fail) rfl) | exact Z.Yd.load rfl Try.isAgg3 (fun _ => Z.cellO (by assumption) (by simp) (by assumption)) | fail "load 16.1") ?_
                            refine Z.lb 1 rfl ?_
                            refine Z.lnil ?_
                            refine Z.only [0, 4, 5, 6, 7, 8, 9, 10, 90] rfl ?_
                            refine Z.nthen ?_
                            refine Z.cutt (ι := Unit) [0, 4, 5, 6, 7, 9, 10] rfl (fun _ => [(8, [], .bool (part || decide (x ≠ 31)))]) (fun _ wr => SX.St w [] wr [SX.Ent.blk g10 96 #[.int .i64 x, .int .i64 (-1)], SX.Ent.row (.slice Av acc.length cv) 96 2 acc.length (acc.flatMap encH)]) ?_ ?_
                            · skip
                              refine Z.cond rfl (fun hc16 => ?_) (fun hc16 => ?_)
                              · first
                                  | (exfalso; simp at hc16 <;> omega)
                                  | (
                                    (try simp at hc16)
                                    refine Z.region ?_
                                    refine Z.lb 1 rfl ?_
                                    refine Z.lnil ?_
                                    refine Z.only [0, 4, 5, 6, 7, 8, 9, 10] rfl ?_
                                    refine Z.nthen ?_
                                    exact Z.meet () (by refine ⟨?_, ?_, ?_, ?_, ?_, ?_, ?_, ?_, trivial⟩ <;> first | rfl | (exact congrArg (fun z ↦ some (([] : List (Nat × Bool)), Value.bool z)) (by simp [hc16]))) hs
                                    )
                              · first
                                  | (exfalso; simp at hc16 <;> omega)
                                  | (
                                    (try simp at hc16)
                                    refine Z.skip ?_
                                    refine Z.nthen ?_
                                    exact Z.meet () (by refine ⟨?_, ?_, ?_, ?_, ?_, ?_, ?_, ?_, trivial⟩ <;> first | rfl | (exact congrArg (fun z ↦ some (([] : List (Nat × Bool)), Value.bool z)) (by simp [hc16]))) hs
                                    )
                            · clear hs
                              rintro _ w16 hs
                              refine Z.only [0, 4, 5, 6, 7, 8, 9, 10] rfl ?_
                              refine Z.seq ?_
                              refine Z.seq ?_
                              refine Z.region ?_
                              refine Z.l rfl rfl (by rfl) (Z.keepS hs) (Z.Yd.fieldA (m := 0) rfl (by kernel_rfl)) ?_
                              refine Z.l rfl rfl (by rfl) (Z.keepS hs) (by first | exact Z.Yd.load rfl Try.isAgg3 (fun _ => Z.cellB (by first | ((repeat (first | exact List.mem_cons_self | refine List.mem_cons_of_mem _ ?_ | refine List.mem_append_right _ ?_)); done) | fail) rfl) | exact Z.Yd.load rfl Try.isAgg3 (fun _ => Z.cellO (by assumption) (by simp) (by assumption)) | fail "load 18.1") ?_
                              refine Z.le rfl trivial ?_
                              refine Z.ZO.call rfl rfl (by rfl) rfl rfl Try.call48 rfl (mr_sdu _ _) ?_
                              rintro v18_2 w18_2 ⟨rfl, hy⟩
                              replace hs := hs.call hy
                              clear hy
                              try simp only [List.cons_append, List.nil_append, List.append_nil] at hs
                              refine Z.lnil ?_
                              refine Z.only [0, 4, 5, 6, 7, 8, 9, 10, 93] rfl ?_
                              refine Z.nthen ?_
                              refine Z.cutt (ι := Unit) [0, 4, 5, 6, 8, 9, 10] rfl (fun _ => [(7, [], .bool (data || decide (sduB x)))]) (fun _ wr => SX.St w [] wr [SX.Ent.blk g10 96 #[.int .i64 x, .int .i64 (-1)], SX.Ent.row (.slice Av acc.length cv) 96 2 acc.length (acc.flatMap encH)]) ?_ ?_
                              · skip
                                refine Z.cond rfl (fun hc18 => ?_) (fun hc18 => ?_)
                                · first
                                    | (exfalso; simp at hc18 <;> omega)
                                    | (
                                      (try simp at hc18)
                                      refine Z.region ?_
                                      refine Z.lb 1 rfl ?_
                                      refine Z.lnil ?_
                                      refine Z.only [0, 4, 5, 6, 7, 8, 9, 10] rfl ?_
                                      refine Z.nthen ?_
                                      exact Z.meet () (by refine ⟨?_, ?_, ?_, ?_, ?_, ?_, ?_, ?_, trivial⟩ <;> first | rfl | (exact congrArg (fun z ↦ some (([] : List (Nat × Bool)), Value.bool z)) (by simp [hc18]))) hs
                                      )
                                · first
                                    | (exfalso; simp at hc18 <;> omega)
                                    | (
                                      (try simp at hc18)
                                      refine Z.skip ?_
                                      refine Z.nthen ?_
                                      exact Z.meet () (by refine ⟨?_, ?_, ?_, ?_, ?_, ?_, ?_, ?_, trivial⟩ <;> first | rfl | (exact congrArg (fun z ↦ some (([] : List (Nat × Bool)), Value.bool z)) (by simp [hc18]))) hs
                                      )
                              · clear hs
                                rintro _ w18 hs
                                refine Z.only [0, 4, 5, 6, 7, 8, 9, 10] rfl ?_
                                refine Z.seq ?_
                                refine Z.seq ?_
                                refine Z.region ?_
                                refine Z.l rfl rfl (by rfl) (Z.keepS hs) (Z.Yd.fieldA (m := 0) rfl (by kernel_rfl)) ?_
                                refine Z.l rfl rfl (by rfl) (Z.keepS hs) (by first | exact Z.Yd.load rfl Try.isAgg3 (fun _ => Z.cellB (by first | ((repeat (first | exact List.mem_cons_self | refine List.mem_cons_of_mem _ ?_ | refine List.mem_append_right _ ?_)); done) | fail) rfl) | exact Z.Yd.load rfl Try.isAgg3 (fun _ => Z.cellO (by assumption) (by simp) (by assumption)) | fail "load 20.1") ?_
                                refine Z.le rfl trivial ?_
                                refine Z.ZO.call rfl rfl (by rfl) rfl rfl Try.call48 rfl (mr_sdu _ _) ?_
                                rintro v20_2 w20_2 ⟨rfl, hy⟩
                                replace hs := hs.call hy
                                clear hy
                                try simp only [List.cons_append, List.nil_append, List.append_nil] at hs
                                refine Z.lb 3 rfl ?_
                                refine Z.lnil ?_
                                refine Z.only [0, 4, 5, 6, 7, 8, 9, 10, 99] rfl ?_
                                refine Z.nthen ?_
                                refine Z.cutt (ι := Nat × Int) [0, 4, 6, 7, 8, 9, 10] rfl (fun y => [(5, [], .int .i64 (y.1 : Int))]) (fun y wr => ((sduB x ∧ b / 32 % 2 = 1 → lnE l (p + 1) = 0 ∧ y.1 = lnP l (p + 1) ∧ y.2 = lnV l (p + 1)) ∧ (¬ (sduB x ∧ b / 32 % 2 = 1) → y.1 = p + 1 ∧ y.2 = -1)) ∧ SX.St w [] wr [SX.Ent.blk g10 96 #[.int .i64 x, .int .i64 y.2], SX.Ent.row (.slice Av acc.length cv) 96 2 acc.length (acc.flatMap encH)]) ?_ ?_
                                · skip
                                  refine Z.cond rfl (fun hc20 => ?_) (fun hc20 => ?_)
                                  · first
                                      | (exfalso; simp at hc20 <;> omega)
                                      | (
                                        (try simp at hc20)
                                        rw [if_pos hc20.2, if_pos hc20.1] at hG
                                        refine Z.seq ?_
                                        refine Z.seq ?_
                                        refine Z.region ?_
                                        refine Z.lb 2 rfl ?_
                                        refine Z.l rfl rfl (by rfl) (Z.keepS hs) (Z.Yd.lenS rfl Try.underlying26) ?_
                                        refine Z.lb 4 rfl ?_
                                        refine Z.l rfl rfl (by rfl) (Z.keepS hs) (Z.Yd.elem rfl rfl Try.underlying26 Try.sizeOf5 (fun hG => ⟨(by first | omega | (have hG' := Z.gh rfl hG; simp at hG'; omega)), (by first | omega | (have hG' := Z.gh rfl hG; simp at hG'; omega))⟩)) ?_
                                        refine Z.split (s := 104) rfl (fun hsp104 => ?_) (fun hsp104 => ?_)
                                        · first
                                            | (exfalso; simp at hsp104 <;> omega)
                                            | (
                                              refine Z.yes (s := 104) (b := true) rfl hsp104 rfl ?_
                                              (try simp at hsp104)
                                              refine Z.ls rfl rfl rfl (by rfl) ?_
                                              refine Z.ls rfl rfl rfl (by rfl) ?_
                                              refine Z.ls rfl rfl rfl (by rfl) ?_
                                              refine Z.lsU rfl rfl rfl (by rfl) ?_
                                              refine Z.lsU rfl rfl rfl (by rfl) ?_
                                              refine Z.lsU rfl rfl rfl (by rfl) ?_
                                              refine Z.lsU rfl rfl rfl (by rfl) ?_
                                              refine Z.lsU rfl rfl rfl (by rfl) ?_
                                              refine Z.ls rfl rfl rfl (by rfl) ?_
                                              refine Z.l rfl rfl (by rfl) (Z.keepS hs) (Z.Yd.pickT rfl rfl) ?_
                                              refine Z.lnil ?_
                                              refine Z.only [0, 4, 5, 6, 7, 8, 9, 10, 117] rfl ?_
                                              refine Z.nthen ?_
                                              refine Z.cond rfl (fun hc21 => ?_) (fun hc21 => ?_)
                                              · first
                                                  | (exfalso; simp at hc21 <;> omega)
                                                  | (
                                                    (try simp at hc21)
                                                    refine Z.seq ?_
                                                    refine Z.region ?_
                                                    refine Z.lb 2 rfl ?_
                                                    refine Z.lnil ?_
                                                    refine Z.only [2, 3] rfl ?_
                                                    refine Z.nthen ?_
                                                    refine Z.ret ?_
                                                    repeat (first | refine Z.rthen ?_ | refine Z.rblock ?_ | refine Z.rscope ?_)
                                                    -- ret#3
                                                    refine Z.out2 (by exact ⟨rfl, rfl, trivial⟩) ?_
                                                    first
                                                    | exact ⟨_, rfl, ps, _, rfl, rfl, hB, hs.sel [0] (by decide)⟩
                                                    | exact ⟨_, rfl, ParD.fail (hs.sub (List.nil_sublist _))⟩
                                                    | exact retL (lnE_a hsp104) (by decide) hG hR (hs.sub (List.nil_sublist _))
                                                    | exact retL (lnE_b hp1 hb2e hc21.1 hc21.2) (by decide) hG hR (hs.sub (List.nil_sublist _))
                                                    | exact retL (lnE_c hp2 hb2e hbd2.2 hc25 hb3e hc28) (by decide) hG hR (hs.sub (List.nil_sublist _))
                                                    | (exfalso; omega)
                                                    | exact retL (lnE_d hp1 hb2e hc30) (by decide) hG hR (hs.sub (List.nil_sublist _))
                                                    | trivial
                                                    )
                                              · first
                                                  | (exfalso; simp at hc21 <;> omega)
                                                  | (
                                                    (try simp at hc21)
                                                    refine Z.skip ?_
                                                    refine Z.nthen ?_
                                                    refine Z.seq ?_
                                                    refine Z.region ?_
                                                    exact absurd hc21 (by simp)
                                                    )
                                              )
                                        · first
                                            | (exfalso; simp at hsp104 <;> omega)
                                            | (
                                              refine Z.yes (s := 104) (b := false) rfl hsp104 rfl ?_
                                              (try simp at hsp104)
                                              have hp1 : p + 1 < l.length := by omega
                                              have hbd2 := byB_bd hb hp1
                                              obtain ⟨b2, hb2e⟩ : ∃ b2, byB l (p + 1) = b2 := ⟨_, rfl⟩
                                              rw [hb2e] at hbd2
                                              have hcl2 : ∀ L W, SX.Keep w [] L W → W.cell? ⟨ba, oa + ((p : Int) + 1).toNat * 1, none⟩ = some (.int .u8 b2) := fun L W hW => by rw [← hb2e, ← byB_at]; exact Z.cellS (i := ((p + 1 : Nat) : Int)) hx2 rfl (by omega) (by omega) W hW
                                              refine Z.l rfl rfl (by rfl) (Z.keepS hs) (Z.Yd.load rfl Try.isAgg5 (fun _ => hcl2 _)) ?_
                                              refine Z.lb 3 rfl ?_
                                              refine Z.l rfl rfl (by rfl) (Z.keepS hs) (Z.Yd.add rfl rfl (fun hG => Z.wi64 (by first | omega | (have hG' := Z.gh rfl hG; simp at hG'; omega)))) ?_
                                              refine Z.lb 1 rfl ?_
                                              refine Z.l rfl rfl (by rfl) (Z.keepS hs) (Z.Yd.lenS rfl Try.underlying26) ?_
                                              refine Z.lb 2 rfl ?_
                                              refine Z.yes (s := 104) (b := false) rfl rfl rfl ?_
                                              refine Z.l rfl rfl (by rfl) (Z.keepS hs) (Z.Yd.pickF rfl rfl) ?_
                                              refine Z.lnil ?_
                                              refine Z.only [0, 4, 5, 6, 7, 8, 9, 10, 117] rfl ?_
                                              refine Z.nthen ?_
                                              refine Z.cond rfl (fun hc21 => ?_) (fun hc21 => ?_)
                                              · first
                                                  | (exfalso; simp at hc21 <;> omega)
                                                  | (
                                                    (try simp at hc21)
                                                    refine Z.seq ?_
                                                    refine Z.region ?_
                                                    refine Z.lb 2 rfl ?_
                                                    refine Z.lnil ?_
                                                    refine Z.only [2, 3] rfl ?_
                                                    refine Z.nthen ?_
                                                    refine Z.ret ?_
                                                    repeat (first | refine Z.rthen ?_ | refine Z.rblock ?_ | refine Z.rscope ?_)
                                                    -- ret#4
                                                    refine Z.out2 (by exact ⟨rfl, rfl, trivial⟩) ?_
                                                    first
                                                    | exact ⟨_, rfl, ps, _, rfl, rfl, hB, hs.sel [0] (by decide)⟩
                                                    | exact ⟨_, rfl, ParD.fail (hs.sub (List.nil_sublist _))⟩
                                                    | exact retL (lnE_a hsp104) (by decide) hG hR (hs.sub (List.nil_sublist _))
                                                    | exact retL (lnE_b hp1 hb2e hc21.1 hc21.2) (by decide) hG hR (hs.sub (List.nil_sublist _))
                                                    | exact retL (lnE_c hp2 hb2e hbd2.2 hc25 hb3e hc28) (by decide) hG hR (hs.sub (List.nil_sublist _))
                                                    | (exfalso; omega)
                                                    | exact retL (lnE_d hp1 hb2e hc30) (by decide) hG hR (hs.sub (List.nil_sublist _))
                                                    | trivial
                                                    )
                                              · first
                                                  | (exfalso; simp at hc21 <;> omega)
                                                  | (
                                                    (try simp at hc21)
                                                    refine Z.skip ?_
                                                    refine Z.nthen ?_
                                                    refine Z.seq ?_
                                                    refine Z.region ?_
                                                    refine Z.l rfl rfl (by rfl) (Z.keepS hs) (Z.Yd.pure rfl) ?_
                                                    refine Z.lb 1 rfl ?_
                                                    refine Z.l rfl rfl (by rfl) (Z.keepS hs) (Z.Yd.elem rfl rfl Try.underlying26 Try.sizeOf5 (fun hG => ⟨(by first | omega | (have hG' := Z.gh rfl hG; simp at hG'; omega)), (by first | omega | (have hG' := Z.gh rfl hG; simp at hG'; omega))⟩)) ?_
                                                    refine Z.l rfl rfl (by rfl) (Z.keepS hs) (Z.Yd.load rfl Try.isAgg5 (fun _ => hcl2 _)) ?_
                                                    refine Z.l rfl rfl (by rfl) (Z.keepS hs) (Z.Yd.convI rfl ⟨_, Try.underlying5⟩ Try.underlying3 (fun hG => Z.wi64 (by first | omega | (have hG' := Z.gh rfl hG; simp at hG'; omega)))) ?_
                                                    refine Z.l rfl rfl (by rfl) (Z.keepS hs) (Z.Yd.fieldA (m := 1) rfl (by kernel_rfl)) ?_
                                                    refine Z.le rfl trivial ?_
                                                    first | refine Z.ZO.store rfl rfl hs Try.sizeOf3 rfl rfl rfl (by first | exact SX.at0 | exact SX.at1 | exact SX.at2 | exact SX.at3 | exact SX.at4 | exact SX.at5 | exact Z.at6 | exact Z.at7 | exact Z.at8 | exact Z.at9 | exact Z.at10 | exact Z.at11 | exact Z.at12) (by first | (simp; done) | (simp; omega)) ?_ | refine Z.ZO.storeR rfl rfl hs Try.sizeOf3 rfl rfl rfl (by first | exact SX.at0 | exact SX.at1 | exact SX.at2 | exact SX.at3 | exact SX.at4 | exact SX.at5 | exact Z.at6 | exact Z.at7 | exact Z.at8 | exact Z.at9 | exact Z.at10 | exact Z.at11 | exact Z.at12) (by first | omega | (simp [ints_length]; done) | (simp [ints_length]; omega)) ?_
                                                    clear hs; intro ws hs
                                                    simp only [Nat.zero_add, Nat.add_zero, Nat.reduceAdd, Int.reduceToNat, Nat.reduceMul, List.set_cons_zero, List.set_cons_succ, List.setIfInBounds_toArray] at hs
                                                    refine Z.lnil ?_
                                                    refine Z.only [0, 4, 5, 6, 7, 8, 9, 10] rfl ?_
                                                    refine Z.nthen ?_
                                                    refine Z.seq ?_
                                                    refine Z.region ?_
                                                    refine Z.lb 1 rfl ?_
                                                    refine Z.l rfl rfl (by rfl) (Z.keepS hs) (Z.Yd.add rfl rfl (fun hG => Z.wi64 (by first | omega | (have hG' := Z.gh rfl hG; simp at hG'; omega)))) ?_
                                                    refine Z.lb 1 rfl ?_
                                                    refine Z.lnil ?_
                                                    refine Z.only [0, 4, 5, 6, 7, 8, 9, 10] rfl ?_
                                                    refine Z.nthen ?_
                                                    refine Z.seq ?_
                                                    refine Z.seq ?_
                                                    refine Z.region ?_
                                                    refine Z.l rfl rfl (by rfl) (Z.keepS hs) (Z.Yd.fieldA (m := 1) rfl (by kernel_rfl)) ?_
                                                    refine Z.l rfl rfl (by rfl) (Z.keepS hs) (by first | exact Z.Yd.load rfl Try.isAgg3 (fun _ => Z.cellB (by first | ((repeat (first | exact List.mem_cons_self | refine List.mem_cons_of_mem _ ?_ | refine List.mem_append_right _ ?_)); done) | fail) rfl) | exact Z.Yd.load rfl Try.isAgg3 (fun _ => Z.cellO (by assumption) (by simp) (by assumption)) | fail "load 25.1") ?_
                                                    refine Z.lb 1 rfl ?_
                                                    refine Z.lnil ?_
                                                    refine Z.only [0, 4, 5, 6, 7, 8, 9, 10, 128] rfl ?_
                                                    refine Z.nthen ?_
                                                    refine Z.cond rfl (fun hc25 => ?_) (fun hc25 => ?_)
                                                    · first
                                                        | (exfalso; simp at hc25 <;> omega)
                                                        | (
                                                          (try simp at hc25)
                                                          have hp2 : p + 1 + 1 < l.length := by omega
                                                          have hbd3 := byB_bd hb hp2
                                                          obtain ⟨b3, hb3e⟩ : ∃ b3, byB l (p + 1 + 1) = b3 := ⟨_, rfl⟩
                                                          rw [hb3e] at hbd3
                                                          have hcl3 : ∀ L W, SX.Keep w [] L W → W.cell? ⟨ba, oa + ((p : Int) + 1 + 1).toNat * 1, none⟩ = some (.int .u8 b3) := fun L W hW => by rw [← hb3e, ← byB_at]; exact Z.cellS (i := ((p + 1 + 1 : Nat) : Int)) hx2 rfl (by omega) (by omega) W hW
                                                          refine Z.seq ?_
                                                          refine Z.drawL [SX.Ent.blk g10 96 #[.int .i64 x, .int .i64 b2]] (fun j => j != 11) mixed hs ?_
                                                          clear hs; intro wd26 hs
                                                          refine Z.t 0 rfl rfl rfl (by rfl) (by kernel_rfl) ⟨_, hs, by first | (simp; done) | exact fun e he => List.mem_append_right _ he⟩ (Z.Yd.fieldA (m := 1) rfl (by kernel_rfl)) ?_
                                                          refine Z.t 1 rfl rfl rfl (by rfl) (by kernel_rfl) ⟨_, hs, by first | (simp; done) | exact fun e he => List.mem_append_right _ he⟩ (by first | exact Z.Yd.load rfl Try.isAgg3 (fun _ => Z.cellB (by first | ((repeat (first | exact List.mem_cons_self | refine List.mem_cons_of_mem _ ?_ | refine List.mem_append_right _ ?_)); done) | fail) rfl) | exact Z.Yd.load rfl Try.isAgg3 (fun _ => Z.cellO (by assumption) (by simp) (by assumption)) | fail "load 26.1") ?_
                                                          refine Z.t 2 rfl rfl rfl (by rfl) (by kernel_rfl) ⟨_, hs, by first | (simp; done) | exact fun e he => List.mem_append_right _ he⟩ (Z.Yd.sub rfl rfl (fun hG => Z.wi64 (by first | omega | (have hG' := Z.gh rfl hG; simp at hG'; omega)))) ?_
                                                          refine Z.t 3 rfl rfl rfl (by rfl) (by kernel_rfl) ⟨_, hs, by first | (simp; done) | exact fun e he => List.mem_append_right _ he⟩ (Z.Yd.mul rfl rfl (fun hG => Z.wi64 (by first | omega | (have hG' := Z.gh rfl hG; simp at hG'; omega)))) ?_
                                                          refine Z.tb [4, 5] (by kernel_rfl) rfl ⟨_, hs, by first | (simp; done) | exact fun e he => List.mem_append_right _ he⟩ rfl ?_
                                                          refine Z.t 6 rfl rfl rfl (by rfl) (by kernel_rfl) ⟨_, hs, by first | (simp; done) | exact fun e he => List.mem_append_right _ he⟩ (Z.Yd.elem rfl rfl Try.underlying26 Try.sizeOf5 (fun hG => ⟨(by first | omega | (have hG' := Z.gh rfl hG; simp at hG'; omega)), (by first | omega | (have hG' := Z.gh rfl hG; simp at hG'; omega))⟩)) ?_
                                                          refine Z.t 7 rfl rfl rfl (by rfl) (by kernel_rfl) ⟨_, hs, by first | (simp; done) | exact fun e he => List.mem_append_right _ he⟩ (Z.Yd.load rfl Try.isAgg5 (fun _ => hcl3 _)) ?_
                                                          refine Z.t 8 rfl rfl rfl (by rfl) (by kernel_rfl) ⟨_, hs, by first | (simp; done) | exact fun e he => List.mem_append_right _ he⟩ (Z.Yd.convI rfl ⟨_, Try.underlying5⟩ Try.underlying3 (fun hG => Z.wi64 (by first | omega | (have hG' := Z.gh rfl hG; simp at hG'; omega)))) ?_
                                                          refine Z.t 9 rfl rfl rfl (by rfl) (by kernel_rfl) ⟨_, hs, by first | (simp; done) | exact fun e he => List.mem_append_right _ he⟩ (Z.Yd.add rfl rfl (fun hG => Z.wi64 (by first | omega | (have hG' := Z.gh rfl hG; simp at hG'; omega)))) ?_
                                                          refine Z.t 10 rfl rfl rfl (by rfl) (by kernel_rfl) ⟨_, hs, by first | (simp; done) | exact fun e he => List.mem_append_right _ he⟩ (Z.Yd.fieldA (m := 1) rfl (by kernel_rfl)) ?_
                                                          refine Z.tn 11 rfl rfl (by kernel_rfl) rfl trivial ?_
                                                          first | refine Z.ZO.store rfl rfl hs Try.sizeOf3 rfl rfl rfl (by first | exact SX.at0 | exact SX.at1 | exact SX.at2 | exact SX.at3 | exact SX.at4 | exact SX.at5 | exact Z.at6 | exact Z.at7 | exact Z.at8 | exact Z.at9 | exact Z.at10 | exact Z.at11 | exact Z.at12) (by first | (simp; done) | (simp; omega)) ?_ | refine Z.ZO.storeR rfl rfl hs Try.sizeOf3 rfl rfl rfl (by first | exact SX.at0 | exact SX.at1 | exact SX.at2 | exact SX.at3 | exact SX.at4 | exact SX.at5 | exact Z.at6 | exact Z.at7 | exact Z.at8 | exact Z.at9 | exact Z.at10 | exact Z.at11 | exact Z.at12) (by first | omega | (simp [ints_length]; done) | (simp [ints_length]; omega)) ?_
                                                          clear hs; intro ws hs
                                                          simp only [Nat.zero_add, Nat.add_zero, Nat.reduceAdd, Int.reduceToNat, Nat.reduceMul, List.set_cons_zero, List.set_cons_succ, List.setIfInBounds_toArray] at hs
                                                          refine Z.tk (Dn := fun j => j != 11) (i := 11) (fun h => absurd h (by decide)) ?_
                                                          refine Z.td (by rfl) (by kernel_rfl) ?_
                                                          refine Z.only [0, 4, 5, 6, 7, 8, 9, 10] rfl ?_
                                                          refine Z.nthen ?_
                                                          refine Z.seq ?_
                                                          refine Z.region ?_
                                                          refine Z.lb 1 rfl ?_
                                                          refine Z.l rfl rfl (by rfl) (Z.keepS hs) (Z.Yd.add rfl rfl (fun hG => Z.wi64 (by first | omega | (have hG' := Z.gh rfl hG; simp at hG'; omega)))) ?_
                                                          refine Z.lb 1 rfl ?_
                                                          refine Z.lnil ?_
                                                          refine Z.only [0, 4, 5, 6, 7, 8, 9, 10] rfl ?_
                                                          refine Z.nthen ?_
                                                          refine Z.seq ?_
                                                          refine Z.region ?_
                                                          refine Z.l rfl rfl (by rfl) (Z.keepS hs) (Z.Yd.fieldA (m := 1) rfl (by kernel_rfl)) ?_
                                                          refine Z.l rfl rfl (by rfl) (Z.keepS hs) (by first | exact Z.Yd.load rfl Try.isAgg3 (fun _ => Z.cellB (by first | ((repeat (first | exact List.mem_cons_self | refine List.mem_cons_of_mem _ ?_ | refine List.mem_append_right _ ?_)); done) | fail) rfl) | exact Z.Yd.load rfl Try.isAgg3 (fun _ => Z.cellO (by assumption) (by simp) (by assumption)) | fail "load 28.1") ?_
                                                          refine Z.lb 1 rfl ?_
                                                          refine Z.lnil ?_
                                                          refine Z.only [0, 4, 5, 6, 7, 8, 9, 10, 144] rfl ?_
                                                          refine Z.nthen ?_
                                                          refine Z.cond rfl (fun hc28 => ?_) (fun hc28 => ?_)
                                                          · first
                                                              | (exfalso; simp at hc28 <;> omega)
                                                              | (
                                                                (try simp at hc28)
                                                                refine Z.seq ?_
                                                                refine Z.region ?_
                                                                refine Z.lb 2 rfl ?_
                                                                refine Z.lnil ?_
                                                                refine Z.only [2, 3] rfl ?_
                                                                refine Z.nthen ?_
                                                                refine Z.ret ?_
                                                                repeat (first | refine Z.rthen ?_ | refine Z.rblock ?_ | refine Z.rscope ?_)
                                                                -- ret#5
                                                                refine Z.out2 (by exact ⟨rfl, rfl, trivial⟩) ?_
                                                                first
                                                                | exact ⟨_, rfl, ps, _, rfl, rfl, hB, hs.sel [0] (by decide)⟩
                                                                | exact ⟨_, rfl, ParD.fail (hs.sub (List.nil_sublist _))⟩
                                                                | exact retL (lnE_a hsp104) (by decide) hG hR (hs.sub (List.nil_sublist _))
                                                                | exact retL (lnE_b hp1 hb2e hc21.1 hc21.2) (by decide) hG hR (hs.sub (List.nil_sublist _))
                                                                | exact retL (lnE_c hp2 hb2e hbd2.2 hc25 hb3e hc28) (by decide) hG hR (hs.sub (List.nil_sublist _))
                                                                | (exfalso; omega)
                                                                | exact retL (lnE_d hp1 hb2e hc30) (by decide) hG hR (hs.sub (List.nil_sublist _))
                                                                | trivial
                                                                )
                                                          · first
                                                              | (exfalso; simp at hc28 <;> omega)
                                                              | (
                                                                (try simp at hc28)
                                                                have hM := lnE_f hp2 hb2e hbd2.2 hc25 hb3e (by omega)
                                                                refine Z.skip ?_
                                                                refine Z.nthen ?_
                                                                refine Z.seq ?_
                                                                refine Z.region ?_
                                                                refine Z.l rfl rfl (by rfl) (Z.keepS hs) (Z.Yd.fieldA (m := 1) rfl (by kernel_rfl)) ?_
                                                                refine Z.l rfl rfl (by rfl) (Z.keepS hs) (by first | exact Z.Yd.load rfl Try.isAgg3 (fun _ => Z.cellB (by first | ((repeat (first | exact List.mem_cons_self | refine List.mem_cons_of_mem _ ?_ | refine List.mem_append_right _ ?_)); done) | fail) rfl) | exact Z.Yd.load rfl Try.isAgg3 (fun _ => Z.cellO (by assumption) (by simp) (by assumption)) | fail "load 30.1") ?_
                                                                refine Z.lb 1 rfl ?_
                                                                refine Z.lnil ?_
                                                                refine Z.only [0, 4, 5, 6, 7, 8, 9, 10, 147] rfl ?_
                                                                refine Z.nthen ?_
                                                                refine Z.cond rfl (fun hc30 => ?_) (fun hc30 => ?_)
                                                                · first
                                                                    | (exfalso; simp at hc30 <;> omega)
                                                                    | (
                                                                      (try simp at hc30)
                                                                      refine Z.seq ?_
                                                                      refine Z.region ?_
                                                                      refine Z.lb 2 rfl ?_
                                                                      refine Z.lnil ?_
                                                                      refine Z.only [2, 3] rfl ?_
                                                                      refine Z.nthen ?_
                                                                      refine Z.ret ?_
                                                                      repeat (first | refine Z.rthen ?_ | refine Z.rblock ?_ | refine Z.rscope ?_)
                                                                      -- ret#6
                                                                      refine Z.out2 (by exact ⟨rfl, rfl, trivial⟩) ?_
                                                                      first
                                                                      | exact ⟨_, rfl, ps, _, rfl, rfl, hB, hs.sel [0] (by decide)⟩
                                                                      | exact ⟨_, rfl, ParD.fail (hs.sub (List.nil_sublist _))⟩
                                                                      | exact retL (lnE_a hsp104) (by decide) hG hR (hs.sub (List.nil_sublist _))
                                                                      | exact retL (lnE_b hp1 hb2e hc21.1 hc21.2) (by decide) hG hR (hs.sub (List.nil_sublist _))
                                                                      | exact retL (lnE_c hp2 hb2e hbd2.2 hc25 hb3e hc28) (by decide) hG hR (hs.sub (List.nil_sublist _))
                                                                      | (exfalso; omega)
                                                                      | exact retL (lnE_d hp1 hb2e hc30) (by decide) hG hR (hs.sub (List.nil_sublist _))
                                                                      | trivial
                                                                      )
                                                                · first
                                                                    | (exfalso; simp at hc30 <;> omega)
                                                                    | (
                                                                      (try simp at hc30)
                                                                      refine Z.skip ?_
                                                                      refine Z.nthen ?_
                                                                      first
                                                                      | exact Z.meet (p + 1 + 2, (b2 - 128) * 256 + b3) (by refine ⟨?_, ?_, ?_, ?_, ?_, ?_, ?_, ?_, trivial⟩ <;> (first | rfl | (refine Z.lookv rfl ?_; simp; done) | (refine Z.lookv rfl ?_; simp; omega))) ⟨⟨fun _ => ⟨hM.1, hM.2.1.symm, hM.2.2.symm⟩, fun h => absurd hc20 h⟩, hs⟩
                                                                      | exact Z.meet (p + 1 + 1, b2) (by refine ⟨?_, ?_, ?_, ?_, ?_, ?_, ?_, ?_, trivial⟩ <;> (first | rfl | (refine Z.lookv rfl ?_; simp; done) | (refine Z.lookv rfl ?_; simp; omega))) ⟨⟨fun _ => ⟨(hM' hc30).1, (hM' hc30).2.1.symm, (hM' hc30).2.2.symm⟩, fun h => absurd hc20 h⟩, hs⟩
                                                                      | exact Z.meet (p + 1, -1) (by refine ⟨?_, ?_, ?_, ?_, ?_, ?_, ?_, ?_, trivial⟩ <;> (first | rfl | (refine Z.lookv rfl ?_; simp; done) | (refine Z.lookv rfl ?_; simp; omega))) ⟨⟨fun h => absurd h (by simpa using hc20), fun _ => ⟨rfl, rfl⟩⟩, hs⟩
                                                                      )
                                                                )
                                                          )
                                                    · first
                                                        | (exfalso; simp at hc25 <;> omega)
                                                        | (
                                                          (try simp at hc25)
                                                          have hM' : b2 ≠ 0 → _ := fun h => lnE_e hp1 hb2e h (by omega)
                                                          refine Z.skip ?_
                                                          refine Z.nthen ?_
                                                          refine Z.seq ?_
                                                          refine Z.region ?_
                                                          refine Z.l rfl rfl (by rfl) (Z.keepS hs) (Z.Yd.fieldA (m := 1) rfl (by kernel_rfl)) ?_
                                                          refine Z.l rfl rfl (by rfl) (Z.keepS hs) (by first | exact Z.Yd.load rfl Try.isAgg3 (fun _ => Z.cellB (by first | ((repeat (first | exact List.mem_cons_self | refine List.mem_cons_of_mem _ ?_ | refine List.mem_append_right _ ?_)); done) | fail) rfl) | exact Z.Yd.load rfl Try.isAgg3 (fun _ => Z.cellO (by assumption) (by simp) (by assumption)) | fail "load 30.1") ?_
                                                          refine Z.lb 1 rfl ?_
                                                          refine Z.lnil ?_
                                                          refine Z.only [0, 4, 5, 6, 7, 8, 9, 10, 147] rfl ?_
                                                          refine Z.nthen ?_
                                                          refine Z.cond rfl (fun hc30 => ?_) (fun hc30 => ?_)
                                                          · first
                                                              | (exfalso; simp at hc30 <;> omega)
                                                              | (
                                                                (try simp at hc30)
                                                                refine Z.seq ?_
                                                                refine Z.region ?_
                                                                refine Z.lb 2 rfl ?_
                                                                refine Z.lnil ?_
                                                                refine Z.only [2, 3] rfl ?_
                                                                refine Z.nthen ?_
                                                                refine Z.ret ?_
                                                                repeat (first | refine Z.rthen ?_ | refine Z.rblock ?_ | refine Z.rscope ?_)
                                                                -- ret#7
                                                                refine Z.out2 (by exact ⟨rfl, rfl, trivial⟩) ?_
                                                                first
                                                                | exact ⟨_, rfl, ps, _, rfl, rfl, hB, hs.sel [0] (by decide)⟩
                                                                | exact ⟨_, rfl, ParD.fail (hs.sub (List.nil_sublist _))⟩
                                                                | exact retL (lnE_a hsp104) (by decide) hG hR (hs.sub (List.nil_sublist _))
                                                                | exact retL (lnE_b hp1 hb2e hc21.1 hc21.2) (by decide) hG hR (hs.sub (List.nil_sublist _))
                                                                | exact retL (lnE_c hp2 hb2e hbd2.2 hc25 hb3e hc28) (by decide) hG hR (hs.sub (List.nil_sublist _))
                                                                | (exfalso; omega)
                                                                | exact retL (lnE_d hp1 hb2e hc30) (by decide) hG hR (hs.sub (List.nil_sublist _))
                                                                | trivial
                                                                )
                                                          · first
                                                              | (exfalso; simp at hc30 <;> omega)
                                                              | (
                                                                (try simp at hc30)
                                                                refine Z.skip ?_
                                                                refine Z.nthen ?_
                                                                first
                                                                | exact Z.meet (p + 1 + 2, (b2 - 128) * 256 + b3) (by refine ⟨?_, ?_, ?_, ?_, ?_, ?_, ?_, ?_, trivial⟩ <;> (first | rfl | (refine Z.lookv rfl ?_; simp; done) | (refine Z.lookv rfl ?_; simp; omega))) ⟨⟨fun _ => ⟨hM.1, hM.2.1.symm, hM.2.2.symm⟩, fun h => absurd hc20 h⟩, hs⟩
                                                                | exact Z.meet (p + 1 + 1, b2) (by refine ⟨?_, ?_, ?_, ?_, ?_, ?_, ?_, ?_, trivial⟩ <;> (first | rfl | (refine Z.lookv rfl ?_; simp; done) | (refine Z.lookv rfl ?_; simp; omega))) ⟨⟨fun _ => ⟨(hM' hc30).1, (hM' hc30).2.1.symm, (hM' hc30).2.2.symm⟩, fun h => absurd hc20 h⟩, hs⟩
                                                                | exact Z.meet (p + 1, -1) (by refine ⟨?_, ?_, ?_, ?_, ?_, ?_, ?_, ?_, trivial⟩ <;> (first | rfl | (refine Z.lookv rfl ?_; simp; done) | (refine Z.lookv rfl ?_; simp; omega))) ⟨⟨fun h => absurd h (by simpa using hc20), fun _ => ⟨rfl, rfl⟩⟩, hs⟩
                                                                )
                                                          )
                                                    )
                                              )
                                        )
                                  · first
                                      | (exfalso; simp at hc20 <;> omega)
                                      | (
                                        (try simp at hc20)
                                        refine Z.skip ?_
                                        refine Z.nthen ?_
                                        first
                                        | exact Z.meet (p + 1 + 2, (b2 - 128) * 256 + b3) (by refine ⟨?_, ?_, ?_, ?_, ?_, ?_, ?_, ?_, trivial⟩ <;> (first | rfl | (refine Z.lookv rfl ?_; simp; done) | (refine Z.lookv rfl ?_; simp; omega))) ⟨⟨fun _ => ⟨hM.1, hM.2.1.symm, hM.2.2.symm⟩, fun h => absurd hc20 h⟩, hs⟩
                                        | exact Z.meet (p + 1 + 1, b2) (by refine ⟨?_, ?_, ?_, ?_, ?_, ?_, ?_, ?_, trivial⟩ <;> (first | rfl | (refine Z.lookv rfl ?_; simp; done) | (refine Z.lookv rfl ?_; simp; omega))) ⟨⟨fun _ => ⟨(hM' hc30).1, (hM' hc30).2.1.symm, (hM' hc30).2.2.symm⟩, fun h => absurd hc20 h⟩, hs⟩
                                        | exact Z.meet (p + 1, -1) (by refine ⟨?_, ?_, ?_, ?_, ?_, ?_, ?_, ?_, trivial⟩ <;> (first | rfl | (refine Z.lookv rfl ?_; simp; done) | (refine Z.lookv rfl ?_; simp; omega))) ⟨⟨fun h => absurd h (by simpa using hc20), fun _ => ⟨rfl, rfl⟩⟩, hs⟩
                                        )
                                · clear hs
                                  rintro ⟨p', n'⟩ w20 ⟨⟨hy1, hy2⟩, hs⟩
                                  refine Z.only [0, 4, 5, 6, 7, 8, 9, 10] rfl ?_
                                  (try dsimp only at hs)
                                  refine Z.region ?_
                                  refine Z.lb 1 rfl ?_
                                  refine Z.l rfl rfl (by rfl) (Z.keepS hs) (by first | exact Z.Yd.loadA _ rfl Try.isAgg96 (fun _ => Z.cellsB (by first | ((repeat (first | exact List.mem_cons_self | refine List.mem_cons_of_mem _ ?_ | refine List.mem_append_right _ ?_)); done) | fail)) (by exact Try.sizeOf96) | fail "load 32.1") ?_
                                  refine Z.le rfl trivial ?_
                                  refine Z.ZO.litL (T' := 96) [(0, 2)] [.int .i64 0, .int .i64 0] rfl rfl (by rfl) rfl rfl (by intro W; kernel_rfl) hs ?_
                                  clear hs; intro g150 w150 hs
                                  refine Z.le rfl trivial ?_
                                  refine Z.ZO.append (i0 := Try.t96) (size := 2) (bytes := 16) rfl rfl (by rfl) hs Try.underlying94 (by kernel_rfl) rfl rfl rfl rfl (by decide) rfl rfl (by first | exact SX.at0 | exact SX.at1 | exact SX.at2 | exact SX.at3 | exact SX.at4 | exact SX.at5 | exact Z.at6 | exact Z.at7 | exact Z.at8 | exact Z.at9 | exact Z.at10 | exact Z.at11 | exact Z.at12) (by first | exact SX.at0 | exact SX.at1 | exact SX.at2 | exact SX.at3 | exact SX.at4 | exact SX.at5 | exact Z.at6 | exact Z.at7 | exact Z.at8 | exact Z.at9 | exact Z.at10 | exact Z.at11 | exact Z.at12) (by first | rfl | simp) (by simp [Value.oneCell']) (by decide) (by unfold maxLen; omega) (by omega) ?_
                                  clear hs; intro g151 cap151 w151 hs
                                  simp only [List.set_cons_zero, List.set_cons_succ, List.eraseIdx_cons_zero, List.eraseIdx_cons_succ] at hs
                                  refine Z.lb 1 rfl ?_
                                  refine Z.lnil ?_
                                  refine Z.only [0, 4, 5, 6, 7, 8, 9] rfl ?_
                                  refine Z.nblock ?_
                                  refine Z.nthen ?_
                                  refine Z.region ?_
                                  refine Z.lb 1 rfl ?_
                                  refine Z.l rfl rfl (by rfl) (Z.keepS hs) (Z.Yd.add rfl rfl (fun hG => Z.wi64 (by first | omega | (have hG' := Z.gh rfl hG; simp at hG'; omega)))) ?_
                                  refine Z.lb 1 rfl ?_
                                  refine Z.lnil ?_
                                  refine Z.only [0, 4, 5, 6, 7, 8, 9] rfl ?_
                                  refine Z.nthen ?_
                                  have eL : ∀ n : Int, (acc ++ [(x, n)]).length = acc.length + 1 := fun n => by simp
                                  have eF : ∀ n : Int, acc.flatMap encH ++ [Value.int .i64 x, Value.int .i64 n] = (acc ++ [(x, n)]).flatMap encH := fun n => by simp [encH]
                                  have hst : ∀ n : Int, SX.St w [] _ [SX.Ent.row _ 96 2 (acc ++ [(x, n')]).length ((acc ++ [(x, n')]).flatMap encH)] := fun _ => by rw [eL, ← eF]; exact hs.tl
                                  by_cases hm : b / 32 % 2 = 1
                                  · rw [if_pos hm] at hG
                                    by_cases hsd : sduB x
                                    · obtain ⟨y1, y2, y3⟩ := hy1 ⟨hsd, hm⟩
                                      simp only at y2 y3
                                      subst y2 y3
                                      rw [if_pos hsd, if_neg (fun k => k y1)] at hG
                                      have hle := lnP_le y1
                                      exact Z.again (lnP l (p + 1), acc ++ [(x, lnV l (p + 1))], _, _, (b / 32 % 2 == 1), _, acc.length + 1) (by refine ⟨?_, ?_, ?_, ?_, ?_, ?_, ?_, trivial⟩ <;> (first | rfl | (refine Z.lookv rfl ?_; simp; done) | (refine Z.lookv rfl ?_; simp; omega))) ⟨⟨hle.2, by simp only [eL]; omega, by simp only [eL], fun _ => ⟨F, by simp only; omega, hG⟩, fun h => by simp [hm] at h⟩, hst 0⟩ (by simp only; omega)
                                    · obtain ⟨y2, y3⟩ := hy2 (fun h => hsd h.1)
                                      simp only at y2 y3
                                      subst y2 y3
                                      rw [if_neg hsd] at hG
                                      exact Z.again (p + 1, acc ++ [(x, -1)], _, _, (b / 32 % 2 == 1), _, acc.length + 1) (by refine ⟨?_, ?_, ?_, ?_, ?_, ?_, ?_, trivial⟩ <;> (first | rfl | (refine Z.lookv rfl ?_; simp; done) | (refine Z.lookv rfl ?_; simp; omega))) ⟨⟨by simp only; omega, by simp only [eL]; omega, by simp only [eL], fun _ => ⟨F, by simp only; omega, hG⟩, fun h => by simp [hm] at h⟩, hst 0⟩ (by simp only; omega)
                                  · rw [if_neg hm] at hG
                                    obtain ⟨y2, y3⟩ := hy2 (fun h => hm h.2)
                                    simp only at y2 y3
                                    subst y2 y3
                                    exact Z.again (p + 1, acc ++ [(x, -1)], _, _, (b / 32 % 2 == 1), _, acc.length + 1) (by refine ⟨?_, ?_, ?_, ?_, ?_, ?_, ?_, trivial⟩ <;> (first | rfl | (refine Z.lookv rfl ?_; simp; done) | (refine Z.lookv rfl ?_; simp; omega))) ⟨⟨by simp only; omega, by simp only [eL]; omega, by simp only [eL], fun h => by simp [hm] at h, fun _ => hG.symm⟩, hst 0⟩ (by simp only; omega)
                            )
                    )
              )
        · first
            | (exfalso; simp at hc7 <;> omega)
            | (
              (try simp at hc7)
              refine Z.exit ?_
              refine Z.xthen ?_
              refine Z.xthen ?_
              refine Z.xblock ?_
              refine Z.nthen ?_
              refine Z.seq ?_
              refine Z.region ?_
              have hno := hno (by simp_all)
              simp only [Prod.mk.injEq] at hno
              obtain ⟨rfl, rfl, rfl⟩ := hno
              rw [if_neg (by decide)] at hR
              obtain ⟨a0, z0, hH, hga, hgz⟩ := hgd rfl
              replace hs := hs.nil 47 2
              refine Z.l rfl rfl (by rfl) (Z.keepS hs) (Z.Yd.pure rfl) ?_
              refine Z.lnil ?_
              refine Z.only [0, 4, 5, 11] rfl ?_
              refine Z.nthen ?_
              refine Z.seq ?_
              refine Z.seq ?_
              refine Z.region ?_
              refine Z.lb 1 rfl ?_
              refine Z.lnil ?_
              refine Z.only [0, 4, 5, 11, 12] rfl ?_
              refine Z.nthen ?_
              refine Z.block ?_
              refine Z.loopk (ι := Nat × Nat × List MpV × Value) [0, 4] rfl (fun y => [(5, [], .int .i64 (y.2.1 : Int)), (11, [], y.2.2.2), (12, [], .int .i64 (y.1 : Int))]) (fun y wr => (y.1 ≤ H0.length ∧ y.2.1 ≤ l.length ∧ y.2.2.1.length ≤ y.1 ∧ (∀ q ∈ y.2.2.1, ∀ W, Sl W A (ints .u8 l) → Sl W q.B (ints .u8 q.l)) ∧ ptGo l (H0.drop y.1) y.2.1 (y.2.2.1.map MpV.plain) = R) ∧ SX.St w [] wr [SX.Ent.row y.2.2.2 47 2 y.2.2.1.length (y.2.2.1.flatMap MpV.cells), SX.Ent.row (.slice Av H0.length cv) 96 2 H0.length (H0.flatMap encH)]) (fun y => H0.length - y.1) (0, P0, [], .slice none 0 0) (by refine ⟨?_, ?_, ?_, trivial⟩ <;> (first | rfl | (refine Z.lookv rfl ?_; simp; done) | (refine Z.lookv rfl ?_; simp; omega))) ⟨⟨Nat.zero_le _, hp, Nat.zero_le _, by simp, hR⟩, hs⟩ ?_
              clear hs
              rintro ⟨i, q, ps, vo⟩ w35 ⟨⟨hi, hq, hpi, hB, hgo⟩, hs⟩
              refine Z.only [0, 4, 5, 11, 12] rfl ?_
              (try dsimp only at hs)
              dsimp only at hi hq hpi hB hgo hs
              obtain ⟨Ao, co, rfl, -, -, -⟩ := SX.row_slv hs (j := 0) rfl
              have hq0 : ((i, q, ps, Value.slice Ao ps.length co) : Nat × Nat × List MpV × Value).2.1 = q := rfl
              refine Z.seq ?_
              refine Z.seq ?_
              refine Z.region ?_
              refine Z.lb 2 rfl ?_
              refine Z.l rfl rfl (by rfl) (Z.keepS hs) (Z.Yd.lenS rfl Try.underlying94) ?_
              refine Z.lb 1 rfl ?_
              refine Z.lnil ?_
              refine Z.only [0, 4, 5, 11, 12, 155] rfl ?_
              refine Z.nthen ?_
              refine Z.cond rfl (fun hc35 => ?_) (fun hc35 => ?_)
              · first
                  | (exfalso; simp at hc35 <;> omega)
                  | (
                    (try simp at hc35)
                    obtain ⟨h, hh⟩ : ∃ h, H0[i]? = some h := ⟨_, List.getElem?_eq_getElem (by omega)⟩
                    rw [drop_at hh, ptGo] at hgo
                    obtain ⟨gh, ch', e9, -, -⟩ := row_form (j := 1) hs rfl (by omega)
                    cases e9
                    have hone : ∀ u ∈ encH h, u.oneCell' = true := by simp [encH, Value.oneCell']
                    refine Z.skip ?_
                    refine Z.nthen ?_
                    refine Z.seq ?_
                    refine Z.block ?_
                    refine Z.seq ?_
                    refine Z.region ?_
                    refine Z.lb 2 rfl ?_
                    refine Z.l rfl rfl (by rfl) (Z.keepS hs) (Z.Yd.elem rfl rfl Try.underlying94 Try.sizeOf96 (fun hG => ⟨(by first | omega | (have hG' := Z.gh rfl hG; simp at hG'; omega)), (by first | omega | (have hG' := Z.gh rfl hG; simp at hG'; omega))⟩)) ?_
                    refine Z.l rfl rfl (by rfl) (Z.keepS hs) (Z.Yd.loadA _ rfl Try.isAgg96 (fun _ => Z.cellsRf (by first | ((repeat (first | exact List.mem_cons_self | refine List.mem_cons_of_mem _ ?_ | refine List.mem_append_right _ ?_)); done) | fail) encH_len hh rfl) (by exact Try.sizeOf96)) ?_
                    refine Z.lb 2 rfl ?_
                    refine Z.l rfl rfl (by rfl) (Z.keepS hs) (Z.Yd.lenS rfl Try.underlying94) ?_
                    refine Z.l rfl rfl (by rfl) (Z.keepS hs) (Z.Yd.sub rfl rfl (fun hG => Z.wi64 (by first | omega | (have hG' := Z.gh rfl hG; simp at hG'; omega)))) ?_
                    refine Z.lb 1 rfl ?_
                    refine Z.le rfl trivial ?_
                    refine Z.ZO.alloc rfl rfl (by rfl) Try.zeroValue96 rfl hs ?_
                    clear hs; intro g13 w13 hs
                    refine Z.le rfl trivial ?_
                    first | refine Z.ZO.storeA rfl rfl hs rfl rfl (by kernel_rfl) (by first | (simp [Value.oneCell']; done) | (refine Z.all_one ?_; assumption)) (by first | exact SX.at0 | exact SX.at1 | exact SX.at2 | exact SX.at3 | exact SX.at4 | exact SX.at5 | exact Z.at6 | exact Z.at7 | exact Z.at8 | exact Z.at9 | exact Z.at10 | exact Z.at11 | exact Z.at12) (by rfl) ?_ | refine Z.ZO.storeP rfl rfl hs rfl rfl (by kernel_rfl) (by first | (simp [Value.oneCell']; done) | (refine Z.all_one ?_; assumption)) (by first | exact SX.at0 | exact SX.at1 | exact SX.at2 | exact SX.at3 | exact SX.at4 | exact SX.at5 | exact Z.at6 | exact Z.at7 | exact Z.at8 | exact Z.at9 | exact Z.at10 | exact Z.at11 | exact Z.at12) (by first | decide | (simp; done) | (simp; omega)) ?_ | refine Z.ZO.storePR rfl rfl hs rfl rfl (by kernel_rfl) (by first | (simp [Value.oneCell']; done) | (refine Z.all_one ?_; assumption)) (by first | exact SX.at0 | exact SX.at1 | exact SX.at2 | exact SX.at3 | exact SX.at4 | exact SX.at5 | exact Z.at6 | exact Z.at7 | exact Z.at8 | exact Z.at9 | exact Z.at10 | exact Z.at11 | exact Z.at12) (by first | decide | (simp; done) | (simp; omega)) ?_
                    clear hs; intro ws hs
                    simp only [Nat.zero_add, Nat.add_zero, Nat.reduceAdd, Int.reduceToNat, Nat.reduceMul, List.set_cons_zero, List.set_cons_succ, List.setIfInBounds_toArray] at hs
                    try simp only [Z.putL, Nat.zero_add] at hs
                    refine Z.lb 1 rfl ?_
                    refine Z.lnil ?_
                    refine Z.only [0, 4, 5, 11, 12, 13, 14] rfl ?_
                    refine Z.nthen ?_
                    refine Z.seq ?_
                    refine Z.seq ?_
                    refine Z.region ?_
                    refine Z.l rfl rfl (by rfl) (Z.keepS hs) (Z.Yd.fieldA (m := 0) rfl (by kernel_rfl)) ?_
                    refine Z.l rfl rfl (by rfl) (Z.keepS hs) (by first | exact Z.Yd.load rfl Try.isAgg3 (fun _ => Z.cellB (by first | ((repeat (first | exact List.mem_cons_self | refine List.mem_cons_of_mem _ ?_ | refine List.mem_append_right _ ?_)); done) | fail) rfl) | exact Z.Yd.load rfl Try.isAgg3 (fun _ => Z.cellO (by assumption) (by simp) (by assumption)) | fail "load 38.1") ?_
                    refine Z.lb 1 rfl ?_
                    refine Z.lnil ?_
                    refine Z.only [0, 4, 5, 11, 12, 13, 14, 169] rfl ?_
                    refine Z.nthen ?_
                    refine Z.cond rfl (fun hc38 => ?_) (fun hc38 => ?_)
                    · first
                        | (exfalso; simp at hc38 <;> omega)
                        | (
                          (try simp at hc38)
                          refine Z.exit ?_
                          refine Z.xthen ?_
                          refine Z.xblock ?_
                          refine Z.nthen ?_
                          refine Z.region ?_
                          refine Z.lb 1 rfl ?_
                          refine Z.l rfl rfl (by rfl) (Z.keepS hs) (Z.Yd.add rfl rfl (fun hG => Z.wi64 (by first | omega | (have hG' := Z.gh rfl hG; simp at hG'; omega)))) ?_
                          refine Z.lb 1 rfl ?_
                          refine Z.lnil ?_
                          refine Z.only [0, 4, 5, 11, 12] rfl ?_
                          refine Z.nthen ?_
                          first
                          | (rw [if_pos hc38] at hgo
                             exact Z.again (i + 1, q, ps, .slice Ao ps.length co) (by refine ⟨?_, ?_, ?_, ?_, ?_, trivial⟩ <;> (first | rfl | (refine Z.lookv rfl ?_; simp; done) | (refine Z.lookv rfl ?_; simp; omega))) ⟨⟨by simp only; omega, hq, by simp only; omega, hB, hgo⟩, hs.tl⟩ (by simp only; omega))
                          | (obtain ⟨D, hD⟩ : ∃ D, (l.drop q).take k = D := ⟨_, rfl⟩
                             have hlk : D.length = k := by rw [← hD, List.length_take, List.length_drop]; omega
                             rw [hD] at hgo
                             subst hlk
                             have hsl : ∀ W, Sl W A (ints .u8 l) → Sl W (slA A c q 1) (ints .u8 D) := fun W hxW => hxW.cut (l := q) (size := 1) (by rw [Nat.mul_one, ← hD]; simp only [ints, List.map_take, List.map_drop]; exact List.take_prefix _ _) (fun e => by
                               have h0 : D.length = 0 := by omega
                               rw [List.eq_nil_of_length_eq_zero h0]
                               rfl)
                             have e1 : (ps ++ [(⟨h.1, slA A c q 1, c - q, D⟩ : MpV)]).length = ps.length + 1 := by simp
                             have e2 : (ps ++ [(⟨h.1, slA A c q 1, c - q, D⟩ : MpV)]).flatMap MpV.cells = ps.flatMap MpV.cells ++ [.int .i64 h.1, .slice (slA A c q 1) D.length (c - q)] := by simp [MpV.cells]
                             have e3 : (ps ++ [(⟨h.1, slA A c q 1, c - q, D⟩ : MpV)]).map MpV.plain = ps.map MpV.plain ++ [(h.1, D)] := by simp [MpV.plain]
                             rw [← e3] at hgo
                             rw [← e1, ← e2] at hs
                             exact Z.again (i + 1, q + D.length, ps ++ [(⟨h.1, slA A c q 1, c - q, D⟩ : MpV)], _) (by refine ⟨?_, ?_, ?_, ?_, ?_, trivial⟩ <;> (first | rfl | (refine Z.lookv rfl ?_; simp; done) | (refine Z.lookv rfl ?_; simp; omega))) ⟨⟨by simp only; omega, by simp only; omega, by simp only [e1]; omega, fun z hz => by
                               rcases List.mem_append.1 hz with h8 | h8
                               · exact hB z h8
                               · obtain rfl : z = _ := by simpa using h8
                                 exact hsl, hgo⟩, hs.tl⟩ (by simp only; omega))
                          )
                    · first
                        | (exfalso; simp at hc38 <;> omega)
                        | (
                          (try simp at hc38)
                          have hdt := hd_all hga hgz (by rw [← hH]; exact hh)
                          obtain ⟨k, hk⟩ := ptN_nat hq hga hgz (by rw [← hH]; exact hh) hc38 (la := decide (i + 1 = H0.length)) (by rw [hH])
                          rw [if_neg hc38, drop_emp (by omega), hk, Int.toNat_natCast] at hgo
                          have hkc : ¬ sduB h.1 → ctlN h.1 = (k : Int) := fun hn => by
                            have h5 : ctlN h.1 ≠ 0 := by
                              rcases hdt with h5 | h5 | h5
                              · exact absurd h5 hn
                              · exact h5
                              · exact absurd h5 hc38
                            rw [← hk, ptN, if_pos h5]
                          have hkl : sduB h.1 → i + 1 = H0.length → (l.length : Int) - (q : Int) = (k : Int) := fun h1 h2 => by rw [← hk, ptN, if_neg (by simpa using sdu_ctl h1), if_pos (by simpa using h2)]
                          have hkn : sduB h.1 → ¬ i + 1 = H0.length → h.2 = (k : Int) := fun h1 h2 => by rw [← hk, ptN, if_neg (by simpa using sdu_ctl h1), if_neg (by simpa using h2)]
                          refine Z.skip ?_
                          refine Z.nthen ?_
                          refine Z.seq ?_
                          refine Z.region ?_
                          refine Z.l rfl rfl (by rfl) (Z.keepS hs) (Z.Yd.fieldA (m := 0) rfl (by kernel_rfl)) ?_
                          refine Z.l rfl rfl (by rfl) (Z.keepS hs) (by first | exact Z.Yd.load rfl Try.isAgg3 (fun _ => Z.cellB (by first | ((repeat (first | exact List.mem_cons_self | refine List.mem_cons_of_mem _ ?_ | refine List.mem_append_right _ ?_)); done) | fail) rfl) | exact Z.Yd.load rfl Try.isAgg3 (fun _ => Z.cellO (by assumption) (by simp) (by assumption)) | fail "load 39.1") ?_
                          refine Z.le rfl trivial ?_
                          refine Z.ZO.call rfl rfl (by rfl) rfl rfl Try.call22 rfl (mr_Control _ _) ?_
                          rintro v39_2 w39_2 ⟨rfl, hy⟩
                          replace hs := hs.call hy
                          clear hy
                          try simp only [List.cons_append, List.nil_append, List.append_nil] at hs
                          refine Z.lb 1 rfl ?_
                          refine Z.lnil ?_
                          refine Z.only [0, 4, 5, 11, 12, 13, 14, 15] rfl ?_
                          refine Z.nthen ?_
                          refine Z.seq ?_
                          refine Z.seq ?_
                          refine Z.region ?_
                          refine Z.l rfl rfl (by rfl) (Z.keepS hs) (Z.Yd.fieldA (m := 0) rfl (by kernel_rfl)) ?_
                          refine Z.l rfl rfl (by rfl) (Z.keepS hs) (by first | exact Z.Yd.load rfl Try.isAgg3 (fun _ => Z.cellB (by first | ((repeat (first | exact List.mem_cons_self | refine List.mem_cons_of_mem _ ?_ | refine List.mem_append_right _ ?_)); done) | fail) rfl) | exact Z.Yd.load rfl Try.isAgg3 (fun _ => Z.cellO (by assumption) (by simp) (by assumption)) | fail "load 40.1") ?_
                          refine Z.le rfl trivial ?_
                          refine Z.ZO.call rfl rfl (by rfl) rfl rfl Try.call48 rfl (mr_sdu _ _) ?_
                          rintro v40_2 w40_2 ⟨rfl, hy⟩
                          replace hs := hs.call hy
                          clear hy
                          try simp only [List.cons_append, List.nil_append, List.append_nil] at hs
                          refine Z.lnil ?_
                          refine Z.only [0, 4, 5, 11, 12, 13, 14, 15, 175] rfl ?_
                          refine Z.nthen ?_
                          refine Z.cutt (ι := Unit) [0, 4, 5, 11, 12, 13, 14] rfl (fun _ => [(15, [], .int .i64 (k : Int))]) (fun _ wr => SX.St w [] wr [SX.Ent.blk g13 96 (encH h).toArray, SX.Ent.row (.slice Ao ps.length co) 47 2 ps.length (ps.flatMap MpV.cells), SX.Ent.row (.slice (some ⟨gh, 0, none⟩) H0.length cv) 96 2 H0.length (H0.flatMap encH)]) ?_ ?_
                          · skip
                            refine Z.cond rfl (fun hc40 => ?_) (fun hc40 => ?_)
                            · first
                                | (exfalso; simp at hc40 <;> omega)
                                | (
                                  (try simp at hc40)
                                  refine Z.seq ?_
                                  refine Z.region ?_
                                  refine Z.l rfl rfl (by rfl) (Z.keepS hs) (Z.Yd.fieldA (m := 1) rfl (by kernel_rfl)) ?_
                                  refine Z.l rfl rfl (by rfl) (Z.keepS hs) (by first | exact Z.Yd.load rfl Try.isAgg3 (fun _ => Z.cellB (by first | ((repeat (first | exact List.mem_cons_self | refine List.mem_cons_of_mem _ ?_ | refine List.mem_append_right _ ?_)); done) | fail) rfl) | exact Z.Yd.load rfl Try.isAgg3 (fun _ => Z.cellO (by assumption) (by simp) (by assumption)) | fail "load 41.1") ?_
                                  refine Z.lb 1 rfl ?_
                                  refine Z.lnil ?_
                                  refine Z.only [0, 4, 5, 11, 12, 13, 14, 15] rfl ?_
                                  refine Z.nthen ?_
                                  refine Z.seq ?_
                                  refine Z.region ?_
                                  refine Z.lb 1 rfl ?_
                                  refine Z.lnil ?_
                                  refine Z.only [0, 4, 5, 11, 12, 13, 14, 15, 178] rfl ?_
                                  refine Z.nthen ?_
                                  refine Z.cond rfl (fun hc42 => ?_) (fun hc42 => ?_)
                                  · first
                                      | (exfalso; simp at hc42 <;> omega)
                                      | (
                                        (try simp at hc42)
                                        refine Z.region ?_
                                        refine Z.lb 1 rfl ?_
                                        refine Z.l rfl rfl (by rfl) (Z.keepS hs) (Z.Yd.lenS rfl Try.underlying26) ?_
                                        refine Z.lb 1 rfl ?_
                                        refine Z.l rfl rfl (by rfl) (Z.keepS hs) (Z.Yd.sub rfl rfl (fun hG => Z.wi64 (by first | omega | (have hG' := Z.gh rfl hG; simp at hG'; omega)))) ?_
                                        refine Z.lb 1 rfl ?_
                                        refine Z.lnil ?_
                                        refine Z.only [0, 4, 5, 11, 12, 13, 14, 15] rfl ?_
                                        refine Z.nthen ?_
                                        exact Z.meet () (by refine ⟨?_, ?_, ?_, ?_, ?_, ?_, ?_, ?_, trivial⟩ <;> first | rfl | (exact congrArg (fun z ↦ some (([] : List (Nat × Bool)), Value.int .i64 z)) (by first | exact hkc hc40 | (refine hkl hc40 ?_; omega) | (refine hkn hc40 ?_; omega)))) hs
                                        )
                                  · first
                                      | (exfalso; simp at hc42 <;> omega)
                                      | (
                                        (try simp at hc42)
                                        refine Z.skip ?_
                                        refine Z.nthen ?_
                                        exact Z.meet () (by refine ⟨?_, ?_, ?_, ?_, ?_, ?_, ?_, ?_, trivial⟩ <;> first | rfl | (exact congrArg (fun z ↦ some (([] : List (Nat × Bool)), Value.int .i64 z)) (by first | exact hkc hc40 | (refine hkl hc40 ?_; omega) | (refine hkn hc40 ?_; omega)))) hs
                                        )
                                  )
                            · first
                                | (exfalso; simp at hc40 <;> omega)
                                | (
                                  (try simp at hc40)
                                  refine Z.skip ?_
                                  refine Z.nthen ?_
                                  exact Z.meet () (by refine ⟨?_, ?_, ?_, ?_, ?_, ?_, ?_, ?_, trivial⟩ <;> first | rfl | (exact congrArg (fun z ↦ some (([] : List (Nat × Bool)), Value.int .i64 z)) (by first | exact hkc hc40 | (refine hkl hc40 ?_; omega) | (refine hkn hc40 ?_; omega)))) hs
                                  )
                          · clear hs
                            rintro _ w40 hs
                            refine Z.only [0, 4, 5, 11, 12, 13, 14, 15] rfl ?_
                            refine Z.seq ?_
                            refine Z.seq ?_
                            refine Z.region ?_
                            refine Z.lb 2 rfl ?_
                            refine Z.l rfl rfl (by rfl) (Z.keepS hs) (Z.Yd.lenS rfl Try.underlying26) ?_
                            refine Z.lb 1 rfl ?_
                            refine Z.l rfl rfl (by rfl) (Z.keepS hs) (Z.Yd.sub rfl rfl (fun hG => Z.wi64 (by first | omega | (have hG' := Z.gh rfl hG; simp at hG'; omega)))) ?_
                            refine Z.lb 1 rfl ?_
                            refine Z.lnil ?_
                            refine Z.only [0, 4, 5, 11, 12, 13, 14, 15, 188] rfl ?_
                            refine Z.nthen ?_
                            refine Z.cond rfl (fun hc44 => ?_) (fun hc44 => ?_)
                            · first
                                | (exfalso; simp at hc44 <;> omega)
                                | (
                                  (try simp at hc44)
                                  rw [if_pos (by omega)] at hgo
                                  subst hgo
                                  refine Z.seq ?_
                                  refine Z.region ?_
                                  refine Z.lb 2 rfl ?_
                                  refine Z.lnil ?_
                                  refine Z.only [2, 3] rfl ?_
                                  refine Z.nthen ?_
                                  refine Z.ret ?_
                                  repeat (first | refine Z.rthen ?_ | refine Z.rblock ?_ | refine Z.rscope ?_)
                                  -- ret#8
                                  refine Z.out2 (by exact ⟨rfl, rfl, trivial⟩) ?_
                                  first
                                  | exact ⟨_, rfl, ps, _, rfl, rfl, hB, hs.sel [0] (by decide)⟩
                                  | exact ⟨_, rfl, ParD.fail (hs.sub (List.nil_sublist _))⟩
                                  | exact retL (lnE_a hsp104) (by decide) hG hR (hs.sub (List.nil_sublist _))
                                  | exact retL (lnE_b hp1 hb2e hc21.1 hc21.2) (by decide) hG hR (hs.sub (List.nil_sublist _))
                                  | exact retL (lnE_c hp2 hb2e hbd2.2 hc25 hb3e hc28) (by decide) hG hR (hs.sub (List.nil_sublist _))
                                  | (exfalso; omega)
                                  | exact retL (lnE_d hp1 hb2e hc30) (by decide) hG hR (hs.sub (List.nil_sublist _))
                                  | trivial
                                  )
                            · first
                                | (exfalso; simp at hc44 <;> omega)
                                | (
                                  (try simp at hc44)
                                  rw [if_neg (fun hh => hh (by omega))] at hgo
                                  refine Z.skip ?_
                                  refine Z.nthen ?_
                                  refine Z.seq ?_
                                  refine Z.seq ?_
                                  refine Z.region ?_
                                  refine Z.lb 7 rfl ?_
                                  refine Z.l rfl rfl (by rfl) (Z.keepS hs) (Z.Yd.add rfl rfl (fun hG => Z.wi64 (by first | omega | (have hG' := Z.gh rfl hG; simp at hG'; omega)))) ?_
                                  refine Z.lb 1 rfl ?_
                                  refine Z.l rfl rfl (by rfl) (Z.keepS hs) (Z.Yd.lenS rfl Try.underlying26) ?_
                                  refine Z.lb 3 rfl ?_
                                  refine Z.lnil ?_
                                  refine Z.only [0, 4, 5, 11, 12, 13, 15, 201] rfl ?_
                                  refine Z.nthen ?_
                                  refine Z.cond rfl (fun hc46 => ?_) (fun hc46 => ?_)
                                  · first
                                      | (exfalso; simp at hc46 <;> omega)
                                      | (
                                        (try simp at hc46)
                                        rw [if_pos ⟨by simp; omega, by omega⟩] at hgo
                                        subst hgo
                                        refine Z.seq ?_
                                        refine Z.region ?_
                                        refine Z.lb 2 rfl ?_
                                        refine Z.lnil ?_
                                        refine Z.only [2, 3] rfl ?_
                                        refine Z.nthen ?_
                                        refine Z.ret ?_
                                        repeat (first | refine Z.rthen ?_ | refine Z.rblock ?_ | refine Z.rscope ?_)
                                        -- ret#9
                                        refine Z.out2 (by exact ⟨rfl, rfl, trivial⟩) ?_
                                        first
                                        | exact ⟨_, rfl, ps, _, rfl, rfl, hB, hs.sel [0] (by decide)⟩
                                        | exact ⟨_, rfl, ParD.fail (hs.sub (List.nil_sublist _))⟩
                                        | exact retL (lnE_a hsp104) (by decide) hG hR (hs.sub (List.nil_sublist _))
                                        | exact retL (lnE_b hp1 hb2e hc21.1 hc21.2) (by decide) hG hR (hs.sub (List.nil_sublist _))
                                        | exact retL (lnE_c hp2 hb2e hbd2.2 hc25 hb3e hc28) (by decide) hG hR (hs.sub (List.nil_sublist _))
                                        | (exfalso; omega)
                                        | exact retL (lnE_d hp1 hb2e hc30) (by decide) hG hR (hs.sub (List.nil_sublist _))
                                        | trivial
                                        )
                                  · first
                                      | (exfalso; simp at hc46 <;> omega)
                                      | (
                                        (try simp at hc46)
                                        rw [if_neg (by simp; omega)] at hgo
                                        refine Z.skip ?_
                                        refine Z.nthen ?_
                                        refine Z.seq ?_
                                        refine Z.drawL [SX.Ent.blk g13 96 (encH h).toArray] (fun _ => true) mixed hs ?_
                                        clear hs; intro wd48 hs
                                        refine Z.tb [0] (by kernel_rfl) rfl ⟨_, hs, by first | (simp; done) | exact fun e he => List.mem_append_right _ he⟩ rfl ?_
                                        refine Z.t 1 rfl rfl rfl (by rfl) (by kernel_rfl) ⟨_, hs, by first | (simp; done) | exact fun e he => List.mem_append_right _ he⟩ (Z.Yd.fieldA (m := 0) rfl (by kernel_rfl)) ?_
                                        refine Z.t 2 rfl rfl rfl (by rfl) (by kernel_rfl) ⟨_, hs, by first | (simp; done) | exact fun e he => List.mem_append_right _ he⟩ (by first | exact Z.Yd.load rfl Try.isAgg3 (fun _ => Z.cellB (by first | ((repeat (first | exact List.mem_cons_self | refine List.mem_cons_of_mem _ ?_ | refine List.mem_append_right _ ?_)); done) | fail) rfl) | exact Z.Yd.load rfl Try.isAgg3 (fun _ => Z.cellO (by assumption) (by simp) (by assumption)) | fail "load 48.2") ?_
                                        refine Z.tb [3, 4, 5, 6] (by kernel_rfl) rfl ⟨_, hs, by first | (simp; done) | exact fun e he => List.mem_append_right _ he⟩ rfl ?_
                                        refine Z.t 7 rfl rfl rfl (by rfl) (by kernel_rfl) ⟨_, hs, by first | (simp; done) | exact fun e he => List.mem_append_right _ he⟩ (Z.Yd.add rfl rfl (fun hG => Z.wi64 (by first | omega | (have hG' := Z.gh rfl hG; simp at hG'; omega)))) ?_
                                        refine Z.t 8 rfl rfl rfl (by rfl) (by kernel_rfl) ⟨_, hs, by first | (simp; done) | exact fun e he => List.mem_append_right _ he⟩ (Z.Yd.cut q (q + k) rfl (Z.lvl_some rfl (by intro hG; first | rfl | exact (by first | omega | (have hG' := Z.gh rfl hG; simp at hG'; omega)))) (Z.lvl_some rfl (by intro hG; first | rfl | exact (by first | omega | (have hG' := Z.gh rfl hG; simp at hG'; omega)))) Try.underlying26 Try.sizeOf5 (fun hG => ⟨(by first | omega | (have hG' := Z.gh rfl hG; simp at hG'; omega)), (by first | omega | (have hG' := Z.gh rfl hG; simp at hG'; omega))⟩)) ?_
                                        rw [show q + k - q = k from by omega]
                                        refine Z.t 9 rfl rfl rfl (by rfl) (by kernel_rfl) ⟨_, hs, by first | (simp; done) | exact fun e he => List.mem_append_right _ he⟩ (Z.Yd.buildL [(0, 1), (1, 1)] [.int .i64 0, .slice none 0 0] rfl rfl (by intro w; kernel_rfl)) ?_
                                        refine Z.tn 10 rfl rfl (by kernel_rfl) rfl trivial ?_
                                        refine Z.ZO.litL (T' := 47) [(0, 2)] [.int .i64 0, .slice none 0 0] rfl rfl (by rfl) rfl rfl (by intro W; kernel_rfl) hs ?_
                                        clear hs; intro g212 w212 hs
                                        refine Z.tk (Dn := fun _ => true) (i := 10) (fun _ => ⟨_, hs, by first | (simp; done) | exact fun e he => List.mem_append_right _ he⟩) ?_
                                        refine Z.tn 11 rfl rfl (by kernel_rfl) rfl trivial ?_
                                        refine Z.ZO.append (i0 := Try.t47) (size := 2) (bytes := 32) rfl rfl (by rfl) hs Try.underlying22 (by kernel_rfl) rfl rfl rfl rfl (by decide) rfl rfl (by first | exact SX.at0 | exact SX.at1 | exact SX.at2 | exact SX.at3 | exact SX.at4 | exact SX.at5 | exact Z.at6 | exact Z.at7 | exact Z.at8 | exact Z.at9 | exact Z.at10 | exact Z.at11 | exact Z.at12) (by first | exact SX.at0 | exact SX.at1 | exact SX.at2 | exact SX.at3 | exact SX.at4 | exact SX.at5 | exact Z.at6 | exact Z.at7 | exact Z.at8 | exact Z.at9 | exact Z.at10 | exact Z.at11 | exact Z.at12) (by first | rfl | simp) (by simp [Value.oneCell']) (by decide) (by unfold maxLen; omega) (by omega) ?_
                                        clear hs; intro g213 cap213 w213 hs
                                        simp only [List.set_cons_zero, List.set_cons_succ, List.eraseIdx_cons_zero, List.eraseIdx_cons_succ] at hs
                                        refine Z.tk (Dn := fun _ => true) (i := 11) (fun _ => ⟨_, hs, by first | (simp; done) | exact fun e he => List.mem_append_right _ he⟩) ?_
                                        refine Z.tb [12] (by kernel_rfl) rfl ⟨_, hs, by first | (simp; done) | exact fun e he => List.mem_append_right _ he⟩ rfl ?_
                                        refine Z.td (by rfl) (by kernel_rfl) ?_
                                        refine Z.only [0, 4, 5, 11, 12, 15] rfl ?_
                                        refine Z.nthen ?_
                                        refine Z.region ?_
                                        refine Z.lb 2 rfl ?_
                                        refine Z.l rfl rfl (by rfl) (Z.keepS hs) (Z.Yd.add rfl rfl (fun hG => Z.wi64 (by first | omega | (have hG' := Z.gh rfl hG; simp at hG'; omega)))) ?_
                                        refine Z.lb 1 rfl ?_
                                        refine Z.lnil ?_
                                        refine Z.only [0, 4, 5, 11, 12] rfl ?_
                                        refine Z.nblock ?_
                                        refine Z.nthen ?_
                                        refine Z.region ?_
                                        refine Z.lb 1 rfl ?_
                                        refine Z.l rfl rfl (by rfl) (Z.keepS hs) (Z.Yd.add rfl rfl (fun hG => Z.wi64 (by first | omega | (have hG' := Z.gh rfl hG; simp at hG'; omega)))) ?_
                                        refine Z.lb 1 rfl ?_
                                        refine Z.lnil ?_
                                        refine Z.only [0, 4, 5, 11, 12] rfl ?_
                                        refine Z.nthen ?_
                                        first
                                        | (rw [if_pos hc38] at hgo
                                           exact Z.again (i + 1, q, ps, .slice Ao ps.length co) (by refine ⟨?_, ?_, ?_, ?_, ?_, trivial⟩ <;> (first | rfl | (refine Z.lookv rfl ?_; simp; done) | (refine Z.lookv rfl ?_; simp; omega))) ⟨⟨by simp only; omega, hq, by simp only; omega, hB, hgo⟩, hs.tl⟩ (by simp only; omega))
                                        | (obtain ⟨D, hD⟩ : ∃ D, (l.drop q).take k = D := ⟨_, rfl⟩
                                           have hlk : D.length = k := by rw [← hD, List.length_take, List.length_drop]; omega
                                           rw [hD] at hgo
                                           subst hlk
                                           have hsl : ∀ W, Sl W A (ints .u8 l) → Sl W (slA A c q 1) (ints .u8 D) := fun W hxW => hxW.cut (l := q) (size := 1) (by rw [Nat.mul_one, ← hD]; simp only [ints, List.map_take, List.map_drop]; exact List.take_prefix _ _) (fun e => by
                                             have h0 : D.length = 0 := by omega
                                             rw [List.eq_nil_of_length_eq_zero h0]
                                             rfl)
                                           have e1 : (ps ++ [(⟨h.1, slA A c q 1, c - q, D⟩ : MpV)]).length = ps.length + 1 := by simp
                                           have e2 : (ps ++ [(⟨h.1, slA A c q 1, c - q, D⟩ : MpV)]).flatMap MpV.cells = ps.flatMap MpV.cells ++ [.int .i64 h.1, .slice (slA A c q 1) D.length (c - q)] := by simp [MpV.cells]
                                           have e3 : (ps ++ [(⟨h.1, slA A c q 1, c - q, D⟩ : MpV)]).map MpV.plain = ps.map MpV.plain ++ [(h.1, D)] := by simp [MpV.plain]
                                           rw [← e3] at hgo
                                           rw [← e1, ← e2] at hs
                                           exact Z.again (i + 1, q + D.length, ps ++ [(⟨h.1, slA A c q 1, c - q, D⟩ : MpV)], _) (by refine ⟨?_, ?_, ?_, ?_, ?_, trivial⟩ <;> (first | rfl | (refine Z.lookv rfl ?_; simp; done) | (refine Z.lookv rfl ?_; simp; omega))) ⟨⟨by simp only; omega, by simp only; omega, by simp only [e1]; omega, fun z hz => by
                                             rcases List.mem_append.1 hz with h8 | h8
                                             · exact hB z h8
                                             · obtain rfl : z = _ := by simpa using h8
                                               exact hsl, hgo⟩, hs.tl⟩ (by simp only; omega))
                                        )
                                  )
                          )
                    )
              · first
                  | (exfalso; simp at hc35 <;> omega)
                  | (
                    (try simp at hc35)
                    refine Z.exit ?_
                    refine Z.xthen ?_
                    refine Z.xthen ?_
                    refine Z.xblock ?_
                    refine Z.nthen ?_
                    refine Z.seq ?_
                    refine Z.seq ?_
                    refine Z.region ?_
                    rw [List.drop_of_length_le (by omega), ptGo] at hgo
                    refine Z.l rfl rfl (by rfl) (Z.keepS hs) (Z.Yd.pure rfl) ?_
                    refine Z.l rfl rfl (by rfl) (Z.keepS hs) (Z.Yd.lenS rfl Try.underlying22) ?_
                    refine Z.lb 1 rfl ?_
                    refine Z.lnil ?_
                    refine Z.only [11, 219] rfl ?_
                    refine Z.nthen ?_
                    refine Z.cond rfl (fun hc50 => ?_) (fun hc50 => ?_)
                    · first
                        | (exfalso; simp at hc50 <;> omega)
                        | (
                          (try simp at hc50)
                          rw [if_pos (by rw [hc50]; rfl)] at hgo
                          subst hgo
                          refine Z.seq ?_
                          refine Z.region ?_
                          refine Z.lb 2 rfl ?_
                          refine Z.lnil ?_
                          refine Z.only [2, 3] rfl ?_
                          refine Z.nthen ?_
                          refine Z.ret ?_
                          repeat (first | refine Z.rthen ?_ | refine Z.rblock ?_ | refine Z.rscope ?_)
                          -- ret#10
                          refine Z.out2 (by exact ⟨rfl, rfl, trivial⟩) ?_
                          first
                          | exact ⟨_, rfl, ps, _, rfl, rfl, hB, hs.sel [0] (by decide)⟩
                          | exact ⟨_, rfl, ParD.fail (hs.sub (List.nil_sublist _))⟩
                          | exact retL (lnE_a hsp104) (by decide) hG hR (hs.sub (List.nil_sublist _))
                          | exact retL (lnE_b hp1 hb2e hc21.1 hc21.2) (by decide) hG hR (hs.sub (List.nil_sublist _))
                          | exact retL (lnE_c hp2 hb2e hbd2.2 hc25 hb3e hc28) (by decide) hG hR (hs.sub (List.nil_sublist _))
                          | (exfalso; omega)
                          | exact retL (lnE_d hp1 hb2e hc30) (by decide) hG hR (hs.sub (List.nil_sublist _))
                          | trivial
                          )
                    · first
                        | (exfalso; simp at hc50 <;> omega)
                        | (
                          (try simp at hc50)
                          rw [if_neg (by simpa using hc50)] at hgo
                          subst hgo
                          refine Z.skip ?_
                          refine Z.nthen ?_
                          refine Z.seq ?_
                          refine Z.region ?_
                          refine Z.lb 3 rfl ?_
                          refine Z.lnil ?_
                          refine Z.only [2, 3] rfl ?_
                          refine Z.nthen ?_
                          refine Z.ret ?_
                          -- ret#11
                          refine Z.out2 (by exact ⟨rfl, rfl, trivial⟩) ?_
                          first
                          | exact ⟨_, rfl, ps, _, rfl, rfl, hB, hs.sel [0] (by decide)⟩
                          | exact ⟨_, rfl, ParD.fail (hs.sub (List.nil_sublist _))⟩
                          | exact retL (lnE_a hsp104) (by decide) hG hR (hs.sub (List.nil_sublist _))
                          | exact retL (lnE_b hp1 hb2e hc21.1 hc21.2) (by decide) hG hR (hs.sub (List.nil_sublist _))
                          | exact retL (lnE_c hp2 hb2e hbd2.2 hc25 hb3e hc28) (by decide) hG hR (hs.sub (List.nil_sublist _))
                          | (exfalso; omega)
                          | exact retL (lnE_d hp1 hb2e hc30) (by decide) hG hR (hs.sub (List.nil_sublist _))
                          | trivial
                          )
                    )
              )
        )
end Go.Proofs.Ytogjkgoiofngaaa

/- MacpduEach. -/
namespace Go.Proofs.Ytogjkgoiofngaaa
open Go.RowKit
set_option linter.unusedSimpArgs false
set_option linter.unusedVariables false
--newlaws

theorem mc_Each (A : Option Addr) (n c : Nat) (l : List Int) (w : World) (hx : Sl w A (ints .u8 l)) (hl : l.length = n) (hn : n ≤ 100000) (hb : ∀ x ∈ l, 0 ≤ x ∧ x < 256) :
    Calls Try.prog 27 #[.slice A n c] w (SX.Ret fun v w' => ∃ g2 B k qs, v = .func (.func 49) #[] #[.pointer (some ⟨g2, 0, none⟩)] ∧ plainQ qs = (parV l).2 ∧ SX.St w [] w' (SX.Ent.blk g2 22 #[.slice B qs.length k] :: SX.Ent.row (.slice B qs.length k) 47 2 qs.length (cellsQ qs) :: rowsQ qs)) := by
  have hs := SX.St.start w
  refine Z.enter Try.func27 rfl Try.ntmps27 rfl rfl ?_
  refine Z.seq ?_
  refine Z.region ?_
  refine Z.lb 1 rfl ?_
  refine Z.lnil ?_
  refine Z.only [0] rfl ?_
  refine Z.nthen ?_
  refine Z.seq ?_
  refine Z.region ?_
  refine Z.lb 1 rfl ?_
  refine Z.le rfl trivial ?_
  refine Z.ZO.call rfl rfl (by rfl) rfl rfl Try.call23 rfl (mc_Parse A n c l _ (hx.st (hs.sub (List.nil_sublist _))) hl hn hb) ?_
  rintro v1_1 w1_1 ⟨qs, sv, rfl, hpq, hy⟩
  replace hs := hs.call hy
  clear hy
  try simp only [List.cons_append, List.nil_append, List.append_nil] at hs
  obtain ⟨B, k, rfl, -, -, -⟩ := SX.row_slv hs (j := 0) rfl
  refine Z.lb 3 rfl ?_
  refine Z.le rfl trivial ?_
  refine Z.ZO.alloc rfl rfl (by rfl) Try.zeroValue22 rfl hs ?_
  clear hs; intro g3 w3 hs
  refine Z.le rfl trivial ?_
  first | refine Z.ZO.store rfl rfl hs Try.sizeOf22 rfl rfl rfl (by first | exact SX.at0 | exact SX.at1 | exact SX.at2 | exact SX.at3 | exact SX.at4 | exact SX.at5 | exact Z.at6 | exact Z.at7 | exact Z.at8 | exact Z.at9 | exact Z.at10 | exact Z.at11 | exact Z.at12) (by first | (simp; done) | (simp; omega)) ?_ | refine Z.ZO.storeR rfl rfl hs Try.sizeOf22 rfl rfl rfl (by first | exact SX.at0 | exact SX.at1 | exact SX.at2 | exact SX.at3 | exact SX.at4 | exact SX.at5 | exact Z.at6 | exact Z.at7 | exact Z.at8 | exact Z.at9 | exact Z.at10 | exact Z.at11 | exact Z.at12) (by first | omega | (simp [ints_length]; done) | (simp [ints_length]; omega)) ?_
  clear hs; intro ws hs
  simp only [Nat.zero_add, Nat.add_zero, Nat.reduceAdd, Int.reduceToNat, Nat.reduceMul, List.set_cons_zero, List.set_cons_succ, List.setIfInBounds_toArray] at hs
  refine Z.lb 1 rfl ?_
  refine Z.lnil ?_
  refine Z.only [3] rfl ?_
  refine Z.nthen ?_
  refine Z.seq ?_
  refine Z.region ?_
  refine Z.lb 2 rfl ?_
  refine Z.lnil ?_
  refine Z.only [2] rfl ?_
  refine Z.nthen ?_
  refine Z.ret ?_
  -- ret#0
  refine Z.out1 (by exact ⟨rfl, trivial⟩) ?_
  exact ⟨_, rfl, _, B, k, qs, rfl, hpq, hs⟩
set_option maxHeartbeats 4000000 in
set_option maxRecDepth 100000 in
theorem macpduEach_in (A : Option Addr) (n c : Nat) (many : Int) (l : List Int) (w : World) (hx : Sl w A (ints .u8 l)) (hl : l.length = n) (hc : n ≤ c) (hb : ∀ x ∈ l, 0 ≤ x ∧ x < 256) (h6 : n ≤ 600) :
    Calls Try.prog 8 #[.slice A n c, .int .i64 many] w (SX.Ret fun v w' => v = .bool true ∧ SX.St w [] w' []) := by
  have hs := SX.St.start w
  subst hl
  have hlen := par_len l
  obtain ⟨⟨E, r⟩, hr⟩ : ∃ R, parV l = R := ⟨_, rfl⟩
  rw [hr] at hlen
  simp only at hlen
  refine Z.enterM Try.func8 rfl Try.ntmps8 rfl rfl ?_
  refine Z.seq ?_
  refine Z.region ?_
  refine Z.le rfl trivial ?_
  refine Z.ZO.box rfl rfl (by rfl) rfl rfl hs ?_
  clear hs; intro g3 w3 hs
  refine Z.le rfl trivial ?_
  refine Z.ZO.alloc rfl rfl (by rfl) Try.zeroValue4 rfl hs ?_
  clear hs; intro g4 w4 hs
  refine Z.lnil ?_
  refine Z.only [0, 3, 4] rfl ?_
  refine Z.nthen ?_
  refine Z.seq ?_
  refine Z.seq ?_
  refine Z.region ?_
  refine Z.lb 1 rfl ?_
  refine Z.l rfl rfl (by rfl) (Z.keepS hs) (Z.Yd.lenS rfl Try.underlying26) ?_
  refine Z.lb 1 rfl ?_
  refine Z.lnil ?_
  refine Z.only [0, 3, 4, 16] rfl ?_
  refine Z.nthen ?_
  refine Z.cond rfl (fun h => absurd h (by simp; omega)) (fun hc1 => ?_)
  refine Z.skip ?_
  refine Z.nthen ?_
  refine Z.seq ?_
  refine Z.region ?_
  refine Z.lb 1 rfl ?_
  refine Z.le rfl trivial ?_
  refine Z.ZO.call rfl rfl (by rfl) rfl rfl Try.call26 rfl (mr_Parse A c l _ (hx.st (hs.sub (List.nil_sublist _))) hc (by omega) hb) ?_
  rintro v3_1 w3_1 ⟨ps, sv, rfl, hpl, hB, hy⟩
  replace hs := hs.call hy
  clear hy
  try simp only [List.cons_append, List.nil_append, List.append_nil] at hs
  rw [hr] at hpl ⊢
  simp only at hpl
  obtain ⟨Bp, kp, rfl, hkp, hkm, -⟩ := SX.row_slv hs (j := 0) rfl
  obtain ⟨K, hK⟩ : ∃ K, ps.length = K := ⟨_, rfl⟩
  rw [hK] at hs hkp ⊢
  have hKm : K ≤ 9223372036854775807 := Nat.le_trans hkp hkm
  refine Z.lb 3 rfl ?_
  refine Z.le rfl trivial ?_
  refine Z.ZO.alloc rfl rfl (by rfl) Try.zeroValue22 rfl hs ?_
  clear hs; intro g5 w5 hs
  refine Z.le rfl trivial ?_
  first | refine Z.ZO.store rfl rfl hs Try.sizeOf22 rfl rfl rfl (by first | exact SX.at0 | exact SX.at1 | exact SX.at2 | exact SX.at3 | exact SX.at4 | exact SX.at5 | exact Z.at6 | exact Z.at7 | exact Z.at8 | exact Z.at9 | exact Z.at10 | exact Z.at11 | exact Z.at12) (by first | (simp; done) | (simp; omega)) ?_ | refine Z.ZO.storeR rfl rfl hs Try.sizeOf22 rfl rfl rfl (by first | exact SX.at0 | exact SX.at1 | exact SX.at2 | exact SX.at3 | exact SX.at4 | exact SX.at5 | exact Z.at6 | exact Z.at7 | exact Z.at8 | exact Z.at9 | exact Z.at10 | exact Z.at11 | exact Z.at12) (by first | omega | (simp [ints_length]; done) | (simp [ints_length]; omega)) ?_
  clear hs; intro ws hs
  simp only [Nat.zero_add, Nat.add_zero, Nat.reduceAdd, Int.reduceToNat, Nat.reduceMul, List.set_cons_zero, List.set_cons_succ, List.setIfInBounds_toArray] at hs
  refine Z.lb 1 rfl ?_
  refine Z.lnil ?_
  refine Z.only [0, 3, 4, 5] rfl ?_
  refine Z.nthen ?_
  refine Z.seq ?_
  refine Z.region ?_
  refine Z.le rfl trivial ?_
  refine Z.ZO.empty rfl rfl (by rfl) Try.underlying26 Try.sizeOf5 hs ?_
  clear hs; intro g23 w23 hs
  refine Z.lb 1 rfl ?_
  refine Z.le rfl trivial ?_
  refine Z.ZO.appendG (i0 := Try.t5) (size := 1) (bytes := 1) rfl rfl (by rfl) hs Try.underlying26 (by kernel_rfl) rfl rfl rfl rfl (by decide) rfl rfl (by first | exact SX.at0 | exact SX.at1 | exact SX.at2 | exact SX.at3 | exact SX.at4 | exact SX.at5 | exact Z.at6 | exact Z.at7 | exact Z.at8 | exact Z.at9 | exact Z.at10 | exact Z.at11 | exact Z.at12) (hx.st (hs.sub (List.nil_sublist _))) (by first | rfl | assumption | (simp [ints_length]; done) | (simp [ints_length]; omega)) (by first | exact Z.ints_one | assumption | simp [Value.oneCell']) (by unfold maxLen; omega) (by omega) ?_
  clear hs; intro v25 w25 hs
  simp only [List.set_cons_zero, List.set_cons_succ] at hs
  simp only [Nat.zero_add, List.nil_append] at hs
  obtain ⟨Bo, ko, rfl, -, -, -⟩ := SX.row_slv hs (j := 0) rfl
  refine Z.lb 1 rfl ?_
  refine Z.lnil ?_
  refine Z.only [3, 4, 5, 7] rfl ?_
  refine Z.nthen ?_
  refine Z.seq ?_
  refine Z.region ?_
  refine Z.lb 1 rfl ?_
  refine Z.le rfl trivial ?_
  refine Z.ZO.call rfl rfl (by rfl) rfl rfl Try.call27 rfl (mc_Each Bo _ ko l _ (hs.slm (A := Bo) (by first | ((repeat (first | exact List.mem_cons_self | refine List.mem_cons_of_mem _ ?_ | refine List.mem_append_right _ ?_)); done) | fail)) rfl (by omega) hb) ?_
  rintro v5_1 w5_1 ⟨gg, Be, ke, qs, rfl, hpq, hy⟩
  replace hs := hs.call hy
  clear hy
  try simp only [List.cons_append, List.nil_append, List.append_nil] at hs
  rw [hr] at hpq
  simp only at hpq
  have hqK : qs.length = K := by have h7 := congrArg List.length (hpq.trans hpl.symm); simp [plainQ] at h7; omega
  rw [hqK] at hs
  have hqf : ∀ x ∈ qs, x.1.l.length ≤ 100000 := fun x hx => by
    have h7 := hlen x.1.plain (by rw [← hpq]; exact List.mem_map_of_mem hx)
    have h8 : x.1.l.length ≤ l.length := h7
    omega
  refine Z.lb 1 rfl ?_
  refine Z.lnil ?_
  refine Z.only [3, 4, 5, 7, 8] rfl ?_
  refine Z.nthen ?_
  refine Z.seq ?_
  refine Z.seq ?_
  refine Z.region ?_
  refine Z.lb 1 rfl ?_
  refine Z.l rfl rfl (by rfl) (Z.keepS hs) (Z.Yd.fnNil rfl rfl Try.underlying56) ?_
  refine Z.lnil ?_
  refine Z.only [3, 4, 5, 7, 8, 29] rfl ?_
  refine Z.nthen ?_
  refine Z.cond rfl (fun h => absurd h (by simp)) (fun hc6 => ?_)
  refine Z.skip ?_
  refine Z.nthen ?_
  refine Z.seq ?_
  refine Z.seq ?_
  refine Z.region ?_
  replace hs : SX.St w [] _ ((SX.Ent.row (.slice Bo l.length ko) 5 1 l.length (ints .u8 l) :: SX.Ent.blk g5 22 #[.slice Bp K kp] :: SX.Ent.row (.slice Bp K kp) 47 2 K (ps.flatMap MpV.cells) :: SX.Ent.blk g4 4 #[.bool false] :: SX.Ent.blk g3 3 #[.int .i64 many] :: []) ++ (SX.Ent.blk gg 22 #[.slice Be K ke] :: SX.Ent.row (.slice Be K ke) 47 2 K (cellsQ qs) :: rowsQ qs)) := SX.St.rot (L1 := SX.Ent.blk gg _ _ :: SX.Ent.row _ 47 2 K (cellsQ qs) :: rowsQ qs) hs
  simp only [List.cons_append, List.nil_append] at hs
  refine Z.l rfl rfl (by rfl) (Z.keepS hs) (Z.Yd.pure rfl) ?_
  refine Z.lnil ?_
  refine Z.only [3, 4, 5, 7, 8, 9] rfl ?_
  refine Z.nthen ?_
  refine Z.block ?_
  refine Z.loopk (ι := Nat × List Int) [3, 4, 5, 7, 8] rfl (fun k => [(9, [], .int .i64 (k.1 : Int))]) (fun k wr => (k.1 ≤ l.length ∧ k.2.length = l.length) ∧ SX.St w [] wr (SX.Ent.row (.slice Bo l.length ko) 5 1 l.length (ints .u8 k.2) :: SX.Ent.blk g5 22 #[.slice Bp K kp] :: SX.Ent.row (.slice Bp K kp) 47 2 K (ps.flatMap MpV.cells) :: SX.Ent.blk g4 4 #[.bool false] :: SX.Ent.blk g3 3 #[.int .i64 many] :: SX.Ent.blk gg 22 #[.slice Be K ke] :: SX.Ent.row (.slice Be K ke) 47 2 K (cellsQ qs) :: rowsQ qs)) (fun k => l.length - k.1) (0, l) (by refine ⟨?_, trivial⟩ <;> (first | rfl | (refine Z.lookv rfl ?_; simp; done) | (refine Z.lookv rfl ?_; simp; omega))) ⟨⟨Nat.zero_le _, rfl⟩, hs⟩ ?_
  clear hs
  rintro ⟨k, bl⟩ w9 ⟨⟨hkm, hbm⟩, hs⟩
  refine Z.only [3, 4, 5, 7, 8, 9] rfl ?_
  (try dsimp only at hs)
  dsimp only at hkm hbm hs
  refine Z.seq ?_
  refine Z.seq ?_
  refine Z.region ?_
  refine Z.lb 2 rfl ?_
  refine Z.l rfl rfl (by rfl) (Z.keepS hs) (Z.Yd.lenS rfl Try.underlying26) ?_
  refine Z.lb 1 rfl ?_
  refine Z.lnil ?_
  refine Z.only [3, 4, 5, 7, 8, 9, 33] rfl ?_
  refine Z.nthen ?_
  refine Z.cond rfl (fun hc9 => ?_) (fun hc9 => ?_)
  · first
      | (exfalso; simp at hc9 <;> omega)
      | (
        (try simp at hc9)
        obtain ⟨go, co', e, -, -⟩ := row_form (j := 0) hs rfl (by omega)
        cases e
        refine Z.skip ?_
        refine Z.nthen ?_
        refine Z.seq ?_
        refine Z.block ?_
        refine Z.region ?_
        refine Z.lb 2 rfl ?_
        refine Z.l rfl rfl (by rfl) (Z.keepS hs) (Z.Yd.elem rfl rfl Try.underlying26 Try.sizeOf5 (fun hG => ⟨(by first | omega | (have hG' := Z.gh rfl hG; simp at hG'; omega)), (by first | omega | (have hG' := Z.gh rfl hG; simp at hG'; omega))⟩)) ?_
        refine Z.l rfl rfl (by rfl) (Z.keepS hs) (by first | exact Z.Yd.load rfl Try.isAgg5 (fun _ => Z.cellB (by first | ((repeat (first | exact List.mem_cons_self | refine List.mem_cons_of_mem _ ?_ | refine List.mem_append_right _ ?_)); done) | fail) rfl) | exact Z.Yd.load rfl Try.isAgg5 (fun hG => Z.cellR (by first | ((repeat (first | exact List.mem_cons_self | refine List.mem_cons_of_mem _ ?_ | refine List.mem_append_right _ ?_)); done) | fail) (Z.ints_at (by first | omega | (have hG' := Z.gh rfl hG; simp at hG'; omega)) (by first | omega | (have hG' := Z.gh rfl hG; simp at hG'; omega)))) | exact Z.Yd.load rfl Try.isAgg5 (fun hG => Z.cellXi (by assumption) (by first | omega | (have hG' := Z.gh rfl hG; simp at hG'; omega)) (by first | omega | (have hG' := Z.gh rfl hG; simp at hG'; omega))) | exact Z.Yd.load rfl Try.isAgg5 (fun hG => Z.cellS (by assumption) rfl (by first | omega | (have hG' := Z.gh rfl hG; simp at hG'; omega)) (by first | omega | (have hG' := Z.gh rfl hG; simp at hG'; omega))) | fail "load 11.3") ?_
        refine Z.l rfl rfl (by rfl) (Z.keepS hs) (Z.Yd.add rfl rfl (fun _ => rfl)) ?_
        refine Z.l rfl rfl (by rfl) (Z.keepS hs) (Z.Yd.elem rfl rfl Try.underlying26 Try.sizeOf5 (fun hG => ⟨(by first | omega | (have hG' := Z.gh rfl hG; simp at hG'; omega)), (by first | omega | (have hG' := Z.gh rfl hG; simp at hG'; omega))⟩)) ?_
        refine Z.le rfl trivial ?_
        first | refine Z.ZO.store rfl rfl hs Try.sizeOf5 rfl rfl rfl (by first | exact SX.at0 | exact SX.at1 | exact SX.at2 | exact SX.at3 | exact SX.at4 | exact SX.at5 | exact Z.at6 | exact Z.at7 | exact Z.at8 | exact Z.at9 | exact Z.at10 | exact Z.at11 | exact Z.at12) (by first | (simp; done) | (simp; omega)) ?_ | refine Z.ZO.storeR rfl rfl hs Try.sizeOf5 rfl rfl rfl (by first | exact SX.at0 | exact SX.at1 | exact SX.at2 | exact SX.at3 | exact SX.at4 | exact SX.at5 | exact Z.at6 | exact Z.at7 | exact Z.at8 | exact Z.at9 | exact Z.at10 | exact Z.at11 | exact Z.at12) (by first | omega | (simp [ints_length]; done) | (simp [ints_length]; omega)) ?_
        clear hs; intro ws hs
        simp only [Nat.zero_add, Nat.add_zero, Nat.reduceAdd, Int.reduceToNat, Nat.reduceMul, List.set_cons_zero, List.set_cons_succ, List.setIfInBounds_toArray] at hs
        refine Z.lnil ?_
        refine Z.only [3, 4, 5, 7, 8, 9] rfl ?_
        refine Z.nblock ?_
        refine Z.nthen ?_
        refine Z.region ?_
        refine Z.lb 1 rfl ?_
        refine Z.l rfl rfl (by rfl) (Z.keepS hs) (Z.Yd.add rfl rfl (fun hG => Z.wi64 (by first | omega | (have hG' := Z.gh rfl hG; simp at hG'; omega)))) ?_
        refine Z.lb 1 rfl ?_
        refine Z.lnil ?_
        refine Z.only [3, 4, 5, 7, 8, 9] rfl ?_
        refine Z.nthen ?_
        rw [ints_set] at hs
        exact Z.again (k + 1, _) (by refine ⟨?_, ?_, ?_, ?_, ?_, ?_, trivial⟩ <;> (first | rfl | (refine Z.lookv rfl ?_; simp; done) | (refine Z.lookv rfl ?_; simp; omega))) ⟨⟨by simp only; omega, by simpa using hbm⟩, hs⟩ (by simp only; omega)
        )
  · first
      | (exfalso; simp at hc9 <;> omega)
      | (
        (try simp at hc9)
        refine Z.exit ?_
        refine Z.xthen ?_
        refine Z.xthen ?_
        refine Z.xblock ?_
        refine Z.nthen ?_
        refine Z.seq ?_
        refine Z.seq ?_
        refine Z.region ?_
        refine Z.le rfl trivial ?_
        refine Z.ZO.alloc rfl rfl (by rfl) Try.zeroValue3 rfl hs ?_
        clear hs; intro g10 w10 hs
        refine Z.le rfl trivial ?_
        first | refine Z.ZO.store rfl rfl hs Try.sizeOf3 rfl rfl rfl (by first | exact SX.at0 | exact SX.at1 | exact SX.at2 | exact SX.at3 | exact SX.at4 | exact SX.at5 | exact Z.at6 | exact Z.at7 | exact Z.at8 | exact Z.at9 | exact Z.at10 | exact Z.at11 | exact Z.at12) (by first | (simp; done) | (simp; omega)) ?_ | refine Z.ZO.storeR rfl rfl hs Try.sizeOf3 rfl rfl rfl (by first | exact SX.at0 | exact SX.at1 | exact SX.at2 | exact SX.at3 | exact SX.at4 | exact SX.at5 | exact Z.at6 | exact Z.at7 | exact Z.at8 | exact Z.at9 | exact Z.at10 | exact Z.at11 | exact Z.at12) (by first | omega | (simp [ints_length]; done) | (simp [ints_length]; omega)) ?_
        clear hs; intro ws hs
        simp only [Nat.zero_add, Nat.add_zero, Nat.reduceAdd, Int.reduceToNat, Nat.reduceMul, List.set_cons_zero, List.set_cons_succ, List.setIfInBounds_toArray] at hs
        refine Z.lnil ?_
        refine Z.only [3, 4, 5, 8, 10] rfl ?_
        replace hs : SX.St w [] _ (SX.Ent.blk g10 3 #[.int .i64 (0 : Int)] :: SX.Ent.blk g5 22 #[.slice Bp K kp] :: SX.Ent.row (.slice Bp K kp) 47 2 K (ps.flatMap MpV.cells) :: SX.Ent.blk g4 4 #[.bool false] :: SX.Ent.blk g3 3 #[.int .i64 many] :: SX.Ent.blk gg 22 #[.slice Be K ke] :: SX.Ent.row (.slice Be K ke) 47 2 K (cellsQ qs) :: rowsQ qs) := hs.sub (((List.Sublist.refl _).cons _).cons_cons _)
        refine Z.nthen ?_
        refine Z.block ?_
        refine Z.loopD (ι := Nat × Nat × List Nat) (fun x => x.2.2.map Z.mkD) [3, 4, 5, 8] rfl (fun x => [(10, [], .pointer (some ⟨x.1, 0, none⟩))]) (fun x wr => x.2.1 ≤ 2 ∧ SX.St w [] wr (SX.Ent.blk x.1 3 #[.int .i64 (x.2.1 : Int)] :: SX.Ent.blk g5 22 #[.slice Bp K kp] :: SX.Ent.row (.slice Bp K kp) 47 2 K (ps.flatMap MpV.cells) :: SX.Ent.blk g4 4 #[.bool false] :: SX.Ent.blk g3 3 #[.int .i64 many] :: ((SX.Ent.blk gg 22 #[.slice Be K ke] :: SX.Ent.row (.slice Be K ke) 47 2 K (cellsQ qs) :: rowsQ qs) ++ x.2.2.map Z.mkE))) (fun x => 2 - x.2.1) (g10, 0, []) rfl (by refine ⟨?_, trivial⟩ <;> (first | rfl | (refine Z.lookv rfl ?_; simp; done) | (refine Z.lookv rfl ?_; simp; omega))) ⟨by simp only; omega, by simpa using hs⟩ ?_
        clear hs
        rintro ⟨g10, turn, ds⟩ w13 ⟨ht, hs⟩
        refine Z.only [3, 4, 5, 8, 10] rfl ?_
        (try dsimp only at hs)
        dsimp only at ht
        refine Z.seq ?_
        refine Z.seq ?_
        refine Z.region ?_
        refine Z.l rfl rfl (by rfl) (Z.keepS hs) (by first | exact Z.Yd.load rfl Try.isAgg3 (fun _ => Z.cellB (by first | ((repeat (first | exact List.mem_cons_self | refine List.mem_cons_of_mem _ ?_ | refine List.mem_append_right _ ?_)); done) | fail) rfl) | exact Z.Yd.load rfl Try.isAgg3 (fun _ => Z.cellO (by assumption) (by simp) (by assumption)) | fail "load 13.0") ?_
        refine Z.lb 1 rfl ?_
        refine Z.lnil ?_
        refine Z.only [3, 4, 5, 8, 10, 43] rfl ?_
        refine Z.nthen ?_
        refine Z.cond rfl (fun hc13 => ?_) (fun hc13 => ?_)
        · first
            | (exfalso; simp at hc13 <;> omega)
            | (
              (try simp at hc13)
              have ht2 : turn < 2 := by omega
              refine Z.skip ?_
              refine Z.nthen ?_
              refine Z.seq ?_
              refine Z.block ?_
              refine Z.seq ?_
              refine Z.region ?_
              refine Z.le rfl trivial ?_
              refine Z.ZO.alloc rfl rfl (by rfl) Try.zeroValue3 rfl hs ?_
              clear hs; intro g11 w11 hs
              refine Z.le rfl trivial ?_
              first | refine Z.ZO.store rfl rfl hs Try.sizeOf3 rfl rfl rfl (by first | exact SX.at0 | exact SX.at1 | exact SX.at2 | exact SX.at3 | exact SX.at4 | exact SX.at5 | exact Z.at6 | exact Z.at7 | exact Z.at8 | exact Z.at9 | exact Z.at10 | exact Z.at11 | exact Z.at12) (by first | (simp; done) | (simp; omega)) ?_ | refine Z.ZO.storeR rfl rfl hs Try.sizeOf3 rfl rfl rfl (by first | exact SX.at0 | exact SX.at1 | exact SX.at2 | exact SX.at3 | exact SX.at4 | exact SX.at5 | exact Z.at6 | exact Z.at7 | exact Z.at8 | exact Z.at9 | exact Z.at10 | exact Z.at11 | exact Z.at12) (by first | omega | (simp [ints_length]; done) | (simp [ints_length]; omega)) ?_
              clear hs; intro ws hs
              simp only [Nat.zero_add, Nat.add_zero, Nat.reduceAdd, Int.reduceToNat, Nat.reduceMul, List.set_cons_zero, List.set_cons_succ, List.setIfInBounds_toArray] at hs
              refine Z.lnil ?_
              refine Z.only [3, 4, 5, 8, 10, 11] rfl ?_
              refine Z.nthen ?_
              refine Z.seq ?_
              refine Z.seq ?_
              refine Z.region ?_
              refine Z.lb 1 rfl ?_
              refine Z.lnil ?_
              refine Z.only [3, 4, 5, 8, 10, 11, 46] rfl ?_
              refine Z.nthen ?_
              refine Z.block ?_
              refine Z.rangeFunc (ps := [47, 48]) (L0 := SX.Ent.blk g11 3 #[.int .i64 (0 : Int)] :: SX.Ent.blk g10 3 #[.int .i64 (turn : Int)] :: SX.Ent.blk g5 22 #[.slice Bp K kp] :: SX.Ent.row (.slice Bp K kp) 47 2 K (ps.flatMap MpV.cells) :: SX.Ent.blk g4 4 #[.bool false] :: SX.Ent.blk g3 3 #[.int .i64 many] :: ds.map Z.mkE) (each_seq gg _ Be ke K qs hqK (by omega) hqf) rfl Try.call49 ((Z.toRange (C := [_, _, _, _, _, _]) (E0 := SX.Ent.blk gg 22 #[.slice Be K ke] :: SX.Ent.row (.slice Be K ke) 47 2 K (cellsQ qs) :: rowsQ qs) hs)) trivial (by rintro x args Lx ⟨By, cy, coy, rfl, rfl⟩; rfl) rfl (fun pre L => (turn = 0 → (pre = [] ∨ (pre.length : Int) < many)) ∧ L = SX.Ent.blk g11 3 #[.int .i64 (pre.length : Int)] :: SX.Ent.blk g10 3 #[.int .i64 (turn : Int)] :: SX.Ent.blk g5 22 #[.slice Bp K kp] :: SX.Ent.row (.slice Bp K kp) 47 2 K (ps.flatMap MpV.cells) :: SX.Ent.blk g4 4 #[.bool false] :: SX.Ent.blk g3 3 #[.int .i64 many] :: ds.map Z.mkE) (fun q L => (turn = 0 ∧ q = .exit 4) ∧ ∃ N : Nat, (N : Int) = min (K : Int) (max 1 many) ∧ L = SX.Ent.blk g11 3 #[.int .i64 (N : Int)] :: SX.Ent.blk g10 3 #[.int .i64 (turn : Int)] :: SX.Ent.blk g5 22 #[.slice Bp K kp] :: SX.Ent.row (.slice Bp K kp) 47 2 K (ps.flatMap MpV.cells) :: SX.Ent.blk g4 4 #[.bool false] :: SX.Ent.blk g3 3 #[.int .i64 many] :: ds.map Z.mkE) ⟨fun _ => .inl rfl, rfl⟩ ?_ ?_ ?_
              · clear hs
                rintro l4 Z4 pre x args W4 L4 Lx ⟨hi, rfl⟩ hpre ⟨By, cy, coy, rfl, rfl⟩ hs
                refine ⟨_, rfl, ?_⟩
                refine Z.seq ?_
                refine Z.region ?_
                obtain ⟨hpx, hxK⟩ := prefix_range hpre
                have hpl2 : pre.length = x := by rw [hpx, List.length_range]
                obtain ⟨q, hq⟩ : ∃ q, ps[x]? = some q := ⟨_, List.getElem?_eq_getElem (by omega)⟩
                have hrq : (plainQ qs)[x]! = q.plain := by
                  rw [hpq, ← hpl, getElem!_def, List.getElem?_map, hq]
                  rfl
                rw [hrq] at hs ⊢
                have hqm := List.mem_of_getElem? hq
                have hone := mp_one q
                simp only [List.cons_append, List.nil_append, MpV.plain] at hs
                obtain ⟨gP, cP, eP, -, -⟩ := row_form (j := 4) hs rfl (by omega)
                cases eP
                subst hpl2
                refine Z.l rfl rfl (by rfl) (Z.keepS hs) (Z.Yd.pure rfl) ?_
                refine Z.lnil ?_
                refine Z.only [3, 4, 5, 8, 10, 11, 12, 48] rfl ?_
                refine Z.nthen ?_
                refine Z.region ?_
                refine Z.le rfl trivial ?_
                refine Z.ZO.alloc rfl rfl (by rfl) Try.zeroValue47 rfl hs ?_
                clear hs; intro g13 w13 hs
                refine Z.le rfl trivial ?_
                first | refine Z.ZO.storeA rfl rfl hs rfl rfl (by kernel_rfl) (by first | (simp [Value.oneCell']; done) | (refine Z.all_one ?_; assumption)) (by first | exact SX.at0 | exact SX.at1 | exact SX.at2 | exact SX.at3 | exact SX.at4 | exact SX.at5 | exact Z.at6 | exact Z.at7 | exact Z.at8 | exact Z.at9 | exact Z.at10 | exact Z.at11 | exact Z.at12) (by rfl) ?_ | refine Z.ZO.storeP rfl rfl hs rfl rfl (by kernel_rfl) (by first | (simp [Value.oneCell']; done) | (refine Z.all_one ?_; assumption)) (by first | exact SX.at0 | exact SX.at1 | exact SX.at2 | exact SX.at3 | exact SX.at4 | exact SX.at5 | exact Z.at6 | exact Z.at7 | exact Z.at8 | exact Z.at9 | exact Z.at10 | exact Z.at11 | exact Z.at12) (by first | decide | (simp; done) | (simp; omega)) ?_ | refine Z.ZO.storePR rfl rfl hs rfl rfl (by kernel_rfl) (by first | (simp [Value.oneCell']; done) | (refine Z.all_one ?_; assumption)) (by first | exact SX.at0 | exact SX.at1 | exact SX.at2 | exact SX.at3 | exact SX.at4 | exact SX.at5 | exact Z.at6 | exact Z.at7 | exact Z.at8 | exact Z.at9 | exact Z.at10 | exact Z.at11 | exact Z.at12) (by first | decide | (simp; done) | (simp; omega)) ?_
                clear hs; intro ws hs
                simp only [Nat.zero_add, Nat.add_zero, Nat.reduceAdd, Int.reduceToNat, Nat.reduceMul, List.set_cons_zero, List.set_cons_succ, List.setIfInBounds_toArray] at hs
                try simp only [Z.putL, Nat.zero_add] at hs
                refine Z.lnil ?_
                refine Z.only [3, 4, 5, 8, 10, 11, 12, 13] rfl ?_
                refine Z.nthen ?_
                refine Z.assigned (SX.Ent.blk g13 47 #[.int .i64 q.lc, .slice By q.l.length cy] :: SX.Ent.row (.slice By q.l.length coy) 5 1 q.l.length (ints .u8 q.l) :: SX.Ent.blk g11 3 #[.int .i64 (pre.length : Int)] :: SX.Ent.blk g10 3 #[.int .i64 (turn : Int)] :: SX.Ent.blk g5 22 #[.slice _ K kp] :: SX.Ent.row (.slice _ K kp) 47 2 K (ps.flatMap MpV.cells) :: SX.Ent.blk g4 4 #[.bool false] :: SX.Ent.blk g3 3 #[.int .i64 many] :: ds.map Z.mkE) hs ?_
                clear hs
                intro Wb4 Zb4 hs
                refine Z.block ?_
                refine Z.seq ?_
                refine Z.seq ?_
                refine Z.drawK (fun _ => true) mixed hs ?_
                clear hs; intro wd19 hs
                refine Z.tb [0] (by kernel_rfl) rfl ⟨_, hs, by first | (simp; done) | exact fun e he => List.mem_append_right _ he⟩ rfl ?_
                refine Z.t 1 rfl rfl rfl (by rfl) (by kernel_rfl) ⟨_, hs, by first | (simp; done) | exact fun e he => List.mem_append_right _ he⟩ (by first | exact Z.Yd.load rfl Try.isAgg3 (fun _ => Z.cellB (by first | ((repeat (first | exact List.mem_cons_self | refine List.mem_cons_of_mem _ ?_ | refine List.mem_append_right _ ?_)); done) | fail) rfl) | exact Z.Yd.load rfl Try.isAgg3 (fun _ => Z.cellO (by assumption) (by simp) (by assumption)) | fail "load 19.1") ?_
                refine Z.tb [2, 3] (by kernel_rfl) rfl ⟨_, hs, by first | (simp; done) | exact fun e he => List.mem_append_right _ he⟩ rfl ?_
                refine Z.t 4 rfl rfl rfl (by rfl) (by kernel_rfl) ⟨_, hs, by first | (simp; done) | exact fun e he => List.mem_append_right _ he⟩ (by first | exact Z.Yd.load rfl Try.isAgg3 (fun _ => Z.cellB (by first | ((repeat (first | exact List.mem_cons_self | refine List.mem_cons_of_mem _ ?_ | refine List.mem_append_right _ ?_)); done) | fail) rfl) | exact Z.Yd.load rfl Try.isAgg3 (fun _ => Z.cellO (by assumption) (by simp) (by assumption)) | fail "load 19.4") ?_
                refine Z.t 5 rfl rfl rfl (by rfl) (by kernel_rfl) ⟨_, hs, by first | (simp; done) | exact fun e he => List.mem_append_right _ he⟩ (by first | exact Z.Yd.load rfl Try.isAgg22 (fun _ => Z.cellB (by first | ((repeat (first | exact List.mem_cons_self | refine List.mem_cons_of_mem _ ?_ | refine List.mem_append_right _ ?_)); done) | fail) rfl) | exact Z.Yd.load rfl Try.isAgg22 (fun _ => Z.cellO (by assumption) (by simp) (by assumption)) | fail "load 19.5") ?_
                refine Z.t 6 rfl rfl rfl (by rfl) (by kernel_rfl) ⟨_, hs, by first | (simp; done) | exact fun e he => List.mem_append_right _ he⟩ (Z.Yd.lenS rfl Try.underlying22) ?_
                refine Z.tb [7, 8, 9] (by kernel_rfl) rfl ⟨_, hs, by first | (simp; done) | exact fun e he => List.mem_append_right _ he⟩ rfl ?_
                refine Z.t 10 rfl rfl rfl (by rfl) (by kernel_rfl) ⟨_, hs, by first | (simp; done) | exact fun e he => List.mem_append_right _ he⟩ (Z.Yd.fieldA (m := 0) rfl (by kernel_rfl)) ?_
                refine Z.t 11 rfl rfl rfl (by rfl) (by kernel_rfl) ⟨_, hs, by first | (simp; done) | exact fun e he => List.mem_append_right _ he⟩ (by first | exact Z.Yd.load rfl Try.isAgg3 (fun _ => Z.cellB (by first | ((repeat (first | exact List.mem_cons_self | refine List.mem_cons_of_mem _ ?_ | refine List.mem_append_right _ ?_)); done) | fail) rfl) | exact Z.Yd.load rfl Try.isAgg3 (fun _ => Z.cellO (by assumption) (by simp) (by assumption)) | fail "load 19.11") ?_
                refine Z.t 12 rfl rfl rfl (by rfl) (by kernel_rfl) ⟨_, hs, by first | (simp; done) | exact fun e he => List.mem_append_right _ he⟩ (by first | exact Z.Yd.load rfl Try.isAgg22 (fun _ => Z.cellB (by first | ((repeat (first | exact List.mem_cons_self | refine List.mem_cons_of_mem _ ?_ | refine List.mem_append_right _ ?_)); done) | fail) rfl) | exact Z.Yd.load rfl Try.isAgg22 (fun _ => Z.cellO (by assumption) (by simp) (by assumption)) | fail "load 19.12") ?_
                refine Z.t 13 rfl rfl rfl (by rfl) (by kernel_rfl) ⟨_, hs, by first | (simp; done) | exact fun e he => List.mem_append_right _ he⟩ (by first | exact Z.Yd.load rfl Try.isAgg3 (fun _ => Z.cellB (by first | ((repeat (first | exact List.mem_cons_self | refine List.mem_cons_of_mem _ ?_ | refine List.mem_append_right _ ?_)); done) | fail) rfl) | exact Z.Yd.load rfl Try.isAgg3 (fun _ => Z.cellO (by assumption) (by simp) (by assumption)) | fail "load 19.13") ?_
                refine Z.t 14 rfl rfl rfl (by rfl) (by kernel_rfl) ⟨_, hs, by first | (simp; done) | exact fun e he => List.mem_append_right _ he⟩ (Z.Yd.elem rfl rfl Try.underlying22 Try.sizeOf47 (fun hG => ⟨(by first | omega | (have hG' := Z.gh rfl hG; simp at hG'; omega)), (by first | omega | (have hG' := Z.gh rfl hG; simp at hG'; omega))⟩)) ?_
                refine Z.t 15 rfl rfl rfl (by rfl) (by kernel_rfl) ⟨_, hs, by first | (simp; done) | exact fun e he => List.mem_append_right _ he⟩ (Z.Yd.fieldA (m := 0) rfl (by kernel_rfl)) ?_
                refine Z.t 16 rfl rfl rfl (by rfl) (by kernel_rfl) ⟨_, hs, by first | (simp; done) | exact fun e he => List.mem_append_right _ he⟩ (Z.Yd.load rfl Try.isAgg3 (fun _ W hK => Z.cellsRf (by first | ((repeat (first | exact List.mem_cons_self | refine List.mem_cons_of_mem _ ?_ | refine List.mem_append_right _ ?_)); done) | fail) mp_len hq rfl W hK 0 _ rfl)) ?_
                refine Z.tb [17, 18, 19] (by kernel_rfl) rfl ⟨_, hs, by first | (simp; done) | exact fun e he => List.mem_append_right _ he⟩ rfl ?_
                refine Z.t 20 rfl rfl rfl (by rfl) (by kernel_rfl) ⟨_, hs, by first | (simp; done) | exact fun e he => List.mem_append_right _ he⟩ (Z.Yd.fieldA (m := 1) rfl (by kernel_rfl)) ?_
                refine Z.t 21 rfl rfl rfl (by rfl) (by kernel_rfl) ⟨_, hs, by first | (simp; done) | exact fun e he => List.mem_append_right _ he⟩ (by first | exact Z.Yd.load rfl Try.isAgg26 (fun _ => Z.cellB (by first | ((repeat (first | exact List.mem_cons_self | refine List.mem_cons_of_mem _ ?_ | refine List.mem_append_right _ ?_)); done) | fail) rfl) | exact Z.Yd.load rfl Try.isAgg26 (fun _ => Z.cellO (by assumption) (by simp) (by assumption)) | fail "load 19.21") ?_
                refine Z.t 22 rfl rfl rfl (by rfl) (by kernel_rfl) ⟨_, hs, by first | (simp; done) | exact fun e he => List.mem_append_right _ he⟩ (Z.Yd.b2s rfl Try.underlying26 Try.underlying5 Try.underlying9 rfl (fun W hW => by obtain ⟨R, hR, hsub⟩ := hW; exact hR.slm (A := By) (hsub _ (by first | ((repeat (first | exact List.mem_cons_self | refine List.mem_cons_of_mem _ ?_ | refine List.mem_append_right _ ?_)); done) | fail)))) ?_
                refine Z.t 23 rfl rfl rfl (by rfl) (by kernel_rfl) ⟨_, hs, by first | (simp; done) | exact fun e he => List.mem_append_right _ he⟩ (by first | exact Z.Yd.load rfl Try.isAgg22 (fun _ => Z.cellB (by first | ((repeat (first | exact List.mem_cons_self | refine List.mem_cons_of_mem _ ?_ | refine List.mem_append_right _ ?_)); done) | fail) rfl) | exact Z.Yd.load rfl Try.isAgg22 (fun _ => Z.cellO (by assumption) (by simp) (by assumption)) | fail "load 19.23") ?_
                refine Z.t 24 rfl rfl rfl (by rfl) (by kernel_rfl) ⟨_, hs, by first | (simp; done) | exact fun e he => List.mem_append_right _ he⟩ (by first | exact Z.Yd.load rfl Try.isAgg3 (fun _ => Z.cellB (by first | ((repeat (first | exact List.mem_cons_self | refine List.mem_cons_of_mem _ ?_ | refine List.mem_append_right _ ?_)); done) | fail) rfl) | exact Z.Yd.load rfl Try.isAgg3 (fun _ => Z.cellO (by assumption) (by simp) (by assumption)) | fail "load 19.24") ?_
                refine Z.t 25 rfl rfl rfl (by rfl) (by kernel_rfl) ⟨_, hs, by first | (simp; done) | exact fun e he => List.mem_append_right _ he⟩ (Z.Yd.elem rfl rfl Try.underlying22 Try.sizeOf47 (fun hG => ⟨(by first | omega | (have hG' := Z.gh rfl hG; simp at hG'; omega)), (by first | omega | (have hG' := Z.gh rfl hG; simp at hG'; omega))⟩)) ?_
                refine Z.t 26 rfl rfl rfl (by rfl) (by kernel_rfl) ⟨_, hs, by first | (simp; done) | exact fun e he => List.mem_append_right _ he⟩ (Z.Yd.fieldA (m := 1) rfl (by kernel_rfl)) ?_
                refine Z.t 27 rfl rfl rfl (by rfl) (by kernel_rfl) ⟨_, hs, by first | (simp; done) | exact fun e he => List.mem_append_right _ he⟩ (Z.Yd.load rfl Try.isAgg26 (fun _ W hK => Z.cellsRf (by first | ((repeat (first | exact List.mem_cons_self | refine List.mem_cons_of_mem _ ?_ | refine List.mem_append_right _ ?_)); done) | fail) mp_len hq rfl W hK 1 _ rfl)) ?_
                refine Z.t 28 rfl rfl rfl (by rfl) (by kernel_rfl) ⟨_, hs, by first | (simp; done) | exact fun e he => List.mem_append_right _ he⟩ (Z.Yd.b2s rfl Try.underlying26 Try.underlying5 Try.underlying9 rfl (fun W hW => by obtain ⟨R, hR, hsub⟩ := hW; exact hB q hqm W (hx.st hR))) ?_
                refine Z.t 29 rfl rfl rfl (by rfl) (by kernel_rfl) ⟨_, hs, by first | (simp; done) | exact fun e he => List.mem_append_right _ he⟩ (Z.Yd.bin rfl rfl (by intro _ w; go_simp; try rfl)) ?_
                refine Z.tb [30] (by kernel_rfl) rfl ⟨_, hs, by first | (simp; done) | exact fun e he => List.mem_append_right _ he⟩ rfl ?_
                refine Z.td (by rfl) (by kernel_rfl) ?_
                refine Z.only [3, 4, 5, 8, 10, 11, 79] rfl ?_
                refine Z.nthen ?_
                refine Z.cond rfl (fun h => absurd h (by simp <;> omega)) (fun hc19 => ?_)
                refine Z.skip ?_
                refine Z.nthen ?_
                refine Z.seq ?_
                refine Z.region ?_
                refine Z.l rfl rfl (by rfl) (Z.keepS hs) (by first | exact Z.Yd.load rfl Try.isAgg3 (fun _ => Z.cellB (by first | ((repeat (first | exact List.mem_cons_self | refine List.mem_cons_of_mem _ ?_ | refine List.mem_append_right _ ?_)); done) | fail) rfl) | exact Z.Yd.load rfl Try.isAgg3 (fun _ => Z.cellO (by assumption) (by simp) (by assumption)) | fail "load 21.0") ?_
                refine Z.l rfl rfl (by rfl) (Z.keepS hs) (Z.Yd.add rfl rfl (fun hG => Z.wi64 (by first | omega | (have hG' := Z.gh rfl hG; simp at hG'; omega)))) ?_
                refine Z.le rfl trivial ?_
                first | refine Z.ZO.store rfl rfl hs Try.sizeOf3 rfl rfl rfl (by first | exact SX.at0 | exact SX.at1 | exact SX.at2 | exact SX.at3 | exact SX.at4 | exact SX.at5 | exact Z.at6 | exact Z.at7 | exact Z.at8 | exact Z.at9 | exact Z.at10 | exact Z.at11 | exact Z.at12) (by first | (simp; done) | (simp; omega)) ?_ | refine Z.ZO.storeR rfl rfl hs Try.sizeOf3 rfl rfl rfl (by first | exact SX.at0 | exact SX.at1 | exact SX.at2 | exact SX.at3 | exact SX.at4 | exact SX.at5 | exact Z.at6 | exact Z.at7 | exact Z.at8 | exact Z.at9 | exact Z.at10 | exact Z.at11 | exact Z.at12) (by first | omega | (simp [ints_length]; done) | (simp [ints_length]; omega)) ?_
                clear hs; intro ws hs
                simp only [Nat.zero_add, Nat.add_zero, Nat.reduceAdd, Int.reduceToNat, Nat.reduceMul, List.set_cons_zero, List.set_cons_succ, List.setIfInBounds_toArray] at hs
                refine Z.lnil ?_
                refine Z.only [3, 4, 5, 8, 10, 11] rfl ?_
                refine Z.nthen ?_
                refine Z.seq ?_
                refine Z.region ?_
                refine Z.l rfl rfl (by rfl) (Z.keepS hs) (by first | exact Z.Yd.load rfl Try.isAgg3 (fun _ => Z.cellB (by first | ((repeat (first | exact List.mem_cons_self | refine List.mem_cons_of_mem _ ?_ | refine List.mem_append_right _ ?_)); done) | fail) rfl) | exact Z.Yd.load rfl Try.isAgg3 (fun _ => Z.cellO (by assumption) (by simp) (by assumption)) | fail "load 22.0") ?_
                refine Z.lb 2 rfl ?_
                refine Z.split (s := 84) rfl (fun hsp84 => ?_) (fun hsp84 => ?_)
                · first
                    | (exfalso; simp at hsp84 <;> omega)
                    | (
                      refine Z.yes (s := 84) (b := true) rfl hsp84 rfl ?_
                      (try simp at hsp84)
                      refine Z.l rfl rfl (by rfl) (Z.keepS hs) (by first | exact Z.Yd.load rfl Try.isAgg3 (fun _ => Z.cellB (by first | ((repeat (first | exact List.mem_cons_self | refine List.mem_cons_of_mem _ ?_ | refine List.mem_append_right _ ?_)); done) | fail) rfl) | exact Z.Yd.load rfl Try.isAgg3 (fun _ => Z.cellO (by assumption) (by simp) (by assumption)) | fail "load 22.3") ?_
                      refine Z.l rfl rfl (by rfl) (Z.keepS hs) (by first | exact Z.Yd.load rfl Try.isAgg3 (fun _ => Z.cellB (by first | ((repeat (first | exact List.mem_cons_self | refine List.mem_cons_of_mem _ ?_ | refine List.mem_append_right _ ?_)); done) | fail) rfl) | exact Z.Yd.load rfl Try.isAgg3 (fun _ => Z.cellO (by assumption) (by simp) (by assumption)) | fail "load 22.4") ?_
                      refine Z.lb 1 rfl ?_
                      refine Z.yes (s := 84) (b := true) rfl rfl rfl ?_
                      refine Z.l rfl rfl (by rfl) (Z.keepS hs) (Z.Yd.pickT rfl rfl) ?_
                      refine Z.lnil ?_
                      refine Z.only [3, 4, 5, 8, 10, 11, 88] rfl ?_
                      refine Z.nthen ?_
                      refine Z.cond rfl (fun hc22 => ?_) (fun hc22 => ?_)
                      · first
                          | (exfalso; simp at hc22 <;> omega)
                          | (
                            (try simp at hc22)
                            refine Z.exit ?_
                            refine Z.xblockn rfl ?_
                            simp only [List.cons_append, List.set_cons_succ, List.set_cons_zero] at hs
                            have hN : ((pre.length + 1 : Nat) : Int) = min (K : Int) (max 1 many) := by
                              rcases hi (by omega) with h | h
                              · have h2 : pre.length = 0 := by rw [h]; rfl
                                omega
                              · omega
                            refine Z.rexit _ ⟨⟨by omega, rfl⟩, pre.length + 1, hN, rfl⟩ hs.tl.tl
                            )
                      · first
                          | (exfalso; simp at hc22 <;> omega)
                          | (
                            (try simp at hc22)
                            refine Z.skip ?_
                            refine Z.nblock ?_
                            have e : ((pre ++ [pre.length]).length : Int) = pre.length + 1 := by simp
                            simp only [List.cons_append, List.set_cons_succ, List.set_cons_zero] at hs
                            refine Z.rnorm _ ⟨fun h => .inr (by rw [e]; omega), by rw [e]⟩ hs.tl.tl
                            )
                      )
                · first
                    | (exfalso; simp at hsp84 <;> omega)
                    | (
                      refine Z.yes (s := 84) (b := false) rfl hsp84 rfl ?_
                      (try simp at hsp84)
                      refine Z.ls rfl rfl rfl (by rfl) ?_
                      refine Z.ls rfl rfl rfl (by rfl) ?_
                      refine Z.ls rfl rfl rfl (by rfl) ?_
                      refine Z.l rfl rfl (by rfl) (Z.keepS hs) (Z.Yd.pickF rfl rfl) ?_
                      refine Z.lnil ?_
                      refine Z.only [3, 4, 5, 8, 10, 11, 88] rfl ?_
                      refine Z.nthen ?_
                      refine Z.cond rfl (fun hc22 => ?_) (fun hc22 => ?_)
                      · first
                          | (exfalso; simp at hc22 <;> omega)
                          | (
                            (try simp at hc22)
                            refine Z.exit ?_
                            refine Z.xblockn rfl ?_
                            simp only [List.cons_append, List.set_cons_succ, List.set_cons_zero] at hs
                            have hN : ((pre.length + 1 : Nat) : Int) = min (K : Int) (max 1 many) := by
                              rcases hi (by omega) with h | h
                              · have h2 : pre.length = 0 := by rw [h]; rfl
                                omega
                              · omega
                            refine Z.rexit _ ⟨⟨by omega, rfl⟩, pre.length + 1, hN, rfl⟩ hs.tl.tl
                            )
                      · first
                          | (exfalso; simp at hc22 <;> omega)
                          | (
                            (try simp at hc22)
                            refine Z.skip ?_
                            refine Z.nblock ?_
                            have e : ((pre ++ [pre.length]).length : Int) = pre.length + 1 := by simp
                            simp only [List.cons_append, List.set_cons_succ, List.set_cons_zero] at hs
                            refine Z.rnorm _ ⟨fun h => .inr (by rw [e]; omega), by rw [e]⟩ hs.tl.tl
                            )
                      )
              · clear hs
                rintro Dd W4 L4 hi hs
                obtain ⟨hi, rfl⟩ := hi
                have hrl : (List.range K).length = K := List.length_range
                rw [hrl] at hs hi
                have hn0 : turn = 0 → (K : Int) = min (K : Int) (max 1 many) := fun h => by
                  rcases hi h with h1 | h1
                  · rw [h1] at hrl; simp at hrl; omega
                  · omega
                replace hs := Z.fromRange (C := [_, _, _, _, _, _]) (E0 := SX.Ent.blk gg 22 #[.slice Be K ke] :: SX.Ent.row (.slice Be K ke) 47 2 K (cellsQ qs) :: rowsQ qs) hs
                simp only [List.cons_append, List.nil_append] at hs
                refine Z.nblock ?_
                refine Z.nthen ?_
                refine Z.seq ?_
                refine Z.region ?_
                refine Z.l rfl rfl (by rfl) (Z.keepS hs) (by first | exact Z.Yd.load rfl Try.isAgg3 (fun _ => Z.cellB (by first | ((repeat (first | exact List.mem_cons_self | refine List.mem_cons_of_mem _ ?_ | refine List.mem_append_right _ ?_)); done) | fail) rfl) | exact Z.Yd.load rfl Try.isAgg3 (fun _ => Z.cellO (by assumption) (by simp) (by assumption)) | fail "load 23.0") ?_
                refine Z.lb 2 rfl ?_
                refine Z.split (s := 91) rfl (fun hsp91 => ?_) (fun hsp91 => ?_)
                · first
                    | (exfalso; simp at hsp91 <;> omega)
                    | (
                      refine Z.yes (s := 91) (b := true) rfl hsp91 rfl ?_
                      (try simp at hsp91)
                      refine Z.l rfl rfl (by rfl) (Z.keepS hs) (by first | exact Z.Yd.load rfl Try.isAgg3 (fun _ => Z.cellB (by first | ((repeat (first | exact List.mem_cons_self | refine List.mem_cons_of_mem _ ?_ | refine List.mem_append_right _ ?_)); done) | fail) rfl) | exact Z.Yd.load rfl Try.isAgg3 (fun _ => Z.cellO (by assumption) (by simp) (by assumption)) | fail "load 23.3") ?_
                      refine Z.l rfl rfl (by rfl) (Z.keepS hs) (by first | exact Z.Yd.load rfl Try.isAgg22 (fun _ => Z.cellB (by first | ((repeat (first | exact List.mem_cons_self | refine List.mem_cons_of_mem _ ?_ | refine List.mem_append_right _ ?_)); done) | fail) rfl) | exact Z.Yd.load rfl Try.isAgg22 (fun _ => Z.cellO (by assumption) (by simp) (by assumption)) | fail "load 23.4") ?_
                      refine Z.l rfl rfl (by rfl) (Z.keepS hs) (Z.Yd.lenS rfl Try.underlying22) ?_
                      refine Z.l rfl rfl (by rfl) (Z.keepS hs) (by first | exact Z.Yd.load rfl Try.isAgg3 (fun _ => Z.cellB (by first | ((repeat (first | exact List.mem_cons_self | refine List.mem_cons_of_mem _ ?_ | refine List.mem_append_right _ ?_)); done) | fail) rfl) | exact Z.Yd.load rfl Try.isAgg3 (fun _ => Z.cellO (by assumption) (by simp) (by assumption)) | fail "load 23.6") ?_
                      refine Z.l rfl rfl (by rfl) (Z.keepS hs) (Z.Yd.max rfl rfl) ?_
                      refine Z.l rfl rfl (by rfl) (Z.keepS hs) (Z.Yd.min rfl rfl) ?_
                      refine Z.lb 1 rfl ?_
                      refine Z.yes (s := 91) (b := true) rfl rfl rfl ?_
                      refine Z.l rfl rfl (by rfl) (Z.keepS hs) (Z.Yd.pickT rfl rfl) ?_
                      refine Z.lb 1 rfl ?_
                      refine Z.yes (s := 100) (b := false) rfl ((by first | (simp; done) | (have h := hn0 (by omega); simp [← h]; done) | (exfalso; omega))) rfl ?_
                      refine Z.l rfl rfl (by rfl) (Z.keepS hs) (by first | exact Z.Yd.load rfl Try.isAgg3 (fun _ => Z.cellB (by first | ((repeat (first | exact List.mem_cons_self | refine List.mem_cons_of_mem _ ?_ | refine List.mem_append_right _ ?_)); done) | fail) rfl) | exact Z.Yd.load rfl Try.isAgg3 (fun _ => Z.cellO (by assumption) (by simp) (by assumption)) | fail "load 23.12") ?_
                      refine Z.lb 2 rfl ?_
                      refine Z.yes (s := 100) (b := false) rfl rfl rfl ?_
                      refine Z.split (s := 103) rfl (fun hsp103 => ?_) (fun hsp103 => ?_)
                      · first
                          | (exfalso; simp at hsp103 <;> omega)
                          | (
                            refine Z.yes (s := 103) (b := true) rfl hsp103 rfl ?_
                            (try simp at hsp103)
                            refine Z.l rfl rfl (by rfl) (Z.keepS hs) (by first | exact Z.Yd.load rfl Try.isAgg3 (fun _ => Z.cellB (by first | ((repeat (first | exact List.mem_cons_self | refine List.mem_cons_of_mem _ ?_ | refine List.mem_append_right _ ?_)); done) | fail) rfl) | exact Z.Yd.load rfl Try.isAgg3 (fun _ => Z.cellO (by assumption) (by simp) (by assumption)) | fail "load 23.15") ?_
                            refine Z.l rfl rfl (by rfl) (Z.keepS hs) (by first | exact Z.Yd.load rfl Try.isAgg22 (fun _ => Z.cellB (by first | ((repeat (first | exact List.mem_cons_self | refine List.mem_cons_of_mem _ ?_ | refine List.mem_append_right _ ?_)); done) | fail) rfl) | exact Z.Yd.load rfl Try.isAgg22 (fun _ => Z.cellO (by assumption) (by simp) (by assumption)) | fail "load 23.16") ?_
                            refine Z.l rfl rfl (by rfl) (Z.keepS hs) (Z.Yd.lenS rfl Try.underlying22) ?_
                            refine Z.lb 1 rfl ?_
                            refine Z.yes (s := 103) (b := true) rfl rfl rfl ?_
                            refine Z.l rfl rfl (by rfl) (Z.keepS hs) (Z.Yd.pickT rfl rfl) ?_
                            refine Z.yes (s := 100) (b := false) rfl rfl rfl ?_
                            refine Z.l rfl rfl (by rfl) (Z.keepS hs) (Z.Yd.pickF rfl rfl) ?_
                            refine Z.lnil ?_
                            refine Z.only [3, 4, 5, 8, 10, 109] rfl ?_
                            refine Z.nthen ?_
                            refine Z.cond rfl (fun h => absurd h (by first | (simp; done) | (have h := hn0 (by omega); simp [← h]; done) | (exfalso; omega))) (fun hc23 => ?_)
                            refine Z.skip ?_
                            refine Z.nblock ?_
                            refine Z.nthen ?_
                            refine Z.seq ?_
                            refine Z.seq ?_
                            refine Z.region ?_
                            refine Z.l rfl rfl (by rfl) (Z.keepS hs) (by first | exact Z.Yd.load rfl Try.isAgg3 (fun _ => Z.cellB (by first | ((repeat (first | exact List.mem_cons_self | refine List.mem_cons_of_mem _ ?_ | refine List.mem_append_right _ ?_)); done) | fail) rfl) | exact Z.Yd.load rfl Try.isAgg3 (fun _ => Z.cellO (by assumption) (by simp) (by assumption)) | fail "load 25.0") ?_
                            refine Z.lnil ?_
                            refine Z.only [3, 4, 5, 8, 110] rfl ?_
                            refine Z.nthen ?_
                            refine Z.region ?_
                            refine Z.le rfl trivial ?_
                            refine Z.ZO.alloc rfl rfl (by rfl) Try.zeroValue3 rfl hs ?_
                            clear hs; intro g10 w10 hs
                            refine Z.le rfl trivial ?_
                            first | refine Z.ZO.store rfl rfl hs Try.sizeOf3 rfl rfl rfl (by first | exact SX.at0 | exact SX.at1 | exact SX.at2 | exact SX.at3 | exact SX.at4 | exact SX.at5 | exact Z.at6 | exact Z.at7 | exact Z.at8 | exact Z.at9 | exact Z.at10 | exact Z.at11 | exact Z.at12) (by first | (simp; done) | (simp; omega)) ?_ | refine Z.ZO.storeR rfl rfl hs Try.sizeOf3 rfl rfl rfl (by first | exact SX.at0 | exact SX.at1 | exact SX.at2 | exact SX.at3 | exact SX.at4 | exact SX.at5 | exact Z.at6 | exact Z.at7 | exact Z.at8 | exact Z.at9 | exact Z.at10 | exact Z.at11 | exact Z.at12) (by first | omega | (simp [ints_length]; done) | (simp [ints_length]; omega)) ?_
                            clear hs; intro ws hs
                            simp only [Nat.zero_add, Nat.add_zero, Nat.reduceAdd, Int.reduceToNat, Nat.reduceMul, List.set_cons_zero, List.set_cons_succ, List.setIfInBounds_toArray] at hs
                            refine Z.lnil ?_
                            refine Z.only [3, 4, 5, 8, 10] rfl ?_
                            refine Z.nthen ?_
                            refine Z.region ?_
                            refine Z.l rfl rfl (by rfl) (Z.keepS hs) (by first | exact Z.Yd.load rfl Try.isAgg3 (fun _ => Z.cellB (by first | ((repeat (first | exact List.mem_cons_self | refine List.mem_cons_of_mem _ ?_ | refine List.mem_append_right _ ?_)); done) | fail) rfl) | exact Z.Yd.load rfl Try.isAgg3 (fun _ => Z.cellO (by assumption) (by simp) (by assumption)) | fail "load 14.0") ?_
                            refine Z.l rfl rfl (by rfl) (Z.keepS hs) (Z.Yd.add rfl rfl (fun hG => Z.wi64 (by first | omega | (have hG' := Z.gh rfl hG; simp at hG'; omega)))) ?_
                            refine Z.le rfl trivial ?_
                            first | refine Z.ZO.store rfl rfl hs Try.sizeOf3 rfl rfl rfl (by first | exact SX.at0 | exact SX.at1 | exact SX.at2 | exact SX.at3 | exact SX.at4 | exact SX.at5 | exact Z.at6 | exact Z.at7 | exact Z.at8 | exact Z.at9 | exact Z.at10 | exact Z.at11 | exact Z.at12) (by first | (simp; done) | (simp; omega)) ?_ | refine Z.ZO.storeR rfl rfl hs Try.sizeOf3 rfl rfl rfl (by first | exact SX.at0 | exact SX.at1 | exact SX.at2 | exact SX.at3 | exact SX.at4 | exact SX.at5 | exact Z.at6 | exact Z.at7 | exact Z.at8 | exact Z.at9 | exact Z.at10 | exact Z.at11 | exact Z.at12) (by first | omega | (simp [ints_length]; done) | (simp [ints_length]; omega)) ?_
                            clear hs; intro ws hs
                            simp only [Nat.zero_add, Nat.add_zero, Nat.reduceAdd, Int.reduceToNat, Nat.reduceMul, List.set_cons_zero, List.set_cons_succ, List.setIfInBounds_toArray] at hs
                            refine Z.lnil ?_
                            refine Z.only [3, 4, 5, 8, 10] rfl ?_
                            refine Z.nthen ?_
                            exact Z.againD (g10, turn + 1, Dd :: ds) rfl (by refine ⟨?_, ?_, ?_, ?_, ?_, trivial⟩ <;> (first | rfl | (refine Z.lookv rfl ?_; simp; done) | (refine Z.lookv rfl ?_; simp; omega))) ⟨by simp only; omega, hs.sub ((((List.Sublist.refl _).cons _).cons _).cons_cons _)⟩ (by simp only; omega)
                            )
                      · first
                          | (exfalso; simp at hsp103 <;> omega)
                          | (
                            refine Z.yes (s := 103) (b := false) rfl hsp103 rfl ?_
                            (try simp at hsp103)
                            refine Z.ls rfl rfl rfl (by rfl) ?_
                            refine Z.ls rfl rfl rfl (by rfl) ?_
                            refine Z.ls rfl rfl rfl (by rfl) ?_
                            refine Z.ls rfl rfl rfl (by rfl) ?_
                            refine Z.l rfl rfl (by rfl) (Z.keepS hs) (Z.Yd.pickF rfl rfl) ?_
                            refine Z.yes (s := 100) (b := false) rfl rfl rfl ?_
                            refine Z.l rfl rfl (by rfl) (Z.keepS hs) (Z.Yd.pickF rfl rfl) ?_
                            refine Z.lnil ?_
                            refine Z.only [3, 4, 5, 8, 10, 109] rfl ?_
                            refine Z.nthen ?_
                            refine Z.cond rfl (fun h => absurd h (by first | (simp; done) | (have h := hn0 (by omega); simp [← h]; done) | (exfalso; omega))) (fun hc23 => ?_)
                            refine Z.skip ?_
                            refine Z.nblock ?_
                            refine Z.nthen ?_
                            refine Z.seq ?_
                            refine Z.seq ?_
                            refine Z.region ?_
                            refine Z.l rfl rfl (by rfl) (Z.keepS hs) (by first | exact Z.Yd.load rfl Try.isAgg3 (fun _ => Z.cellB (by first | ((repeat (first | exact List.mem_cons_self | refine List.mem_cons_of_mem _ ?_ | refine List.mem_append_right _ ?_)); done) | fail) rfl) | exact Z.Yd.load rfl Try.isAgg3 (fun _ => Z.cellO (by assumption) (by simp) (by assumption)) | fail "load 25.0") ?_
                            refine Z.lnil ?_
                            refine Z.only [3, 4, 5, 8, 110] rfl ?_
                            refine Z.nthen ?_
                            refine Z.region ?_
                            refine Z.le rfl trivial ?_
                            refine Z.ZO.alloc rfl rfl (by rfl) Try.zeroValue3 rfl hs ?_
                            clear hs; intro g10 w10 hs
                            refine Z.le rfl trivial ?_
                            first | refine Z.ZO.store rfl rfl hs Try.sizeOf3 rfl rfl rfl (by first | exact SX.at0 | exact SX.at1 | exact SX.at2 | exact SX.at3 | exact SX.at4 | exact SX.at5 | exact Z.at6 | exact Z.at7 | exact Z.at8 | exact Z.at9 | exact Z.at10 | exact Z.at11 | exact Z.at12) (by first | (simp; done) | (simp; omega)) ?_ | refine Z.ZO.storeR rfl rfl hs Try.sizeOf3 rfl rfl rfl (by first | exact SX.at0 | exact SX.at1 | exact SX.at2 | exact SX.at3 | exact SX.at4 | exact SX.at5 | exact Z.at6 | exact Z.at7 | exact Z.at8 | exact Z.at9 | exact Z.at10 | exact Z.at11 | exact Z.at12) (by first | omega | (simp [ints_length]; done) | (simp [ints_length]; omega)) ?_
                            clear hs; intro ws hs
                            simp only [Nat.zero_add, Nat.add_zero, Nat.reduceAdd, Int.reduceToNat, Nat.reduceMul, List.set_cons_zero, List.set_cons_succ, List.setIfInBounds_toArray] at hs
                            refine Z.lnil ?_
                            refine Z.only [3, 4, 5, 8, 10] rfl ?_
                            refine Z.nthen ?_
                            refine Z.region ?_
                            refine Z.l rfl rfl (by rfl) (Z.keepS hs) (by first | exact Z.Yd.load rfl Try.isAgg3 (fun _ => Z.cellB (by first | ((repeat (first | exact List.mem_cons_self | refine List.mem_cons_of_mem _ ?_ | refine List.mem_append_right _ ?_)); done) | fail) rfl) | exact Z.Yd.load rfl Try.isAgg3 (fun _ => Z.cellO (by assumption) (by simp) (by assumption)) | fail "load 14.0") ?_
                            refine Z.l rfl rfl (by rfl) (Z.keepS hs) (Z.Yd.add rfl rfl (fun hG => Z.wi64 (by first | omega | (have hG' := Z.gh rfl hG; simp at hG'; omega)))) ?_
                            refine Z.le rfl trivial ?_
                            first | refine Z.ZO.store rfl rfl hs Try.sizeOf3 rfl rfl rfl (by first | exact SX.at0 | exact SX.at1 | exact SX.at2 | exact SX.at3 | exact SX.at4 | exact SX.at5 | exact Z.at6 | exact Z.at7 | exact Z.at8 | exact Z.at9 | exact Z.at10 | exact Z.at11 | exact Z.at12) (by first | (simp; done) | (simp; omega)) ?_ | refine Z.ZO.storeR rfl rfl hs Try.sizeOf3 rfl rfl rfl (by first | exact SX.at0 | exact SX.at1 | exact SX.at2 | exact SX.at3 | exact SX.at4 | exact SX.at5 | exact Z.at6 | exact Z.at7 | exact Z.at8 | exact Z.at9 | exact Z.at10 | exact Z.at11 | exact Z.at12) (by first | omega | (simp [ints_length]; done) | (simp [ints_length]; omega)) ?_
                            clear hs; intro ws hs
                            simp only [Nat.zero_add, Nat.add_zero, Nat.reduceAdd, Int.reduceToNat, Nat.reduceMul, List.set_cons_zero, List.set_cons_succ, List.setIfInBounds_toArray] at hs
                            refine Z.lnil ?_
                            refine Z.only [3, 4, 5, 8, 10] rfl ?_
                            refine Z.nthen ?_
                            exact Z.againD (g10, turn + 1, Dd :: ds) rfl (by refine ⟨?_, ?_, ?_, ?_, ?_, trivial⟩ <;> (first | rfl | (refine Z.lookv rfl ?_; simp; done) | (refine Z.lookv rfl ?_; simp; omega))) ⟨by simp only; omega, hs.sub ((((List.Sublist.refl _).cons _).cons _).cons_cons _)⟩ (by simp only; omega)
                            )
                      )
                · first
                    | (exfalso; simp at hsp91 <;> omega)
                    | (
                      refine Z.yes (s := 91) (b := false) rfl hsp91 rfl ?_
                      (try simp at hsp91)
                      refine Z.ls rfl rfl rfl (by rfl) ?_
                      refine Z.ls rfl rfl rfl (by rfl) ?_
                      refine Z.ls rfl rfl rfl (by rfl) ?_
                      refine Z.ls rfl rfl rfl (by rfl) ?_
                      refine Z.ls rfl rfl rfl (by rfl) ?_
                      refine Z.ls rfl rfl rfl (by rfl) ?_
                      refine Z.ls rfl rfl rfl (by rfl) ?_
                      refine Z.l rfl rfl (by rfl) (Z.keepS hs) (Z.Yd.pickF rfl rfl) ?_
                      refine Z.lb 1 rfl ?_
                      refine Z.yes (s := 100) (b := false) rfl ((by first | (simp; done) | (have h := hn0 (by omega); simp [← h]; done) | (exfalso; omega))) rfl ?_
                      refine Z.l rfl rfl (by rfl) (Z.keepS hs) (by first | exact Z.Yd.load rfl Try.isAgg3 (fun _ => Z.cellB (by first | ((repeat (first | exact List.mem_cons_self | refine List.mem_cons_of_mem _ ?_ | refine List.mem_append_right _ ?_)); done) | fail) rfl) | exact Z.Yd.load rfl Try.isAgg3 (fun _ => Z.cellO (by assumption) (by simp) (by assumption)) | fail "load 23.12") ?_
                      refine Z.lb 2 rfl ?_
                      refine Z.yes (s := 100) (b := false) rfl rfl rfl ?_
                      refine Z.split (s := 103) rfl (fun hsp103 => ?_) (fun hsp103 => ?_)
                      · first
                          | (exfalso; simp at hsp103 <;> omega)
                          | (
                            refine Z.yes (s := 103) (b := true) rfl hsp103 rfl ?_
                            (try simp at hsp103)
                            refine Z.l rfl rfl (by rfl) (Z.keepS hs) (by first | exact Z.Yd.load rfl Try.isAgg3 (fun _ => Z.cellB (by first | ((repeat (first | exact List.mem_cons_self | refine List.mem_cons_of_mem _ ?_ | refine List.mem_append_right _ ?_)); done) | fail) rfl) | exact Z.Yd.load rfl Try.isAgg3 (fun _ => Z.cellO (by assumption) (by simp) (by assumption)) | fail "load 23.15") ?_
                            refine Z.l rfl rfl (by rfl) (Z.keepS hs) (by first | exact Z.Yd.load rfl Try.isAgg22 (fun _ => Z.cellB (by first | ((repeat (first | exact List.mem_cons_self | refine List.mem_cons_of_mem _ ?_ | refine List.mem_append_right _ ?_)); done) | fail) rfl) | exact Z.Yd.load rfl Try.isAgg22 (fun _ => Z.cellO (by assumption) (by simp) (by assumption)) | fail "load 23.16") ?_
                            refine Z.l rfl rfl (by rfl) (Z.keepS hs) (Z.Yd.lenS rfl Try.underlying22) ?_
                            refine Z.lb 1 rfl ?_
                            refine Z.yes (s := 103) (b := true) rfl rfl rfl ?_
                            refine Z.l rfl rfl (by rfl) (Z.keepS hs) (Z.Yd.pickT rfl rfl) ?_
                            refine Z.yes (s := 100) (b := false) rfl rfl rfl ?_
                            refine Z.l rfl rfl (by rfl) (Z.keepS hs) (Z.Yd.pickF rfl rfl) ?_
                            refine Z.lnil ?_
                            refine Z.only [3, 4, 5, 8, 10, 109] rfl ?_
                            refine Z.nthen ?_
                            refine Z.cond rfl (fun h => absurd h (by first | (simp; done) | (have h := hn0 (by omega); simp [← h]; done) | (exfalso; omega))) (fun hc23 => ?_)
                            refine Z.skip ?_
                            refine Z.nblock ?_
                            refine Z.nthen ?_
                            refine Z.seq ?_
                            refine Z.seq ?_
                            refine Z.region ?_
                            refine Z.l rfl rfl (by rfl) (Z.keepS hs) (by first | exact Z.Yd.load rfl Try.isAgg3 (fun _ => Z.cellB (by first | ((repeat (first | exact List.mem_cons_self | refine List.mem_cons_of_mem _ ?_ | refine List.mem_append_right _ ?_)); done) | fail) rfl) | exact Z.Yd.load rfl Try.isAgg3 (fun _ => Z.cellO (by assumption) (by simp) (by assumption)) | fail "load 25.0") ?_
                            refine Z.lnil ?_
                            refine Z.only [3, 4, 5, 8, 110] rfl ?_
                            refine Z.nthen ?_
                            refine Z.region ?_
                            refine Z.le rfl trivial ?_
                            refine Z.ZO.alloc rfl rfl (by rfl) Try.zeroValue3 rfl hs ?_
                            clear hs; intro g10 w10 hs
                            refine Z.le rfl trivial ?_
                            first | refine Z.ZO.store rfl rfl hs Try.sizeOf3 rfl rfl rfl (by first | exact SX.at0 | exact SX.at1 | exact SX.at2 | exact SX.at3 | exact SX.at4 | exact SX.at5 | exact Z.at6 | exact Z.at7 | exact Z.at8 | exact Z.at9 | exact Z.at10 | exact Z.at11 | exact Z.at12) (by first | (simp; done) | (simp; omega)) ?_ | refine Z.ZO.storeR rfl rfl hs Try.sizeOf3 rfl rfl rfl (by first | exact SX.at0 | exact SX.at1 | exact SX.at2 | exact SX.at3 | exact SX.at4 | exact SX.at5 | exact Z.at6 | exact Z.at7 | exact Z.at8 | exact Z.at9 | exact Z.at10 | exact Z.at11 | exact Z.at12) (by first | omega | (simp [ints_length]; done) | (simp [ints_length]; omega)) ?_
                            clear hs; intro ws hs
                            simp only [Nat.zero_add, Nat.add_zero, Nat.reduceAdd, Int.reduceToNat, Nat.reduceMul, List.set_cons_zero, List.set_cons_succ, List.setIfInBounds_toArray] at hs
                            refine Z.lnil ?_
                            refine Z.only [3, 4, 5, 8, 10] rfl ?_
                            refine Z.nthen ?_
                            refine Z.region ?_
                            refine Z.l rfl rfl (by rfl) (Z.keepS hs) (by first | exact Z.Yd.load rfl Try.isAgg3 (fun _ => Z.cellB (by first | ((repeat (first | exact List.mem_cons_self | refine List.mem_cons_of_mem _ ?_ | refine List.mem_append_right _ ?_)); done) | fail) rfl) | exact Z.Yd.load rfl Try.isAgg3 (fun _ => Z.cellO (by assumption) (by simp) (by assumption)) | fail "load 14.0") ?_
                            refine Z.l rfl rfl (by rfl) (Z.keepS hs) (Z.Yd.add rfl rfl (fun hG => Z.wi64 (by first | omega | (have hG' := Z.gh rfl hG; simp at hG'; omega)))) ?_
                            refine Z.le rfl trivial ?_
                            first | refine Z.ZO.store rfl rfl hs Try.sizeOf3 rfl rfl rfl (by first | exact SX.at0 | exact SX.at1 | exact SX.at2 | exact SX.at3 | exact SX.at4 | exact SX.at5 | exact Z.at6 | exact Z.at7 | exact Z.at8 | exact Z.at9 | exact Z.at10 | exact Z.at11 | exact Z.at12) (by first | (simp; done) | (simp; omega)) ?_ | refine Z.ZO.storeR rfl rfl hs Try.sizeOf3 rfl rfl rfl (by first | exact SX.at0 | exact SX.at1 | exact SX.at2 | exact SX.at3 | exact SX.at4 | exact SX.at5 | exact Z.at6 | exact Z.at7 | exact Z.at8 | exact Z.at9 | exact Z.at10 | exact Z.at11 | exact Z.at12) (by first | omega | (simp [ints_length]; done) | (simp [ints_length]; omega)) ?_
                            clear hs; intro ws hs
                            simp only [Nat.zero_add, Nat.add_zero, Nat.reduceAdd, Int.reduceToNat, Nat.reduceMul, List.set_cons_zero, List.set_cons_succ, List.setIfInBounds_toArray] at hs
                            refine Z.lnil ?_
                            refine Z.only [3, 4, 5, 8, 10] rfl ?_
                            refine Z.nthen ?_
                            exact Z.againD (g10, turn + 1, Dd :: ds) rfl (by refine ⟨?_, ?_, ?_, ?_, ?_, trivial⟩ <;> (first | rfl | (refine Z.lookv rfl ?_; simp; done) | (refine Z.lookv rfl ?_; simp; omega))) ⟨by simp only; omega, hs.sub ((((List.Sublist.refl _).cons _).cons _).cons_cons _)⟩ (by simp only; omega)
                            )
                      · first
                          | (exfalso; simp at hsp103 <;> omega)
                          | (
                            refine Z.yes (s := 103) (b := false) rfl hsp103 rfl ?_
                            (try simp at hsp103)
                            refine Z.ls rfl rfl rfl (by rfl) ?_
                            refine Z.ls rfl rfl rfl (by rfl) ?_
                            refine Z.ls rfl rfl rfl (by rfl) ?_
                            refine Z.ls rfl rfl rfl (by rfl) ?_
                            refine Z.l rfl rfl (by rfl) (Z.keepS hs) (Z.Yd.pickF rfl rfl) ?_
                            refine Z.yes (s := 100) (b := false) rfl rfl rfl ?_
                            refine Z.l rfl rfl (by rfl) (Z.keepS hs) (Z.Yd.pickF rfl rfl) ?_
                            refine Z.lnil ?_
                            refine Z.only [3, 4, 5, 8, 10, 109] rfl ?_
                            refine Z.nthen ?_
                            refine Z.cond rfl (fun h => absurd h (by first | (simp; done) | (have h := hn0 (by omega); simp [← h]; done) | (exfalso; omega))) (fun hc23 => ?_)
                            refine Z.skip ?_
                            refine Z.nblock ?_
                            refine Z.nthen ?_
                            refine Z.seq ?_
                            refine Z.seq ?_
                            refine Z.region ?_
                            refine Z.l rfl rfl (by rfl) (Z.keepS hs) (by first | exact Z.Yd.load rfl Try.isAgg3 (fun _ => Z.cellB (by first | ((repeat (first | exact List.mem_cons_self | refine List.mem_cons_of_mem _ ?_ | refine List.mem_append_right _ ?_)); done) | fail) rfl) | exact Z.Yd.load rfl Try.isAgg3 (fun _ => Z.cellO (by assumption) (by simp) (by assumption)) | fail "load 25.0") ?_
                            refine Z.lnil ?_
                            refine Z.only [3, 4, 5, 8, 110] rfl ?_
                            refine Z.nthen ?_
                            refine Z.region ?_
                            refine Z.le rfl trivial ?_
                            refine Z.ZO.alloc rfl rfl (by rfl) Try.zeroValue3 rfl hs ?_
                            clear hs; intro g10 w10 hs
                            refine Z.le rfl trivial ?_
                            first | refine Z.ZO.store rfl rfl hs Try.sizeOf3 rfl rfl rfl (by first | exact SX.at0 | exact SX.at1 | exact SX.at2 | exact SX.at3 | exact SX.at4 | exact SX.at5 | exact Z.at6 | exact Z.at7 | exact Z.at8 | exact Z.at9 | exact Z.at10 | exact Z.at11 | exact Z.at12) (by first | (simp; done) | (simp; omega)) ?_ | refine Z.ZO.storeR rfl rfl hs Try.sizeOf3 rfl rfl rfl (by first | exact SX.at0 | exact SX.at1 | exact SX.at2 | exact SX.at3 | exact SX.at4 | exact SX.at5 | exact Z.at6 | exact Z.at7 | exact Z.at8 | exact Z.at9 | exact Z.at10 | exact Z.at11 | exact Z.at12) (by first | omega | (simp [ints_length]; done) | (simp [ints_length]; omega)) ?_
                            clear hs; intro ws hs
                            simp only [Nat.zero_add, Nat.add_zero, Nat.reduceAdd, Int.reduceToNat, Nat.reduceMul, List.set_cons_zero, List.set_cons_succ, List.setIfInBounds_toArray] at hs
                            refine Z.lnil ?_
                            refine Z.only [3, 4, 5, 8, 10] rfl ?_
                            refine Z.nthen ?_
                            refine Z.region ?_
                            refine Z.l rfl rfl (by rfl) (Z.keepS hs) (by first | exact Z.Yd.load rfl Try.isAgg3 (fun _ => Z.cellB (by first | ((repeat (first | exact List.mem_cons_self | refine List.mem_cons_of_mem _ ?_ | refine List.mem_append_right _ ?_)); done) | fail) rfl) | exact Z.Yd.load rfl Try.isAgg3 (fun _ => Z.cellO (by assumption) (by simp) (by assumption)) | fail "load 14.0") ?_
                            refine Z.l rfl rfl (by rfl) (Z.keepS hs) (Z.Yd.add rfl rfl (fun hG => Z.wi64 (by first | omega | (have hG' := Z.gh rfl hG; simp at hG'; omega)))) ?_
                            refine Z.le rfl trivial ?_
                            first | refine Z.ZO.store rfl rfl hs Try.sizeOf3 rfl rfl rfl (by first | exact SX.at0 | exact SX.at1 | exact SX.at2 | exact SX.at3 | exact SX.at4 | exact SX.at5 | exact Z.at6 | exact Z.at7 | exact Z.at8 | exact Z.at9 | exact Z.at10 | exact Z.at11 | exact Z.at12) (by first | (simp; done) | (simp; omega)) ?_ | refine Z.ZO.storeR rfl rfl hs Try.sizeOf3 rfl rfl rfl (by first | exact SX.at0 | exact SX.at1 | exact SX.at2 | exact SX.at3 | exact SX.at4 | exact SX.at5 | exact Z.at6 | exact Z.at7 | exact Z.at8 | exact Z.at9 | exact Z.at10 | exact Z.at11 | exact Z.at12) (by first | omega | (simp [ints_length]; done) | (simp [ints_length]; omega)) ?_
                            clear hs; intro ws hs
                            simp only [Nat.zero_add, Nat.add_zero, Nat.reduceAdd, Int.reduceToNat, Nat.reduceMul, List.set_cons_zero, List.set_cons_succ, List.setIfInBounds_toArray] at hs
                            refine Z.lnil ?_
                            refine Z.only [3, 4, 5, 8, 10] rfl ?_
                            refine Z.nthen ?_
                            exact Z.againD (g10, turn + 1, Dd :: ds) rfl (by refine ⟨?_, ?_, ?_, ?_, ?_, trivial⟩ <;> (first | rfl | (refine Z.lookv rfl ?_; simp; done) | (refine Z.lookv rfl ?_; simp; omega))) ⟨by simp only; omega, hs.sub ((((List.Sublist.refl _).cons _).cons _).cons_cons _)⟩ (by simp only; omega)
                            )
                      )
              · clear hs
                rintro Dd c W4 L4 hi hs
                obtain ⟨⟨ht, rfl⟩, N, hn0, rfl⟩ := hi
                have hn0 : turn = 0 → (N : Int) = min (K : Int) (max 1 many) := fun _ => hn0
                have hn1 : turn = 1 → N = K := fun h => by omega
                replace hs := Z.fromRange (C := [_, _, _, _, _, _]) (E0 := SX.Ent.blk gg 22 #[.slice Be K ke] :: SX.Ent.row (.slice Be K ke) 47 2 K (cellsQ qs) :: rowsQ qs) hs
                simp only [List.cons_append, List.nil_append] at hs
                refine Z.exit ?_
                refine Z.xblock ?_
                refine Z.nthen ?_
                refine Z.seq ?_
                refine Z.region ?_
                refine Z.l rfl rfl (by rfl) (Z.keepS hs) (by first | exact Z.Yd.load rfl Try.isAgg3 (fun _ => Z.cellB (by first | ((repeat (first | exact List.mem_cons_self | refine List.mem_cons_of_mem _ ?_ | refine List.mem_append_right _ ?_)); done) | fail) rfl) | exact Z.Yd.load rfl Try.isAgg3 (fun _ => Z.cellO (by assumption) (by simp) (by assumption)) | fail "load 23.0") ?_
                refine Z.lb 2 rfl ?_
                refine Z.split (s := 91) rfl (fun hsp91 => ?_) (fun hsp91 => ?_)
                · first
                    | (exfalso; simp at hsp91 <;> omega)
                    | (
                      refine Z.yes (s := 91) (b := true) rfl hsp91 rfl ?_
                      (try simp at hsp91)
                      refine Z.l rfl rfl (by rfl) (Z.keepS hs) (by first | exact Z.Yd.load rfl Try.isAgg3 (fun _ => Z.cellB (by first | ((repeat (first | exact List.mem_cons_self | refine List.mem_cons_of_mem _ ?_ | refine List.mem_append_right _ ?_)); done) | fail) rfl) | exact Z.Yd.load rfl Try.isAgg3 (fun _ => Z.cellO (by assumption) (by simp) (by assumption)) | fail "load 23.3") ?_
                      refine Z.l rfl rfl (by rfl) (Z.keepS hs) (by first | exact Z.Yd.load rfl Try.isAgg22 (fun _ => Z.cellB (by first | ((repeat (first | exact List.mem_cons_self | refine List.mem_cons_of_mem _ ?_ | refine List.mem_append_right _ ?_)); done) | fail) rfl) | exact Z.Yd.load rfl Try.isAgg22 (fun _ => Z.cellO (by assumption) (by simp) (by assumption)) | fail "load 23.4") ?_
                      refine Z.l rfl rfl (by rfl) (Z.keepS hs) (Z.Yd.lenS rfl Try.underlying22) ?_
                      refine Z.l rfl rfl (by rfl) (Z.keepS hs) (by first | exact Z.Yd.load rfl Try.isAgg3 (fun _ => Z.cellB (by first | ((repeat (first | exact List.mem_cons_self | refine List.mem_cons_of_mem _ ?_ | refine List.mem_append_right _ ?_)); done) | fail) rfl) | exact Z.Yd.load rfl Try.isAgg3 (fun _ => Z.cellO (by assumption) (by simp) (by assumption)) | fail "load 23.6") ?_
                      refine Z.l rfl rfl (by rfl) (Z.keepS hs) (Z.Yd.max rfl rfl) ?_
                      refine Z.l rfl rfl (by rfl) (Z.keepS hs) (Z.Yd.min rfl rfl) ?_
                      refine Z.lb 1 rfl ?_
                      refine Z.yes (s := 91) (b := true) rfl rfl rfl ?_
                      refine Z.l rfl rfl (by rfl) (Z.keepS hs) (Z.Yd.pickT rfl rfl) ?_
                      refine Z.lb 1 rfl ?_
                      refine Z.yes (s := 100) (b := false) rfl ((by first | (simp; done) | (have h := hn0 (by omega); simp [← h]; done) | (exfalso; omega))) rfl ?_
                      refine Z.l rfl rfl (by rfl) (Z.keepS hs) (by first | exact Z.Yd.load rfl Try.isAgg3 (fun _ => Z.cellB (by first | ((repeat (first | exact List.mem_cons_self | refine List.mem_cons_of_mem _ ?_ | refine List.mem_append_right _ ?_)); done) | fail) rfl) | exact Z.Yd.load rfl Try.isAgg3 (fun _ => Z.cellO (by assumption) (by simp) (by assumption)) | fail "load 23.12") ?_
                      refine Z.lb 2 rfl ?_
                      refine Z.yes (s := 100) (b := false) rfl rfl rfl ?_
                      refine Z.split (s := 103) rfl (fun hsp103 => ?_) (fun hsp103 => ?_)
                      · first
                          | (exfalso; simp at hsp103 <;> omega)
                          | (
                            refine Z.yes (s := 103) (b := true) rfl hsp103 rfl ?_
                            (try simp at hsp103)
                            refine Z.l rfl rfl (by rfl) (Z.keepS hs) (by first | exact Z.Yd.load rfl Try.isAgg3 (fun _ => Z.cellB (by first | ((repeat (first | exact List.mem_cons_self | refine List.mem_cons_of_mem _ ?_ | refine List.mem_append_right _ ?_)); done) | fail) rfl) | exact Z.Yd.load rfl Try.isAgg3 (fun _ => Z.cellO (by assumption) (by simp) (by assumption)) | fail "load 23.15") ?_
                            refine Z.l rfl rfl (by rfl) (Z.keepS hs) (by first | exact Z.Yd.load rfl Try.isAgg22 (fun _ => Z.cellB (by first | ((repeat (first | exact List.mem_cons_self | refine List.mem_cons_of_mem _ ?_ | refine List.mem_append_right _ ?_)); done) | fail) rfl) | exact Z.Yd.load rfl Try.isAgg22 (fun _ => Z.cellO (by assumption) (by simp) (by assumption)) | fail "load 23.16") ?_
                            refine Z.l rfl rfl (by rfl) (Z.keepS hs) (Z.Yd.lenS rfl Try.underlying22) ?_
                            refine Z.lb 1 rfl ?_
                            refine Z.yes (s := 103) (b := true) rfl rfl rfl ?_
                            refine Z.l rfl rfl (by rfl) (Z.keepS hs) (Z.Yd.pickT rfl rfl) ?_
                            refine Z.yes (s := 100) (b := false) rfl rfl rfl ?_
                            refine Z.l rfl rfl (by rfl) (Z.keepS hs) (Z.Yd.pickF rfl rfl) ?_
                            refine Z.lnil ?_
                            refine Z.only [3, 4, 5, 8, 10, 109] rfl ?_
                            refine Z.nthen ?_
                            refine Z.cond rfl (fun h => absurd h (by first | (simp; done) | (have h := hn0 (by omega); simp [← h]; done) | (exfalso; omega))) (fun hc23 => ?_)
                            refine Z.skip ?_
                            refine Z.nblock ?_
                            refine Z.nthen ?_
                            refine Z.seq ?_
                            refine Z.seq ?_
                            refine Z.region ?_
                            refine Z.l rfl rfl (by rfl) (Z.keepS hs) (by first | exact Z.Yd.load rfl Try.isAgg3 (fun _ => Z.cellB (by first | ((repeat (first | exact List.mem_cons_self | refine List.mem_cons_of_mem _ ?_ | refine List.mem_append_right _ ?_)); done) | fail) rfl) | exact Z.Yd.load rfl Try.isAgg3 (fun _ => Z.cellO (by assumption) (by simp) (by assumption)) | fail "load 25.0") ?_
                            refine Z.lnil ?_
                            refine Z.only [3, 4, 5, 8, 110] rfl ?_
                            refine Z.nthen ?_
                            refine Z.region ?_
                            refine Z.le rfl trivial ?_
                            refine Z.ZO.alloc rfl rfl (by rfl) Try.zeroValue3 rfl hs ?_
                            clear hs; intro g10 w10 hs
                            refine Z.le rfl trivial ?_
                            first | refine Z.ZO.store rfl rfl hs Try.sizeOf3 rfl rfl rfl (by first | exact SX.at0 | exact SX.at1 | exact SX.at2 | exact SX.at3 | exact SX.at4 | exact SX.at5 | exact Z.at6 | exact Z.at7 | exact Z.at8 | exact Z.at9 | exact Z.at10 | exact Z.at11 | exact Z.at12) (by first | (simp; done) | (simp; omega)) ?_ | refine Z.ZO.storeR rfl rfl hs Try.sizeOf3 rfl rfl rfl (by first | exact SX.at0 | exact SX.at1 | exact SX.at2 | exact SX.at3 | exact SX.at4 | exact SX.at5 | exact Z.at6 | exact Z.at7 | exact Z.at8 | exact Z.at9 | exact Z.at10 | exact Z.at11 | exact Z.at12) (by first | omega | (simp [ints_length]; done) | (simp [ints_length]; omega)) ?_
                            clear hs; intro ws hs
                            simp only [Nat.zero_add, Nat.add_zero, Nat.reduceAdd, Int.reduceToNat, Nat.reduceMul, List.set_cons_zero, List.set_cons_succ, List.setIfInBounds_toArray] at hs
                            refine Z.lnil ?_
                            refine Z.only [3, 4, 5, 8, 10] rfl ?_
                            refine Z.nthen ?_
                            refine Z.region ?_
                            refine Z.l rfl rfl (by rfl) (Z.keepS hs) (by first | exact Z.Yd.load rfl Try.isAgg3 (fun _ => Z.cellB (by first | ((repeat (first | exact List.mem_cons_self | refine List.mem_cons_of_mem _ ?_ | refine List.mem_append_right _ ?_)); done) | fail) rfl) | exact Z.Yd.load rfl Try.isAgg3 (fun _ => Z.cellO (by assumption) (by simp) (by assumption)) | fail "load 14.0") ?_
                            refine Z.l rfl rfl (by rfl) (Z.keepS hs) (Z.Yd.add rfl rfl (fun hG => Z.wi64 (by first | omega | (have hG' := Z.gh rfl hG; simp at hG'; omega)))) ?_
                            refine Z.le rfl trivial ?_
                            first | refine Z.ZO.store rfl rfl hs Try.sizeOf3 rfl rfl rfl (by first | exact SX.at0 | exact SX.at1 | exact SX.at2 | exact SX.at3 | exact SX.at4 | exact SX.at5 | exact Z.at6 | exact Z.at7 | exact Z.at8 | exact Z.at9 | exact Z.at10 | exact Z.at11 | exact Z.at12) (by first | (simp; done) | (simp; omega)) ?_ | refine Z.ZO.storeR rfl rfl hs Try.sizeOf3 rfl rfl rfl (by first | exact SX.at0 | exact SX.at1 | exact SX.at2 | exact SX.at3 | exact SX.at4 | exact SX.at5 | exact Z.at6 | exact Z.at7 | exact Z.at8 | exact Z.at9 | exact Z.at10 | exact Z.at11 | exact Z.at12) (by first | omega | (simp [ints_length]; done) | (simp [ints_length]; omega)) ?_
                            clear hs; intro ws hs
                            simp only [Nat.zero_add, Nat.add_zero, Nat.reduceAdd, Int.reduceToNat, Nat.reduceMul, List.set_cons_zero, List.set_cons_succ, List.setIfInBounds_toArray] at hs
                            refine Z.lnil ?_
                            refine Z.only [3, 4, 5, 8, 10] rfl ?_
                            refine Z.nthen ?_
                            exact Z.againD (g10, turn + 1, Dd :: ds) rfl (by refine ⟨?_, ?_, ?_, ?_, ?_, trivial⟩ <;> (first | rfl | (refine Z.lookv rfl ?_; simp; done) | (refine Z.lookv rfl ?_; simp; omega))) ⟨by simp only; omega, hs.sub ((((List.Sublist.refl _).cons _).cons _).cons_cons _)⟩ (by simp only; omega)
                            )
                      · first
                          | (exfalso; simp at hsp103 <;> omega)
                          | (
                            refine Z.yes (s := 103) (b := false) rfl hsp103 rfl ?_
                            (try simp at hsp103)
                            refine Z.ls rfl rfl rfl (by rfl) ?_
                            refine Z.ls rfl rfl rfl (by rfl) ?_
                            refine Z.ls rfl rfl rfl (by rfl) ?_
                            refine Z.ls rfl rfl rfl (by rfl) ?_
                            refine Z.l rfl rfl (by rfl) (Z.keepS hs) (Z.Yd.pickF rfl rfl) ?_
                            refine Z.yes (s := 100) (b := false) rfl rfl rfl ?_
                            refine Z.l rfl rfl (by rfl) (Z.keepS hs) (Z.Yd.pickF rfl rfl) ?_
                            refine Z.lnil ?_
                            refine Z.only [3, 4, 5, 8, 10, 109] rfl ?_
                            refine Z.nthen ?_
                            refine Z.cond rfl (fun h => absurd h (by first | (simp; done) | (have h := hn0 (by omega); simp [← h]; done) | (exfalso; omega))) (fun hc23 => ?_)
                            refine Z.skip ?_
                            refine Z.nblock ?_
                            refine Z.nthen ?_
                            refine Z.seq ?_
                            refine Z.seq ?_
                            refine Z.region ?_
                            refine Z.l rfl rfl (by rfl) (Z.keepS hs) (by first | exact Z.Yd.load rfl Try.isAgg3 (fun _ => Z.cellB (by first | ((repeat (first | exact List.mem_cons_self | refine List.mem_cons_of_mem _ ?_ | refine List.mem_append_right _ ?_)); done) | fail) rfl) | exact Z.Yd.load rfl Try.isAgg3 (fun _ => Z.cellO (by assumption) (by simp) (by assumption)) | fail "load 25.0") ?_
                            refine Z.lnil ?_
                            refine Z.only [3, 4, 5, 8, 110] rfl ?_
                            refine Z.nthen ?_
                            refine Z.region ?_
                            refine Z.le rfl trivial ?_
                            refine Z.ZO.alloc rfl rfl (by rfl) Try.zeroValue3 rfl hs ?_
                            clear hs; intro g10 w10 hs
                            refine Z.le rfl trivial ?_
                            first | refine Z.ZO.store rfl rfl hs Try.sizeOf3 rfl rfl rfl (by first | exact SX.at0 | exact SX.at1 | exact SX.at2 | exact SX.at3 | exact SX.at4 | exact SX.at5 | exact Z.at6 | exact Z.at7 | exact Z.at8 | exact Z.at9 | exact Z.at10 | exact Z.at11 | exact Z.at12) (by first | (simp; done) | (simp; omega)) ?_ | refine Z.ZO.storeR rfl rfl hs Try.sizeOf3 rfl rfl rfl (by first | exact SX.at0 | exact SX.at1 | exact SX.at2 | exact SX.at3 | exact SX.at4 | exact SX.at5 | exact Z.at6 | exact Z.at7 | exact Z.at8 | exact Z.at9 | exact Z.at10 | exact Z.at11 | exact Z.at12) (by first | omega | (simp [ints_length]; done) | (simp [ints_length]; omega)) ?_
                            clear hs; intro ws hs
                            simp only [Nat.zero_add, Nat.add_zero, Nat.reduceAdd, Int.reduceToNat, Nat.reduceMul, List.set_cons_zero, List.set_cons_succ, List.setIfInBounds_toArray] at hs
                            refine Z.lnil ?_
                            refine Z.only [3, 4, 5, 8, 10] rfl ?_
                            refine Z.nthen ?_
                            refine Z.region ?_
                            refine Z.l rfl rfl (by rfl) (Z.keepS hs) (by first | exact Z.Yd.load rfl Try.isAgg3 (fun _ => Z.cellB (by first | ((repeat (first | exact List.mem_cons_self | refine List.mem_cons_of_mem _ ?_ | refine List.mem_append_right _ ?_)); done) | fail) rfl) | exact Z.Yd.load rfl Try.isAgg3 (fun _ => Z.cellO (by assumption) (by simp) (by assumption)) | fail "load 14.0") ?_
                            refine Z.l rfl rfl (by rfl) (Z.keepS hs) (Z.Yd.add rfl rfl (fun hG => Z.wi64 (by first | omega | (have hG' := Z.gh rfl hG; simp at hG'; omega)))) ?_
                            refine Z.le rfl trivial ?_
                            first | refine Z.ZO.store rfl rfl hs Try.sizeOf3 rfl rfl rfl (by first | exact SX.at0 | exact SX.at1 | exact SX.at2 | exact SX.at3 | exact SX.at4 | exact SX.at5 | exact Z.at6 | exact Z.at7 | exact Z.at8 | exact Z.at9 | exact Z.at10 | exact Z.at11 | exact Z.at12) (by first | (simp; done) | (simp; omega)) ?_ | refine Z.ZO.storeR rfl rfl hs Try.sizeOf3 rfl rfl rfl (by first | exact SX.at0 | exact SX.at1 | exact SX.at2 | exact SX.at3 | exact SX.at4 | exact SX.at5 | exact Z.at6 | exact Z.at7 | exact Z.at8 | exact Z.at9 | exact Z.at10 | exact Z.at11 | exact Z.at12) (by first | omega | (simp [ints_length]; done) | (simp [ints_length]; omega)) ?_
                            clear hs; intro ws hs
                            simp only [Nat.zero_add, Nat.add_zero, Nat.reduceAdd, Int.reduceToNat, Nat.reduceMul, List.set_cons_zero, List.set_cons_succ, List.setIfInBounds_toArray] at hs
                            refine Z.lnil ?_
                            refine Z.only [3, 4, 5, 8, 10] rfl ?_
                            refine Z.nthen ?_
                            exact Z.againD (g10, turn + 1, Dd :: ds) rfl (by refine ⟨?_, ?_, ?_, ?_, ?_, trivial⟩ <;> (first | rfl | (refine Z.lookv rfl ?_; simp; done) | (refine Z.lookv rfl ?_; simp; omega))) ⟨by simp only; omega, hs.sub ((((List.Sublist.refl _).cons _).cons _).cons_cons _)⟩ (by simp only; omega)
                            )
                      )
                · first
                    | (exfalso; simp at hsp91 <;> omega)
                    | (
                      refine Z.yes (s := 91) (b := false) rfl hsp91 rfl ?_
                      (try simp at hsp91)
                      refine Z.ls rfl rfl rfl (by rfl) ?_
                      refine Z.ls rfl rfl rfl (by rfl) ?_
                      refine Z.ls rfl rfl rfl (by rfl) ?_
                      refine Z.ls rfl rfl rfl (by rfl) ?_
                      refine Z.ls rfl rfl rfl (by rfl) ?_
                      refine Z.ls rfl rfl rfl (by rfl) ?_
                      refine Z.ls rfl rfl rfl (by rfl) ?_
                      refine Z.l rfl rfl (by rfl) (Z.keepS hs) (Z.Yd.pickF rfl rfl) ?_
                      refine Z.lb 1 rfl ?_
                      refine Z.yes (s := 100) (b := false) rfl ((by first | (simp; done) | (have h := hn0 (by omega); simp [← h]; done) | (exfalso; omega))) rfl ?_
                      refine Z.l rfl rfl (by rfl) (Z.keepS hs) (by first | exact Z.Yd.load rfl Try.isAgg3 (fun _ => Z.cellB (by first | ((repeat (first | exact List.mem_cons_self | refine List.mem_cons_of_mem _ ?_ | refine List.mem_append_right _ ?_)); done) | fail) rfl) | exact Z.Yd.load rfl Try.isAgg3 (fun _ => Z.cellO (by assumption) (by simp) (by assumption)) | fail "load 23.12") ?_
                      refine Z.lb 2 rfl ?_
                      refine Z.yes (s := 100) (b := false) rfl rfl rfl ?_
                      refine Z.split (s := 103) rfl (fun hsp103 => ?_) (fun hsp103 => ?_)
                      · first
                          | (exfalso; simp at hsp103 <;> omega)
                          | (
                            refine Z.yes (s := 103) (b := true) rfl hsp103 rfl ?_
                            (try simp at hsp103)
                            refine Z.l rfl rfl (by rfl) (Z.keepS hs) (by first | exact Z.Yd.load rfl Try.isAgg3 (fun _ => Z.cellB (by first | ((repeat (first | exact List.mem_cons_self | refine List.mem_cons_of_mem _ ?_ | refine List.mem_append_right _ ?_)); done) | fail) rfl) | exact Z.Yd.load rfl Try.isAgg3 (fun _ => Z.cellO (by assumption) (by simp) (by assumption)) | fail "load 23.15") ?_
                            refine Z.l rfl rfl (by rfl) (Z.keepS hs) (by first | exact Z.Yd.load rfl Try.isAgg22 (fun _ => Z.cellB (by first | ((repeat (first | exact List.mem_cons_self | refine List.mem_cons_of_mem _ ?_ | refine List.mem_append_right _ ?_)); done) | fail) rfl) | exact Z.Yd.load rfl Try.isAgg22 (fun _ => Z.cellO (by assumption) (by simp) (by assumption)) | fail "load 23.16") ?_
                            refine Z.l rfl rfl (by rfl) (Z.keepS hs) (Z.Yd.lenS rfl Try.underlying22) ?_
                            refine Z.lb 1 rfl ?_
                            refine Z.yes (s := 103) (b := true) rfl rfl rfl ?_
                            refine Z.l rfl rfl (by rfl) (Z.keepS hs) (Z.Yd.pickT rfl rfl) ?_
                            refine Z.yes (s := 100) (b := false) rfl rfl rfl ?_
                            refine Z.l rfl rfl (by rfl) (Z.keepS hs) (Z.Yd.pickF rfl rfl) ?_
                            refine Z.lnil ?_
                            refine Z.only [3, 4, 5, 8, 10, 109] rfl ?_
                            refine Z.nthen ?_
                            refine Z.cond rfl (fun h => absurd h (by first | (simp; done) | (have h := hn0 (by omega); simp [← h]; done) | (exfalso; omega))) (fun hc23 => ?_)
                            refine Z.skip ?_
                            refine Z.nblock ?_
                            refine Z.nthen ?_
                            refine Z.seq ?_
                            refine Z.seq ?_
                            refine Z.region ?_
                            refine Z.l rfl rfl (by rfl) (Z.keepS hs) (by first | exact Z.Yd.load rfl Try.isAgg3 (fun _ => Z.cellB (by first | ((repeat (first | exact List.mem_cons_self | refine List.mem_cons_of_mem _ ?_ | refine List.mem_append_right _ ?_)); done) | fail) rfl) | exact Z.Yd.load rfl Try.isAgg3 (fun _ => Z.cellO (by assumption) (by simp) (by assumption)) | fail "load 25.0") ?_
                            refine Z.lnil ?_
                            refine Z.only [3, 4, 5, 8, 110] rfl ?_
                            refine Z.nthen ?_
                            refine Z.region ?_
                            refine Z.le rfl trivial ?_
                            refine Z.ZO.alloc rfl rfl (by rfl) Try.zeroValue3 rfl hs ?_
                            clear hs; intro g10 w10 hs
                            refine Z.le rfl trivial ?_
                            first | refine Z.ZO.store rfl rfl hs Try.sizeOf3 rfl rfl rfl (by first | exact SX.at0 | exact SX.at1 | exact SX.at2 | exact SX.at3 | exact SX.at4 | exact SX.at5 | exact Z.at6 | exact Z.at7 | exact Z.at8 | exact Z.at9 | exact Z.at10 | exact Z.at11 | exact Z.at12) (by first | (simp; done) | (simp; omega)) ?_ | refine Z.ZO.storeR rfl rfl hs Try.sizeOf3 rfl rfl rfl (by first | exact SX.at0 | exact SX.at1 | exact SX.at2 | exact SX.at3 | exact SX.at4 | exact SX.at5 | exact Z.at6 | exact Z.at7 | exact Z.at8 | exact Z.at9 | exact Z.at10 | exact Z.at11 | exact Z.at12) (by first | omega | (simp [ints_length]; done) | (simp [ints_length]; omega)) ?_
                            clear hs; intro ws hs
                            simp only [Nat.zero_add, Nat.add_zero, Nat.reduceAdd, Int.reduceToNat, Nat.reduceMul, List.set_cons_zero, List.set_cons_succ, List.setIfInBounds_toArray] at hs
                            refine Z.lnil ?_
                            refine Z.only [3, 4, 5, 8, 10] rfl ?_
                            refine Z.nthen ?_
                            refine Z.region ?_
                            refine Z.l rfl rfl (by rfl) (Z.keepS hs) (by first | exact Z.Yd.load rfl Try.isAgg3 (fun _ => Z.cellB (by first | ((repeat (first | exact List.mem_cons_self | refine List.mem_cons_of_mem _ ?_ | refine List.mem_append_right _ ?_)); done) | fail) rfl) | exact Z.Yd.load rfl Try.isAgg3 (fun _ => Z.cellO (by assumption) (by simp) (by assumption)) | fail "load 14.0") ?_
                            refine Z.l rfl rfl (by rfl) (Z.keepS hs) (Z.Yd.add rfl rfl (fun hG => Z.wi64 (by first | omega | (have hG' := Z.gh rfl hG; simp at hG'; omega)))) ?_
                            refine Z.le rfl trivial ?_
                            first | refine Z.ZO.store rfl rfl hs Try.sizeOf3 rfl rfl rfl (by first | exact SX.at0 | exact SX.at1 | exact SX.at2 | exact SX.at3 | exact SX.at4 | exact SX.at5 | exact Z.at6 | exact Z.at7 | exact Z.at8 | exact Z.at9 | exact Z.at10 | exact Z.at11 | exact Z.at12) (by first | (simp; done) | (simp; omega)) ?_ | refine Z.ZO.storeR rfl rfl hs Try.sizeOf3 rfl rfl rfl (by first | exact SX.at0 | exact SX.at1 | exact SX.at2 | exact SX.at3 | exact SX.at4 | exact SX.at5 | exact Z.at6 | exact Z.at7 | exact Z.at8 | exact Z.at9 | exact Z.at10 | exact Z.at11 | exact Z.at12) (by first | omega | (simp [ints_length]; done) | (simp [ints_length]; omega)) ?_
                            clear hs; intro ws hs
                            simp only [Nat.zero_add, Nat.add_zero, Nat.reduceAdd, Int.reduceToNat, Nat.reduceMul, List.set_cons_zero, List.set_cons_succ, List.setIfInBounds_toArray] at hs
                            refine Z.lnil ?_
                            refine Z.only [3, 4, 5, 8, 10] rfl ?_
                            refine Z.nthen ?_
                            exact Z.againD (g10, turn + 1, Dd :: ds) rfl (by refine ⟨?_, ?_, ?_, ?_, ?_, trivial⟩ <;> (first | rfl | (refine Z.lookv rfl ?_; simp; done) | (refine Z.lookv rfl ?_; simp; omega))) ⟨by simp only; omega, hs.sub ((((List.Sublist.refl _).cons _).cons _).cons_cons _)⟩ (by simp only; omega)
                            )
                      · first
                          | (exfalso; simp at hsp103 <;> omega)
                          | (
                            refine Z.yes (s := 103) (b := false) rfl hsp103 rfl ?_
                            (try simp at hsp103)
                            refine Z.ls rfl rfl rfl (by rfl) ?_
                            refine Z.ls rfl rfl rfl (by rfl) ?_
                            refine Z.ls rfl rfl rfl (by rfl) ?_
                            refine Z.ls rfl rfl rfl (by rfl) ?_
                            refine Z.l rfl rfl (by rfl) (Z.keepS hs) (Z.Yd.pickF rfl rfl) ?_
                            refine Z.yes (s := 100) (b := false) rfl rfl rfl ?_
                            refine Z.l rfl rfl (by rfl) (Z.keepS hs) (Z.Yd.pickF rfl rfl) ?_
                            refine Z.lnil ?_
                            refine Z.only [3, 4, 5, 8, 10, 109] rfl ?_
                            refine Z.nthen ?_
                            refine Z.cond rfl (fun h => absurd h (by first | (simp; done) | (have h := hn0 (by omega); simp [← h]; done) | (exfalso; omega))) (fun hc23 => ?_)
                            refine Z.skip ?_
                            refine Z.nblock ?_
                            refine Z.nthen ?_
                            refine Z.seq ?_
                            refine Z.seq ?_
                            refine Z.region ?_
                            refine Z.l rfl rfl (by rfl) (Z.keepS hs) (by first | exact Z.Yd.load rfl Try.isAgg3 (fun _ => Z.cellB (by first | ((repeat (first | exact List.mem_cons_self | refine List.mem_cons_of_mem _ ?_ | refine List.mem_append_right _ ?_)); done) | fail) rfl) | exact Z.Yd.load rfl Try.isAgg3 (fun _ => Z.cellO (by assumption) (by simp) (by assumption)) | fail "load 25.0") ?_
                            refine Z.lnil ?_
                            refine Z.only [3, 4, 5, 8, 110] rfl ?_
                            refine Z.nthen ?_
                            refine Z.region ?_
                            refine Z.le rfl trivial ?_
                            refine Z.ZO.alloc rfl rfl (by rfl) Try.zeroValue3 rfl hs ?_
                            clear hs; intro g10 w10 hs
                            refine Z.le rfl trivial ?_
                            first | refine Z.ZO.store rfl rfl hs Try.sizeOf3 rfl rfl rfl (by first | exact SX.at0 | exact SX.at1 | exact SX.at2 | exact SX.at3 | exact SX.at4 | exact SX.at5 | exact Z.at6 | exact Z.at7 | exact Z.at8 | exact Z.at9 | exact Z.at10 | exact Z.at11 | exact Z.at12) (by first | (simp; done) | (simp; omega)) ?_ | refine Z.ZO.storeR rfl rfl hs Try.sizeOf3 rfl rfl rfl (by first | exact SX.at0 | exact SX.at1 | exact SX.at2 | exact SX.at3 | exact SX.at4 | exact SX.at5 | exact Z.at6 | exact Z.at7 | exact Z.at8 | exact Z.at9 | exact Z.at10 | exact Z.at11 | exact Z.at12) (by first | omega | (simp [ints_length]; done) | (simp [ints_length]; omega)) ?_
                            clear hs; intro ws hs
                            simp only [Nat.zero_add, Nat.add_zero, Nat.reduceAdd, Int.reduceToNat, Nat.reduceMul, List.set_cons_zero, List.set_cons_succ, List.setIfInBounds_toArray] at hs
                            refine Z.lnil ?_
                            refine Z.only [3, 4, 5, 8, 10] rfl ?_
                            refine Z.nthen ?_
                            refine Z.region ?_
                            refine Z.l rfl rfl (by rfl) (Z.keepS hs) (by first | exact Z.Yd.load rfl Try.isAgg3 (fun _ => Z.cellB (by first | ((repeat (first | exact List.mem_cons_self | refine List.mem_cons_of_mem _ ?_ | refine List.mem_append_right _ ?_)); done) | fail) rfl) | exact Z.Yd.load rfl Try.isAgg3 (fun _ => Z.cellO (by assumption) (by simp) (by assumption)) | fail "load 14.0") ?_
                            refine Z.l rfl rfl (by rfl) (Z.keepS hs) (Z.Yd.add rfl rfl (fun hG => Z.wi64 (by first | omega | (have hG' := Z.gh rfl hG; simp at hG'; omega)))) ?_
                            refine Z.le rfl trivial ?_
                            first | refine Z.ZO.store rfl rfl hs Try.sizeOf3 rfl rfl rfl (by first | exact SX.at0 | exact SX.at1 | exact SX.at2 | exact SX.at3 | exact SX.at4 | exact SX.at5 | exact Z.at6 | exact Z.at7 | exact Z.at8 | exact Z.at9 | exact Z.at10 | exact Z.at11 | exact Z.at12) (by first | (simp; done) | (simp; omega)) ?_ | refine Z.ZO.storeR rfl rfl hs Try.sizeOf3 rfl rfl rfl (by first | exact SX.at0 | exact SX.at1 | exact SX.at2 | exact SX.at3 | exact SX.at4 | exact SX.at5 | exact Z.at6 | exact Z.at7 | exact Z.at8 | exact Z.at9 | exact Z.at10 | exact Z.at11 | exact Z.at12) (by first | omega | (simp [ints_length]; done) | (simp [ints_length]; omega)) ?_
                            clear hs; intro ws hs
                            simp only [Nat.zero_add, Nat.add_zero, Nat.reduceAdd, Int.reduceToNat, Nat.reduceMul, List.set_cons_zero, List.set_cons_succ, List.setIfInBounds_toArray] at hs
                            refine Z.lnil ?_
                            refine Z.only [3, 4, 5, 8, 10] rfl ?_
                            refine Z.nthen ?_
                            exact Z.againD (g10, turn + 1, Dd :: ds) rfl (by refine ⟨?_, ?_, ?_, ?_, ?_, trivial⟩ <;> (first | rfl | (refine Z.lookv rfl ?_; simp; done) | (refine Z.lookv rfl ?_; simp; omega))) ⟨by simp only; omega, hs.sub ((((List.Sublist.refl _).cons _).cons _).cons_cons _)⟩ (by simp only; omega)
                            )
                      )
              )
        · first
            | (exfalso; simp at hc13 <;> omega)
            | (
              (try simp at hc13)
              refine Z.exit ?_
              refine Z.xthen ?_
              refine Z.xthen ?_
              refine Z.xblock ?_
              refine Z.nthen ?_
              refine Z.seq ?_
              refine Z.region ?_
              simp only [List.cons_append, List.nil_append] at hs
              replace hs : SX.St w [] _ ([_, _, _, _, _] ++ ds.map Z.mkE) := hs.sub ((((((((List.sublist_append_right _ _).cons _).cons _).cons_cons _).cons_cons _).cons_cons _).cons_cons _).cons_cons _)
              simp only [List.cons_append, List.nil_append] at hs
              refine Z.le rfl trivial ?_
              refine Z.ZO.call rfl rfl (by rfl) rfl rfl Try.call10 rfl (works23 _) ?_
              rintro v27_0 w27_0 ⟨rfl, hy⟩
              replace hs := hs.call hy
              clear hy
              try simp only [List.cons_append, List.nil_append, List.append_nil] at hs
              refine Z.le rfl trivial ?_
              first | refine Z.ZO.store rfl rfl hs Try.sizeOf4 rfl rfl rfl (by first | exact SX.at0 | exact SX.at1 | exact SX.at2 | exact SX.at3 | exact SX.at4 | exact SX.at5 | exact Z.at6 | exact Z.at7 | exact Z.at8 | exact Z.at9 | exact Z.at10 | exact Z.at11 | exact Z.at12) (by first | (simp; done) | (simp; omega)) ?_ | refine Z.ZO.storeR rfl rfl hs Try.sizeOf4 rfl rfl rfl (by first | exact SX.at0 | exact SX.at1 | exact SX.at2 | exact SX.at3 | exact SX.at4 | exact SX.at5 | exact Z.at6 | exact Z.at7 | exact Z.at8 | exact Z.at9 | exact Z.at10 | exact Z.at11 | exact Z.at12) (by first | omega | (simp [ints_length]; done) | (simp [ints_length]; omega)) ?_
              clear hs; intro ws hs
              simp only [Nat.zero_add, Nat.add_zero, Nat.reduceAdd, Int.reduceToNat, Nat.reduceMul, List.set_cons_zero, List.set_cons_succ, List.setIfInBounds_toArray] at hs
              refine Z.lnil ?_
              refine Z.only [4] rfl ?_
              refine Z.nthen ?_
              refine Z.ret ?_
              -- ret#0
              refine Z.outMs (vs := [_]) (ds) [_, _, _, _, _] (Z.marksFront (L := [_, _, _, _, _]) (ds := ds) hs) (fun wr hs => (by exact ⟨⟨_, rfl, Z.rvc hs Try.isAgg4 (by first | ((repeat (first | exact List.mem_cons_self | refine List.mem_cons_of_mem _ ?_ | refine List.mem_append_right _ ?_)); done) | fail) rfl⟩, trivial⟩)) ?_
              clear hs
              intro wr hs
              exact ⟨_, rfl, rfl, hs.sub (List.nil_sublist _)⟩
              )
        )
theorem macpduEach_walk (A : Option Addr) (n c : Nat) (many : Int) (l : List Int) (w : World) (hx : Sl w A (ints .u8 l)) (hl : l.length = n) (hc : n ≤ c) (hb : ∀ x ∈ l, 0 ≤ x ∧ x < 256) :
    Calls Try.prog 8 #[.slice A n c, .int .i64 many] w (SX.Ret fun v w' => v = .bool true ∧ SX.St w [] w' []) := by
  by_cases h6 : n ≤ 600
  · exact macpduEach_in A n c many l w hx hl hc hb h6
  · have hs := SX.St.start w
    refine Z.enterM Try.func8 rfl Try.ntmps8 rfl rfl ?_
    refine Z.seq ?_
    refine Z.region ?_
    refine Z.le rfl trivial ?_
    refine Z.ZO.box rfl rfl (by rfl) rfl rfl hs ?_
    clear hs; intro g3 w3 hs
    refine Z.le rfl trivial ?_
    refine Z.ZO.alloc rfl rfl (by rfl) Try.zeroValue4 rfl hs ?_
    clear hs; intro g4 w4 hs
    refine Z.lnil ?_
    refine Z.only [0, 3, 4] rfl ?_
    refine Z.nthen ?_
    refine Z.seq ?_
    refine Z.seq ?_
    refine Z.region ?_
    refine Z.lb 1 rfl ?_
    refine Z.l rfl rfl (by rfl) (Z.keepS hs) (Z.Yd.lenS rfl Try.underlying26) ?_
    refine Z.lb 1 rfl ?_
    refine Z.lnil ?_
    refine Z.only [0, 3, 4, 16] rfl ?_
    refine Z.nthen ?_
    refine Z.cond rfl (fun hc1 => ?_) (fun h => absurd h (by simp; omega))
    refine Z.seq ?_
    refine Z.region ?_
    refine Z.le rfl trivial ?_
    refine Z.ZO.call rfl rfl (by rfl) rfl rfl Try.call10 rfl (works23 _) ?_
    rintro v2_0 w2_0 ⟨rfl, hy⟩
    replace hs := hs.call hy
    clear hy
    try simp only [List.cons_append, List.nil_append, List.append_nil] at hs
    refine Z.le rfl trivial ?_
    first | refine Z.ZO.store rfl rfl hs Try.sizeOf4 rfl rfl rfl (by first | exact SX.at0 | exact SX.at1 | exact SX.at2 | exact SX.at3 | exact SX.at4 | exact SX.at5 | exact Z.at6 | exact Z.at7 | exact Z.at8 | exact Z.at9 | exact Z.at10 | exact Z.at11 | exact Z.at12) (by first | (simp; done) | (simp; omega)) ?_ | refine Z.ZO.storeR rfl rfl hs Try.sizeOf4 rfl rfl rfl (by first | exact SX.at0 | exact SX.at1 | exact SX.at2 | exact SX.at3 | exact SX.at4 | exact SX.at5 | exact Z.at6 | exact Z.at7 | exact Z.at8 | exact Z.at9 | exact Z.at10 | exact Z.at11 | exact Z.at12) (by first | omega | (simp [ints_length]; done) | (simp [ints_length]; omega)) ?_
    clear hs; intro ws hs
    simp only [Nat.zero_add, Nat.add_zero, Nat.reduceAdd, Int.reduceToNat, Nat.reduceMul, List.set_cons_zero, List.set_cons_succ, List.setIfInBounds_toArray] at hs
    refine Z.lnil ?_
    refine Z.only [4] rfl ?_
    refine Z.nthen ?_
    refine Z.ret ?_
    repeat (first | refine Z.rthen ?_ | refine Z.rblock ?_ | refine Z.rscope ?_)
    -- ret#0
    refine Z.outM0 (vs := [_]) (by exact ⟨⟨_, rfl, Z.rvc hs Try.isAgg4 (by first | ((repeat (first | exact List.mem_cons_self | refine List.mem_cons_of_mem _ ?_ | refine List.mem_append_right _ ?_)); done) | fail) rfl⟩, trivial⟩) ?_
    exact ⟨_, rfl, rfl, hs.sub (List.nil_sublist _)⟩
theorem macpduEach_rd (a0 : Option Addr) (len0 cap0 : Nat) (a1 : Int) (w : World) (z0 : Rd Try.prog w 26 (Value.slice a0 len0 cap0).cells.toList) (z1 : Rd Try.prog w 3 (Value.int .i64 a1).cells.toList) :
    Calls Try.prog 8 #[.slice a0 len0 cap0, .int .i64 a1] w fun e w' => e = .returned (.bool true) ∧ Below w.heap.size w w' := by
  obtain ⟨l, h1, h2, h3, h4, h5⟩ := Rb.rd_bytes (show Rd Try.prog w 26 [.slice a0 len0 cap0] by simpa [Value.cells] using z0)
  refine (macpduEach_walk a0 len0 cap0 a1 l w h5 h1 h2 h4).mono ?_
  rintro e w' ⟨v, rfl, rfl, h⟩
  exact ⟨rfl, h.below⟩
end Go.Proofs.Ytogjkgoiofngaaa

/- What every row needs. -/
namespace Go.Proofs.Ytogjkgoiofngaaa
open Go.ChangeShapes Go.WideShapes Go.ChangeAt Go.RowKit
theorem pown : ownKnob Try.prog.godebug = none := by kernel_rfl
theorem plaidOut : laidOutB Try.prog = true := by kernel_rfl
end Go.Proofs.Ytogjkgoiofngaaa
