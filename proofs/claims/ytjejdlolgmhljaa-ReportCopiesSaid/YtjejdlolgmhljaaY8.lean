/- Part 8 of the proofs that lead to the statement. -/
import Derived.Test.YtjejdlolgmhljaaY7
import Derived.Test.YtjejdlolgmhljaaRows
import Derived.WalkKit
import Derived.ProofKit
import Derived.OpenShut
import Derived.ShutString
import Derived.ChangeOld
import Derived.Below
/- Reports: lists of parts compared; the visible state; a call on both. -/
namespace Go.Proofs.Ytjejdlolgmhljaa
open Go.RowKit
set_option linter.unusedSimpArgs false
set_option linter.unusedVariables false
--newlaws

theorem pts_rd {w0 W : World} {M : List Nat} {L : List SX.Ent} {qs : List PtV} (hs : SX.St w0 M W L) (hm : ∀ q ∈ qs, q.row ∈ L) (hb : ∀ p ∈ qs.map PtV.plain, Byts p.2) : ∀ q ∈ qs, Sl W q.B (ints .u8 q.l) ∧ Byts q.l := fun q hq =>
  ⟨hs.slm (hm q hq), hb q.plain (List.mem_map_of_mem hq)⟩
theorem pt_sz (q : PtV) : q.cells.length = 2 := rfl
set_option maxRecDepth 100000 in
theorem rp_same (A B : Option Addr) (n c k d : Nat) (qs rs : List PtV) (w : World) (hA : Sl w A (qs.flatMap PtV.cells)) (hB : Sl w B (rs.flatMap PtV.cells)) (hl : qs.length = n) (hk : rs.length = k) (hn : n ≤ 10)
    (hq : ∀ q ∈ qs, Sl w q.B (ints .u8 q.l) ∧ Byts q.l) (hr : ∀ q ∈ rs, Sl w q.B (ints .u8 q.l) ∧ Byts q.l) :
    Calls Try.prog 38 #[.slice A n c, .slice B k d] w (SX.Ret fun v w' => v = .bool (decide (qs.map PtV.plain = rs.map PtV.plain)) ∧ SX.St w [] w' []) := by
  have hs := SX.St.start w
  refine Z.enter Try.func38 rfl Try.ntmps38 rfl rfl ?_
  refine Z.seq ?_
  refine Z.region ?_
  refine Z.lb 1 rfl ?_
  refine Z.lnil ?_
  refine Z.only [0, 1] rfl ?_
  refine Z.nthen ?_
  refine Z.seq ?_
  refine Z.seq ?_
  refine Z.region ?_
  refine Z.lb 1 rfl ?_
  refine Z.l rfl rfl (by rfl) (Z.keepS hs) (Z.Yd.lenS rfl Try.underlying46) ?_
  refine Z.lb 1 rfl ?_
  refine Z.l rfl rfl (by rfl) (Z.keepS hs) (Z.Yd.lenS rfl Try.underlying46) ?_
  refine Z.lb 1 rfl ?_
  refine Z.lnil ?_
  refine Z.only [0, 1, 10] rfl ?_
  refine Z.nthen ?_
  refine Z.cond rfl (fun hc1 => ?_) (fun hc1 => ?_)
  · first
      | (exfalso; simp at hc1 <;> omega)
      | (
        (try simp at hc1)
        have hne : ¬ qs.map PtV.plain = rs.map PtV.plain := fun h => by
          have := congrArg List.length h
          simp at this
          omega
        rw [decide_eq_false hne]
        refine Z.seq ?_
        refine Z.region ?_
        refine Z.lb 1 rfl ?_
        refine Z.lnil ?_
        refine Z.only [4] rfl ?_
        refine Z.nthen ?_
        refine Z.ret ?_
        repeat (first | refine Z.rthen ?_ | refine Z.rblock ?_ | refine Z.rscope ?_)
        -- ret#0
        refine Z.out1 (by exact ⟨rfl, trivial⟩) ?_
        first | exact ⟨_, rfl, rfl, hs⟩ | exact ⟨_, rfl, rfl, hs.sub (List.nil_sublist _)⟩
        )
  · first
      | (exfalso; simp at hc1 <;> omega)
      | (
        (try simp at hc1)
        have hnk : n = k := by omega
        refine Z.skip ?_
        refine Z.nthen ?_
        refine Z.seq ?_
        refine Z.seq ?_
        refine Z.region ?_
        refine Z.lb 1 rfl ?_
        refine Z.lnil ?_
        refine Z.only [0, 1, 5] rfl ?_
        refine Z.nthen ?_
        refine Z.block ?_
        refine Z.loopk (ι := Nat) [0, 1] rfl (fun i => [(5, [], .int .i64 (i : Int))]) (fun i wr => (i ≤ n ∧ (qs.map PtV.plain).take i = (rs.map PtV.plain).take i) ∧ SX.St w [] wr []) (fun i => n - i) 0 (by refine ⟨?_, trivial⟩ <;> (first | rfl | (refine Z.lookv rfl ?_; simp; done) | (refine Z.lookv rfl ?_; simp; omega))) ⟨⟨by omega, rfl⟩, hs⟩ ?_
        clear hs
        rintro i w4 ⟨⟨hi, ht⟩, hs⟩
        refine Z.only [0, 1, 5] rfl ?_
        refine Z.seq ?_
        refine Z.seq ?_
        refine Z.region ?_
        refine Z.lb 2 rfl ?_
        refine Z.l rfl rfl (by rfl) (Z.keepS hs) (Z.Yd.lenS rfl Try.underlying46) ?_
        refine Z.lb 1 rfl ?_
        refine Z.lnil ?_
        refine Z.only [0, 1, 5, 14] rfl ?_
        refine Z.nthen ?_
        refine Z.cond rfl (fun hc4 => ?_) (fun hc4 => ?_)
        · first
            | (exfalso; simp at hc4 <;> omega)
            | (
              (try simp at hc4)
              obtain ⟨q, hqi⟩ : ∃ q, qs[i]? = some q := ⟨_, List.getElem?_eq_getElem (by omega)⟩
              obtain ⟨r, hri⟩ : ∃ r, rs[i]? = some r := ⟨_, List.getElem?_eq_getElem (by omega)⟩
              have e1 : (qs.map PtV.plain)[i]? = some q.plain := by simp [hqi]
              have e2 : (rs.map PtV.plain)[i]? = some r.plain := by simp [hri]
              obtain ⟨q1, q2⟩ := hq q (List.mem_of_getElem? hqi)
              obtain ⟨r1, r2⟩ := hr r (List.mem_of_getElem? hri)
              obtain ⟨b, off, rfl, hb1, hx2⟩ := Z.Sl.some hA (by rw [pt_len]; omega)
              obtain ⟨b', off', rfl, hb2, hy2⟩ := Z.Sl.some hB (by rw [pt_len]; omega)
              refine Z.skip ?_
              refine Z.nthen ?_
              refine Z.seq ?_
              refine Z.block ?_
              refine Z.seq ?_
              refine Z.drawK (fun _ => true) mixed hs ?_
              clear hs; intro wd6 hs
              refine Z.tb [0, 1] (by kernel_rfl) rfl ⟨_, hs, by first | (simp; done) | exact fun e he => List.mem_append_right _ he⟩ rfl ?_
              refine Z.t 2 rfl rfl rfl (by rfl) (by kernel_rfl) ⟨_, hs, by first | (simp; done) | exact fun e he => List.mem_append_right _ he⟩ (Z.Yd.elem rfl rfl Try.underlying46 Try.sizeOf51 (fun hG => ⟨(by first | omega | (have hG' := Z.gh rfl hG; simp at hG'; omega)), (by first | omega | (have hG' := Z.gh rfl hG; simp at hG'; omega))⟩)) ?_
              refine Z.t 3 rfl rfl rfl (by rfl) (by kernel_rfl) ⟨_, hs, by first | (simp; done) | exact fun e he => List.mem_append_right _ he⟩ (Z.Yd.loadA _ rfl Try.isAgg51 (fun _ W hK j u hu => Z.cellXq (enc := PtV.cells) hx2.sx pt_sz hqi hu W hK) (by exact Try.sizeOf51)) ?_
              refine Z.tb [4, 5] (by kernel_rfl) rfl ⟨_, hs, by first | (simp; done) | exact fun e he => List.mem_append_right _ he⟩ rfl ?_
              refine Z.t 6 rfl rfl rfl (by rfl) (by kernel_rfl) ⟨_, hs, by first | (simp; done) | exact fun e he => List.mem_append_right _ he⟩ (Z.Yd.elem rfl rfl Try.underlying46 Try.sizeOf51 (fun hG => ⟨(by first | omega | (have hG' := Z.gh rfl hG; simp at hG'; omega)), (by first | omega | (have hG' := Z.gh rfl hG; simp at hG'; omega))⟩)) ?_
              refine Z.t 7 rfl rfl rfl (by rfl) (by kernel_rfl) ⟨_, hs, by first | (simp; done) | exact fun e he => List.mem_append_right _ he⟩ (Z.Yd.loadA _ rfl Try.isAgg51 (fun _ W hK j u hu => Z.cellXq (enc := PtV.cells) hy2.sx pt_sz hri hu W hK) (by exact Try.sizeOf51)) ?_
              refine Z.tn 8 rfl rfl (by kernel_rfl) rfl trivial ?_
              refine Z.ZO.call rfl rfl (by rfl) rfl rfl Try.call53 rfl (same24 q.lc r.lc q.B r.B _ q.c _ r.c q.l r.l _ (q1.st hs) (r1.st hs) rfl rfl q2 r2) ?_
              rintro v6_8 w6_8 ⟨rfl, hy⟩
              replace hs := hs.call hy
              clear hy
              try simp only [List.cons_append, List.nil_append, List.append_nil] at hs
              refine Z.tk (Dn := fun _ => true) (i := 8) (fun _ => ⟨_, hs, by first | (simp; done) | exact fun e he => List.mem_append_right _ he⟩) ?_
              refine Z.tb [9] (by kernel_rfl) rfl ⟨_, hs, by first | (simp; done) | exact fun e he => List.mem_append_right _ he⟩ rfl ?_
              refine Z.td (by rfl) (by kernel_rfl) ?_
              refine Z.only [0, 1, 5, 26] rfl ?_
              refine Z.nthen ?_
              refine Z.cond rfl (fun hc6 => ?_) (fun hc6 => ?_)
              · first
                  | (exfalso; simp at hc6 <;> omega)
                  | (
                    (try simp at hc6)
                    have hne : ¬ qs.map PtV.plain = rs.map PtV.plain := fun h => by
                      rw [h, e2] at e1
                      have := Option.some.inj e1
                      simp [PtV.plain] at this
                      simp_all
                    rw [decide_eq_false hne]
                    refine Z.seq ?_
                    refine Z.region ?_
                    refine Z.lb 1 rfl ?_
                    refine Z.lnil ?_
                    refine Z.only [4] rfl ?_
                    refine Z.nthen ?_
                    refine Z.ret ?_
                    repeat (first | refine Z.rthen ?_ | refine Z.rblock ?_ | refine Z.rscope ?_)
                    -- ret#1
                    refine Z.out1 (by exact ⟨rfl, trivial⟩) ?_
                    first | exact ⟨_, rfl, rfl, hs⟩ | exact ⟨_, rfl, rfl, hs.sub (List.nil_sublist _)⟩
                    )
              · first
                  | (exfalso; simp at hc6 <;> omega)
                  | (
                    (try simp at hc6)
                    refine Z.skip ?_
                    refine Z.nblock ?_
                    refine Z.nthen ?_
                    refine Z.region ?_
                    refine Z.lb 1 rfl ?_
                    refine Z.l rfl rfl (by rfl) (Z.keepS hs) (Z.Yd.add rfl rfl (fun hG => Z.wi64 (by first | omega | (have hG' := Z.gh rfl hG; simp at hG'; omega)))) ?_
                    refine Z.lb 1 rfl ?_
                    refine Z.lnil ?_
                    refine Z.only [0, 1, 5] rfl ?_
                    refine Z.nthen ?_
                    refine Z.again (i + 1) (by refine ⟨?_, ?_, ?_, trivial⟩ <;> (first | rfl | (refine Z.lookv rfl ?_; simp; done) | (refine Z.lookv rfl ?_; simp; omega))) ⟨⟨by omega, ?_⟩, hs⟩ (by omega)
                    rw [← take_snoc e1, ← take_snoc e2, ht]
                    congr 2
                    simp only [PtV.plain]
                    simp_all
                    )
              )
        · first
            | (exfalso; simp at hc4 <;> omega)
            | (
              (try simp at hc4)
              refine Z.exit ?_
              refine Z.xthen ?_
              refine Z.xthen ?_
              refine Z.xblock ?_
              refine Z.nthen ?_
              refine Z.seq ?_
              refine Z.region ?_
              obtain rfl : i = n := by omega
              rw [List.take_of_length_le (by simp; omega), List.take_of_length_le (by simp; omega)] at ht
              rw [decide_eq_true ht]
              refine Z.l rfl rfl (by rfl) (Z.keepS hs) (Z.Yd.pure rfl) ?_
              refine Z.lnil ?_
              refine Z.only [4] rfl ?_
              refine Z.nthen ?_
              refine Z.ret ?_
              -- ret#2
              refine Z.out1 (by exact ⟨rfl, trivial⟩) ?_
              first | exact ⟨_, rfl, rfl, hs⟩ | exact ⟨_, rfl, rfl, hs.sub (List.nil_sublist _)⟩
              )
        )
def bX (l : List Int) (pre : List Nat) (k : Nat) : Int := if k ∈ pre then elt l (k : Int) else 0
def bcs (l : List Int) (pre : List Nat) : List Value := [.int .i64 (bX l pre 0), .int .i64 (bX l pre 1), .int .i64 (bX l pre 2), .int .i64 (bX l pre 3)]
@[simp] theorem bcs_len (l : List Int) (pre : List Nat) : (bcs l pre).length = 4 := rfl
theorem bcs_set (l : List Int) (pre : List Nat) (x : Nat) (hx : x < 4) : (bcs l pre).set ((x : Int).toNat * 1) (.int .i64 (elt l (x : Int))) = bcs l (pre ++ [x]) := by
  have e : ∀ k, bX l (pre ++ [x]) k = if k = x then elt l (x : Int) else bX l pre k := fun k => by
    unfold bX
    by_cases h : k = x
    · subst h; simp
    · simp [h]
  simp only [bcs, e]
  have h4 : x = 0 ∨ x = 1 ∨ x = 2 ∨ x = 3 := by omega
  rcases h4 with rfl | rfl | rfl | rfl <;> rfl
theorem bX_all (m : RpV) (hm : m.ok) (k : Nat) (hk : k < 4) : bX m.bs (gps m.b0 m.b1 m.b2 m.b3) k = elt m.bs (k : Int) := by
  have h0 := elt_pos m hm k hk
  unfold bX gps
  by_cases h : 0 < elt m.bs (k : Int)
  · rw [if_pos (by simp [hk, h])]
  · rw [if_neg (by simp [h])]; omega
set_option maxHeartbeats 1000000 in
set_option maxRecDepth 100000 in
theorem rp_is (g : Nat) (m : RpV) (w : World) (hc : Cel w g m.cells) (hm : m.ok) : Calls Try.prog 20 #[.pointer (some ⟨g, 0, none⟩), .agg m.ref.toArray] w (SX.Ret fun v w' => v = .bool true ∧ SX.St w [] w' []) := by
  have hs := SX.St.start w
  show Calls Try.prog 20 #[_, .agg #[.int .i64 (m).c0, .int .i64 (m).c1, .int .i64 (m).c2, .int .i64 (m).c3, .int .i64 (m).now, .int .i64 (m).b0, .int .i64 (m).b1, .int .i64 (m).b2, .int .i64 (m).b3, .int .i64 (m).head, .bool (m).reg, .bool (m).per, .bool (m).pow, .bool (m).fst, .int .i64 (m).last, .int .i64 (m).lastP, .int .i64 (m).told]] w _
  have ha := bX_all m hm
  refine Z.enterM Try.func20 rfl Try.ntmps20 rfl rfl ?_
  refine Z.seq ?_
  refine Z.region ?_
  refine Z.le rfl trivial ?_
  refine Z.ZO.box rfl rfl (by rfl) rfl rfl hs ?_
  clear hs; intro g3 w3 hs
  refine Z.le rfl trivial ?_
  refine Z.ZO.alloc rfl rfl (by rfl) Try.zeroValue4 rfl hs ?_
  clear hs; intro g4 w4 hs
  refine Z.lnil ?_
  refine Z.only [0, 3, 4] rfl ?_
  refine Z.nthen ?_
  refine Z.seq ?_
  refine Z.seq ?_
  refine Z.drawK (fun _ => true) mixed hs ?_
  clear hs; intro wd1 hs
  refine Z.tb [0] (by kernel_rfl) rfl ⟨_, hs, by first | (simp; done) | exact fun e he => List.mem_append_right _ he⟩ rfl ?_
  refine Z.t 1 rfl rfl rfl (by rfl) (by kernel_rfl) ⟨_, hs, by first | (simp; done) | exact fun e he => List.mem_append_right _ he⟩ (Z.Yd.fieldA (m := 10) rfl (by kernel_rfl)) ?_
  refine Z.t 2 rfl rfl rfl (by rfl) (by kernel_rfl) ⟨_, hs, by first | (simp; done) | exact fun e he => List.mem_append_right _ he⟩ (by first | exact Z.Yd.load rfl Try.isAgg4 (fun _ => Z.cellB (by first | ((repeat (first | exact List.mem_cons_self | refine List.mem_cons_of_mem _ ?_ | refine List.mem_append_right _ ?_)); done) | fail) rfl) | exact Z.Yd.load rfl Try.isAgg4 (fun _ => Z.cellO (by assumption) (by simp) (by assumption)) | fail "load 1.2") ?_
  refine Z.tb [3] (by kernel_rfl) rfl ⟨_, hs, by first | (simp; done) | exact fun e he => List.mem_append_right _ he⟩ rfl ?_
  refine Z.t 4 rfl rfl rfl (by rfl) (by kernel_rfl) ⟨_, hs, by first | (simp; done) | exact fun e he => List.mem_append_right _ he⟩ (Z.Yd.fieldA (m := 11) rfl (by kernel_rfl)) ?_
  refine Z.t 5 rfl rfl rfl (by rfl) (by kernel_rfl) ⟨_, hs, by first | (simp; done) | exact fun e he => List.mem_append_right _ he⟩ (by first | exact Z.Yd.load rfl Try.isAgg4 (fun _ => Z.cellB (by first | ((repeat (first | exact List.mem_cons_self | refine List.mem_cons_of_mem _ ?_ | refine List.mem_append_right _ ?_)); done) | fail) rfl) | exact Z.Yd.load rfl Try.isAgg4 (fun _ => Z.cellO (by assumption) (by simp) (by assumption)) | fail "load 1.5") ?_
  refine Z.tb [6] (by kernel_rfl) rfl ⟨_, hs, by first | (simp; done) | exact fun e he => List.mem_append_right _ he⟩ rfl ?_
  refine Z.t 7 rfl rfl rfl (by rfl) (by kernel_rfl) ⟨_, hs, by first | (simp; done) | exact fun e he => List.mem_append_right _ he⟩ (Z.Yd.fieldA (m := 12) rfl (by kernel_rfl)) ?_
  refine Z.t 8 rfl rfl rfl (by rfl) (by kernel_rfl) ⟨_, hs, by first | (simp; done) | exact fun e he => List.mem_append_right _ he⟩ (by first | exact Z.Yd.load rfl Try.isAgg4 (fun _ => Z.cellB (by first | ((repeat (first | exact List.mem_cons_self | refine List.mem_cons_of_mem _ ?_ | refine List.mem_append_right _ ?_)); done) | fail) rfl) | exact Z.Yd.load rfl Try.isAgg4 (fun _ => Z.cellO (by assumption) (by simp) (by assumption)) | fail "load 1.8") ?_
  refine Z.tn 9 rfl rfl (by kernel_rfl) rfl trivial ?_
  refine Z.ZO.call rfl rfl (by rfl) rfl rfl Try.call17 rfl (rp_pend g m _ m.pow _ (hc.st (hs.sub (List.nil_sublist _)))) ?_
  rintro v1_9 w1_9 ⟨rfl, hy⟩
  replace hs := hs.call hy
  clear hy
  try simp only [List.cons_append, List.nil_append, List.append_nil] at hs
  refine Z.tk (Dn := fun _ => true) (i := 9) (fun _ => ⟨_, hs, by first | (simp; done) | exact fun e he => List.mem_append_right _ he⟩) ?_
  refine Z.tb [10, 11] (by kernel_rfl) rfl ⟨_, hs, by first | (simp; done) | exact fun e he => List.mem_append_right _ he⟩ rfl ?_
  refine Z.split (s := 21) rfl (fun hsp21 => ?_) (fun hsp21 => ?_)
  · first
      | (exfalso; simp at hsp21 <;> omega)
      | (
        refine Z.yes (s := 21) (b := true) rfl hsp21 rfl ?_
        (try simp at hsp21)
        refine Z.t 12 rfl rfl rfl (by rfl) (by kernel_rfl) ⟨_, hs, by first | (simp; done) | exact fun e he => List.mem_append_right _ he⟩ (Z.Yd.off (v := undef) 21 false rfl (by first | (simp; done) | (simp_all; done)) (by intro c h; cases h)) ?_
        refine Z.t 14 rfl rfl rfl (by rfl) (by kernel_rfl) ⟨_, hs, by first | (simp; done) | exact fun e he => List.mem_append_right _ he⟩ (Z.Yd.off (v := undef) 21 false rfl (by first | (simp; done) | (simp_all; done)) (by intro c h; cases h)) ?_
        refine Z.t 15 rfl rfl rfl (by rfl) (by kernel_rfl) ⟨_, hs, by first | (simp; done) | exact fun e he => List.mem_append_right _ he⟩ (Z.Yd.off (v := undef) 21 false rfl (by first | (simp; done) | (simp_all; done)) (by intro c h; cases h)) ?_
        refine Z.yes (s := 21) (b := true) rfl rfl rfl ?_
        refine Z.tnS 21 false 13 rfl rfl (by kernel_rfl) rfl rfl (by simp) rfl (by rfl) (fun _ => ⟨_, hs, by first | (simp; done) | exact fun e he => List.mem_append_right _ he⟩) ?_
        refine Z.t 16 rfl rfl rfl (by rfl) (by kernel_rfl) ⟨_, hs, by first | (simp; done) | exact fun e he => List.mem_append_right _ he⟩ (Z.Yd.off (v := undef) 21 false rfl (by first | (simp; done) | (simp_all; done)) (by intro c h; cases h)) ?_
        refine Z.yes (s := 21) (b := true) rfl rfl rfl ?_
        refine Z.t 17 rfl rfl rfl (by rfl) (by kernel_rfl) ⟨_, hs, by first | (simp; done) | exact fun e he => List.mem_append_right _ he⟩ (Z.Yd.pickT rfl rfl) ?_
        refine Z.td (by rfl) (by kernel_rfl) ?_
        refine Z.only [0, 3, 4, 27] rfl ?_
        refine Z.nthen ?_
        refine Z.cond rfl (fun h => absurd h (by simp)) (fun hc1 => ?_)
        refine Z.skip ?_
        refine Z.nthen ?_
        refine Z.seq ?_
        refine Z.region ?_
        refine Z.lb 1 rfl ?_
        refine Z.le rfl trivial ?_
        refine Z.ZO.call rfl rfl (by rfl) rfl rfl Try.call12 rfl (rp_Groups g m _ (hc.st (hs.sub (List.nil_sublist _)))) ?_
        rintro v3_1 w3_1 ⟨g2, rfl, hy⟩
        replace hs := hs.call hy
        clear hy
        try simp only [List.cons_append, List.nil_append, List.append_nil] at hs
        refine Z.lb 1 rfl ?_
        refine Z.lnil ?_
        refine Z.only [3, 4, 5] rfl ?_
        refine Z.nthen ?_
        refine Z.seq ?_
        refine Z.seq ?_
        refine Z.region ?_
        refine Z.lb 1 rfl ?_
        refine Z.l rfl rfl (by rfl) (Z.keepS hs) (Z.Yd.fnNil rfl rfl Try.underlying37) ?_
        refine Z.lnil ?_
        refine Z.only [3, 4, 5, 31] rfl ?_
        refine Z.nthen ?_
        refine Z.cond rfl (fun h => absurd h (by simp)) (fun hc4 => ?_)
        refine Z.skip ?_
        refine Z.nthen ?_
        refine Z.seq ?_
        refine Z.region ?_
        refine Z.le rfl trivial ?_
        refine Z.ZO.alloc rfl rfl (by rfl) Try.zeroValue3 rfl hs ?_
        clear hs; intro g6 w6 hs
        refine Z.le rfl trivial ?_
        first | refine Z.ZO.store rfl rfl hs Try.sizeOf3 rfl rfl rfl (by first | exact SX.at0 | exact SX.at1 | exact SX.at2 | exact SX.at3 | exact SX.at4 | exact SX.at5 | exact Z.at6 | exact Z.at7 | exact Z.at8 | exact Z.at9 | exact Z.at10 | exact Z.at11 | exact Z.at12) (by first | (simp; done) | (simp; omega)) ?_ | refine Z.ZO.storeR rfl rfl hs Try.sizeOf3 rfl rfl rfl (by first | exact SX.at0 | exact SX.at1 | exact SX.at2 | exact SX.at3 | exact SX.at4 | exact SX.at5 | exact Z.at6 | exact Z.at7 | exact Z.at8 | exact Z.at9 | exact Z.at10 | exact Z.at11 | exact Z.at12) (by first | omega | (simp [ints_length]; done) | (simp [ints_length]; omega)) ?_
        clear hs; intro ws hs
        simp only [Nat.zero_add, Nat.add_zero, Nat.reduceAdd, Int.reduceToNat, Nat.reduceMul, List.set_cons_zero, List.set_cons_succ, List.setIfInBounds_toArray] at hs
        refine Z.lnil ?_
        refine Z.only [3, 4, 5, 6] rfl ?_
        refine Z.nthen ?_
        refine Z.seq ?_
        refine Z.region ?_
        refine Z.le rfl trivial ?_
        refine Z.ZO.alloc rfl rfl (by rfl) Try.zeroValue22 rfl hs ?_
        clear hs; intro g7 w7 hs
        refine Z.lnil ?_
        refine Z.only [3, 4, 5, 6, 7] rfl ?_
        refine Z.nthen ?_
        refine Z.seq ?_
        refine Z.seq ?_
        refine Z.region ?_
        refine Z.lb 1 rfl ?_
        refine Z.lnil ?_
        refine Z.only [3, 4, 6, 7, 32] rfl ?_
        refine Z.nthen ?_
        refine Z.block ?_
        refine Z.rangeFunc (ps := [33, 34]) (L0 := [SX.Ent.blk g7 22 (bcs m.bs []).toArray, SX.Ent.blk g6 3 #[.int .i64 (-1)], SX.Ent.blk g4 4 #[.bool false], SX.Ent.blk g3 31 #[.int .i64 (m).c0, .int .i64 (m).c1, .int .i64 (m).c2, .int .i64 (m).c3, .int .i64 (m).now, .int .i64 (m).b0, .int .i64 (m).b1, .int .i64 (m).b2, .int .i64 (m).b3, .int .i64 (m).head, .bool (m).reg, .bool (m).per, .bool (m).pow, .bool (m).fst, .int .i64 (m).last, .int .i64 (m).lastP, .int .i64 (m).told]]) (groups_seq g2 _ m.b0 m.b1 m.b2 m.b3) rfl Try.call30 ((hs.sel [0, 1, 3, 4, 2] (by decide))) trivial (by rintro x args Lx ⟨rfl, rfl⟩; rfl) rfl (fun pre L => ∃ lst : Int, (lst = -1 ∨ ∃ y : Nat, y ∈ pre ∧ lst = y) ∧ L = [SX.Ent.blk g7 22 (bcs m.bs pre).toArray, SX.Ent.blk g6 3 #[.int .i64 lst], SX.Ent.blk g4 4 #[.bool false], SX.Ent.blk g3 31 #[.int .i64 (m).c0, .int .i64 (m).c1, .int .i64 (m).c2, .int .i64 (m).c3, .int .i64 (m).now, .int .i64 (m).b0, .int .i64 (m).b1, .int .i64 (m).b2, .int .i64 (m).b3, .int .i64 (m).head, .bool (m).reg, .bool (m).per, .bool (m).pow, .bool (m).fst, .int .i64 (m).last, .int .i64 (m).lastP, .int .i64 (m).told]]) (fun _ _ => False) ⟨-1, .inl rfl, rfl⟩ ?_ ?_ ?_
        · clear hs
          rintro l0 Z0 pre x args W0 L0 Lx ⟨lst, hlst, rfl⟩ hpre ⟨rfl, rfl⟩ hs
          refine ⟨_, rfl, ?_⟩
          refine Z.seq ?_
          refine Z.region ?_
          refine Z.lb 1 rfl ?_
          refine Z.lnil ?_
          refine Z.only [3, 4, 6, 7, 8, 34] rfl ?_
          refine Z.nthen ?_
          refine Z.region ?_
          refine Z.lb 1 rfl ?_
          refine Z.lnil ?_
          refine Z.only [3, 4, 6, 7, 8, 9] rfl ?_
          refine Z.nthen ?_
          refine Z.assigned [SX.Ent.blk g7 22 (bcs m.bs pre).toArray, SX.Ent.blk g6 3 #[.int .i64 lst], SX.Ent.blk g4 4 #[.bool false], SX.Ent.blk g3 31 #[.int .i64 (m).c0, .int .i64 (m).c1, .int .i64 (m).c2, .int .i64 (m).c3, .int .i64 (m).now, .int .i64 (m).b0, .int .i64 (m).b1, .int .i64 (m).b2, .int .i64 (m).b3, .int .i64 (m).head, .bool (m).reg, .bool (m).per, .bool (m).pow, .bool (m).fst, .int .i64 (m).last, .int .i64 (m).lastP, .int .i64 (m).told]] hs ?_
          clear hs
          intro Wb0 Zb0 hs
          refine Z.block ?_
          refine Z.seq ?_
          refine Z.seq ?_
          refine Z.region ?_
          obtain ⟨hlt, hx4, hx0, -, hlen⟩ := gps_pre hpre
          have hlx : lst < (x : Int) := by
            rcases hlst with rfl | ⟨y, hy, rfl⟩
            · omega
            · have := hlt y hy; omega
          simp only [List.cons_append, List.nil_append] at hs
          refine Z.l rfl rfl (by rfl) (Z.keepS hs) (Z.Yd.pure rfl) ?_
          refine Z.l rfl rfl (by rfl) (Z.keepS hs) (by first | exact Z.Yd.load rfl Try.isAgg3 (fun _ => Z.cellB (by first | ((repeat (first | exact List.mem_cons_self | refine List.mem_cons_of_mem _ ?_ | refine List.mem_append_right _ ?_)); done) | fail) rfl) | exact Z.Yd.load rfl Try.isAgg3 (fun _ => Z.cellO (by assumption) (by simp) (by assumption)) | fail "load 11.1") ?_
          refine Z.lb 9 rfl ?_
          refine Z.lnil ?_
          refine Z.only [3, 4, 6, 7, 8, 9, 45] rfl ?_
          refine Z.nthen ?_
          refine Z.cond rfl (fun h => absurd h (by simp; omega)) (fun hc11 => ?_)
          refine Z.skip ?_
          refine Z.nthen ?_
          refine Z.region ?_
          refine Z.lb 3 rfl ?_
          refine Z.le rfl trivial ?_
          first | refine Z.ZO.store rfl rfl hs Try.sizeOf3 rfl rfl rfl (by first | exact SX.at0 | exact SX.at1 | exact SX.at2 | exact SX.at3 | exact SX.at4 | exact SX.at5 | exact Z.at6 | exact Z.at7 | exact Z.at8 | exact Z.at9 | exact Z.at10 | exact Z.at11 | exact Z.at12) (by first | (simp; done) | (simp; omega)) ?_ | refine Z.ZO.storeR rfl rfl hs Try.sizeOf3 rfl rfl rfl (by first | exact SX.at0 | exact SX.at1 | exact SX.at2 | exact SX.at3 | exact SX.at4 | exact SX.at5 | exact Z.at6 | exact Z.at7 | exact Z.at8 | exact Z.at9 | exact Z.at10 | exact Z.at11 | exact Z.at12) (by first | omega | (simp [ints_length]; done) | (simp [ints_length]; omega)) ?_
          clear hs; intro ws hs
          simp only [Nat.zero_add, Nat.add_zero, Nat.reduceAdd, Int.reduceToNat, Nat.reduceMul, List.set_cons_zero, List.set_cons_succ, List.setIfInBounds_toArray] at hs
          refine Z.l rfl rfl (by rfl) (Z.keepS hs) (Z.Yd.elemA rfl rfl Try.underlying22 Try.sizeOf3 (fun hG => ⟨(by first | omega | (have hG' := Z.gh rfl hG; simp at hG'; omega)), (by first | omega | (have hG' := Z.gh rfl hG; simp at hG'; omega))⟩)) ?_
          refine Z.le rfl trivial ?_
          first | refine Z.ZO.store rfl rfl hs Try.sizeOf3 rfl rfl rfl (by first | exact SX.at0 | exact SX.at1 | exact SX.at2 | exact SX.at3 | exact SX.at4 | exact SX.at5 | exact Z.at6 | exact Z.at7 | exact Z.at8 | exact Z.at9 | exact Z.at10 | exact Z.at11 | exact Z.at12) (by first | (simp; done) | (simp; omega)) ?_ | refine Z.ZO.storeR rfl rfl hs Try.sizeOf3 rfl rfl rfl (by first | exact SX.at0 | exact SX.at1 | exact SX.at2 | exact SX.at3 | exact SX.at4 | exact SX.at5 | exact Z.at6 | exact Z.at7 | exact Z.at8 | exact Z.at9 | exact Z.at10 | exact Z.at11 | exact Z.at12) (by first | omega | (simp [ints_length]; done) | (simp [ints_length]; omega)) ?_
          clear hs; intro ws hs
          simp only [Nat.zero_add, Nat.add_zero, Nat.reduceAdd, Int.reduceToNat, Nat.reduceMul, List.set_cons_zero, List.set_cons_succ, List.setIfInBounds_toArray] at hs
          refine Z.lnil ?_
          refine Z.only [3, 4, 7] rfl ?_
          refine Z.nblock ?_
          rw [bcs_set m.bs pre x hx4] at hs
          exact Z.rnorm [_, _, _, _] ⟨x, .inr ⟨x, by simp, rfl⟩, rfl⟩ hs
        · clear hs
          rintro Dd W0 L0 hi hs
          obtain ⟨lst, hlst, rfl⟩ := hi
          simp only [List.cons_append, List.nil_append] at hs
          refine Z.nblock ?_
          refine Z.nthen ?_
          refine Z.seq ?_
          refine Z.region ?_
          have eb : bcs m.bs (gps m.b0 m.b1 m.b2 m.b3) = [.int .i64 (m).b0, .int .i64 (m).b1, .int .i64 (m).b2, .int .i64 (m).b3] := by
            unfold bcs
            rw [ha 0 (by omega), ha 1 (by omega), ha 2 (by omega), ha 3 (by omega)]
            rfl
          rw [eb] at hs
          refine Z.l rfl rfl (by rfl) (Z.keepS hs) (by first | exact Z.Yd.loadA _ rfl Try.isAgg22 (fun _ => Z.cellsB (by first | ((repeat (first | exact List.mem_cons_self | refine List.mem_cons_of_mem _ ?_ | refine List.mem_append_right _ ?_)); done) | fail)) (by exact Try.sizeOf22) | fail "load 14.0") ?_
          refine Z.l rfl rfl (by rfl) (Z.keepS hs) (Z.Yd.fieldA (m := 5) rfl (by kernel_rfl)) ?_
          refine Z.l rfl rfl (by rfl) (Z.keepS hs) (Z.Yd.loadA _ rfl Try.isAgg22 (fun _ => Z.cellsBo (cs := m.ref) [.int .i64 (m).b0, .int .i64 (m).b1, .int .i64 (m).b2, .int .i64 (m).b3] (by first | ((repeat (first | exact List.mem_cons_self | refine List.mem_cons_of_mem _ ?_ | refine List.mem_append_right _ ?_)); done) | fail) ⟨m.ref.drop 9, rfl⟩) (by exact Try.sizeOf22)) ?_
          refine Z.l rfl rfl (by rfl) (Z.keepS hs) (Z.Yd.eqA (.ar 4 1 (.i)) rfl rfl rfl rfl (by kernel_rfl) (by kernel_rfl) rfl) ?_
          refine Z.le rfl trivial ?_
          first | refine Z.ZO.store rfl rfl hs Try.sizeOf4 rfl rfl rfl (by first | exact SX.at0 | exact SX.at1 | exact SX.at2 | exact SX.at3 | exact SX.at4 | exact SX.at5 | exact Z.at6 | exact Z.at7 | exact Z.at8 | exact Z.at9 | exact Z.at10 | exact Z.at11 | exact Z.at12) (by first | (simp; done) | (simp; omega)) ?_ | refine Z.ZO.storeR rfl rfl hs Try.sizeOf4 rfl rfl rfl (by first | exact SX.at0 | exact SX.at1 | exact SX.at2 | exact SX.at3 | exact SX.at4 | exact SX.at5 | exact Z.at6 | exact Z.at7 | exact Z.at8 | exact Z.at9 | exact Z.at10 | exact Z.at11 | exact Z.at12) (by first | omega | (simp [ints_length]; done) | (simp [ints_length]; omega)) ?_
          clear hs; intro ws hs
          simp only [Nat.zero_add, Nat.add_zero, Nat.reduceAdd, Int.reduceToNat, Nat.reduceMul, List.set_cons_zero, List.set_cons_succ, List.setIfInBounds_toArray] at hs
          refine Z.lnil ?_
          refine Z.only [4] rfl ?_
          refine Z.nthen ?_
          refine Z.ret ?_
          -- ret#0
          refine Z.outM1 (vs := [_]) (show SX.St w [] _ ([_, _, _, _] ++ SX.Ent.obj Dd (.deferred (some [])) :: [_]) from hs) (fun wr hs => (by exact ⟨⟨_, rfl, Z.rvc hs Try.isAgg4 (by first | ((repeat (first | exact List.mem_cons_self | refine List.mem_cons_of_mem _ ?_ | refine List.mem_append_right _ ?_)); done) | fail) rfl⟩, trivial⟩)) (by exact ⟨⟨_, rfl, Z.rvc hs Try.isAgg4 (by first | ((repeat (first | exact List.mem_cons_self | refine List.mem_cons_of_mem _ ?_ | refine List.mem_append_right _ ?_)); done) | fail) rfl⟩, trivial⟩) ?_
          clear hs
          intro wr hs
          exact ⟨_, rfl, by simp; rfl, hs.sub (List.nil_sublist _)⟩
        · clear hs
          rintro Dd c W0 L0 hi hs
          exact hi.elim
        )
  · first
      | (exfalso; simp at hsp21 <;> omega)
      | (
        refine Z.yes (s := 21) (b := false) rfl hsp21 rfl ?_
        (try simp at hsp21)
        refine Z.tb [12] (by kernel_rfl) rfl ⟨_, hs, by first | (simp; done) | exact fun e he => List.mem_append_right _ he⟩ rfl ?_
        refine Z.t 14 rfl rfl rfl (by rfl) (by kernel_rfl) ⟨_, hs, by first | (simp; done) | exact fun e he => List.mem_append_right _ he⟩ (Z.Yd.fieldA (m := 10) rfl (by kernel_rfl)) ?_
        refine Z.t 15 rfl rfl rfl (by rfl) (by kernel_rfl) ⟨_, hs, by first | (simp; done) | exact fun e he => List.mem_append_right _ he⟩ (by first | exact Z.Yd.load rfl Try.isAgg4 (fun _ => Z.cellB (by first | ((repeat (first | exact List.mem_cons_self | refine List.mem_cons_of_mem _ ?_ | refine List.mem_append_right _ ?_)); done) | fail) rfl) | exact Z.Yd.load rfl Try.isAgg4 (fun _ => Z.cellO (by assumption) (by simp) (by assumption)) | fail "load 1.15") ?_
        refine Z.yes (s := 21) (b := false) rfl rfl rfl ?_
        refine Z.tn 13 rfl rfl (by kernel_rfl) rfl (by exact ⟨rfl, trivial⟩) ?_
        refine Z.ZO.call rfl rfl (by rfl) rfl rfl Try.call15 rfl (rp_request g m _ (hc.st (hs.sub (List.nil_sublist _)))) ?_
        rintro v1_13 w1_13 ⟨rfl, hy⟩
        replace hs := hs.call hy
        clear hy
        try simp only [List.cons_append, List.nil_append, List.append_nil] at hs
        refine Z.tk (Dn := fun _ => true) (i := 13) (fun _ => ⟨_, hs, by first | (simp; done) | exact fun e he => List.mem_append_right _ he⟩) ?_
        refine Z.t 16 rfl rfl rfl (by rfl) (by kernel_rfl) ⟨_, hs, by first | (simp; done) | exact fun e he => List.mem_append_right _ he⟩ (Z.Yd.bin rfl rfl (by intro _ w; go_simp; try rfl)) ?_
        refine Z.yes (s := 21) (b := false) rfl rfl rfl ?_
        refine Z.t 17 rfl rfl rfl (by rfl) (by kernel_rfl) ⟨_, hs, by first | (simp; done) | exact fun e he => List.mem_append_right _ he⟩ (Z.Yd.pickF rfl rfl) ?_
        refine Z.td (by rfl) (by kernel_rfl) ?_
        refine Z.only [0, 3, 4, 27] rfl ?_
        refine Z.nthen ?_
        refine Z.cond rfl (fun h => absurd h (by simp)) (fun hc1 => ?_)
        refine Z.skip ?_
        refine Z.nthen ?_
        refine Z.seq ?_
        refine Z.region ?_
        refine Z.lb 1 rfl ?_
        refine Z.le rfl trivial ?_
        refine Z.ZO.call rfl rfl (by rfl) rfl rfl Try.call12 rfl (rp_Groups g m _ (hc.st (hs.sub (List.nil_sublist _)))) ?_
        rintro v3_1 w3_1 ⟨g2, rfl, hy⟩
        replace hs := hs.call hy
        clear hy
        try simp only [List.cons_append, List.nil_append, List.append_nil] at hs
        refine Z.lb 1 rfl ?_
        refine Z.lnil ?_
        refine Z.only [3, 4, 5] rfl ?_
        refine Z.nthen ?_
        refine Z.seq ?_
        refine Z.seq ?_
        refine Z.region ?_
        refine Z.lb 1 rfl ?_
        refine Z.l rfl rfl (by rfl) (Z.keepS hs) (Z.Yd.fnNil rfl rfl Try.underlying37) ?_
        refine Z.lnil ?_
        refine Z.only [3, 4, 5, 31] rfl ?_
        refine Z.nthen ?_
        refine Z.cond rfl (fun h => absurd h (by simp)) (fun hc4 => ?_)
        refine Z.skip ?_
        refine Z.nthen ?_
        refine Z.seq ?_
        refine Z.region ?_
        refine Z.le rfl trivial ?_
        refine Z.ZO.alloc rfl rfl (by rfl) Try.zeroValue3 rfl hs ?_
        clear hs; intro g6 w6 hs
        refine Z.le rfl trivial ?_
        first | refine Z.ZO.store rfl rfl hs Try.sizeOf3 rfl rfl rfl (by first | exact SX.at0 | exact SX.at1 | exact SX.at2 | exact SX.at3 | exact SX.at4 | exact SX.at5 | exact Z.at6 | exact Z.at7 | exact Z.at8 | exact Z.at9 | exact Z.at10 | exact Z.at11 | exact Z.at12) (by first | (simp; done) | (simp; omega)) ?_ | refine Z.ZO.storeR rfl rfl hs Try.sizeOf3 rfl rfl rfl (by first | exact SX.at0 | exact SX.at1 | exact SX.at2 | exact SX.at3 | exact SX.at4 | exact SX.at5 | exact Z.at6 | exact Z.at7 | exact Z.at8 | exact Z.at9 | exact Z.at10 | exact Z.at11 | exact Z.at12) (by first | omega | (simp [ints_length]; done) | (simp [ints_length]; omega)) ?_
        clear hs; intro ws hs
        simp only [Nat.zero_add, Nat.add_zero, Nat.reduceAdd, Int.reduceToNat, Nat.reduceMul, List.set_cons_zero, List.set_cons_succ, List.setIfInBounds_toArray] at hs
        refine Z.lnil ?_
        refine Z.only [3, 4, 5, 6] rfl ?_
        refine Z.nthen ?_
        refine Z.seq ?_
        refine Z.region ?_
        refine Z.le rfl trivial ?_
        refine Z.ZO.alloc rfl rfl (by rfl) Try.zeroValue22 rfl hs ?_
        clear hs; intro g7 w7 hs
        refine Z.lnil ?_
        refine Z.only [3, 4, 5, 6, 7] rfl ?_
        refine Z.nthen ?_
        refine Z.seq ?_
        refine Z.seq ?_
        refine Z.region ?_
        refine Z.lb 1 rfl ?_
        refine Z.lnil ?_
        refine Z.only [3, 4, 6, 7, 32] rfl ?_
        refine Z.nthen ?_
        refine Z.block ?_
        refine Z.rangeFunc (ps := [33, 34]) (L0 := [SX.Ent.blk g7 22 (bcs m.bs []).toArray, SX.Ent.blk g6 3 #[.int .i64 (-1)], SX.Ent.blk g4 4 #[.bool false], SX.Ent.blk g3 31 #[.int .i64 (m).c0, .int .i64 (m).c1, .int .i64 (m).c2, .int .i64 (m).c3, .int .i64 (m).now, .int .i64 (m).b0, .int .i64 (m).b1, .int .i64 (m).b2, .int .i64 (m).b3, .int .i64 (m).head, .bool (m).reg, .bool (m).per, .bool (m).pow, .bool (m).fst, .int .i64 (m).last, .int .i64 (m).lastP, .int .i64 (m).told]]) (groups_seq g2 _ m.b0 m.b1 m.b2 m.b3) rfl Try.call30 ((hs.sel [0, 1, 3, 4, 2] (by decide))) trivial (by rintro x args Lx ⟨rfl, rfl⟩; rfl) rfl (fun pre L => ∃ lst : Int, (lst = -1 ∨ ∃ y : Nat, y ∈ pre ∧ lst = y) ∧ L = [SX.Ent.blk g7 22 (bcs m.bs pre).toArray, SX.Ent.blk g6 3 #[.int .i64 lst], SX.Ent.blk g4 4 #[.bool false], SX.Ent.blk g3 31 #[.int .i64 (m).c0, .int .i64 (m).c1, .int .i64 (m).c2, .int .i64 (m).c3, .int .i64 (m).now, .int .i64 (m).b0, .int .i64 (m).b1, .int .i64 (m).b2, .int .i64 (m).b3, .int .i64 (m).head, .bool (m).reg, .bool (m).per, .bool (m).pow, .bool (m).fst, .int .i64 (m).last, .int .i64 (m).lastP, .int .i64 (m).told]]) (fun _ _ => False) ⟨-1, .inl rfl, rfl⟩ ?_ ?_ ?_
        · clear hs
          rintro l0 Z0 pre x args W0 L0 Lx ⟨lst, hlst, rfl⟩ hpre ⟨rfl, rfl⟩ hs
          refine ⟨_, rfl, ?_⟩
          refine Z.seq ?_
          refine Z.region ?_
          refine Z.lb 1 rfl ?_
          refine Z.lnil ?_
          refine Z.only [3, 4, 6, 7, 8, 34] rfl ?_
          refine Z.nthen ?_
          refine Z.region ?_
          refine Z.lb 1 rfl ?_
          refine Z.lnil ?_
          refine Z.only [3, 4, 6, 7, 8, 9] rfl ?_
          refine Z.nthen ?_
          refine Z.assigned [SX.Ent.blk g7 22 (bcs m.bs pre).toArray, SX.Ent.blk g6 3 #[.int .i64 lst], SX.Ent.blk g4 4 #[.bool false], SX.Ent.blk g3 31 #[.int .i64 (m).c0, .int .i64 (m).c1, .int .i64 (m).c2, .int .i64 (m).c3, .int .i64 (m).now, .int .i64 (m).b0, .int .i64 (m).b1, .int .i64 (m).b2, .int .i64 (m).b3, .int .i64 (m).head, .bool (m).reg, .bool (m).per, .bool (m).pow, .bool (m).fst, .int .i64 (m).last, .int .i64 (m).lastP, .int .i64 (m).told]] hs ?_
          clear hs
          intro Wb0 Zb0 hs
          refine Z.block ?_
          refine Z.seq ?_
          refine Z.seq ?_
          refine Z.region ?_
          obtain ⟨hlt, hx4, hx0, -, hlen⟩ := gps_pre hpre
          have hlx : lst < (x : Int) := by
            rcases hlst with rfl | ⟨y, hy, rfl⟩
            · omega
            · have := hlt y hy; omega
          simp only [List.cons_append, List.nil_append] at hs
          refine Z.l rfl rfl (by rfl) (Z.keepS hs) (Z.Yd.pure rfl) ?_
          refine Z.l rfl rfl (by rfl) (Z.keepS hs) (by first | exact Z.Yd.load rfl Try.isAgg3 (fun _ => Z.cellB (by first | ((repeat (first | exact List.mem_cons_self | refine List.mem_cons_of_mem _ ?_ | refine List.mem_append_right _ ?_)); done) | fail) rfl) | exact Z.Yd.load rfl Try.isAgg3 (fun _ => Z.cellO (by assumption) (by simp) (by assumption)) | fail "load 11.1") ?_
          refine Z.lb 9 rfl ?_
          refine Z.lnil ?_
          refine Z.only [3, 4, 6, 7, 8, 9, 45] rfl ?_
          refine Z.nthen ?_
          refine Z.cond rfl (fun h => absurd h (by simp; omega)) (fun hc11 => ?_)
          refine Z.skip ?_
          refine Z.nthen ?_
          refine Z.region ?_
          refine Z.lb 3 rfl ?_
          refine Z.le rfl trivial ?_
          first | refine Z.ZO.store rfl rfl hs Try.sizeOf3 rfl rfl rfl (by first | exact SX.at0 | exact SX.at1 | exact SX.at2 | exact SX.at3 | exact SX.at4 | exact SX.at5 | exact Z.at6 | exact Z.at7 | exact Z.at8 | exact Z.at9 | exact Z.at10 | exact Z.at11 | exact Z.at12) (by first | (simp; done) | (simp; omega)) ?_ | refine Z.ZO.storeR rfl rfl hs Try.sizeOf3 rfl rfl rfl (by first | exact SX.at0 | exact SX.at1 | exact SX.at2 | exact SX.at3 | exact SX.at4 | exact SX.at5 | exact Z.at6 | exact Z.at7 | exact Z.at8 | exact Z.at9 | exact Z.at10 | exact Z.at11 | exact Z.at12) (by first | omega | (simp [ints_length]; done) | (simp [ints_length]; omega)) ?_
          clear hs; intro ws hs
          simp only [Nat.zero_add, Nat.add_zero, Nat.reduceAdd, Int.reduceToNat, Nat.reduceMul, List.set_cons_zero, List.set_cons_succ, List.setIfInBounds_toArray] at hs
          refine Z.l rfl rfl (by rfl) (Z.keepS hs) (Z.Yd.elemA rfl rfl Try.underlying22 Try.sizeOf3 (fun hG => ⟨(by first | omega | (have hG' := Z.gh rfl hG; simp at hG'; omega)), (by first | omega | (have hG' := Z.gh rfl hG; simp at hG'; omega))⟩)) ?_
          refine Z.le rfl trivial ?_
          first | refine Z.ZO.store rfl rfl hs Try.sizeOf3 rfl rfl rfl (by first | exact SX.at0 | exact SX.at1 | exact SX.at2 | exact SX.at3 | exact SX.at4 | exact SX.at5 | exact Z.at6 | exact Z.at7 | exact Z.at8 | exact Z.at9 | exact Z.at10 | exact Z.at11 | exact Z.at12) (by first | (simp; done) | (simp; omega)) ?_ | refine Z.ZO.storeR rfl rfl hs Try.sizeOf3 rfl rfl rfl (by first | exact SX.at0 | exact SX.at1 | exact SX.at2 | exact SX.at3 | exact SX.at4 | exact SX.at5 | exact Z.at6 | exact Z.at7 | exact Z.at8 | exact Z.at9 | exact Z.at10 | exact Z.at11 | exact Z.at12) (by first | omega | (simp [ints_length]; done) | (simp [ints_length]; omega)) ?_
          clear hs; intro ws hs
          simp only [Nat.zero_add, Nat.add_zero, Nat.reduceAdd, Int.reduceToNat, Nat.reduceMul, List.set_cons_zero, List.set_cons_succ, List.setIfInBounds_toArray] at hs
          refine Z.lnil ?_
          refine Z.only [3, 4, 7] rfl ?_
          refine Z.nblock ?_
          rw [bcs_set m.bs pre x hx4] at hs
          exact Z.rnorm [_, _, _, _] ⟨x, .inr ⟨x, by simp, rfl⟩, rfl⟩ hs
        · clear hs
          rintro Dd W0 L0 hi hs
          obtain ⟨lst, hlst, rfl⟩ := hi
          simp only [List.cons_append, List.nil_append] at hs
          refine Z.nblock ?_
          refine Z.nthen ?_
          refine Z.seq ?_
          refine Z.region ?_
          have eb : bcs m.bs (gps m.b0 m.b1 m.b2 m.b3) = [.int .i64 (m).b0, .int .i64 (m).b1, .int .i64 (m).b2, .int .i64 (m).b3] := by
            unfold bcs
            rw [ha 0 (by omega), ha 1 (by omega), ha 2 (by omega), ha 3 (by omega)]
            rfl
          rw [eb] at hs
          refine Z.l rfl rfl (by rfl) (Z.keepS hs) (by first | exact Z.Yd.loadA _ rfl Try.isAgg22 (fun _ => Z.cellsB (by first | ((repeat (first | exact List.mem_cons_self | refine List.mem_cons_of_mem _ ?_ | refine List.mem_append_right _ ?_)); done) | fail)) (by exact Try.sizeOf22) | fail "load 14.0") ?_
          refine Z.l rfl rfl (by rfl) (Z.keepS hs) (Z.Yd.fieldA (m := 5) rfl (by kernel_rfl)) ?_
          refine Z.l rfl rfl (by rfl) (Z.keepS hs) (Z.Yd.loadA _ rfl Try.isAgg22 (fun _ => Z.cellsBo (cs := m.ref) [.int .i64 (m).b0, .int .i64 (m).b1, .int .i64 (m).b2, .int .i64 (m).b3] (by first | ((repeat (first | exact List.mem_cons_self | refine List.mem_cons_of_mem _ ?_ | refine List.mem_append_right _ ?_)); done) | fail) ⟨m.ref.drop 9, rfl⟩) (by exact Try.sizeOf22)) ?_
          refine Z.l rfl rfl (by rfl) (Z.keepS hs) (Z.Yd.eqA (.ar 4 1 (.i)) rfl rfl rfl rfl (by kernel_rfl) (by kernel_rfl) rfl) ?_
          refine Z.le rfl trivial ?_
          first | refine Z.ZO.store rfl rfl hs Try.sizeOf4 rfl rfl rfl (by first | exact SX.at0 | exact SX.at1 | exact SX.at2 | exact SX.at3 | exact SX.at4 | exact SX.at5 | exact Z.at6 | exact Z.at7 | exact Z.at8 | exact Z.at9 | exact Z.at10 | exact Z.at11 | exact Z.at12) (by first | (simp; done) | (simp; omega)) ?_ | refine Z.ZO.storeR rfl rfl hs Try.sizeOf4 rfl rfl rfl (by first | exact SX.at0 | exact SX.at1 | exact SX.at2 | exact SX.at3 | exact SX.at4 | exact SX.at5 | exact Z.at6 | exact Z.at7 | exact Z.at8 | exact Z.at9 | exact Z.at10 | exact Z.at11 | exact Z.at12) (by first | omega | (simp [ints_length]; done) | (simp [ints_length]; omega)) ?_
          clear hs; intro ws hs
          simp only [Nat.zero_add, Nat.add_zero, Nat.reduceAdd, Int.reduceToNat, Nat.reduceMul, List.set_cons_zero, List.set_cons_succ, List.setIfInBounds_toArray] at hs
          refine Z.lnil ?_
          refine Z.only [4] rfl ?_
          refine Z.nthen ?_
          refine Z.ret ?_
          -- ret#1
          refine Z.outM1 (vs := [_]) (show SX.St w [] _ ([_, _, _, _] ++ SX.Ent.obj Dd (.deferred (some [])) :: [_]) from hs) (fun wr hs => (by exact ⟨⟨_, rfl, Z.rvc hs Try.isAgg4 (by first | ((repeat (first | exact List.mem_cons_self | refine List.mem_cons_of_mem _ ?_ | refine List.mem_append_right _ ?_)); done) | fail) rfl⟩, trivial⟩)) (by exact ⟨⟨_, rfl, Z.rvc hs Try.isAgg4 (by first | ((repeat (first | exact List.mem_cons_self | refine List.mem_cons_of_mem _ ?_ | refine List.mem_append_right _ ?_)); done) | fail) rfl⟩, trivial⟩) ?_
          clear hs
          intro wr hs
          exact ⟨_, rfl, by simp; rfl, hs.sub (List.nil_sublist _)⟩
        · clear hs
          rintro Dd c W0 L0 hi hs
          exact hi.elim
        )
structure RxV where
  w : Int
  t : Int
  a : Int
  b : Int
  c : Int
  d : Int
  n : Int
def RxV.cells (x : RxV) : List Value := [.int .i64 x.w, .int .i64 x.t, .int .i64 x.a, .int .i64 x.b, .int .i64 x.c, .int .i64 x.d, .int .i64 x.n]
def RxV.fits (x : RxV) : Prop := x.n ≤ 9223372036854775807
def RxV.at (x : RxV) (now : Int) : Int := if x.w < 5 then now + max 0 (min 2000000 x.t) else x.t
def actV (m : RpV) (x : RxV) : RpV :=
  if x.w = 0 ∨ x.w = 1 ∨ x.w = 2 ∨ x.w = 5 then (updV m (x.at m.now) x.a x.b x.c x.d x.n).1
  else if x.w = 3 ∨ x.w = 4 ∨ x.w = 6 then (elsV m (x.at m.now) x.n).1 else m
theorem RpV.ok.act {m : RpV} (hm : m.ok) (x : RxV) : (actV m x).ok := by
  unfold actV
  split
  · exact hm.updV _ _ _ _ _ _
  · split
    · exact hm.elsV _ _
    · exact hm
theorem rr_one (m : RpV) : ∀ u ∈ m.ref, u.oneCell' = true := by simp [RpV.ref, Value.oneCell']
theorem rx_one (x : RxV) : ∀ u ∈ x.cells, u.oneCell' = true := by simp [RxV.cells, Value.oneCell']
set_option maxHeartbeats 1000000 in
set_option maxRecDepth 100000 in
theorem rp_act (g : Nat) (m : RpV) (x : RxV) (w : World) (hs : SX.St w (SX.idsOf [SX.Ent.blk g 66 m.cells.toArray]) w [SX.Ent.blk g 66 m.cells.toArray]) (hm : m.ok) (hx : x.fits) :
    Calls Try.prog 19 #[.pointer (some ⟨g, 0, none⟩), .agg m.ref.toArray, .agg x.cells.toArray] w (SX.Ret fun v w' => ∃ g', v = .tuple #[.pointer (some ⟨g', 0, none⟩), .agg (actV m x).ref.toArray, .bool true] ∧ SX.St w (SX.idsOf [SX.Ent.blk g 66 m.cells.toArray]) w' [SX.Ent.blk g' 66 (actV m x).cells.toArray]) := by
  generalize hM : SX.idsOf [SX.Ent.blk g 66 m.cells.toArray] = M at *
  show Calls Try.prog 19 #[_, .agg #[.int .i64 (m).c0, .int .i64 (m).c1, .int .i64 (m).c2, .int .i64 (m).c3, .int .i64 (m).now, .int .i64 (m).b0, .int .i64 (m).b1, .int .i64 (m).b2, .int .i64 (m).b3, .int .i64 (m).head, .bool (m).reg, .bool (m).per, .bool (m).pow, .bool (m).fst, .int .i64 (m).last, .int .i64 (m).lastP, .int .i64 (m).told], .agg #[.int .i64 x.w, .int .i64 x.t, .int .i64 x.a, .int .i64 x.b, .int .i64 x.c, .int .i64 x.d, .int .i64 x.n]] w _
  have hnow := hm.now
  unfold RxV.fits at hx
  refine Z.enter Try.func19 rfl Try.ntmps19 rfl rfl ?_
  refine Z.seq ?_
  refine Z.region ?_
  refine Z.le rfl trivial ?_
  refine Z.ZO.box rfl rfl (by rfl) rfl rfl hs ?_
  clear hs; intro g4 w4 hs
  refine Z.le rfl trivial ?_
  refine Z.ZO.box rfl rfl (by rfl) rfl rfl hs ?_
  clear hs; intro g5 w5 hs
  refine Z.lb 1 rfl ?_
  refine Z.le rfl trivial ?_
  refine Z.ZO.alloc rfl rfl (by rfl) Try.zeroValue31 rfl hs ?_
  clear hs; intro g7 w7 hs
  refine Z.lb 1 rfl ?_
  refine Z.lnil ?_
  refine Z.only [0, 4, 5, 7] rfl ?_
  refine Z.nthen ?_
  refine Z.seq ?_
  refine Z.region ?_
  refine Z.l rfl rfl (by rfl) (Z.keepS hs) (Z.Yd.fieldA (m := 1) rfl (by kernel_rfl)) ?_
  refine Z.l rfl rfl (by rfl) (Z.keepS hs) (by first | exact Z.Yd.load rfl Try.isAgg3 (fun _ => Z.cellB (by first | ((repeat (first | exact List.mem_cons_self | refine List.mem_cons_of_mem _ ?_ | refine List.mem_append_right _ ?_)); done) | fail) rfl) | exact Z.Yd.load rfl Try.isAgg3 (fun _ => Z.cellO (by assumption) (by simp) (by assumption)) | fail "load 1.1") ?_
  refine Z.lb 1 rfl ?_
  refine Z.lnil ?_
  refine Z.only [0, 4, 5, 7, 9] rfl ?_
  refine Z.nthen ?_
  refine Z.seq ?_
  refine Z.seq ?_
  refine Z.region ?_
  refine Z.l rfl rfl (by rfl) (Z.keepS hs) (Z.Yd.fieldA (m := 0) rfl (by kernel_rfl)) ?_
  refine Z.l rfl rfl (by rfl) (Z.keepS hs) (by first | exact Z.Yd.load rfl Try.isAgg3 (fun _ => Z.cellB (by first | ((repeat (first | exact List.mem_cons_self | refine List.mem_cons_of_mem _ ?_ | refine List.mem_append_right _ ?_)); done) | fail) rfl) | exact Z.Yd.load rfl Try.isAgg3 (fun _ => Z.cellO (by assumption) (by simp) (by assumption)) | fail "load 2.1") ?_
  refine Z.lb 1 rfl ?_
  refine Z.lnil ?_
  refine Z.only [0, 4, 5, 7, 9, 21] rfl ?_
  refine Z.nthen ?_
  refine Z.cutt (ι := Unit) [0, 4, 5, 7] rfl (fun _ => [(9, [], .int .i64 (x.at m.now))]) (fun _ wr => SX.St w M wr [SX.Ent.blk g7 31 zeroR.ref.toArray, SX.Ent.blk g5 43 #[.int .i64 x.w, .int .i64 x.t, .int .i64 x.a, .int .i64 x.b, .int .i64 x.c, .int .i64 x.d, .int .i64 x.n], SX.Ent.blk g4 31 m.ref.toArray, SX.Ent.blk g 66 m.cells.toArray]) ?_ ?_
  · skip
    refine Z.cond rfl (fun hc2 => ?_) (fun hc2 => ?_)
    · first
        | (exfalso; simp at hc2 <;> omega)
        | (
          (try simp at hc2)
          refine Z.region ?_
          refine Z.l rfl rfl (by rfl) (Z.keepS hs) (Z.Yd.fieldA (m := 4) rfl (by kernel_rfl)) ?_
          refine Z.l rfl rfl (by rfl) (Z.keepS hs) (by first | exact Z.Yd.load rfl Try.isAgg3 (fun _ => Z.cellB (by first | ((repeat (first | exact List.mem_cons_self | refine List.mem_cons_of_mem _ ?_ | refine List.mem_append_right _ ?_)); done) | fail) rfl) | exact Z.Yd.load rfl Try.isAgg3 (fun _ => Z.cellO (by assumption) (by simp) (by assumption)) | fail "load 3.1") ?_
          refine Z.l rfl rfl (by rfl) (Z.keepS hs) (Z.Yd.fieldA (m := 1) rfl (by kernel_rfl)) ?_
          refine Z.l rfl rfl (by rfl) (Z.keepS hs) (by first | exact Z.Yd.load rfl Try.isAgg3 (fun _ => Z.cellB (by first | ((repeat (first | exact List.mem_cons_self | refine List.mem_cons_of_mem _ ?_ | refine List.mem_append_right _ ?_)); done) | fail) rfl) | exact Z.Yd.load rfl Try.isAgg3 (fun _ => Z.cellO (by assumption) (by simp) (by assumption)) | fail "load 3.3") ?_
          refine Z.l rfl rfl (by rfl) (Z.keepS hs) (Z.Yd.min rfl rfl) ?_
          refine Z.l rfl rfl (by rfl) (Z.keepS hs) (Z.Yd.max rfl rfl) ?_
          refine Z.l rfl rfl (by rfl) (Z.keepS hs) (Z.Yd.add rfl rfl (fun hG => Z.wi64 (by first | omega | (have hG' := Z.gh rfl hG; simp at hG'; omega)))) ?_
          refine Z.lb 1 rfl ?_
          refine Z.lnil ?_
          refine Z.only [0, 4, 5, 7, 9] rfl ?_
          refine Z.nthen ?_
          exact Z.meet () (by refine ⟨?_, ?_, ?_, ?_, ?_, trivial⟩ <;> first | rfl | (refine Z.lookv rfl ?_; congr 1; unfold RxV.at; first | (rw [if_pos (by assumption)]) | (rw [if_neg (by omega)]))) hs
          )
    · first
        | (exfalso; simp at hc2 <;> omega)
        | (
          (try simp at hc2)
          refine Z.skip ?_
          refine Z.nthen ?_
          exact Z.meet () (by refine ⟨?_, ?_, ?_, ?_, ?_, trivial⟩ <;> first | rfl | (refine Z.lookv rfl ?_; congr 1; unfold RxV.at; first | (rw [if_pos (by assumption)]) | (rw [if_neg (by omega)]))) hs
          )
  · clear hs
    rintro _ w2 hs
    refine Z.only [0, 4, 5, 7, 9] rfl ?_
    have hone0 := rr_one m
    have hone1 := rr_one (updV m (x.at m.now) x.a x.b x.c x.d x.n).1
    have hone2 := rr_one (elsV m (x.at m.now) x.n).1
    obtain ⟨tt, htt⟩ : ∃ tt, tt = x.at m.now := ⟨_, rfl⟩
    refine Z.seq ?_
    refine Z.seq ?_
    refine Z.region ?_
    refine Z.l rfl rfl (by rfl) (Z.keepS hs) (Z.Yd.fieldA (m := 0) rfl (by kernel_rfl)) ?_
    refine Z.l rfl rfl (by rfl) (Z.keepS hs) (by first | exact Z.Yd.load rfl Try.isAgg3 (fun _ => Z.cellB (by first | ((repeat (first | exact List.mem_cons_self | refine List.mem_cons_of_mem _ ?_ | refine List.mem_append_right _ ?_)); done) | fail) rfl) | exact Z.Yd.load rfl Try.isAgg3 (fun _ => Z.cellO (by assumption) (by simp) (by assumption)) | fail "load 4.1") ?_
    refine Z.lnil ?_
    refine Z.only [0, 4, 5, 7, 9, 30] rfl ?_
    refine Z.nthen ?_
    refine Z.block ?_
    refine Z.seq ?_
    refine Z.seq ?_
    refine Z.region ?_
    refine Z.lb 2 rfl ?_
    refine Z.lnil ?_
    refine Z.only [0, 4, 5, 7, 9, 30, 31] rfl ?_
    refine Z.nthen ?_
    refine Z.cutt (ι := Unit) [0, 4, 5, 7, 9, 30] rfl (fun _ => [(31, [], .bool (decide (x.w = 0 ∨ x.w = 1 ∨ x.w = 2 ∨ x.w = 5)))]) (fun _ wr => SX.St w M wr [SX.Ent.blk g7 31 zeroR.ref.toArray, SX.Ent.blk g5 43 #[.int .i64 x.w, .int .i64 x.t, .int .i64 x.a, .int .i64 x.b, .int .i64 x.c, .int .i64 x.d, .int .i64 x.n], SX.Ent.blk g4 31 m.ref.toArray, SX.Ent.blk g 66 m.cells.toArray]) ?_ ?_
    · skip
      refine Z.cond rfl (fun hc5 => ?_) (fun hc5 => ?_)
      · first
          | (exfalso; simp at hc5 <;> omega)
          | (
            (try simp at hc5)
            refine Z.skip ?_
            refine Z.nthen ?_
            exact Z.meet () (by refine ⟨?_, ?_, ?_, ?_, ?_, ?_, ?_, trivial⟩ <;> first | rfl | (refine Z.lookv rfl ?_; congr 1; rw [Bool.eq_iff_iff]; simp; omega)) hs
            )
      · first
          | (exfalso; simp at hc5 <;> omega)
          | (
            (try simp at hc5)
            refine Z.seq ?_
            refine Z.region ?_
            refine Z.lb 2 rfl ?_
            refine Z.lnil ?_
            refine Z.only [0, 4, 5, 7, 9, 30, 31] rfl ?_
            refine Z.nthen ?_
            refine Z.cond rfl (fun hc6 => ?_) (fun hc6 => ?_)
            · first
                | (exfalso; simp at hc6 <;> omega)
                | (
                  (try simp at hc6)
                  refine Z.skip ?_
                  refine Z.nthen ?_
                  exact Z.meet () (by refine ⟨?_, ?_, ?_, ?_, ?_, ?_, ?_, trivial⟩ <;> first | rfl | (refine Z.lookv rfl ?_; congr 1; rw [Bool.eq_iff_iff]; simp; omega)) hs
                  )
            · first
                | (exfalso; simp at hc6 <;> omega)
                | (
                  (try simp at hc6)
                  refine Z.seq ?_
                  refine Z.region ?_
                  refine Z.lb 2 rfl ?_
                  refine Z.lnil ?_
                  refine Z.only [0, 4, 5, 7, 9, 30, 31] rfl ?_
                  refine Z.nthen ?_
                  refine Z.cond rfl (fun hc7 => ?_) (fun hc7 => ?_)
                  · first
                      | (exfalso; simp at hc7 <;> omega)
                      | (
                        (try simp at hc7)
                        refine Z.skip ?_
                        refine Z.nthen ?_
                        exact Z.meet () (by refine ⟨?_, ?_, ?_, ?_, ?_, ?_, ?_, trivial⟩ <;> first | rfl | (refine Z.lookv rfl ?_; congr 1; rw [Bool.eq_iff_iff]; simp; omega)) hs
                        )
                  · first
                      | (exfalso; simp at hc7 <;> omega)
                      | (
                        (try simp at hc7)
                        refine Z.region ?_
                        refine Z.lb 2 rfl ?_
                        refine Z.lnil ?_
                        refine Z.only [0, 4, 5, 7, 9, 30, 31] rfl ?_
                        refine Z.nthen ?_
                        exact Z.meet () (by refine ⟨?_, ?_, ?_, ?_, ?_, ?_, ?_, trivial⟩ <;> first | rfl | (refine Z.lookv rfl ?_; congr 1; rw [Bool.eq_iff_iff]; simp; omega)) hs
                        )
                  )
            )
    · clear hs
      rintro _ w5 hs
      refine Z.only [0, 4, 5, 7, 9, 30, 31] rfl ?_
      refine Z.cond rfl (fun hc8 => ?_) (fun hc8 => ?_)
      · first
          | (exfalso; simp at hc8 <;> omega)
          | (
            (try simp at hc8)
            have hw : x.w = 0 ∨ x.w = 1 ∨ x.w = 2 ∨ x.w = 5 := by assumption
            have eA : actV m x = (updV m (x.at m.now) x.a x.b x.c x.d x.n).1 := if_pos hw
            rw [eA]
            refine Z.seq ?_
            refine Z.region ?_
            refine Z.l rfl rfl (by rfl) (Z.keepS hs) (Z.Yd.loadA _ rfl Try.isAgg31 (fun _ => Z.cellsB (cs := m.ref) (by first | ((repeat (first | exact List.mem_cons_self | refine List.mem_cons_of_mem _ ?_ | refine List.mem_append_right _ ?_)); done) | fail)) (by exact Try.sizeOf31)) ?_
            refine Z.lb 1 rfl ?_
            refine Z.l rfl rfl (by rfl) (Z.keepS hs) (Z.Yd.fieldA (m := 2) rfl (by kernel_rfl)) ?_
            refine Z.l rfl rfl (by rfl) (Z.keepS hs) (Z.Yd.loadA _ rfl Try.isAgg22 (fun _ => Z.cellsBo (cs := x.cells) [.int .i64 x.a, .int .i64 x.b, .int .i64 x.c, .int .i64 x.d] (by first | ((repeat (first | exact List.mem_cons_self | refine List.mem_cons_of_mem _ ?_ | refine List.mem_append_right _ ?_)); done) | fail) ⟨[_], rfl⟩) (by exact Try.sizeOf22)) ?_
            refine Z.l rfl rfl (by rfl) (Z.keepS hs) (Z.Yd.fieldA (m := 6) rfl (by kernel_rfl)) ?_
            refine Z.l rfl rfl (by rfl) (Z.keepS hs) (by first | exact Z.Yd.load rfl Try.isAgg3 (fun _ => Z.cellB (by first | ((repeat (first | exact List.mem_cons_self | refine List.mem_cons_of_mem _ ?_ | refine List.mem_append_right _ ?_)); done) | fail) rfl) | exact Z.Yd.load rfl Try.isAgg3 (fun _ => Z.cellO (by assumption) (by simp) (by assumption)) | fail "load 9.5") ?_
            refine Z.le rfl trivial ?_
            refine Z.ZO.call rfl rfl (by rfl) rfl rfl Try.call10 rfl (rpr_update m (x.at m.now) x.a x.b x.c x.d x.n _ hm) ?_
            rintro v9_6 w9_6 ⟨rfl, hy⟩
            replace hs := hs.call hy
            clear hy
            try simp only [List.cons_append, List.nil_append, List.append_nil] at hs
            refine Z.lb 3 rfl ?_
            refine Z.le rfl trivial ?_
            refine Z.ZO.alloc rfl rfl (by rfl) Try.zeroValue31 rfl hs ?_
            clear hs; intro g10 w10 hs
            refine Z.le rfl trivial ?_
            first | refine Z.ZO.storeA rfl rfl hs rfl rfl (by kernel_rfl) (by first | (simp [Value.oneCell']; done) | (refine Z.all_one ?_; assumption)) (by first | exact SX.at0 | exact SX.at1 | exact SX.at2 | exact SX.at3 | exact SX.at4 | exact SX.at5 | exact Z.at6 | exact Z.at7 | exact Z.at8 | exact Z.at9 | exact Z.at10 | exact Z.at11 | exact Z.at12) (by rfl) ?_ | refine Z.ZO.storeP rfl rfl hs rfl rfl (by kernel_rfl) (by first | (simp [Value.oneCell']; done) | (refine Z.all_one ?_; assumption)) (by first | exact SX.at0 | exact SX.at1 | exact SX.at2 | exact SX.at3 | exact SX.at4 | exact SX.at5 | exact Z.at6 | exact Z.at7 | exact Z.at8 | exact Z.at9 | exact Z.at10 | exact Z.at11 | exact Z.at12) (by first | decide | (simp; done) | (simp; omega)) ?_ | refine Z.ZO.storePR rfl rfl hs rfl rfl (by kernel_rfl) (by first | (simp [Value.oneCell']; done) | (refine Z.all_one ?_; assumption)) (by first | exact SX.at0 | exact SX.at1 | exact SX.at2 | exact SX.at3 | exact SX.at4 | exact SX.at5 | exact Z.at6 | exact Z.at7 | exact Z.at8 | exact Z.at9 | exact Z.at10 | exact Z.at11 | exact Z.at12) (by first | decide | (simp; done) | (simp; omega)) ?_
            clear hs; intro ws hs
            simp only [Nat.zero_add, Nat.add_zero, Nat.reduceAdd, Int.reduceToNat, Nat.reduceMul, List.set_cons_zero, List.set_cons_succ, List.setIfInBounds_toArray] at hs
            try simp only [Z.putL, Nat.zero_add] at hs
            refine Z.lb 1 rfl ?_
            refine Z.lnil ?_
            refine Z.only [0, 5, 7, 9, 10, 11] rfl ?_
            refine Z.nthen ?_
            refine Z.seq ?_
            refine Z.drawL [SX.Ent.blk g10 31 (updV m (x.at m.now) x.a x.b x.c x.d x.n).1.ref.toArray, SX.Ent.blk g5 43 #[.int .i64 x.w, .int .i64 x.t, .int .i64 x.a, .int .i64 x.b, .int .i64 x.c, .int .i64 x.d, .int .i64 x.n]] (fun _ => true) mixed hs ?_
            clear hs; intro wd10 hs
            refine Z.tb [0] (by kernel_rfl) rfl ⟨_, hs, by first | (simp; done) | exact fun e he => List.mem_append_right _ he⟩ rfl ?_
            refine Z.t 1 rfl rfl rfl (by rfl) (by kernel_rfl) ⟨_, hs, by first | (simp; done) | exact fun e he => List.mem_append_right _ he⟩ (Z.Yd.loadA _ rfl Try.isAgg31 (fun _ => Z.cellsB (cs := (updV m (x.at m.now) x.a x.b x.c x.d x.n).1.ref) (by first | ((repeat (first | exact List.mem_cons_self | refine List.mem_cons_of_mem _ ?_ | refine List.mem_append_right _ ?_)); done) | fail)) (by exact Try.sizeOf31)) ?_
            refine Z.tb [2, 3] (by kernel_rfl) rfl ⟨_, hs, by first | (simp; done) | exact fun e he => List.mem_append_right _ he⟩ rfl ?_
            refine Z.t 4 rfl rfl rfl (by rfl) (by kernel_rfl) ⟨_, hs, by first | (simp; done) | exact fun e he => List.mem_append_right _ he⟩ (Z.Yd.fieldA (m := 2) rfl (by kernel_rfl)) ?_
            refine Z.t 5 rfl rfl rfl (by rfl) (by kernel_rfl) ⟨_, hs, by first | (simp; done) | exact fun e he => List.mem_append_right _ he⟩ (Z.Yd.loadA _ rfl Try.isAgg22 (fun _ => Z.cellsBo (cs := x.cells) [.int .i64 x.a, .int .i64 x.b, .int .i64 x.c, .int .i64 x.d] (by first | ((repeat (first | exact List.mem_cons_self | refine List.mem_cons_of_mem _ ?_ | refine List.mem_append_right _ ?_)); done) | fail) ⟨[_], rfl⟩) (by exact Try.sizeOf22)) ?_
            refine Z.t 6 rfl rfl rfl (by rfl) (by kernel_rfl) ⟨_, hs, by first | (simp; done) | exact fun e he => List.mem_append_right _ he⟩ (Z.Yd.fieldA (m := 6) rfl (by kernel_rfl)) ?_
            refine Z.t 7 rfl rfl rfl (by rfl) (by kernel_rfl) ⟨_, hs, by first | (simp; done) | exact fun e he => List.mem_append_right _ he⟩ (by first | exact Z.Yd.load rfl Try.isAgg3 (fun _ => Z.cellB (by first | ((repeat (first | exact List.mem_cons_self | refine List.mem_cons_of_mem _ ?_ | refine List.mem_append_right _ ?_)); done) | fail) rfl) | exact Z.Yd.load rfl Try.isAgg3 (fun _ => Z.cellO (by assumption) (by simp) (by assumption)) | fail "load 10.7") ?_
            refine Z.tb [10] (by kernel_rfl) rfl ⟨_, hs, by first | (simp; done) | exact fun e he => List.mem_append_right _ he⟩ rfl ?_
            replace hs : SX.St w M _ ([SX.Ent.blk g 66 m.cells.toArray] ++ [SX.Ent.blk g10 31 (updV m (x.at m.now) x.a x.b x.c x.d x.n).1.ref.toArray, SX.Ent.blk g7 31 zeroR.ref.toArray, SX.Ent.blk g5 43 #[.int .i64 x.w, .int .i64 x.t, .int .i64 x.a, .int .i64 x.b, .int .i64 x.c, .int .i64 x.d, .int .i64 x.n]]) := hs.sel [4, 0, 1, 2] (by decide)
            refine Z.tn 8 rfl rfl (by kernel_rfl) rfl trivial ?_
            refine Z.ZO.call rfl rfl (by rfl) rfl rfl Try.call9 rfl (rp_update g _ m (x.at m.now) x.a x.b x.c x.d x.n _ hs.lend hm) ?_
            rintro v10_8 w10_8 ⟨rfl, hz⟩
            replace hs := hs.regain hz
            simp only [List.cons_append, List.nil_append] at hs
            refine Z.tk (Dn := fun _ => true) (i := 8) (fun _ => ⟨_, hs, by first | (simp; done) | exact fun e he => List.mem_append_right _ he⟩) ?_
            refine Z.tn 9 rfl rfl (by kernel_rfl) rfl trivial ?_
            refine Z.ZO.call rfl rfl (by rfl) rfl rfl Try.call11 rfl (rp_num _ _) ?_
            rintro v10_9 w10_9 ⟨rfl, hy⟩
            replace hs := hs.call hy
            clear hy
            try simp only [List.cons_append, List.nil_append, List.append_nil] at hs
            refine Z.tk (Dn := fun _ => true) (i := 9) (fun _ => ⟨_, hs, by first | (simp; done) | exact fun e he => List.mem_append_right _ he⟩) ?_
            refine Z.tb [11, 12] (by kernel_rfl) rfl ⟨_, hs, by first | (simp; done) | exact fun e he => List.mem_append_right _ he⟩ rfl ?_
            refine Z.tn 13 rfl rfl (by kernel_rfl) rfl trivial ?_
            first | refine Z.ZO.storeA rfl rfl hs rfl rfl (by kernel_rfl) (by first | (simp [Value.oneCell']; done) | (refine Z.all_one ?_; assumption)) (by first | exact SX.at0 | exact SX.at1 | exact SX.at2 | exact SX.at3 | exact SX.at4 | exact SX.at5 | exact Z.at6 | exact Z.at7 | exact Z.at8 | exact Z.at9 | exact Z.at10 | exact Z.at11 | exact Z.at12) (by rfl) ?_ | refine Z.ZO.storeP rfl rfl hs rfl rfl (by kernel_rfl) (by first | (simp [Value.oneCell']; done) | (refine Z.all_one ?_; assumption)) (by first | exact SX.at0 | exact SX.at1 | exact SX.at2 | exact SX.at3 | exact SX.at4 | exact SX.at5 | exact Z.at6 | exact Z.at7 | exact Z.at8 | exact Z.at9 | exact Z.at10 | exact Z.at11 | exact Z.at12) (by first | decide | (simp; done) | (simp; omega)) ?_ | refine Z.ZO.storePR rfl rfl hs rfl rfl (by kernel_rfl) (by first | (simp [Value.oneCell']; done) | (refine Z.all_one ?_; assumption)) (by first | exact SX.at0 | exact SX.at1 | exact SX.at2 | exact SX.at3 | exact SX.at4 | exact SX.at5 | exact Z.at6 | exact Z.at7 | exact Z.at8 | exact Z.at9 | exact Z.at10 | exact Z.at11 | exact Z.at12) (by first | decide | (simp; done) | (simp; omega)) ?_
            clear hs; intro ws hs
            simp only [Nat.zero_add, Nat.add_zero, Nat.reduceAdd, Int.reduceToNat, Nat.reduceMul, List.set_cons_zero, List.set_cons_succ, List.setIfInBounds_toArray] at hs
            try simp only [Z.putL, Nat.zero_add] at hs
            refine Z.tk (Dn := fun _ => true) (i := 13) (fun _ => ⟨_, hs, by first | (simp; done) | exact fun e he => List.mem_append_right _ he⟩) ?_
            refine Z.tb [14] (by kernel_rfl) rfl ⟨_, hs, by first | (simp; done) | exact fun e he => List.mem_append_right _ he⟩ rfl ?_
            refine Z.td (by rfl) (by kernel_rfl) ?_
            refine Z.only [6, 7, 8] rfl ?_
            refine Z.nthen ?_
            refine Z.ret ?_
            repeat (first | refine Z.rthen ?_ | refine Z.rblock ?_ | refine Z.rscope ?_)
            -- ret#0
            refine Z.out3 (by exact ⟨rfl, ⟨_, rfl, Z.rvcA hs Try.isAgg31 (by first | ((repeat (first | exact List.mem_cons_self | refine List.mem_cons_of_mem _ ?_ | refine List.mem_append_right _ ?_)); done) | fail) (by exact Try.sizeOf31)⟩, rfl, trivial⟩) ?_
            first
            | exact ⟨_, rfl, _, rfl, hs.sel [0] (by decide)⟩
            | exact ⟨_, rfl, g, by simp, hs.sel [0] (by decide)⟩
            | exact ⟨_, rfl, g, by simp [hqs, hqs2], (SX.St.selT (L1 := [_, _, _, _, _]) hs [4] (by decide)).sub (List.sublist_append_left _ _)⟩
            )
      · first
          | (exfalso; simp at hc8 <;> omega)
          | (
            (try simp at hc8)
            have hw : ¬ (x.w = 0 ∨ x.w = 1 ∨ x.w = 2 ∨ x.w = 5) := by omega
            refine Z.seq ?_
            refine Z.seq ?_
            refine Z.region ?_
            refine Z.lb 2 rfl ?_
            refine Z.lnil ?_
            refine Z.only [0, 4, 5, 7, 9, 30, 58] rfl ?_
            refine Z.nthen ?_
            refine Z.cutt (ι := Unit) [0, 4, 5, 7, 9] rfl (fun _ => [(58, [], .bool (decide (x.w = 3 ∨ x.w = 4 ∨ x.w = 6)))]) (fun _ wr => SX.St w M wr [SX.Ent.blk g7 31 zeroR.ref.toArray, SX.Ent.blk g5 43 #[.int .i64 x.w, .int .i64 x.t, .int .i64 x.a, .int .i64 x.b, .int .i64 x.c, .int .i64 x.d, .int .i64 x.n], SX.Ent.blk g4 31 m.ref.toArray, SX.Ent.blk g 66 m.cells.toArray]) ?_ ?_
            · skip
              refine Z.cond rfl (fun hc11 => ?_) (fun hc11 => ?_)
              · first
                  | (exfalso; simp at hc11 <;> omega)
                  | (
                    (try simp at hc11)
                    refine Z.skip ?_
                    refine Z.nthen ?_
                    exact Z.meet () (by refine ⟨?_, ?_, ?_, ?_, ?_, ?_, trivial⟩ <;> first | rfl | (refine Z.lookv rfl ?_; congr 1; rw [Bool.eq_iff_iff]; simp; omega)) hs
                    )
              · first
                  | (exfalso; simp at hc11 <;> omega)
                  | (
                    (try simp at hc11)
                    refine Z.seq ?_
                    refine Z.region ?_
                    refine Z.lb 2 rfl ?_
                    refine Z.lnil ?_
                    refine Z.only [0, 4, 5, 7, 9, 30, 58] rfl ?_
                    refine Z.nthen ?_
                    refine Z.cond rfl (fun hc12 => ?_) (fun hc12 => ?_)
                    · first
                        | (exfalso; simp at hc12 <;> omega)
                        | (
                          (try simp at hc12)
                          refine Z.skip ?_
                          refine Z.nthen ?_
                          exact Z.meet () (by refine ⟨?_, ?_, ?_, ?_, ?_, ?_, trivial⟩ <;> first | rfl | (refine Z.lookv rfl ?_; congr 1; rw [Bool.eq_iff_iff]; simp; omega)) hs
                          )
                    · first
                        | (exfalso; simp at hc12 <;> omega)
                        | (
                          (try simp at hc12)
                          refine Z.region ?_
                          refine Z.lb 2 rfl ?_
                          refine Z.lnil ?_
                          refine Z.only [0, 4, 5, 7, 9, 58] rfl ?_
                          refine Z.nthen ?_
                          exact Z.meet () (by refine ⟨?_, ?_, ?_, ?_, ?_, ?_, trivial⟩ <;> first | rfl | (refine Z.lookv rfl ?_; congr 1; rw [Bool.eq_iff_iff]; simp; omega)) hs
                          )
                    )
            · clear hs
              rintro _ w11 hs
              refine Z.only [0, 4, 5, 7, 9, 58] rfl ?_
              refine Z.cond rfl (fun hc13 => ?_) (fun hc13 => ?_)
              · first
                  | (exfalso; simp at hc13 <;> omega)
                  | (
                    (try simp at hc13)
                    have hw2 : x.w = 3 ∨ x.w = 4 ∨ x.w = 6 := by assumption
                    have eA : actV m x = (elsV m (x.at m.now) x.n).1 := by unfold actV; rw [if_neg hw, if_pos hw2]
                    rw [eA]
                    refine Z.seq ?_
                    refine Z.region ?_
                    refine Z.l rfl rfl (by rfl) (Z.keepS hs) (Z.Yd.loadA _ rfl Try.isAgg31 (fun _ => Z.cellsB (cs := m.ref) (by first | ((repeat (first | exact List.mem_cons_self | refine List.mem_cons_of_mem _ ?_ | refine List.mem_append_right _ ?_)); done) | fail)) (by exact Try.sizeOf31)) ?_
                    refine Z.lb 1 rfl ?_
                    refine Z.l rfl rfl (by rfl) (Z.keepS hs) (Z.Yd.fieldA (m := 6) rfl (by kernel_rfl)) ?_
                    refine Z.l rfl rfl (by rfl) (Z.keepS hs) (by first | exact Z.Yd.load rfl Try.isAgg3 (fun _ => Z.cellB (by first | ((repeat (first | exact List.mem_cons_self | refine List.mem_cons_of_mem _ ?_ | refine List.mem_append_right _ ?_)); done) | fail) rfl) | exact Z.Yd.load rfl Try.isAgg3 (fun _ => Z.cellO (by assumption) (by simp) (by assumption)) | fail "load 14.3") ?_
                    refine Z.le rfl trivial ?_
                    refine Z.ZO.call rfl rfl (by rfl) rfl rfl Try.call37 rfl (rpr_elements m (x.at m.now) x.n _ hm hx) ?_
                    rintro v14_4 w14_4 ⟨sv, qs, rfl, hqs, hz⟩
                    replace hs := SX.St.swap (L1 := ptsL sv qs) (L2 := [SX.Ent.blk g7 31 zeroR.ref.toArray, SX.Ent.blk g5 43 #[.int .i64 x.w, .int .i64 x.t, .int .i64 x.a, .int .i64 x.b, .int .i64 x.c, .int .i64 x.d, .int .i64 x.n], SX.Ent.blk g4 31 m.ref.toArray, SX.Ent.blk g 66 m.cells.toArray]) (L3 := []) (by rw [List.append_nil]; exact hs.call hz)
                    simp only [ptsL, List.cons_append, List.nil_append, List.append_nil] at hs
                    have hql : qs.length = (elsV m (x.at m.now) x.n).2.1.length := by rw [← hqs, List.length_map]
                    refine Z.lb 4 rfl ?_
                    refine Z.le rfl trivial ?_
                    refine Z.ZO.alloc rfl rfl (by rfl) Try.zeroValue31 rfl hs ?_
                    clear hs; intro g12 w12 hs
                    refine Z.le rfl trivial ?_
                    first | refine Z.ZO.storeA rfl rfl hs rfl rfl (by kernel_rfl) (by first | (simp [Value.oneCell']; done) | (refine Z.all_one ?_; assumption)) (by first | exact SX.at0 | exact SX.at1 | exact SX.at2 | exact SX.at3 | exact SX.at4 | exact SX.at5 | exact Z.at6 | exact Z.at7 | exact Z.at8 | exact Z.at9 | exact Z.at10 | exact Z.at11 | exact Z.at12) (by rfl) ?_ | refine Z.ZO.storeP rfl rfl hs rfl rfl (by kernel_rfl) (by first | (simp [Value.oneCell']; done) | (refine Z.all_one ?_; assumption)) (by first | exact SX.at0 | exact SX.at1 | exact SX.at2 | exact SX.at3 | exact SX.at4 | exact SX.at5 | exact Z.at6 | exact Z.at7 | exact Z.at8 | exact Z.at9 | exact Z.at10 | exact Z.at11 | exact Z.at12) (by first | decide | (simp; done) | (simp; omega)) ?_ | refine Z.ZO.storePR rfl rfl hs rfl rfl (by kernel_rfl) (by first | (simp [Value.oneCell']; done) | (refine Z.all_one ?_; assumption)) (by first | exact SX.at0 | exact SX.at1 | exact SX.at2 | exact SX.at3 | exact SX.at4 | exact SX.at5 | exact Z.at6 | exact Z.at7 | exact Z.at8 | exact Z.at9 | exact Z.at10 | exact Z.at11 | exact Z.at12) (by first | decide | (simp; done) | (simp; omega)) ?_
                    clear hs; intro ws hs
                    simp only [Nat.zero_add, Nat.add_zero, Nat.reduceAdd, Int.reduceToNat, Nat.reduceMul, List.set_cons_zero, List.set_cons_succ, List.setIfInBounds_toArray] at hs
                    try simp only [Z.putL, Nat.zero_add] at hs
                    refine Z.lb 2 rfl ?_
                    refine Z.lnil ?_
                    refine Z.only [0, 5, 7, 9, 12, 13, 14] rfl ?_
                    refine Z.nthen ?_
                    refine Z.seq ?_
                    refine Z.region ?_
                    refine Z.lb 2 rfl ?_
                    refine Z.l rfl rfl (by rfl) (Z.keepS hs) (Z.Yd.fieldA (m := 6) rfl (by kernel_rfl)) ?_
                    refine Z.l rfl rfl (by rfl) (Z.keepS hs) (by first | exact Z.Yd.load rfl Try.isAgg3 (fun _ => Z.cellB (by first | ((repeat (first | exact List.mem_cons_self | refine List.mem_cons_of_mem _ ?_ | refine List.mem_append_right _ ?_)); done) | fail) rfl) | exact Z.Yd.load rfl Try.isAgg3 (fun _ => Z.cellO (by assumption) (by simp) (by assumption)) | fail "load 15.3") ?_
                    replace hs : SX.St w M _ ([SX.Ent.blk g 66 m.cells.toArray] ++ ([SX.Ent.blk g12 31 (elsV m (x.at m.now) x.n).1.ref.toArray, SX.Ent.blk g7 31 zeroR.ref.toArray, SX.Ent.blk g5 43 #[.int .i64 x.w, .int .i64 x.t, .int .i64 x.a, .int .i64 x.b, .int .i64 x.c, .int .i64 x.d, .int .i64 x.n]] ++ [SX.Ent.row sv _ _ _ _] ++ qs.map PtV.row)) := SX.St.selT (L1 := [_, _, _, _, _, _]) hs [4, 0, 1, 2, 5] (by decide)
                    refine Z.le rfl trivial ?_
                    refine Z.ZO.call rfl rfl (by rfl) rfl rfl Try.call16 rfl (rp_elements g _ m (x.at m.now) x.n _ hs.lend hm hx) ?_
                    rintro v15_4 w15_4 ⟨sv2, qs2, rfl, hqs2, hz⟩
                    replace hs := hs.regain hz
                    have hql2 : qs2.length = (elsV m (x.at m.now) x.n).2.1.length := by rw [← hqs2, List.length_map]
                    replace hs := SX.St.swap hs
                    simp only [ptsL, List.cons_append, List.nil_append, List.append_assoc] at hs
                    obtain ⟨A1, c1, rfl, -, -, -⟩ := SX.row_slv hs (j := 3) rfl
                    obtain ⟨A2, c2, rfl, -, -, -⟩ := SX.row_slv hs (j := 5) rfl
                    have hby := elsV_byts m hm (x.at m.now) x.n
                    have hln := elsV_len m (x.at m.now) x.n
                    refine Z.lb 5 rfl ?_
                    refine Z.lnil ?_
                    refine Z.only [0, 7, 12, 13, 14, 15, 16] rfl ?_
                    refine Z.nthen ?_
                    refine Z.seq ?_
                    refine Z.drawL [SX.Ent.blk g12 31 (elsV m (x.at m.now) x.n).1.ref.toArray] (fun _ => true) mixed hs ?_
                    clear hs; intro wd16 hs
                    refine Z.tb [0] (by kernel_rfl) rfl ⟨_, hs, by first | (simp; done) | exact fun e he => List.mem_append_right _ he⟩ rfl ?_
                    refine Z.t 1 rfl rfl rfl (by rfl) (by kernel_rfl) ⟨_, hs, by first | (simp; done) | exact fun e he => List.mem_append_right _ he⟩ (Z.Yd.loadA _ rfl Try.isAgg31 (fun _ => Z.cellsB (cs := (elsV m (x.at m.now) x.n).1.ref) (by first | ((repeat (first | exact List.mem_cons_self | refine List.mem_cons_of_mem _ ?_ | refine List.mem_append_right _ ?_)); done) | fail)) (by exact Try.sizeOf31)) ?_
                    refine Z.tb [2, 3] (by kernel_rfl) rfl ⟨_, hs, by first | (simp; done) | exact fun e he => List.mem_append_right _ he⟩ rfl ?_
                    refine Z.tn 4 rfl rfl (by kernel_rfl) rfl trivial ?_
                    refine Z.ZO.call rfl rfl (by rfl) rfl rfl Try.call38 rfl (rp_same A1 A2 _ c1 _ c2 qs qs2 _ (hs.slm (A := A1) (xs := qs.flatMap PtV.cells) (by first | ((repeat (first | exact List.mem_cons_self | refine List.mem_cons_of_mem _ ?_ | refine List.mem_append_right _ ?_)); done) | fail)) (hs.slm (A := A2) (xs := qs2.flatMap PtV.cells) (by first | ((repeat (first | exact List.mem_cons_self | refine List.mem_cons_of_mem _ ?_ | refine List.mem_append_right _ ?_)); done) | fail)) rfl rfl (by omega) (pts_rd hs (fun q hq ↦ by repeat (first | exact List.mem_append_left _ (List.mem_map_of_mem hq) | exact List.mem_append_right _ (List.mem_map_of_mem hq) | exact List.mem_map_of_mem hq | refine List.mem_cons_of_mem _ ?_)) (by rw [hqs]; exact hby)) (pts_rd hs (fun q hq ↦ by repeat (first | exact List.mem_append_left _ (List.mem_map_of_mem hq) | exact List.mem_append_right _ (List.mem_map_of_mem hq) | exact List.mem_map_of_mem hq | refine List.mem_cons_of_mem _ ?_)) (by rw [hqs2]; exact hby))) ?_
                    rintro v16_4 w16_4 ⟨rfl, hy⟩
                    replace hs := hs.call hy
                    clear hy
                    try simp only [List.cons_append, List.nil_append, List.append_nil] at hs
                    refine Z.tk (Dn := fun _ => true) (i := 4) (fun _ => ⟨_, hs, by first | (simp; done) | exact fun e he => List.mem_append_right _ he⟩) ?_
                    refine Z.tb [5, 6, 8] (by kernel_rfl) rfl ⟨_, hs, by first | (simp; done) | exact fun e he => List.mem_append_right _ he⟩ rfl ?_
                    refine Z.yes (s := 84) (b := true) rfl (by simp [hqs, hqs2]) rfl ?_
                    refine Z.tn 7 rfl rfl (by kernel_rfl) rfl (by exact ⟨rfl, trivial⟩) ?_
                    refine Z.ZO.call rfl rfl (by rfl) rfl rfl Try.call11 rfl (rp_num _ _) ?_
                    rintro v16_7 w16_7 ⟨rfl, hy⟩
                    replace hs := hs.call hy
                    clear hy
                    try simp only [List.cons_append, List.nil_append, List.append_nil] at hs
                    refine Z.tk (Dn := fun _ => true) (i := 7) (fun _ => ⟨_, hs, by first | (simp; done) | exact fun e he => List.mem_append_right _ he⟩) ?_
                    refine Z.tb [9, 10, 11] (by kernel_rfl) rfl ⟨_, hs, by first | (simp; done) | exact fun e he => List.mem_append_right _ he⟩ rfl ?_
                    refine Z.tn 12 rfl rfl (by kernel_rfl) rfl trivial ?_
                    first | refine Z.ZO.storeA rfl rfl hs rfl rfl (by kernel_rfl) (by first | (simp [Value.oneCell']; done) | (refine Z.all_one ?_; assumption)) (by first | exact SX.at0 | exact SX.at1 | exact SX.at2 | exact SX.at3 | exact SX.at4 | exact SX.at5 | exact Z.at6 | exact Z.at7 | exact Z.at8 | exact Z.at9 | exact Z.at10 | exact Z.at11 | exact Z.at12) (by rfl) ?_ | refine Z.ZO.storeP rfl rfl hs rfl rfl (by kernel_rfl) (by first | (simp [Value.oneCell']; done) | (refine Z.all_one ?_; assumption)) (by first | exact SX.at0 | exact SX.at1 | exact SX.at2 | exact SX.at3 | exact SX.at4 | exact SX.at5 | exact Z.at6 | exact Z.at7 | exact Z.at8 | exact Z.at9 | exact Z.at10 | exact Z.at11 | exact Z.at12) (by first | decide | (simp; done) | (simp; omega)) ?_ | refine Z.ZO.storePR rfl rfl hs rfl rfl (by kernel_rfl) (by first | (simp [Value.oneCell']; done) | (refine Z.all_one ?_; assumption)) (by first | exact SX.at0 | exact SX.at1 | exact SX.at2 | exact SX.at3 | exact SX.at4 | exact SX.at5 | exact Z.at6 | exact Z.at7 | exact Z.at8 | exact Z.at9 | exact Z.at10 | exact Z.at11 | exact Z.at12) (by first | decide | (simp; done) | (simp; omega)) ?_
                    clear hs; intro ws hs
                    simp only [Nat.zero_add, Nat.add_zero, Nat.reduceAdd, Int.reduceToNat, Nat.reduceMul, List.set_cons_zero, List.set_cons_succ, List.setIfInBounds_toArray] at hs
                    try simp only [Z.putL, Nat.zero_add] at hs
                    refine Z.tk (Dn := fun _ => true) (i := 12) (fun _ => ⟨_, hs, by first | (simp; done) | exact fun e he => List.mem_append_right _ he⟩) ?_
                    refine Z.tb [13] (by kernel_rfl) rfl ⟨_, hs, by first | (simp; done) | exact fun e he => List.mem_append_right _ he⟩ rfl ?_
                    refine Z.td (by rfl) (by kernel_rfl) ?_
                    refine Z.only [6, 7, 8] rfl ?_
                    refine Z.nthen ?_
                    refine Z.ret ?_
                    repeat (first | refine Z.rthen ?_ | refine Z.rblock ?_ | refine Z.rscope ?_)
                    -- ret#1
                    refine Z.out3 (by exact ⟨rfl, ⟨_, rfl, Z.rvcA hs Try.isAgg31 (by first | ((repeat (first | exact List.mem_cons_self | refine List.mem_cons_of_mem _ ?_ | refine List.mem_append_right _ ?_)); done) | fail) (by exact Try.sizeOf31)⟩, rfl, trivial⟩) ?_
                    first
                    | exact ⟨_, rfl, _, rfl, hs.sel [0] (by decide)⟩
                    | exact ⟨_, rfl, g, by simp, hs.sel [0] (by decide)⟩
                    | exact ⟨_, rfl, g, by simp [hqs, hqs2], (SX.St.selT (L1 := [_, _, _, _, _]) hs [4] (by decide)).sub (List.sublist_append_left _ _)⟩
                    )
              · first
                  | (exfalso; simp at hc13 <;> omega)
                  | (
                    (try simp at hc13)
                    have hw2 : ¬ (x.w = 3 ∨ x.w = 4 ∨ x.w = 6) := by omega
                    have eA : actV m x = m := by unfold actV; rw [if_neg hw, if_neg hw2]
                    rw [eA]
                    refine Z.skip ?_
                    refine Z.nblock ?_
                    refine Z.nthen ?_
                    refine Z.seq ?_
                    refine Z.drawL [SX.Ent.blk g4 31 m.ref.toArray] (fun _ => true) mixed hs ?_
                    clear hs; intro wd17 hs
                    refine Z.tb [0] (by kernel_rfl) rfl ⟨_, hs, by first | (simp; done) | exact fun e he => List.mem_append_right _ he⟩ rfl ?_
                    refine Z.t 2 rfl rfl rfl (by rfl) (by kernel_rfl) ⟨_, hs, by first | (simp; done) | exact fun e he => List.mem_append_right _ he⟩ (Z.Yd.loadA _ rfl Try.isAgg31 (fun _ => Z.cellsB (cs := m.ref) (by first | ((repeat (first | exact List.mem_cons_self | refine List.mem_cons_of_mem _ ?_ | refine List.mem_append_right _ ?_)); done) | fail)) (by exact Try.sizeOf31)) ?_
                    refine Z.tn 1 rfl rfl (by kernel_rfl) rfl trivial ?_
                    refine Z.ZO.call rfl rfl (by rfl) rfl rfl Try.call21 rfl (rp_Copy g m _ (hs.celOf (by first | ((repeat (first | exact List.mem_cons_self | refine List.mem_cons_of_mem _ ?_ | refine List.mem_append_right _ ?_)); done) | fail))) ?_
                    rintro v17_1 w17_1 ⟨g2, rfl, hy⟩
                    replace hs := hs.call hy
                    clear hy
                    try simp only [List.cons_append, List.nil_append, List.append_nil] at hs
                    refine Z.tk (Dn := fun _ => true) (i := 1) (fun _ => ⟨_, hs, by first | (simp; done) | exact fun e he => List.mem_append_right _ he⟩) ?_
                    refine Z.tb [3] (by kernel_rfl) rfl ⟨_, hs, by first | (simp; done) | exact fun e he => List.mem_append_right _ he⟩ rfl ?_
                    refine Z.tn 4 rfl rfl (by kernel_rfl) rfl trivial ?_
                    first | refine Z.ZO.storeA rfl rfl hs rfl rfl (by kernel_rfl) (by first | (simp [Value.oneCell']; done) | (refine Z.all_one ?_; assumption)) (by first | exact SX.at0 | exact SX.at1 | exact SX.at2 | exact SX.at3 | exact SX.at4 | exact SX.at5 | exact Z.at6 | exact Z.at7 | exact Z.at8 | exact Z.at9 | exact Z.at10 | exact Z.at11 | exact Z.at12) (by rfl) ?_ | refine Z.ZO.storeP rfl rfl hs rfl rfl (by kernel_rfl) (by first | (simp [Value.oneCell']; done) | (refine Z.all_one ?_; assumption)) (by first | exact SX.at0 | exact SX.at1 | exact SX.at2 | exact SX.at3 | exact SX.at4 | exact SX.at5 | exact Z.at6 | exact Z.at7 | exact Z.at8 | exact Z.at9 | exact Z.at10 | exact Z.at11 | exact Z.at12) (by first | decide | (simp; done) | (simp; omega)) ?_ | refine Z.ZO.storePR rfl rfl hs rfl rfl (by kernel_rfl) (by first | (simp [Value.oneCell']; done) | (refine Z.all_one ?_; assumption)) (by first | exact SX.at0 | exact SX.at1 | exact SX.at2 | exact SX.at3 | exact SX.at4 | exact SX.at5 | exact Z.at6 | exact Z.at7 | exact Z.at8 | exact Z.at9 | exact Z.at10 | exact Z.at11 | exact Z.at12) (by first | decide | (simp; done) | (simp; omega)) ?_
                    clear hs; intro ws hs
                    simp only [Nat.zero_add, Nat.add_zero, Nat.reduceAdd, Int.reduceToNat, Nat.reduceMul, List.set_cons_zero, List.set_cons_succ, List.setIfInBounds_toArray] at hs
                    try simp only [Z.putL, Nat.zero_add] at hs
                    refine Z.tk (Dn := fun _ => true) (i := 4) (fun _ => ⟨_, hs, by first | (simp; done) | exact fun e he => List.mem_append_right _ he⟩) ?_
                    refine Z.tb [5] (by kernel_rfl) rfl ⟨_, hs, by first | (simp; done) | exact fun e he => List.mem_append_right _ he⟩ rfl ?_
                    refine Z.td (by rfl) (by kernel_rfl) ?_
                    refine Z.only [6, 7, 8] rfl ?_
                    refine Z.nthen ?_
                    refine Z.ret ?_
                    -- ret#2
                    refine Z.out3 (by exact ⟨rfl, ⟨_, rfl, Z.rvcA hs Try.isAgg31 (by first | ((repeat (first | exact List.mem_cons_self | refine List.mem_cons_of_mem _ ?_ | refine List.mem_append_right _ ?_)); done) | fail) (by exact Try.sizeOf31)⟩, rfl, trivial⟩) ?_
                    first
                    | exact ⟨_, rfl, _, rfl, hs.sel [0] (by decide)⟩
                    | exact ⟨_, rfl, g, by simp, hs.sel [0] (by decide)⟩
                    | exact ⟨_, rfl, g, by simp [hqs, hqs2], (SX.St.selT (L1 := [_, _, _, _, _]) hs [4] (by decide)).sub (List.sublist_append_left _ _)⟩
                    )
            )
end Go.Proofs.Ytjejdlolgmhljaa

/- Reports: the examples of the chapter. -/
namespace Go.Proofs.Ytjejdlolgmhljaa
open Go.RowKit
set_option linter.unusedSimpArgs false
set_option linter.unusedVariables false
--newlaws

def w0R : RpV := newR 10 0 0 0
def w1R : RpV := ⟨false, false, true, true, 10, 0, 0, 0, 1, 0, 0, 0, 0, 5, 0, 0, 0⟩
def w2R : RpV := ⟨false, false, false, false, 10, 0, 0, 0, 1, 0, 0, 0, 0, 5, 0, 1, 5⟩
def w3R : RpV := ⟨true, false, false, false, 10, 0, 0, 0, 2, 0, 11, 0, 0, 5, 0, 1, 5⟩
def w4R : RpV := ⟨false, false, false, false, 10, 0, 0, 0, 2, 0, 11, 0, 0, 5, 2, 1, 5⟩
def w5R : RpV := ⟨false, false, false, false, 10, 0, 0, 0, 3, 0, 11, 0, 1, 5, 2, 1, 5⟩
def w6R : RpV := ⟨false, true, false, false, 10, 0, 0, 0, 12, 0, 11, 0, 1, 5, 2, 1, 5⟩
def w7R : RpV := ⟨false, false, false, false, 10, 0, 0, 0, 12, 0, 11, 0, 1, 5, 12, 1, 5⟩
theorem wu1 : updV w0R 1 0 0 0 0 5 = (w1R, 0) := by decide
theorem we1 : elsV w1R 1 1 = (w1R, [], 0) := by decide
theorem we2 : elsV w1R 1 2 = (w2R, [(26, [5])], 0) := by decide
theorem wu2 : updV w2R 2 0 11 0 0 5 = (w3R, 0) := by decide
theorem we3 : elsV w3R 2 1 = (w3R, [], 0) := by decide
theorem we4 : elsV w3R 2 9 = (w4R, [(29, [66])], 0) := by decide
theorem wu3 : updV w4R 3 0 11 0 1 5 = (w5R, 0) := by decide
theorem wu4 : updV w5R 12 0 11 0 1 5 = (w6R, 0) := by decide
theorem we5 : elsV w6R 12 9 = (w7R, [(30, [0, 32, 1])], 0) := by decide
theorem wu5 : updV w7R 11 0 0 0 0 5 = (w7R, 2) := by decide
theorem wo0 : w0R.ok := newR_ok (by decide)
theorem wo1 : w1R.ok := by have h := wo0.updV 1 0 0 0 0 5; rw [wu1] at h; exact h
theorem wo2 : w2R.ok := by have h := wo1.elsV 1 2; rw [we2] at h; exact h
theorem wo3 : w3R.ok := by have h := wo2.updV 2 0 11 0 0 5; rw [wu2] at h; exact h
theorem wo4 : w4R.ok := by have h := wo3.elsV 2 9; rw [we4] at h; exact h
theorem wo5 : w5R.ok := by have h := wo4.updV 3 0 11 0 1 5; rw [wu3] at h; exact h
theorem wo6 : w6R.ok := by have h := wo5.updV 12 0 11 0 1 5; rw [wu4] at h; exact h
theorem wo7 : w7R.ok := by have h := wo6.elsV 12 9; rw [we5] at h; exact h
abbrev RpB (g : Nat) (m : RpV) : List SX.Ent := [SX.Ent.blk g 66 m.cells.toArray]
theorem wk_new (a b c d : Int) (w : World) (h : okC a b c d) : Calls Try.prog 8 #[.agg #[.int .i64 a, .int .i64 b, .int .i64 c, .int .i64 d]] w (SX.Ret fun v w' => ∃ g, v = .tuple #[.pointer (some ⟨g, 0, none⟩), .int .i64 0] ∧ SX.St w [] w' (RpB g (newR a b c d))) := by
  have := rp_new a b c d w
  simp only [if_pos h] at this
  exact this
theorem wk_bad (a b c d : Int) (w : World) (h : ¬ okC a b c d) : Calls Try.prog 8 #[.agg #[.int .i64 a, .int .i64 b, .int .i64 c, .int .i64 d]] w (SX.Ret fun v w' => v = .tuple #[.pointer none, .int .i64 2] ∧ SX.St w [] w' []) := by
  have := rp_new a b c d w
  simp only [if_neg h] at this
  exact this
theorem wk_upd (g : Nat) (m : RpV) (t a b c d h : Int) (r : RpV × Int) (w : World) (hs : SX.St w (SX.idsOf (RpB g m)) w (RpB g m)) (hm : m.ok) (he : updV m t a b c d h = r) :
    Calls Try.prog 9 #[.pointer (some ⟨g, 0, none⟩), .int .i64 t, .agg #[.int .i64 a, .int .i64 b, .int .i64 c, .int .i64 d], .int .i64 h] w (SX.Ret fun v w' => v = .int .i64 r.2 ∧ SX.St w (SX.idsOf (RpB g m)) w' (RpB g r.1)) := by
  subst he
  exact rp_update g _ m t a b c d h w hs hm
theorem wk_els (g : Nat) (m : RpV) (t room lc : Int) (d : List Int) (r : RpV × List (Int × List Int) × Int) (w : World) (hs : SX.St w (SX.idsOf (RpB g m)) w (RpB g m)) (hm : m.ok) (hr : room ≤ 1000) (hd : Byts d) (he : elsV m t room = r) (hl : lawE r lc d = true) :
    Calls Try.prog 31 #[.pointer (some ⟨g, 0, none⟩), .int .i64 t, .int .i64 room, .int .i64 lc, .string (Z.strOf d)] w (SX.Ret fun v w' => v = .bool true ∧ SX.St w (SX.idsOf (RpB g m)) w' (RpB g r.1)) := by
  subst he
  have := rp_lawE g _ m t room lc d w hs hm (by omega) hd
  rw [hl] at this
  exact this
theorem wk_pend (g : Nat) (m : RpV) (a b : Bool) (w : World) (hc : Cel w g m.cells) (h : (m.reg || m.per) = a ∧ m.pow = b) : Calls Try.prog 17 #[.pointer (some ⟨g, 0, none⟩), .bool a, .bool b] w (SX.Ret fun v w' => v = .bool true ∧ SX.St w [] w' []) := by
  have := rp_pend g m a b w hc
  rw [decide_eq_true h] at this
  exact this
set_option maxHeartbeats 1000000 in
set_option maxRecDepth 100000 in
theorem works26 (w : World) : Calls Try.prog 13 #[] w (SX.Ret fun v w' => v = .bool true ∧ SX.St w [] w' []) := by
  have hs := SX.St.start w
  refine Z.enter Try.func13 rfl Try.ntmps13 rfl rfl ?_
  refine Z.seq ?_
  refine Z.region ?_
  refine Z.lb 1 rfl ?_
  refine Z.lnil ?_
  refine Z.only [] rfl ?_
  refine Z.nthen ?_
  refine Z.seq ?_
  refine Z.region ?_
  refine Z.l rfl rfl (by rfl) (Z.keepS hs) (Z.Yd.buildL [(0, 1), (1, 1), (2, 1), (3, 1)] [.int .i64 0, .int .i64 0, .int .i64 0, .int .i64 0] rfl rfl (by intro w; kernel_rfl)) ?_
  refine Z.le rfl trivial ?_
  refine Z.ZO.call rfl rfl (by rfl) rfl rfl Try.call8 rfl (wk_new 10 0 0 0 _ (by decide)) ?_
  rintro v1_1 w1_1 ⟨g, rfl, hy⟩
  replace hs := hs.call hy
  clear hy
  try simp only [List.cons_append, List.nil_append, List.append_nil] at hs
  replace hs : SX.St w [] _ (RpB g w0R) := hs
  refine Z.lb 5 rfl ?_
  refine Z.lnil ?_
  refine Z.only [1, 2] rfl ?_
  refine Z.nthen ?_
  refine Z.seq ?_
  refine Z.region ?_
  refine Z.lb 1 rfl ?_
  refine Z.l rfl rfl (by rfl) (Z.keepS hs) (Z.Yd.buildL [(0, 1), (1, 1), (2, 1), (3, 1)] [.int .i64 0, .int .i64 0, .int .i64 0, .int .i64 0] rfl rfl (by intro w; kernel_rfl)) ?_
  refine Z.le rfl trivial ?_
  refine Z.ZO.call rfl rfl (by rfl) rfl rfl Try.call9 rfl (wk_upd g w0R 1 0 0 0 0 5 _ _ (hs.lend (L2 := [])) wo0 wu1) ?_
  rintro v2_2 w2_2 ⟨rfl, hz⟩
  replace hs := hs.regain (L2 := []) hz
  replace hs : SX.St w [] _ (RpB g w1R) := hs
  refine Z.lb 1 rfl ?_
  refine Z.lnil ?_
  refine Z.only [1, 2, 3] rfl ?_
  refine Z.nthen ?_
  refine Z.seq ?_
  refine Z.seq ?_
  refine Z.region ?_
  refine Z.lb 1 rfl ?_
  refine Z.le rfl trivial ?_
  refine Z.ZO.call rfl rfl (by rfl) rfl rfl Try.call11 rfl (rp_num _ _) ?_
  rintro v3_1 w3_1 ⟨rfl, hy⟩
  replace hs := hs.call hy
  clear hy
  try simp only [List.cons_append, List.nil_append, List.append_nil] at hs
  refine Z.lb 1 rfl ?_
  refine Z.le rfl trivial ?_
  refine Z.ZO.call rfl rfl (by rfl) rfl rfl Try.call11 rfl (rp_num _ _) ?_
  rintro v3_3 w3_3 ⟨rfl, hy⟩
  replace hs := hs.call hy
  clear hy
  try simp only [List.cons_append, List.nil_append, List.append_nil] at hs
  refine Z.l rfl rfl (by rfl) (Z.keepS hs) (Z.Yd.add rfl rfl (fun hG => Z.wi64 (by first | omega | (have hG' := Z.gh rfl hG; simp at hG'; omega)))) ?_
  refine Z.lb 2 rfl ?_
  refine Z.yes (s := 23) (b := false) rfl ((by simp)) rfl ?_
  refine Z.lb 1 rfl ?_
  refine Z.yes (s := 23) (b := false) rfl rfl rfl ?_
  refine Z.le rfl (by exact ⟨rfl, trivial⟩) ?_
  refine Z.ZO.call rfl rfl (by rfl) rfl rfl Try.call17 rfl (wk_pend g w1R false true _ (hs.celOf (by first | ((repeat (first | exact List.mem_cons_self | refine List.mem_cons_of_mem _ ?_ | refine List.mem_append_right _ ?_)); done) | fail)) (by decide)) ?_
  rintro v3_8 w3_8 ⟨rfl, hy⟩
  replace hs := hs.call hy
  clear hy
  try simp only [List.cons_append, List.nil_append, List.append_nil] at hs
  refine Z.lb 1 rfl ?_
  refine Z.yes (s := 23) (b := false) rfl rfl rfl ?_
  refine Z.l rfl rfl (by rfl) (Z.keepS hs) (Z.Yd.pickF rfl rfl) ?_
  refine Z.lb 1 rfl ?_
  refine Z.yes (s := 28) (b := false) rfl ((by simp)) rfl ?_
  refine Z.lb 1 rfl ?_
  refine Z.yes (s := 28) (b := false) rfl rfl rfl ?_
  refine Z.le rfl (by exact ⟨rfl, trivial⟩) ?_
  refine Z.ZO.call rfl rfl (by rfl) rfl rfl Try.call31 rfl (wk_els g w1R 1 1 0 [] _ _ (hs.lend (L2 := [])) wo1 (by decide) (by intro x hx; simp at hx) we1 (by decide)) ?_
  rintro v3_13 w3_13 ⟨rfl, hz⟩
  replace hs := hs.regain (L2 := []) hz
  refine Z.lb 1 rfl ?_
  refine Z.yes (s := 28) (b := false) rfl rfl rfl ?_
  refine Z.l rfl rfl (by rfl) (Z.keepS hs) (Z.Yd.pickF rfl rfl) ?_
  refine Z.lb 1 rfl ?_
  refine Z.yes (s := 33) (b := false) rfl ((by simp)) rfl ?_
  refine Z.lb 1 rfl ?_
  refine Z.yes (s := 33) (b := false) rfl rfl rfl ?_
  refine Z.le rfl (by exact ⟨rfl, trivial⟩) ?_
  refine Z.ZO.call rfl rfl (by rfl) rfl rfl Try.call31 rfl (wk_els g w1R 1 2 26 [5] _ _ (hs.lend (L2 := [])) wo1 (by decide) (by intro x hx; simp at hx; omega) we2 (by decide)) ?_
  rintro v3_18 w3_18 ⟨rfl, hz⟩
  replace hs := hs.regain (L2 := []) hz
  replace hs : SX.St w [] _ (RpB g w2R) := hs
  refine Z.lb 1 rfl ?_
  refine Z.yes (s := 33) (b := false) rfl rfl rfl ?_
  refine Z.l rfl rfl (by rfl) (Z.keepS hs) (Z.Yd.pickF rfl rfl) ?_
  refine Z.lnil ?_
  refine Z.only [1, 37] rfl ?_
  refine Z.nthen ?_
  refine Z.cond rfl (fun h => absurd h (by simp)) (fun hc3 => ?_)
  refine Z.skip ?_
  refine Z.nthen ?_
  refine Z.seq ?_
  refine Z.region ?_
  refine Z.lb 1 rfl ?_
  refine Z.l rfl rfl (by rfl) (Z.keepS hs) (Z.Yd.buildL [(0, 1), (1, 1), (2, 1), (3, 1)] [.int .i64 0, .int .i64 0, .int .i64 0, .int .i64 0] rfl rfl (by intro w; kernel_rfl)) ?_
  refine Z.le rfl trivial ?_
  refine Z.ZO.call rfl rfl (by rfl) rfl rfl Try.call9 rfl (wk_upd g w2R 2 0 11 0 0 5 _ _ (hs.lend (L2 := [])) wo2 wu2) ?_
  rintro v5_2 w5_2 ⟨rfl, hz⟩
  replace hs := hs.regain (L2 := []) hz
  replace hs : SX.St w [] _ (RpB g w3R) := hs
  refine Z.lb 1 rfl ?_
  refine Z.lnil ?_
  refine Z.only [1, 4] rfl ?_
  refine Z.nthen ?_
  refine Z.seq ?_
  refine Z.seq ?_
  refine Z.region ?_
  refine Z.lb 1 rfl ?_
  refine Z.le rfl trivial ?_
  refine Z.ZO.call rfl rfl (by rfl) rfl rfl Try.call11 rfl (rp_num _ _) ?_
  rintro v6_1 w6_1 ⟨rfl, hy⟩
  replace hs := hs.call hy
  clear hy
  try simp only [List.cons_append, List.nil_append, List.append_nil] at hs
  refine Z.lb 2 rfl ?_
  refine Z.yes (s := 44) (b := false) rfl ((by simp)) rfl ?_
  refine Z.lb 1 rfl ?_
  refine Z.yes (s := 44) (b := false) rfl rfl rfl ?_
  refine Z.le rfl (by exact ⟨rfl, trivial⟩) ?_
  refine Z.ZO.call rfl rfl (by rfl) rfl rfl Try.call15 rfl (rp_request g w3R _ (hs.celOf (by first | ((repeat (first | exact List.mem_cons_self | refine List.mem_cons_of_mem _ ?_ | refine List.mem_append_right _ ?_)); done) | fail))) ?_
  rintro v6_5 w6_5 ⟨rfl, hy⟩
  replace hs := hs.call hy
  clear hy
  try simp only [List.cons_append, List.nil_append, List.append_nil] at hs
  refine Z.lb 1 rfl ?_
  refine Z.yes (s := 44) (b := false) rfl rfl rfl ?_
  refine Z.l rfl rfl (by rfl) (Z.keepS hs) (Z.Yd.pickF rfl rfl) ?_
  refine Z.lb 1 rfl ?_
  refine Z.yes (s := 49) (b := false) rfl ((by first | rfl | decide)) rfl ?_
  refine Z.lb 1 rfl ?_
  refine Z.yes (s := 49) (b := false) rfl rfl rfl ?_
  refine Z.le rfl (by exact ⟨rfl, trivial⟩) ?_
  refine Z.ZO.call rfl rfl (by rfl) rfl rfl Try.call31 rfl (wk_els g w3R 2 1 0 [] _ _ (hs.lend (L2 := [])) wo3 (by decide) (by intro x hx; simp at hx) we3 (by decide)) ?_
  rintro v6_10 w6_10 ⟨rfl, hz⟩
  replace hs := hs.regain (L2 := []) hz
  refine Z.lb 1 rfl ?_
  refine Z.yes (s := 49) (b := false) rfl rfl rfl ?_
  refine Z.l rfl rfl (by rfl) (Z.keepS hs) (Z.Yd.pickF rfl rfl) ?_
  refine Z.lb 1 rfl ?_
  refine Z.yes (s := 54) (b := false) rfl ((by simp)) rfl ?_
  refine Z.lb 1 rfl ?_
  refine Z.yes (s := 54) (b := false) rfl rfl rfl ?_
  refine Z.le rfl (by exact ⟨rfl, trivial⟩) ?_
  refine Z.ZO.call rfl rfl (by rfl) rfl rfl Try.call31 rfl (wk_els g w3R 2 9 29 [66] _ _ (hs.lend (L2 := [])) wo3 (by decide) (by intro x hx; simp at hx; omega) we4 (by decide)) ?_
  rintro v6_15 w6_15 ⟨rfl, hz⟩
  replace hs := hs.regain (L2 := []) hz
  replace hs : SX.St w [] _ (RpB g w4R) := hs
  refine Z.lb 1 rfl ?_
  refine Z.yes (s := 54) (b := false) rfl rfl rfl ?_
  refine Z.l rfl rfl (by rfl) (Z.keepS hs) (Z.Yd.pickF rfl rfl) ?_
  refine Z.lnil ?_
  refine Z.only [1, 58] rfl ?_
  refine Z.nthen ?_
  refine Z.cond rfl (fun h => absurd h (by simp)) (fun hc6 => ?_)
  refine Z.skip ?_
  refine Z.nthen ?_
  refine Z.seq ?_
  refine Z.region ?_
  refine Z.lb 1 rfl ?_
  refine Z.l rfl rfl (by rfl) (Z.keepS hs) (Z.Yd.buildL [(0, 1), (1, 1), (2, 1), (3, 1)] [.int .i64 0, .int .i64 0, .int .i64 0, .int .i64 0] rfl rfl (by intro w; kernel_rfl)) ?_
  refine Z.le rfl trivial ?_
  refine Z.ZO.call rfl rfl (by rfl) rfl rfl Try.call9 rfl (wk_upd g w4R 3 0 11 0 1 5 _ _ (hs.lend (L2 := [])) wo4 wu3) ?_
  rintro v8_2 w8_2 ⟨rfl, hz⟩
  replace hs := hs.regain (L2 := []) hz
  replace hs : SX.St w [] _ (RpB g w5R) := hs
  refine Z.lb 1 rfl ?_
  refine Z.lnil ?_
  refine Z.only [1, 5] rfl ?_
  refine Z.nthen ?_
  refine Z.seq ?_
  refine Z.seq ?_
  refine Z.region ?_
  refine Z.lb 1 rfl ?_
  refine Z.le rfl trivial ?_
  refine Z.ZO.call rfl rfl (by rfl) rfl rfl Try.call11 rfl (rp_num _ _) ?_
  rintro v9_1 w9_1 ⟨rfl, hy⟩
  replace hs := hs.call hy
  clear hy
  try simp only [List.cons_append, List.nil_append, List.append_nil] at hs
  refine Z.lb 2 rfl ?_
  refine Z.yes (s := 65) (b := false) rfl ((by simp)) rfl ?_
  refine Z.lb 1 rfl ?_
  refine Z.yes (s := 65) (b := false) rfl rfl rfl ?_
  refine Z.le rfl (by exact ⟨rfl, trivial⟩) ?_
  refine Z.ZO.call rfl rfl (by rfl) rfl rfl Try.call17 rfl (wk_pend g w5R false false _ (hs.celOf (by first | ((repeat (first | exact List.mem_cons_self | refine List.mem_cons_of_mem _ ?_ | refine List.mem_append_right _ ?_)); done) | fail)) (by decide)) ?_
  rintro v9_5 w9_5 ⟨rfl, hy⟩
  replace hs := hs.call hy
  clear hy
  try simp only [List.cons_append, List.nil_append, List.append_nil] at hs
  refine Z.lb 1 rfl ?_
  refine Z.yes (s := 65) (b := false) rfl rfl rfl ?_
  refine Z.l rfl rfl (by rfl) (Z.keepS hs) (Z.Yd.pickF rfl rfl) ?_
  refine Z.lnil ?_
  refine Z.only [1, 69] rfl ?_
  refine Z.nthen ?_
  refine Z.cond rfl (fun h => absurd h (by simp)) (fun hc9 => ?_)
  refine Z.skip ?_
  refine Z.nthen ?_
  refine Z.seq ?_
  refine Z.region ?_
  refine Z.lb 1 rfl ?_
  refine Z.l rfl rfl (by rfl) (Z.keepS hs) (Z.Yd.buildL [(0, 1), (1, 1), (2, 1), (3, 1)] [.int .i64 0, .int .i64 0, .int .i64 0, .int .i64 0] rfl rfl (by intro w; kernel_rfl)) ?_
  refine Z.le rfl trivial ?_
  refine Z.ZO.call rfl rfl (by rfl) rfl rfl Try.call9 rfl (wk_upd g w5R 12 0 11 0 1 5 _ _ (hs.lend (L2 := [])) wo5 wu4) ?_
  rintro v11_2 w11_2 ⟨rfl, hz⟩
  replace hs := hs.regain (L2 := []) hz
  replace hs : SX.St w [] _ (RpB g w6R) := hs
  refine Z.lb 1 rfl ?_
  refine Z.lnil ?_
  refine Z.only [1, 6] rfl ?_
  refine Z.nthen ?_
  refine Z.seq ?_
  refine Z.seq ?_
  refine Z.region ?_
  refine Z.lb 1 rfl ?_
  refine Z.le rfl trivial ?_
  refine Z.ZO.call rfl rfl (by rfl) rfl rfl Try.call11 rfl (rp_num _ _) ?_
  rintro v12_1 w12_1 ⟨rfl, hy⟩
  replace hs := hs.call hy
  clear hy
  try simp only [List.cons_append, List.nil_append, List.append_nil] at hs
  refine Z.lb 2 rfl ?_
  refine Z.yes (s := 76) (b := false) rfl ((by simp)) rfl ?_
  refine Z.lb 1 rfl ?_
  refine Z.yes (s := 76) (b := false) rfl rfl rfl ?_
  refine Z.le rfl (by exact ⟨rfl, trivial⟩) ?_
  refine Z.ZO.call rfl rfl (by rfl) rfl rfl Try.call15 rfl (rp_request g w6R _ (hs.celOf (by first | ((repeat (first | exact List.mem_cons_self | refine List.mem_cons_of_mem _ ?_ | refine List.mem_append_right _ ?_)); done) | fail))) ?_
  rintro v12_5 w12_5 ⟨rfl, hy⟩
  replace hs := hs.call hy
  clear hy
  try simp only [List.cons_append, List.nil_append, List.append_nil] at hs
  refine Z.l rfl rfl (by rfl) (Z.keepS hs) (Z.Yd.pickF rfl rfl) ?_
  refine Z.lb 1 rfl ?_
  refine Z.yes (s := 80) (b := false) rfl ((by first | rfl | decide)) rfl ?_
  refine Z.lb 1 rfl ?_
  refine Z.yes (s := 80) (b := false) rfl rfl rfl ?_
  refine Z.le rfl (by exact ⟨rfl, trivial⟩) ?_
  refine Z.ZO.call rfl rfl (by rfl) rfl rfl Try.call31 rfl (wk_els g w6R 12 9 30 [0, 32, 1] _ _ (hs.lend (L2 := [])) wo6 (by decide) (by intro x hx; simp at hx; omega) we5 (by decide)) ?_
  rintro v12_9 w12_9 ⟨rfl, hz⟩
  replace hs := hs.regain (L2 := []) hz
  replace hs : SX.St w [] _ (RpB g w7R) := hs
  refine Z.lb 1 rfl ?_
  refine Z.yes (s := 80) (b := false) rfl rfl rfl ?_
  refine Z.l rfl rfl (by rfl) (Z.keepS hs) (Z.Yd.pickF rfl rfl) ?_
  refine Z.lnil ?_
  refine Z.only [1, 84] rfl ?_
  refine Z.nthen ?_
  refine Z.cond rfl (fun h => absurd h (by simp)) (fun hc12 => ?_)
  refine Z.skip ?_
  refine Z.nthen ?_
  refine Z.seq ?_
  refine Z.region ?_
  refine Z.l rfl rfl (by rfl) (Z.keepS hs) (Z.Yd.buildL [(0, 1), (1, 1), (2, 1), (3, 1)] [.int .i64 0, .int .i64 0, .int .i64 0, .int .i64 0] rfl rfl (by intro w; kernel_rfl)) ?_
  refine Z.le rfl trivial ?_
  refine Z.ZO.call rfl rfl (by rfl) rfl rfl Try.call8 rfl (wk_bad (-1) 0 0 0 _ (by decide)) ?_
  rintro v14_1 w14_1 ⟨rfl, hy⟩
  replace hs := hs.call hy
  clear hy
  try simp only [List.cons_append, List.nil_append, List.append_nil] at hs
  refine Z.lb 5 rfl ?_
  refine Z.lnil ?_
  refine Z.only [1, 8] rfl ?_
  refine Z.nthen ?_
  refine Z.seq ?_
  refine Z.region ?_
  refine Z.lb 1 rfl ?_
  refine Z.l rfl rfl (by rfl) (Z.keepS hs) (Z.Yd.buildL [(0, 1), (1, 1), (2, 1), (3, 1)] [.int .i64 0, .int .i64 0, .int .i64 0, .int .i64 0] rfl rfl (by intro w; kernel_rfl)) ?_
  refine Z.le rfl trivial ?_
  refine Z.ZO.call rfl rfl (by rfl) rfl rfl Try.call9 rfl (wk_upd g w7R 11 0 0 0 0 5 _ _ (hs.lend (L2 := [])) wo7 wu5) ?_
  rintro v15_2 w15_2 ⟨rfl, hz⟩
  replace hs := hs.regain (L2 := []) hz
  refine Z.le rfl trivial ?_
  refine Z.ZO.call rfl rfl (by rfl) rfl rfl Try.call11 rfl (rp_num _ _) ?_
  rintro v15_3 w15_3 ⟨rfl, hy⟩
  replace hs := hs.call hy
  clear hy
  try simp only [List.cons_append, List.nil_append, List.append_nil] at hs
  refine Z.lb 2 rfl ?_
  refine Z.yes (s := 95) (b := true) rfl ((by simp)) rfl ?_
  refine Z.lb 1 rfl ?_
  refine Z.yes (s := 95) (b := true) rfl rfl rfl ?_
  refine Z.le rfl (by exact ⟨rfl, trivial⟩) ?_
  refine Z.ZO.call rfl rfl (by rfl) rfl rfl Try.call11 rfl (rp_num _ _) ?_
  rintro v15_7 w15_7 ⟨rfl, hy⟩
  replace hs := hs.call hy
  clear hy
  try simp only [List.cons_append, List.nil_append, List.append_nil] at hs
  refine Z.lb 1 rfl ?_
  refine Z.yes (s := 95) (b := true) rfl rfl rfl ?_
  refine Z.l rfl rfl (by rfl) (Z.keepS hs) (Z.Yd.pickT rfl rfl) ?_
  refine Z.lb 1 rfl ?_
  refine Z.lnil ?_
  refine Z.only [0] rfl ?_
  refine Z.nthen ?_
  refine Z.ret ?_
  -- ret#0
  refine Z.out1 (by exact ⟨rfl, trivial⟩) ?_
  exact ⟨_, rfl, rfl, hs.sub (List.nil_sublist _)⟩
end Go.Proofs.Ytjejdlolgmhljaa

/- Reports: any sequence of calls. -/
namespace Go.Proofs.Ytjejdlolgmhljaa
open Go.RowKit
set_option linter.unusedSimpArgs false
set_option linter.unusedVariables false
--newlaws

theorem rx_len (x : RxV) : x.cells.length = 7 := rfl
def runR (m : RpV) (l : List RxV) : RpV := l.foldl actV m
theorem runR_snoc (m : RpV) (l : List RxV) (x : RxV) : runR m (l ++ [x]) = actV (runR m l) x := by simp [runR]
theorem RpV.ok.run {m : RpV} (h : m.ok) (l : List RxV) : (runR m l).ok := by
  unfold runR
  induction l generalizing m with
  | nil => exact h
  | cons x l ih => exact ih (h.act x)
theorem wkr_new (a b c d : Int) (w : World) (h : okC a b c d) : Calls Try.prog 18 #[.agg #[.int .i64 a, .int .i64 b, .int .i64 c, .int .i64 d]] w (SX.Ret fun v w' => v = .tuple #[.agg (newR a b c d).ref.toArray, .int .i64 0] ∧ SX.St w [] w' []) := by
  have := rpr_new a b c d w
  rw [if_pos h, if_pos h] at this
  exact this
theorem wkr_bad (a b c d : Int) (w : World) (h : ¬ okC a b c d) : Calls Try.prog 18 #[.agg #[.int .i64 a, .int .i64 b, .int .i64 c, .int .i64 d]] w (SX.Ret fun v w' => v = .tuple #[.agg zeroR.ref.toArray, .int .i64 2] ∧ SX.St w [] w' []) := by
  have := rpr_new a b c d w
  rw [if_neg h, if_neg h] at this
  exact this
theorem rw_rcfg {W : World} {cs : List Value} (z : Rd Try.prog W 28 cs) : ∃ a b c d : Int, cs = [.int .i64 a, .int .i64 b, .int .i64 c, .int .i64 d] := by
  obtain ⟨hl, hf⟩ := Rd.field Try.underlying28 z
  have c5 : Try.prog.cellsOf 28 = 4 := by kernel_rfl
  have c1 : Try.prog.cellsOf 3 = 1 := by kernel_rfl
  rw [c5] at hl
  obtain ⟨x0, x1, x2, x3, rfl⟩ := list4 hl
  obtain ⟨a, ha, -⟩ := Rd.int Try.underlying3 (hf 0 _ rfl)
  obtain ⟨b, hb, -⟩ := Rd.int Try.underlying3 (hf 1 _ rfl)
  obtain ⟨p, hp, -⟩ := Rd.int Try.underlying3 (hf 2 _ rfl)
  obtain ⟨q, hq, -⟩ := Rd.int Try.underlying3 (hf 3 _ rfl)
  simp [c1] at ha hb hp hq
  subst ha hb hp hq
  exact ⟨a, b, p, q, rfl⟩
theorem agg_eq {cs : Array Value} {l : List Value} (h : (Value.agg cs).cells.toList = l) : cs = l.toArray := by
  have : cs.toList = l := by simpa [Value.cells] using h
  rw [← this]
theorem list7 {α : Type} {l : List α} (h : l.length = 7) : ∃ a b c d e f g, l = [a, b, c, d, e, f, g] := by
  match l, h with
  | [a, b, c, d, e, f, g], _ => exact ⟨a, b, c, d, e, f, g, rfl⟩
theorem rw_act26 {W : World} {cs : List Value} (z : Rw Try.prog W 43 cs) : ∃ x : RxV, cs = x.cells ∧ x.fits := by
  obtain ⟨hl, hf⟩ := Rw.field Try.underlying43 z
  have c7 : Try.prog.cellsOf 43 = 7 := by kernel_rfl
  have c1 : Try.prog.cellsOf 3 = 1 := by kernel_rfl
  have c4 : Try.prog.cellsOf 22 = 4 := by kernel_rfl
  rw [c7] at hl
  obtain ⟨x0, x1, x2, x3, x4, x5, x6, rfl⟩ := list7 hl
  obtain ⟨k, hk, -⟩ := Rw.int Try.underlying3 (hf 0 _ rfl)
  obtain ⟨t, ht, -⟩ := Rw.int Try.underlying3 (hf 1 _ rfl)
  obtain ⟨n, hn, wn⟩ := Rw.int Try.underlying3 (hf 3 _ rfl)
  have zb := hf 2 _ rfl
  simp [c1, c4] at hk ht hn zb
  obtain ⟨-, hb⟩ := Rw.array Try.underlying22 zb
  obtain ⟨a, ha, -⟩ := Rw.int Try.underlying3 (hb 0 (by omega))
  obtain ⟨b, hb1, -⟩ := Rw.int Try.underlying3 (hb 1 (by omega))
  obtain ⟨c, hc, -⟩ := Rw.int Try.underlying3 (hb 2 (by omega))
  obtain ⟨d, hd, -⟩ := Rw.int Try.underlying3 (hb 3 (by omega))
  simp [c1] at ha hb1 hc hd
  subst hk ht hn ha hb1 hc hd
  exact ⟨⟨k, t, a, b, c, d, n⟩, rfl, (wf_i64 wn).2⟩
theorem rw_acts26 {W : World} {A : Option Addr} {n c : Nat} (z : Rw Try.prog W 41 [.slice A n c]) : ∃ l : List RxV, l.length = n ∧ n ≤ maxLen ∧ (∀ a ∈ l, a.fits) ∧ Sl W A (l.flatMap RxV.cells) := by
  have c8 : Try.prog.cellsOf 43 = 7 := by kernel_rfl
  obtain ⟨xs, h1, h2, h3, -, h4, h5⟩ := Rw.rows RxV.cells RxV.fits Try.underlying41 (by rw [c8]; decide) (fun r hr => rw_act26 hr) (fun x => c8.symm) z
  exact ⟨xs, h1, Nat.le_trans h2 h3, h4, h5⟩
end Go.Proofs.Ytjejdlolgmhljaa

/- Reports: copies are independent. -/
namespace Go.Proofs.Ytjejdlolgmhljaa
open Go.RowKit
set_option linter.unusedSimpArgs false
set_option linter.unusedVariables false
--newlaws

theorem rp_noneNil (w : World) : Calls Try.prog 24 #[.pointer none] w (SX.Ret fun v w' => v = .bool true ∧ SX.St w [] w' []) := by
  have hs := SX.St.start w
  refine Z.enter Try.func24 rfl Try.ntmps24 rfl rfl ?_
  refine Z.seq ?_
  refine Z.region ?_
  refine Z.lb 1 rfl ?_
  refine Z.lnil ?_
  refine Z.only [0] rfl ?_
  refine Z.nthen ?_
  refine Z.seq ?_
  refine Z.region ?_
  refine Z.lb 1 rfl ?_
  refine Z.l rfl rfl (by rfl) (Z.keepS hs) (Z.Yd.ptrNil rfl rfl Try.underlying23) ?_
  refine Z.lb 1 rfl ?_
  refine Z.yes (s := 5) (b := true) rfl ((by simp)) rfl ?_
  refine Z.ls rfl rfl rfl (by rfl) ?_
  refine Z.ls rfl rfl rfl (by rfl) ?_
  refine Z.ls rfl rfl rfl (by rfl) ?_
  refine Z.ls rfl rfl rfl (by rfl) ?_
  refine Z.ls rfl rfl rfl (by rfl) ?_
  refine Z.l rfl rfl (by rfl) (Z.keepS hs) (Z.Yd.pickT rfl rfl) ?_
  refine Z.lb 1 rfl ?_
  refine Z.lnil ?_
  refine Z.only [2] rfl ?_
  refine Z.nthen ?_
  refine Z.ret ?_
  -- ret#0
  refine Z.out1 (by exact ⟨rfl, trivial⟩) ?_
  first | exact ⟨_, rfl, rfl, hs⟩ | exact ⟨_, rfl, rfl, hs.sub (List.nil_sublist _)⟩
theorem rp_SameNil (g : Nat) (m : RpV) (w : World) (hc : Cel w g m.cells) : Calls Try.prog 22 #[.pointer (some ⟨g, 0, none⟩), .pointer none] w (SX.Ret fun v w' => v = .bool false ∧ SX.St w [] w' []) := by
  have hs := SX.St.start w
  refine Z.enter Try.func22 rfl Try.ntmps22 rfl rfl ?_
  refine Z.seq ?_
  refine Z.region ?_
  refine Z.lb 1 rfl ?_
  refine Z.lnil ?_
  refine Z.only [0, 1] rfl ?_
  refine Z.nthen ?_
  refine Z.seq ?_
  refine Z.seq ?_
  refine Z.region ?_
  refine Z.lb 1 rfl ?_
  refine Z.le rfl trivial ?_
  refine Z.ZO.call rfl rfl (by rfl) rfl rfl Try.call24 rfl (rp_none g m _ hc) ?_
  rintro v1_1 w1_1 ⟨rfl, hy⟩
  replace hs := hs.call hy
  clear hy
  try simp only [List.cons_append, List.nil_append, List.append_nil] at hs
  refine Z.lb 1 rfl ?_
  refine Z.yes (s := 7) (b := false) rfl ((by simp)) rfl ?_
  refine Z.lb 1 rfl ?_
  refine Z.yes (s := 7) (b := false) rfl rfl rfl ?_
  refine Z.le rfl (by exact ⟨rfl, trivial⟩) ?_
  refine Z.ZO.call rfl rfl (by rfl) rfl rfl Try.call24 rfl (rp_noneNil _) ?_
  rintro v1_4 w1_4 ⟨rfl, hy⟩
  replace hs := hs.call hy
  clear hy
  try simp only [List.cons_append, List.nil_append, List.append_nil] at hs
  refine Z.l rfl rfl (by rfl) (Z.keepS hs) (Z.Yd.pickF rfl rfl) ?_
  refine Z.lnil ?_
  refine Z.only [0, 1, 10] rfl ?_
  refine Z.nthen ?_
  refine Z.cond rfl (fun hc1 => ?_) (fun h => absurd h (by simp))
  refine Z.seq ?_
  refine Z.region ?_
  refine Z.lb 1 rfl ?_
  refine Z.le rfl trivial ?_
  refine Z.ZO.call rfl rfl (by rfl) rfl rfl Try.call24 rfl (rp_none g m _ (hc.st hs)) ?_
  rintro v2_1 w2_1 ⟨rfl, hy⟩
  replace hs := hs.call hy
  clear hy
  try simp only [List.cons_append, List.nil_append, List.append_nil] at hs
  refine Z.lb 1 rfl ?_
  refine Z.yes (s := 13) (b := false) rfl ((by simp)) rfl ?_
  refine Z.ls rfl rfl rfl (by rfl) ?_
  refine Z.ls rfl rfl rfl (by rfl) ?_
  refine Z.l rfl rfl (by rfl) (Z.keepS hs) (Z.Yd.pickF rfl rfl) ?_
  refine Z.lb 1 rfl ?_
  refine Z.lnil ?_
  refine Z.only [4] rfl ?_
  refine Z.nthen ?_
  refine Z.ret ?_
  repeat (first | refine Z.rthen ?_ | refine Z.rblock ?_ | refine Z.rscope ?_)
  -- ret#0
  refine Z.out1 (by exact ⟨rfl, trivial⟩) ?_
  first | exact ⟨_, rfl, rfl, hs⟩ | exact ⟨_, rfl, rfl, hs.sub (List.nil_sublist _)⟩
theorem refeq (X Y : RpV) : Z.eqS (.st (.fc 0 4 (.st (.fc 0 1 (.i) (.fc 1 1 (.i) (.fc 2 1 (.i) (.fc 3 1 (.i) (.fn)))))) (.fc 4 1 (.i) (.fc 5 4 (.ar 4 1 (.i)) (.fc 9 1 (.i) (.fc 10 1 (.b) (.fc 11 1 (.b) (.fc 12 1 (.b) (.fc 13 1 (.b) (.fc 14 1 (.i) (.fc 15 1 (.i) (.fc 16 1 (.i) (.fn))))))))))))) (.agg X.ref.toArray) (.agg Y.ref.toArray) = some (decide (X = Y)) := by
  have key : ∃ r, Z.eqS (.st (.fc 0 4 (.st (.fc 0 1 (.i) (.fc 1 1 (.i) (.fc 2 1 (.i) (.fc 3 1 (.i) (.fn)))))) (.fc 4 1 (.i) (.fc 5 4 (.ar 4 1 (.i)) (.fc 9 1 (.i) (.fc 10 1 (.b) (.fc 11 1 (.b) (.fc 12 1 (.b) (.fc 13 1 (.b) (.fc 14 1 (.i) (.fc 15 1 (.i) (.fc 16 1 (.i) (.fn))))))))))))) (.agg X.ref.toArray) (.agg Y.ref.toArray) = some r ∧ r = decide (X = Y) := by
    refine ⟨_, rfl, ?_⟩
    rw [Bool.eq_iff_iff]
    obtain ⟨⟩ := X
    obtain ⟨⟩ := Y
    simp only [decide_eq_true_eq, RpV.mk.injEq, Bool.and_eq_true, beq_iff_eq, Bool.beq_eq_decide_eq, and_assoc]
    simp
    constructor
    · rintro ⟨h1, h2, h3, h4, h5, h6, h7, h8, h9, h10, h11, h12, h13, h14, h15, h16, h17⟩
      exact ⟨h11, h12, h13, h14, h1, h2, h3, h4, h5, h6, h7, h8, h9, h10, h15, h16, h17⟩
    · rintro ⟨h11, h12, h13, h14, h1, h2, h3, h4, h5, h6, h7, h8, h9, h10, h15, h16, h17⟩
      exact ⟨h1, h2, h3, h4, h5, h6, h7, h8, h9, h10, h11, h12, h13, h14, h15, h16, h17⟩
  obtain ⟨r, h1, rfl⟩ := key
  exact h1
set_option maxHeartbeats 1000000 in
set_option maxRecDepth 100000 in
theorem reportCopies_walk (a b c d a' b' c' d' : Int) (A : Option Addr) (n cp : Nat) (l : List RxV) (x y : RxV) (w : World) (hx : Sl w A (l.flatMap RxV.cells)) (hl : l.length = n) (hn : n ≤ maxLen) (hg : ∀ x ∈ l, x.fits) (hfx : x.fits) (hfy : y.fits) :
    Calls Try.prog 6 #[.agg #[.int .i64 a, .int .i64 b, .int .i64 c, .int .i64 d], .agg #[.int .i64 a', .int .i64 b', .int .i64 c', .int .i64 d'], .slice A n cp, .agg (x.cells ++ y.cells).toArray] w (SX.Ret fun v w' => v = .bool true ∧ SX.St w [] w' []) := by
  have hs := SX.St.start w
  have honexy : ∀ u ∈ x.cells ++ y.cells, u.oneCell' = true := fun u hu => (List.mem_append.1 hu).elim (rx_one x u) (rx_one y u)
  by_cases h10 : n ≤ 10
  · by_cases hc : okC a b c d
    · have hok := newR_ok hc
      have hone0 := rr_one (newR a b c d)
      by_cases hc2 : okC a' b' c' d'
      · skip
        refine Z.enter Try.func6 rfl Try.ntmps6 rfl rfl ?_
        refine Z.seq ?_
        refine Z.region ?_
        refine Z.le rfl trivial ?_
        refine Z.ZO.box rfl rfl (by rfl) rfl rfl hs ?_
        clear hs; intro g4 w4 hs
        refine Z.le rfl trivial ?_
        refine Z.ZO.box rfl rfl (by rfl) rfl rfl hs ?_
        clear hs; intro g5 w5 hs
        refine Z.le rfl trivial ?_
        refine Z.ZO.box rfl rfl (by rfl) rfl rfl hs ?_
        clear hs; intro g7 w7 hs
        refine Z.lb 1 rfl ?_
        refine Z.lnil ?_
        refine Z.only [2, 4, 5, 7] rfl ?_
        refine Z.nthen ?_
        refine Z.seq ?_
        refine Z.seq ?_
        refine Z.region ?_
        refine Z.lb 1 rfl ?_
        refine Z.l rfl rfl (by rfl) (Z.keepS hs) (Z.Yd.lenS rfl Try.underlying41) ?_
        refine Z.lb 1 rfl ?_
        refine Z.lnil ?_
        refine Z.only [2, 4, 5, 7, 25] rfl ?_
        refine Z.nthen ?_
        refine Z.cond rfl (fun h => absurd h (by simp; omega)) (fun hc1 => ?_)
        refine Z.skip ?_
        refine Z.nthen ?_
        refine Z.seq ?_
        refine Z.region ?_
        refine Z.l rfl rfl (by rfl) (Z.keepS hs) (by first | exact Z.Yd.loadA _ rfl Try.isAgg28 (fun _ => Z.cellsB (by first | ((repeat (first | exact List.mem_cons_self | refine List.mem_cons_of_mem _ ?_ | refine List.mem_append_right _ ?_)); done) | fail)) (by exact Try.sizeOf28) | fail "load 3.0") ?_
        refine Z.le rfl trivial ?_
        refine Z.ZO.call rfl rfl (by rfl) rfl rfl Try.call8 rfl (wk_new a b c d _ hc) ?_
        rintro v3_1 w3_1 ⟨ga, rfl, hy⟩
        replace hs := hs.call hy
        clear hy
        try simp only [List.cons_append, List.nil_append, List.append_nil] at hs
        refine Z.lb 5 rfl ?_
        refine Z.lnil ?_
        refine Z.only [2, 4, 5, 7, 9, 10] rfl ?_
        refine Z.nthen ?_
        refine Z.seq ?_
        refine Z.region ?_
        refine Z.l rfl rfl (by rfl) (Z.keepS hs) (by first | exact Z.Yd.loadA _ rfl Try.isAgg28 (fun _ => Z.cellsB (by first | ((repeat (first | exact List.mem_cons_self | refine List.mem_cons_of_mem _ ?_ | refine List.mem_append_right _ ?_)); done) | fail)) (by exact Try.sizeOf28) | fail "load 4.0") ?_
        refine Z.le rfl trivial ?_
        refine Z.ZO.call rfl rfl (by rfl) rfl rfl Try.call18 rfl (wkr_new a b c d _ hc) ?_
        rintro v4_1 w4_1 ⟨rfl, hy⟩
        replace hs := hs.call hy
        clear hy
        try simp only [List.cons_append, List.nil_append, List.append_nil] at hs
        refine Z.lb 3 rfl ?_
        refine Z.le rfl trivial ?_
        refine Z.ZO.alloc rfl rfl (by rfl) Try.zeroValue31 rfl hs ?_
        clear hs; intro g11 w11 hs
        refine Z.le rfl trivial ?_
        first | refine Z.ZO.storeA rfl rfl hs rfl rfl (by kernel_rfl) (by first | (simp [Value.oneCell']; done) | (refine Z.all_one ?_; assumption)) (by first | exact SX.at0 | exact SX.at1 | exact SX.at2 | exact SX.at3 | exact SX.at4 | exact SX.at5 | exact Z.at6 | exact Z.at7 | exact Z.at8 | exact Z.at9 | exact Z.at10 | exact Z.at11 | exact Z.at12) (by rfl) ?_ | refine Z.ZO.storeP rfl rfl hs rfl rfl (by kernel_rfl) (by first | (simp [Value.oneCell']; done) | (refine Z.all_one ?_; assumption)) (by first | exact SX.at0 | exact SX.at1 | exact SX.at2 | exact SX.at3 | exact SX.at4 | exact SX.at5 | exact Z.at6 | exact Z.at7 | exact Z.at8 | exact Z.at9 | exact Z.at10 | exact Z.at11 | exact Z.at12) (by first | decide | (simp; done) | (simp; omega)) ?_ | refine Z.ZO.storePR rfl rfl hs rfl rfl (by kernel_rfl) (by first | (simp [Value.oneCell']; done) | (refine Z.all_one ?_; assumption)) (by first | exact SX.at0 | exact SX.at1 | exact SX.at2 | exact SX.at3 | exact SX.at4 | exact SX.at5 | exact Z.at6 | exact Z.at7 | exact Z.at8 | exact Z.at9 | exact Z.at10 | exact Z.at11 | exact Z.at12) (by first | decide | (simp; done) | (simp; omega)) ?_
        clear hs; intro ws hs
        simp only [Nat.zero_add, Nat.add_zero, Nat.reduceAdd, Int.reduceToNat, Nat.reduceMul, List.set_cons_zero, List.set_cons_succ, List.setIfInBounds_toArray] at hs
        try simp only [Z.putL, Nat.zero_add] at hs
        refine Z.lb 1 rfl ?_
        refine Z.lnil ?_
        refine Z.only [2, 5, 7, 9, 10, 11, 12] rfl ?_
        refine Z.nthen ?_
        refine Z.seq ?_
        refine Z.seq ?_
        refine Z.region ?_
        refine Z.lb 2 rfl ?_
        refine Z.lnil ?_
        refine Z.only [2, 5, 7, 9, 10, 11, 12, 38] rfl ?_
        refine Z.nthen ?_
        refine Z.cond rfl (fun h => absurd h (by simp)) (fun hc5 => ?_)
        refine Z.skip ?_
        refine Z.nthen ?_
        refine Z.seq ?_
        refine Z.seq ?_
        refine Z.region ?_
        refine Z.lb 1 rfl ?_
        refine Z.lnil ?_
        refine Z.only [2, 5, 7, 9, 11, 13] rfl ?_
        refine Z.nthen ?_
        refine Z.block ?_
        refine Z.loopk (ι := Nat × Nat) [2, 5, 7, 11] rfl (fun x => [(9, [], .pointer (some ⟨x.2, 0, none⟩)), (13, [], .int .i64 (x.1 : Int))]) (fun z wr => z.1 ≤ n ∧ SX.St w [] wr [SX.Ent.blk z.2 66 (runR (newR a b c d) (l.take z.1)).cells.toArray, SX.Ent.blk g11 31 (runR (newR a b c d) (l.take z.1)).ref.toArray, SX.Ent.blk g7 59 (x.cells ++ y.cells).toArray, SX.Ent.blk g5 28 #[.int .i64 a', .int .i64 b', .int .i64 c', .int .i64 d']]) (fun x => n - x.1) (0, ga) (by refine ⟨?_, ?_, trivial⟩ <;> (first | rfl | (refine Z.lookv rfl ?_; simp; done) | (refine Z.lookv rfl ?_; simp; omega))) ⟨Nat.zero_le _, hs.sel [1, 0, 2, 3] (by decide)⟩ ?_
        clear hs
        rintro ⟨k, gk⟩ w9 ⟨hk, hs⟩
        refine Z.only [2, 5, 7, 9, 11, 13] rfl ?_
        (try dsimp only at hs)
        dsimp only at hk hs
        refine Z.seq ?_
        refine Z.seq ?_
        refine Z.region ?_
        refine Z.lb 2 rfl ?_
        refine Z.l rfl rfl (by rfl) (Z.keepS hs) (Z.Yd.lenS rfl Try.underlying41) ?_
        refine Z.lb 1 rfl ?_
        refine Z.lnil ?_
        refine Z.only [2, 5, 7, 9, 11, 13, 49] rfl ?_
        refine Z.nthen ?_
        refine Z.cond rfl (fun hc8 => ?_) (fun hc8 => ?_)
        · first
            | (exfalso; simp at hc8 <;> omega)
            | (
              (try simp at hc8)
              obtain ⟨bk, off, rfl, hx2⟩ := hx.sx.some (by rw [Z.flat_length (s := 7) rx_len]; omega)
              obtain ⟨z, hzk⟩ : ∃ f, l[k]? = some f := ⟨_, List.getElem?_eq_getElem (by omega)⟩
              have hgz := hg z (List.mem_of_getElem? hzk)
              obtain ⟨mk, hmk⟩ : ∃ mk, mk = runR (newR a b c d) (l.take k) := ⟨_, rfl⟩
              have hmo : mk.ok := by rw [hmk]; exact hok.run _
              have hnx : runR (newR a b c d) (l.take (k + 1)) = actV mk z := by rw [hmk, ← take_snoc hzk, runR_snoc]
              rw [← hmk] at hs
              have hone1 := rr_one (actV mk z)
              refine Z.skip ?_
              refine Z.nthen ?_
              refine Z.seq ?_
              refine Z.block ?_
              refine Z.drawL [SX.Ent.blk g11 31 mk.ref.toArray] (fun j => !([8, 9, 10, 11, 12].contains j)) mixed hs ?_
              clear hs; intro wd10 hs
              refine Z.tX 0 [0, 6, 7, 8, 9, 10, 11, 12] rfl rfl rfl (by rfl) (by kernel_rfl) ⟨_, hs, by first | (simp; done) | exact fun e he => List.mem_append_right _ he⟩ (Z.Yd.pure rfl) ?_
              refine Z.tX 1 [1, 6, 7, 8, 9, 10, 11, 12] rfl rfl rfl (by rfl) (by kernel_rfl) ⟨_, hs, by first | (simp; done) | exact fun e he => List.mem_append_right _ he⟩ (Z.Yd.loadA _ rfl Try.isAgg31 (fun _ => Z.cellsB (cs := mk.ref) (by first | ((repeat (first | exact List.mem_cons_self | refine List.mem_cons_of_mem _ ?_ | refine List.mem_append_right _ ?_)); done) | fail)) (by exact Try.sizeOf31)) ?_
              refine Z.tX 2 [2, 4, 5, 6, 7, 8, 9, 10, 11, 12] rfl rfl rfl (by rfl) (by kernel_rfl) ⟨_, hs, by first | (simp; done) | exact fun e he => List.mem_append_right _ he⟩ (Z.Yd.pure rfl) ?_
              refine Z.tX 3 [3, 4, 5, 6, 7, 8, 9, 10, 11, 12] rfl rfl rfl (by rfl) (by kernel_rfl) ⟨_, hs, by first | (simp; done) | exact fun e he => List.mem_append_right _ he⟩ (Z.Yd.pure rfl) ?_
              refine Z.tX 4 [4, 5, 6, 7, 8, 9, 10, 11, 12] rfl rfl rfl (by rfl) (by kernel_rfl) ⟨_, hs, by first | (simp; done) | exact fun e he => List.mem_append_right _ he⟩ (Z.Yd.elem rfl rfl Try.underlying41 Try.sizeOf43 (fun hG => ⟨(by first | omega | (have hG' := Z.gh rfl hG; simp at hG'; omega)), (by first | omega | (have hG' := Z.gh rfl hG; simp at hG'; omega))⟩)) ?_
              refine Z.tX 5 [5, 6, 7, 8, 9, 10, 11, 12] rfl rfl rfl (by rfl) (by kernel_rfl) ⟨_, hs, by first | (simp; done) | exact fun e he => List.mem_append_right _ he⟩ (Z.Yd.loadA _ rfl Try.isAgg43 (fun _ => Z.cellsX z.cells hx2 rx_len hzk rfl) (by exact Try.sizeOf43)) ?_
              replace hs : SX.St w [] _ (RpB gk mk ++ [_, _, _]) := hs
              refine Z.tn 6 rfl rfl (by kernel_rfl) rfl trivial ?_
              refine Z.ZO.call rfl rfl (by rfl) rfl rfl Try.call19 rfl (rp_act gk mk z _ hs.lend hmo hgz) ?_
              rintro v10_6 w10_6 ⟨gn, rfl, hz⟩
              replace hs := hs.regain hz
              simp only [List.cons_append, List.nil_append] at hs
              refine Z.tk (Dn := fun j => !([8, 9, 10, 11, 12].contains j)) (i := 6) (fun _ => ⟨_, hs, by first | (simp; done) | exact fun e he => List.mem_append_right _ he⟩) ?_
              refine Z.tX 7 [7, 8, 9, 10, 11, 12] rfl rfl rfl (by rfl) (by kernel_rfl) ⟨_, hs, by first | (simp; done) | exact fun e he => List.mem_append_right _ he⟩ (Z.Yd.pure rfl) ?_
              refine Z.tY 8 [8, 11, 12] rfl rfl rfl (by rfl) (by kernel_rfl) (Z.Yd.pure rfl) ?_
              refine Z.tY 9 [9, 12] rfl rfl rfl (by rfl) (by kernel_rfl) (Z.Yd.pure rfl) ?_
              refine Z.tY 10 [10] rfl rfl rfl (by rfl) (by kernel_rfl) (Z.Yd.pure rfl) ?_
              refine Z.tY 11 [11, 12] rfl rfl rfl (by rfl) (by kernel_rfl) (Z.Yd.pure rfl) ?_
              refine Z.tn 12 rfl rfl (by kernel_rfl) rfl trivial ?_
              first | refine Z.ZO.storeA rfl rfl hs rfl rfl (by kernel_rfl) (by first | (simp [Value.oneCell']; done) | (refine Z.all_one ?_; assumption)) (by first | exact SX.at0 | exact SX.at1 | exact SX.at2 | exact SX.at3 | exact SX.at4 | exact SX.at5 | exact Z.at6 | exact Z.at7 | exact Z.at8 | exact Z.at9 | exact Z.at10 | exact Z.at11 | exact Z.at12) (by rfl) ?_ | refine Z.ZO.storeP rfl rfl hs rfl rfl (by kernel_rfl) (by first | (simp [Value.oneCell']; done) | (refine Z.all_one ?_; assumption)) (by first | exact SX.at0 | exact SX.at1 | exact SX.at2 | exact SX.at3 | exact SX.at4 | exact SX.at5 | exact Z.at6 | exact Z.at7 | exact Z.at8 | exact Z.at9 | exact Z.at10 | exact Z.at11 | exact Z.at12) (by first | decide | (simp; done) | (simp; omega)) ?_ | refine Z.ZO.storePR rfl rfl hs rfl rfl (by kernel_rfl) (by first | (simp [Value.oneCell']; done) | (refine Z.all_one ?_; assumption)) (by first | exact SX.at0 | exact SX.at1 | exact SX.at2 | exact SX.at3 | exact SX.at4 | exact SX.at5 | exact Z.at6 | exact Z.at7 | exact Z.at8 | exact Z.at9 | exact Z.at10 | exact Z.at11 | exact Z.at12) (by first | decide | (simp; done) | (simp; omega)) ?_
              clear hs; intro ws hs
              simp only [Nat.zero_add, Nat.add_zero, Nat.reduceAdd, Int.reduceToNat, Nat.reduceMul, List.set_cons_zero, List.set_cons_succ, List.setIfInBounds_toArray] at hs
              try simp only [Z.putL, Nat.zero_add] at hs
              refine Z.tk (Dn := fun j => !([8, 9, 10, 11, 12].contains j)) (i := 12) (fun h => absurd h (by decide)) ?_
              refine Z.td (by rfl) (by kernel_rfl) ?_
              refine Z.only [2, 5, 7, 9, 11, 13] rfl ?_
              refine Z.nblock ?_
              refine Z.nthen ?_
              refine Z.region ?_
              refine Z.lb 1 rfl ?_
              refine Z.l rfl rfl (by rfl) (Z.keepS hs) (Z.Yd.add rfl rfl (fun hG => Z.wi64 (by first | omega | (have hG' := Z.gh rfl hG; simp at hG'; omega)))) ?_
              refine Z.lb 1 rfl ?_
              refine Z.lnil ?_
              refine Z.only [2, 5, 7, 9, 11, 13] rfl ?_
              refine Z.nthen ?_
              exact Z.again (k + 1, gn) (by refine ⟨?_, ?_, ?_, ?_, ?_, ?_, trivial⟩ <;> (first | rfl | (refine Z.lookv rfl ?_; simp; done) | (refine Z.lookv rfl ?_; simp; omega))) ⟨by simp only; omega, by simp only; rw [hnx]; exact hs⟩ (by simp only; omega)
              )
        · first
            | (exfalso; simp at hc8 <;> omega)
            | (
              (try simp at hc8)
              refine Z.exit ?_
              refine Z.xthen ?_
              refine Z.xthen ?_
              refine Z.xblock ?_
              refine Z.nthen ?_
              refine Z.seq ?_
              refine Z.region ?_
              obtain ⟨mk, hmk⟩ : ∃ mk, mk = runR (newR a b c d) (l.take k) := ⟨_, rfl⟩
              have hmo : mk.ok := by rw [hmk]; exact hok.run _
              rw [← hmk] at hs
              refine Z.l rfl rfl (by rfl) (Z.keepS hs) (Z.Yd.pure rfl) ?_
              refine Z.le rfl trivial ?_
              refine Z.ZO.call rfl rfl (by rfl) rfl rfl Try.call21 rfl (rp_Copy gk mk _ (hs.celOf (cs := mk.cells) (by first | ((repeat (first | exact List.mem_cons_self | refine List.mem_cons_of_mem _ ?_ | refine List.mem_append_right _ ?_)); done) | fail))) ?_
              rintro v11_1 w11_1 ⟨go, rfl, hy⟩
              replace hs := hs.call hy
              clear hy
              try simp only [List.cons_append, List.nil_append, List.append_nil] at hs
              refine Z.lb 1 rfl ?_
              refine Z.lnil ?_
              refine Z.only [5, 7, 9, 11, 14] rfl ?_
              refine Z.nthen ?_
              refine Z.seq ?_
              refine Z.seq ?_
              refine Z.region ?_
              refine Z.lb 2 rfl ?_
              refine Z.le rfl trivial ?_
              refine Z.ZO.call rfl rfl (by rfl) rfl rfl Try.call22 rfl (rp_Same gk go mk mk _ (hs.celOf (cs := mk.cells) (by first | ((repeat (first | exact List.mem_cons_self | refine List.mem_cons_of_mem _ ?_ | refine List.mem_append_right _ ?_)); done) | fail)) (hs.celOf (cs := mk.cells) (by first | ((repeat (first | exact List.mem_cons_self | refine List.mem_cons_of_mem _ ?_ | refine List.mem_append_right _ ?_)); done) | fail))) ?_
              rintro v12_2 w12_2 ⟨rfl, hy⟩
              replace hs := hs.call hy
              clear hy
              try simp only [List.cons_append, List.nil_append, List.append_nil] at hs
              refine Z.lb 1 rfl ?_
              refine Z.lnil ?_
              refine Z.only [5, 7, 9, 11, 14, 68] rfl ?_
              refine Z.nthen ?_
              refine Z.cond rfl (fun h => absurd h (by simp)) (fun hc12 => ?_)
              refine Z.skip ?_
              refine Z.nthen ?_
              refine Z.seq ?_
              refine Z.region ?_
              obtain ⟨X, hX⟩ : ∃ X, X = actV mk x := ⟨_, rfl⟩
              obtain ⟨Y, hY⟩ : ∃ Y, Y = actV mk y := ⟨_, rfl⟩
              have hXo : X.ok := by rw [hX]; exact hmo.act _
              have hYo : Y.ok := by rw [hY]; exact hmo.act _
              have honeX := rr_one X
              have honeY := rr_one Y
              have honeE := rr_one (newR a' b' c' d')
              refine Z.l rfl rfl (by rfl) (Z.keepS hs) (Z.Yd.pure rfl) ?_
              refine Z.l rfl rfl (by rfl) (Z.keepS hs) (Z.Yd.loadA _ rfl Try.isAgg31 (fun _ => Z.cellsB (cs := mk.ref) (by first | ((repeat (first | exact List.mem_cons_self | refine List.mem_cons_of_mem _ ?_ | refine List.mem_append_right _ ?_)); done) | fail)) (by exact Try.sizeOf31)) ?_
              refine Z.l rfl rfl (by rfl) (Z.keepS hs) (Z.Yd.elemA rfl rfl Try.underlying59 Try.sizeOf43 (fun hG => ⟨(by first | omega | (have hG' := Z.gh rfl hG; simp at hG'; omega)), (by first | omega | (have hG' := Z.gh rfl hG; simp at hG'; omega))⟩)) ?_
              refine Z.l rfl rfl (by rfl) (Z.keepS hs) (Z.Yd.loadA _ rfl Try.isAgg43 (fun _ => Z.cellsBo (cs := x.cells ++ y.cells) x.cells (by first | ((repeat (first | exact List.mem_cons_self | refine List.mem_cons_of_mem _ ?_ | refine List.mem_append_right _ ?_)); done) | fail) ⟨y.cells, rfl⟩) (by exact Try.sizeOf43)) ?_
              replace hs : SX.St w [] _ (RpB gk mk ++ [SX.Ent.blk go 66 (mk).cells.toArray, SX.Ent.blk g11 31 (mk).ref.toArray, SX.Ent.blk g7 59 (x.cells ++ y.cells).toArray, SX.Ent.blk g5 28 #[.int .i64 a', .int .i64 b', .int .i64 c', .int .i64 d']]) := hs.sel [1, 0, 2, 3, 4] (by decide)
              refine Z.le rfl trivial ?_
              refine Z.ZO.call rfl rfl (by rfl) rfl rfl Try.call19 rfl (rp_act gk mk x _ hs.lend hmo hfx) ?_
              rintro v14_4 w14_4 ⟨gx, rfl, hz⟩
              replace hs := hs.regain hz
              simp only [List.cons_append, List.nil_append] at hs
              rw [← hX] at hs ⊢
              refine Z.lb 4 rfl ?_
              refine Z.le rfl trivial ?_
              refine Z.ZO.alloc rfl rfl (by rfl) Try.zeroValue31 rfl hs ?_
              clear hs; intro g15 w15 hs
              refine Z.lb 1 rfl ?_
              refine Z.le rfl trivial ?_
              first | refine Z.ZO.storeA rfl rfl hs rfl rfl (by kernel_rfl) (by first | (simp [Value.oneCell']; done) | (refine Z.all_one ?_; assumption)) (by first | exact SX.at0 | exact SX.at1 | exact SX.at2 | exact SX.at3 | exact SX.at4 | exact SX.at5 | exact Z.at6 | exact Z.at7 | exact Z.at8 | exact Z.at9 | exact Z.at10 | exact Z.at11 | exact Z.at12) (by rfl) ?_ | refine Z.ZO.storeP rfl rfl hs rfl rfl (by kernel_rfl) (by first | (simp [Value.oneCell']; done) | (refine Z.all_one ?_; assumption)) (by first | exact SX.at0 | exact SX.at1 | exact SX.at2 | exact SX.at3 | exact SX.at4 | exact SX.at5 | exact Z.at6 | exact Z.at7 | exact Z.at8 | exact Z.at9 | exact Z.at10 | exact Z.at11 | exact Z.at12) (by first | decide | (simp; done) | (simp; omega)) ?_ | refine Z.ZO.storePR rfl rfl hs rfl rfl (by kernel_rfl) (by first | (simp [Value.oneCell']; done) | (refine Z.all_one ?_; assumption)) (by first | exact SX.at0 | exact SX.at1 | exact SX.at2 | exact SX.at3 | exact SX.at4 | exact SX.at5 | exact Z.at6 | exact Z.at7 | exact Z.at8 | exact Z.at9 | exact Z.at10 | exact Z.at11 | exact Z.at12) (by first | decide | (simp; done) | (simp; omega)) ?_
              clear hs; intro ws hs
              simp only [Nat.zero_add, Nat.add_zero, Nat.reduceAdd, Int.reduceToNat, Nat.reduceMul, List.set_cons_zero, List.set_cons_succ, List.setIfInBounds_toArray] at hs
              try simp only [Z.putL, Nat.zero_add] at hs
              refine Z.lb 1 rfl ?_
              refine Z.lnil ?_
              refine Z.only [5, 7, 9, 11, 14, 15, 16] rfl ?_
              refine Z.nthen ?_
              refine Z.seq ?_
              refine Z.region ?_
              refine Z.lb 1 rfl ?_
              refine Z.l rfl rfl (by rfl) (Z.keepS hs) (Z.Yd.loadA _ rfl Try.isAgg31 (fun _ => Z.cellsB (cs := mk.ref) (by first | ((repeat (first | exact List.mem_cons_self | refine List.mem_cons_of_mem _ ?_ | refine List.mem_append_right _ ?_)); done) | fail)) (by exact Try.sizeOf31)) ?_
              refine Z.l rfl rfl (by rfl) (Z.keepS hs) (Z.Yd.elemA rfl rfl Try.underlying59 Try.sizeOf43 (fun hG => ⟨(by first | omega | (have hG' := Z.gh rfl hG; simp at hG'; omega)), (by first | omega | (have hG' := Z.gh rfl hG; simp at hG'; omega))⟩)) ?_
              refine Z.l rfl rfl (by rfl) (Z.keepS hs) (Z.Yd.loadA _ rfl Try.isAgg43 (fun _ => Z.cellsBo (cs := x.cells ++ y.cells) y.cells (by first | ((repeat (first | exact List.mem_cons_self | refine List.mem_cons_of_mem _ ?_ | refine List.mem_append_right _ ?_)); done) | fail) ⟨[], rfl⟩) (by exact Try.sizeOf43)) ?_
              replace hs : SX.St w [] _ (RpB go mk ++ [SX.Ent.blk gx 66 (X).cells.toArray, SX.Ent.blk g15 31 (X).ref.toArray, SX.Ent.blk g11 31 (mk).ref.toArray, SX.Ent.blk g7 59 (x.cells ++ y.cells).toArray, SX.Ent.blk g5 28 #[.int .i64 a', .int .i64 b', .int .i64 c', .int .i64 d']]) := hs.sel [2, 1, 0, 3, 4, 5] (by decide)
              refine Z.le rfl trivial ?_
              refine Z.ZO.call rfl rfl (by rfl) rfl rfl Try.call19 rfl (rp_act go mk y _ hs.lend hmo hfy) ?_
              rintro v15_4 w15_4 ⟨gy, rfl, hz⟩
              replace hs := hs.regain hz
              simp only [List.cons_append, List.nil_append] at hs
              rw [← hY] at hs ⊢
              refine Z.lb 4 rfl ?_
              refine Z.le rfl trivial ?_
              refine Z.ZO.alloc rfl rfl (by rfl) Try.zeroValue31 rfl hs ?_
              clear hs; intro g17 w17 hs
              refine Z.lb 1 rfl ?_
              refine Z.le rfl trivial ?_
              first | refine Z.ZO.storeA rfl rfl hs rfl rfl (by kernel_rfl) (by first | (simp [Value.oneCell']; done) | (refine Z.all_one ?_; assumption)) (by first | exact SX.at0 | exact SX.at1 | exact SX.at2 | exact SX.at3 | exact SX.at4 | exact SX.at5 | exact Z.at6 | exact Z.at7 | exact Z.at8 | exact Z.at9 | exact Z.at10 | exact Z.at11 | exact Z.at12) (by rfl) ?_ | refine Z.ZO.storeP rfl rfl hs rfl rfl (by kernel_rfl) (by first | (simp [Value.oneCell']; done) | (refine Z.all_one ?_; assumption)) (by first | exact SX.at0 | exact SX.at1 | exact SX.at2 | exact SX.at3 | exact SX.at4 | exact SX.at5 | exact Z.at6 | exact Z.at7 | exact Z.at8 | exact Z.at9 | exact Z.at10 | exact Z.at11 | exact Z.at12) (by first | decide | (simp; done) | (simp; omega)) ?_ | refine Z.ZO.storePR rfl rfl hs rfl rfl (by kernel_rfl) (by first | (simp [Value.oneCell']; done) | (refine Z.all_one ?_; assumption)) (by first | exact SX.at0 | exact SX.at1 | exact SX.at2 | exact SX.at3 | exact SX.at4 | exact SX.at5 | exact Z.at6 | exact Z.at7 | exact Z.at8 | exact Z.at9 | exact Z.at10 | exact Z.at11 | exact Z.at12) (by first | decide | (simp; done) | (simp; omega)) ?_
              clear hs; intro ws hs
              simp only [Nat.zero_add, Nat.add_zero, Nat.reduceAdd, Int.reduceToNat, Nat.reduceMul, List.set_cons_zero, List.set_cons_succ, List.setIfInBounds_toArray] at hs
              try simp only [Z.putL, Nat.zero_add] at hs
              refine Z.lb 1 rfl ?_
              refine Z.lnil ?_
              refine Z.only [5, 9, 14, 15, 16, 17, 18] rfl ?_
              refine Z.nthen ?_
              refine Z.seq ?_
              refine Z.region ?_
              refine Z.l rfl rfl (by rfl) (Z.keepS hs) (by first | exact Z.Yd.loadA _ rfl Try.isAgg28 (fun _ => Z.cellsB (by first | ((repeat (first | exact List.mem_cons_self | refine List.mem_cons_of_mem _ ?_ | refine List.mem_append_right _ ?_)); done) | fail)) (by exact Try.sizeOf28) | fail "load 16.0") ?_
              refine Z.le rfl trivial ?_
              refine Z.ZO.call rfl rfl (by rfl) rfl rfl Try.call18 rfl (wkr_new a' b' c' d' _ hc2) ?_
              rintro v16_1 w16_1 ⟨rfl, hy⟩
              replace hs := hs.call hy
              clear hy
              try simp only [List.cons_append, List.nil_append, List.append_nil] at hs
              refine Z.lb 3 rfl ?_
              refine Z.le rfl trivial ?_
              refine Z.ZO.alloc rfl rfl (by rfl) Try.zeroValue31 rfl hs ?_
              clear hs; intro g19 w19 hs
              refine Z.le rfl trivial ?_
              first | refine Z.ZO.storeA rfl rfl hs rfl rfl (by kernel_rfl) (by first | (simp [Value.oneCell']; done) | (refine Z.all_one ?_; assumption)) (by first | exact SX.at0 | exact SX.at1 | exact SX.at2 | exact SX.at3 | exact SX.at4 | exact SX.at5 | exact Z.at6 | exact Z.at7 | exact Z.at8 | exact Z.at9 | exact Z.at10 | exact Z.at11 | exact Z.at12) (by rfl) ?_ | refine Z.ZO.storeP rfl rfl hs rfl rfl (by kernel_rfl) (by first | (simp [Value.oneCell']; done) | (refine Z.all_one ?_; assumption)) (by first | exact SX.at0 | exact SX.at1 | exact SX.at2 | exact SX.at3 | exact SX.at4 | exact SX.at5 | exact Z.at6 | exact Z.at7 | exact Z.at8 | exact Z.at9 | exact Z.at10 | exact Z.at11 | exact Z.at12) (by first | decide | (simp; done) | (simp; omega)) ?_ | refine Z.ZO.storePR rfl rfl hs rfl rfl (by kernel_rfl) (by first | (simp [Value.oneCell']; done) | (refine Z.all_one ?_; assumption)) (by first | exact SX.at0 | exact SX.at1 | exact SX.at2 | exact SX.at3 | exact SX.at4 | exact SX.at5 | exact Z.at6 | exact Z.at7 | exact Z.at8 | exact Z.at9 | exact Z.at10 | exact Z.at11 | exact Z.at12) (by first | decide | (simp; done) | (simp; omega)) ?_
              clear hs; intro ws hs
              simp only [Nat.zero_add, Nat.add_zero, Nat.reduceAdd, Int.reduceToNat, Nat.reduceMul, List.set_cons_zero, List.set_cons_succ, List.setIfInBounds_toArray] at hs
              try simp only [Z.putL, Nat.zero_add] at hs
              refine Z.lb 1 rfl ?_
              refine Z.lnil ?_
              refine Z.only [5, 9, 14, 15, 16, 17, 18, 19, 20] rfl ?_
              refine Z.nthen ?_
              refine Z.seq ?_
              refine Z.region ?_
              refine Z.l rfl rfl (by rfl) (Z.keepS hs) (by first | exact Z.Yd.loadA _ rfl Try.isAgg28 (fun _ => Z.cellsB (by first | ((repeat (first | exact List.mem_cons_self | refine List.mem_cons_of_mem _ ?_ | refine List.mem_append_right _ ?_)); done) | fail)) (by exact Try.sizeOf28) | fail "load 17.0") ?_
              refine Z.le rfl trivial ?_
              refine Z.ZO.call rfl rfl (by rfl) rfl rfl Try.call8 rfl (wk_new a' b' c' d' _ hc2) ?_
              rintro v17_1 w17_1 ⟨gd, rfl, hy⟩
              replace hs := hs.call hy
              clear hy
              try simp only [List.cons_append, List.nil_append, List.append_nil] at hs
              refine Z.lb 5 rfl ?_
              refine Z.lnil ?_
              refine Z.only [9, 14, 15, 16, 17, 18, 19, 20, 21, 22] rfl ?_
              refine Z.nthen ?_
              refine Z.seq ?_
              refine Z.drawK (fun _ => true) mixed hs ?_
              clear hs; intro wd18 hs
              refine Z.tb [0, 1, 2, 3, 4, 5] (by kernel_rfl) rfl ⟨_, hs, by first | (simp; done) | exact fun e he => List.mem_append_right _ he⟩ rfl ?_
              refine Z.t 6 rfl rfl rfl (by rfl) (by kernel_rfl) ⟨_, hs, by first | (simp; done) | exact fun e he => List.mem_append_right _ he⟩ (Z.Yd.loadA _ rfl Try.isAgg31 (fun _ => Z.cellsB (cs := X.ref) (by first | ((repeat (first | exact List.mem_cons_self | refine List.mem_cons_of_mem _ ?_ | refine List.mem_append_right _ ?_)); done) | fail)) (by exact Try.sizeOf31)) ?_
              refine Z.yes (s := 101) (b := true) rfl (by simp) rfl ?_
              refine Z.tn 7 rfl rfl (by kernel_rfl) rfl (by exact ⟨rfl, trivial⟩) ?_
              refine Z.ZO.call rfl rfl (by rfl) rfl rfl Try.call20 rfl (rp_is gx X _ (hs.celOf (cs := X.cells) (by first | ((repeat (first | exact List.mem_cons_self | refine List.mem_cons_of_mem _ ?_ | refine List.mem_append_right _ ?_)); done) | fail)) hXo) ?_
              rintro v18_7 w18_7 ⟨rfl, hy⟩
              replace hs := hs.call hy
              clear hy
              try simp only [List.cons_append, List.nil_append, List.append_nil] at hs
              refine Z.tk (Dn := fun _ => true) (i := 7) (fun _ => ⟨_, hs, by first | (simp; done) | exact fun e he => List.mem_append_right _ he⟩) ?_
              refine Z.tb [8, 9, 10] (by kernel_rfl) rfl ⟨_, hs, by first | (simp; done) | exact fun e he => List.mem_append_right _ he⟩ rfl ?_
              refine Z.t 11 rfl rfl rfl (by rfl) (by kernel_rfl) ⟨_, hs, by first | (simp; done) | exact fun e he => List.mem_append_right _ he⟩ (Z.Yd.loadA _ rfl Try.isAgg31 (fun _ => Z.cellsB (cs := Y.ref) (by first | ((repeat (first | exact List.mem_cons_self | refine List.mem_cons_of_mem _ ?_ | refine List.mem_append_right _ ?_)); done) | fail)) (by exact Try.sizeOf31)) ?_
              refine Z.yes (s := 106) (b := true) rfl (by simp) rfl ?_
              refine Z.tn 12 rfl rfl (by kernel_rfl) rfl (by exact ⟨rfl, trivial⟩) ?_
              refine Z.ZO.call rfl rfl (by rfl) rfl rfl Try.call20 rfl (rp_is gy Y _ (hs.celOf (cs := Y.cells) (by first | ((repeat (first | exact List.mem_cons_self | refine List.mem_cons_of_mem _ ?_ | refine List.mem_append_right _ ?_)); done) | fail)) hYo) ?_
              rintro v18_12 w18_12 ⟨rfl, hy⟩
              replace hs := hs.call hy
              clear hy
              try simp only [List.cons_append, List.nil_append, List.append_nil] at hs
              refine Z.tk (Dn := fun _ => true) (i := 12) (fun _ => ⟨_, hs, by first | (simp; done) | exact fun e he => List.mem_append_right _ he⟩) ?_
              refine Z.tb [13, 14, 15, 16] (by kernel_rfl) rfl ⟨_, hs, by first | (simp; done) | exact fun e he => List.mem_append_right _ he⟩ rfl ?_
              refine Z.t 18 rfl rfl rfl (by rfl) (by kernel_rfl) ⟨_, hs, by first | (simp; done) | exact fun e he => List.mem_append_right _ he⟩ (Z.Yd.loadA _ rfl Try.isAgg31 (fun _ => Z.cellsB (cs := X.ref) (by first | ((repeat (first | exact List.mem_cons_self | refine List.mem_cons_of_mem _ ?_ | refine List.mem_append_right _ ?_)); done) | fail)) (by exact Try.sizeOf31)) ?_
              refine Z.t 19 rfl rfl rfl (by rfl) (by kernel_rfl) ⟨_, hs, by first | (simp; done) | exact fun e he => List.mem_append_right _ he⟩ (Z.Yd.loadA _ rfl Try.isAgg31 (fun _ => Z.cellsB (cs := Y.ref) (by first | ((repeat (first | exact List.mem_cons_self | refine List.mem_cons_of_mem _ ?_ | refine List.mem_append_right _ ?_)); done) | fail)) (by exact Try.sizeOf31)) ?_
              refine Z.t 20 rfl rfl rfl (by rfl) (by kernel_rfl) ⟨_, hs, by first | (simp; done) | exact fun e he => List.mem_append_right _ he⟩ (Z.Yd.eqA (r := decide (X = Y)) (.st (.fc 0 4 (.st (.fc 0 1 (.i) (.fc 1 1 (.i) (.fc 2 1 (.i) (.fc 3 1 (.i) (.fn)))))) (.fc 4 1 (.i) (.fc 5 4 (.ar 4 1 (.i)) (.fc 9 1 (.i) (.fc 10 1 (.b) (.fc 11 1 (.b) (.fc 12 1 (.b) (.fc 13 1 (.b) (.fc 14 1 (.i) (.fc 15 1 (.i) (.fc 16 1 (.i) (.fn))))))))))))) rfl rfl rfl rfl (by kernel_rfl) (by kernel_rfl) (refeq X Y)) ?_
              refine Z.yes (s := 111) (b := true) rfl (by simp) rfl ?_
              refine Z.tn 17 rfl rfl (by kernel_rfl) rfl (by exact ⟨rfl, trivial⟩) ?_
              refine Z.ZO.call rfl rfl (by rfl) rfl rfl Try.call22 rfl (rp_Same gx gy X Y _ (hs.celOf (cs := X.cells) (by first | ((repeat (first | exact List.mem_cons_self | refine List.mem_cons_of_mem _ ?_ | refine List.mem_append_right _ ?_)); done) | fail)) (hs.celOf (cs := Y.cells) (by first | ((repeat (first | exact List.mem_cons_self | refine List.mem_cons_of_mem _ ?_ | refine List.mem_append_right _ ?_)); done) | fail))) ?_
              rintro v18_17 w18_17 ⟨rfl, hy⟩
              replace hs := hs.call hy
              clear hy
              try simp only [List.cons_append, List.nil_append, List.append_nil] at hs
              refine Z.tk (Dn := fun _ => true) (i := 17) (fun _ => ⟨_, hs, by first | (simp; done) | exact fun e he => List.mem_append_right _ he⟩) ?_
              refine Z.t 21 rfl rfl rfl (by rfl) (by kernel_rfl) ⟨_, hs, by first | (simp; done) | exact fun e he => List.mem_append_right _ he⟩ (Z.Yd.bin rfl rfl (by intro _ w; go_simp; try rfl)) ?_
              refine Z.tb [22, 23, 24, 26] (by kernel_rfl) rfl ⟨_, hs, by first | (simp; done) | exact fun e he => List.mem_append_right _ he⟩ rfl ?_
              refine Z.yes (s := 120) (b := true) rfl (by simp) rfl ?_
              refine Z.tn 25 rfl rfl (by kernel_rfl) rfl (by exact ⟨rfl, trivial⟩) ?_
              refine Z.ZO.call rfl rfl (by rfl) rfl rfl Try.call11 rfl (rp_num _ _) ?_
              rintro v18_25 w18_25 ⟨rfl, hy⟩
              replace hs := hs.call hy
              clear hy
              try simp only [List.cons_append, List.nil_append, List.append_nil] at hs
              refine Z.tk (Dn := fun _ => true) (i := 25) (fun _ => ⟨_, hs, by first | (simp; done) | exact fun e he => List.mem_append_right _ he⟩) ?_
              refine Z.tb [27, 28, 29, 30, 31, 33, 34] (by kernel_rfl) rfl ⟨_, hs, by first | (simp; done) | exact fun e he => List.mem_append_right _ he⟩ rfl ?_
              refine Z.yes (s := 126) (b := true) rfl (by simp) rfl ?_
              refine Z.tn 32 rfl rfl (by kernel_rfl) rfl (by exact ⟨rfl, trivial⟩) ?_
              refine Z.ZO.call rfl rfl (by rfl) rfl rfl Try.call22 rfl (rp_Same gx gd X (newR a' b' c' d') _ (hs.celOf (cs := X.cells) (by first | ((repeat (first | exact List.mem_cons_self | refine List.mem_cons_of_mem _ ?_ | refine List.mem_append_right _ ?_)); done) | fail)) (hs.celOf (cs := (newR a' b' c' d').cells) (by first | ((repeat (first | exact List.mem_cons_self | refine List.mem_cons_of_mem _ ?_ | refine List.mem_append_right _ ?_)); done) | fail))) ?_
              rintro v18_32 w18_32 ⟨rfl, hy⟩
              replace hs := hs.call hy
              clear hy
              try simp only [List.cons_append, List.nil_append, List.append_nil] at hs
              refine Z.tk (Dn := fun _ => true) (i := 32) (fun _ => ⟨_, hs, by first | (simp; done) | exact fun e he => List.mem_append_right _ he⟩) ?_
              refine Z.tb [35] (by kernel_rfl) rfl ⟨_, hs, by first | (simp; done) | exact fun e he => List.mem_append_right _ he⟩ rfl ?_
              refine Z.t 36 rfl rfl rfl (by rfl) (by kernel_rfl) ⟨_, hs, by first | (simp; done) | exact fun e he => List.mem_append_right _ he⟩ (Z.Yd.loadA _ rfl Try.isAgg31 (fun _ => Z.cellsB (cs := X.ref) (by first | ((repeat (first | exact List.mem_cons_self | refine List.mem_cons_of_mem _ ?_ | refine List.mem_append_right _ ?_)); done) | fail)) (by exact Try.sizeOf31)) ?_
              refine Z.t 37 rfl rfl rfl (by rfl) (by kernel_rfl) ⟨_, hs, by first | (simp; done) | exact fun e he => List.mem_append_right _ he⟩ (Z.Yd.loadA _ rfl Try.isAgg31 (fun _ => Z.cellsB (cs := (newR a' b' c' d').ref) (by first | ((repeat (first | exact List.mem_cons_self | refine List.mem_cons_of_mem _ ?_ | refine List.mem_append_right _ ?_)); done) | fail)) (by exact Try.sizeOf31)) ?_
              refine Z.t 38 rfl rfl rfl (by rfl) (by kernel_rfl) ⟨_, hs, by first | (simp; done) | exact fun e he => List.mem_append_right _ he⟩ (Z.Yd.eqA (r := decide (X = newR a' b' c' d')) (.st (.fc 0 4 (.st (.fc 0 1 (.i) (.fc 1 1 (.i) (.fc 2 1 (.i) (.fc 3 1 (.i) (.fn)))))) (.fc 4 1 (.i) (.fc 5 4 (.ar 4 1 (.i)) (.fc 9 1 (.i) (.fc 10 1 (.b) (.fc 11 1 (.b) (.fc 12 1 (.b) (.fc 13 1 (.b) (.fc 14 1 (.i) (.fc 15 1 (.i) (.fc 16 1 (.i) (.fn))))))))))))) rfl rfl rfl rfl (by kernel_rfl) (by kernel_rfl) (refeq X (newR a' b' c' d'))) ?_
              refine Z.tb [39] (by kernel_rfl) rfl ⟨_, hs, by first | (simp; done) | exact fun e he => List.mem_append_right _ he⟩ rfl ?_
              refine Z.t 40 rfl rfl rfl (by rfl) (by kernel_rfl) ⟨_, hs, by first | (simp; done) | exact fun e he => List.mem_append_right _ he⟩ (Z.Yd.bin rfl rfl (by intro _ w; go_simp; try rfl)) ?_
              refine Z.tb [41, 42] (by kernel_rfl) rfl ⟨_, hs, by first | (simp; done) | exact fun e he => List.mem_append_right _ he⟩ rfl ?_
              refine Z.yes (s := 139) (b := true) rfl (by simp) rfl ?_
              refine Z.tn 43 rfl rfl (by kernel_rfl) rfl (by exact ⟨rfl, trivial⟩) ?_
              refine Z.ZO.call rfl rfl (by rfl) rfl rfl Try.call13 rfl (works26 _) ?_
              rintro v18_43 w18_43 ⟨rfl, hy⟩
              replace hs := hs.call hy
              clear hy
              try simp only [List.cons_append, List.nil_append, List.append_nil] at hs
              refine Z.tk (Dn := fun _ => true) (i := 43) (fun _ => ⟨_, hs, by first | (simp; done) | exact fun e he => List.mem_append_right _ he⟩) ?_
              refine Z.tb [44, 45] (by kernel_rfl) rfl ⟨_, hs, by first | (simp; done) | exact fun e he => List.mem_append_right _ he⟩ rfl ?_
              refine Z.td (by rfl) (by kernel_rfl) ?_
              refine Z.only [8] rfl ?_
              refine Z.nthen ?_
              refine Z.ret ?_
              -- ret#0
              refine Z.out1 (by exact ⟨rfl, trivial⟩) ?_
              exact ⟨_, rfl, by simp, hs.sub (List.nil_sublist _)⟩
              )
      · skip
        refine Z.enter Try.func6 rfl Try.ntmps6 rfl rfl ?_
        refine Z.seq ?_
        refine Z.region ?_
        refine Z.le rfl trivial ?_
        refine Z.ZO.box rfl rfl (by rfl) rfl rfl hs ?_
        clear hs; intro g4 w4 hs
        refine Z.le rfl trivial ?_
        refine Z.ZO.box rfl rfl (by rfl) rfl rfl hs ?_
        clear hs; intro g5 w5 hs
        refine Z.le rfl trivial ?_
        refine Z.ZO.box rfl rfl (by rfl) rfl rfl hs ?_
        clear hs; intro g7 w7 hs
        refine Z.lb 1 rfl ?_
        refine Z.lnil ?_
        refine Z.only [2, 4, 5, 7] rfl ?_
        refine Z.nthen ?_
        refine Z.seq ?_
        refine Z.seq ?_
        refine Z.region ?_
        refine Z.lb 1 rfl ?_
        refine Z.l rfl rfl (by rfl) (Z.keepS hs) (Z.Yd.lenS rfl Try.underlying41) ?_
        refine Z.lb 1 rfl ?_
        refine Z.lnil ?_
        refine Z.only [2, 4, 5, 7, 25] rfl ?_
        refine Z.nthen ?_
        refine Z.cond rfl (fun h => absurd h (by simp; omega)) (fun hc1 => ?_)
        refine Z.skip ?_
        refine Z.nthen ?_
        refine Z.seq ?_
        refine Z.region ?_
        refine Z.l rfl rfl (by rfl) (Z.keepS hs) (by first | exact Z.Yd.loadA _ rfl Try.isAgg28 (fun _ => Z.cellsB (by first | ((repeat (first | exact List.mem_cons_self | refine List.mem_cons_of_mem _ ?_ | refine List.mem_append_right _ ?_)); done) | fail)) (by exact Try.sizeOf28) | fail "load 3.0") ?_
        refine Z.le rfl trivial ?_
        refine Z.ZO.call rfl rfl (by rfl) rfl rfl Try.call8 rfl (wk_new a b c d _ hc) ?_
        rintro v3_1 w3_1 ⟨ga, rfl, hy⟩
        replace hs := hs.call hy
        clear hy
        try simp only [List.cons_append, List.nil_append, List.append_nil] at hs
        refine Z.lb 5 rfl ?_
        refine Z.lnil ?_
        refine Z.only [2, 4, 5, 7, 9, 10] rfl ?_
        refine Z.nthen ?_
        refine Z.seq ?_
        refine Z.region ?_
        refine Z.l rfl rfl (by rfl) (Z.keepS hs) (by first | exact Z.Yd.loadA _ rfl Try.isAgg28 (fun _ => Z.cellsB (by first | ((repeat (first | exact List.mem_cons_self | refine List.mem_cons_of_mem _ ?_ | refine List.mem_append_right _ ?_)); done) | fail)) (by exact Try.sizeOf28) | fail "load 4.0") ?_
        refine Z.le rfl trivial ?_
        refine Z.ZO.call rfl rfl (by rfl) rfl rfl Try.call18 rfl (wkr_new a b c d _ hc) ?_
        rintro v4_1 w4_1 ⟨rfl, hy⟩
        replace hs := hs.call hy
        clear hy
        try simp only [List.cons_append, List.nil_append, List.append_nil] at hs
        refine Z.lb 3 rfl ?_
        refine Z.le rfl trivial ?_
        refine Z.ZO.alloc rfl rfl (by rfl) Try.zeroValue31 rfl hs ?_
        clear hs; intro g11 w11 hs
        refine Z.le rfl trivial ?_
        first | refine Z.ZO.storeA rfl rfl hs rfl rfl (by kernel_rfl) (by first | (simp [Value.oneCell']; done) | (refine Z.all_one ?_; assumption)) (by first | exact SX.at0 | exact SX.at1 | exact SX.at2 | exact SX.at3 | exact SX.at4 | exact SX.at5 | exact Z.at6 | exact Z.at7 | exact Z.at8 | exact Z.at9 | exact Z.at10 | exact Z.at11 | exact Z.at12) (by rfl) ?_ | refine Z.ZO.storeP rfl rfl hs rfl rfl (by kernel_rfl) (by first | (simp [Value.oneCell']; done) | (refine Z.all_one ?_; assumption)) (by first | exact SX.at0 | exact SX.at1 | exact SX.at2 | exact SX.at3 | exact SX.at4 | exact SX.at5 | exact Z.at6 | exact Z.at7 | exact Z.at8 | exact Z.at9 | exact Z.at10 | exact Z.at11 | exact Z.at12) (by first | decide | (simp; done) | (simp; omega)) ?_ | refine Z.ZO.storePR rfl rfl hs rfl rfl (by kernel_rfl) (by first | (simp [Value.oneCell']; done) | (refine Z.all_one ?_; assumption)) (by first | exact SX.at0 | exact SX.at1 | exact SX.at2 | exact SX.at3 | exact SX.at4 | exact SX.at5 | exact Z.at6 | exact Z.at7 | exact Z.at8 | exact Z.at9 | exact Z.at10 | exact Z.at11 | exact Z.at12) (by first | decide | (simp; done) | (simp; omega)) ?_
        clear hs; intro ws hs
        simp only [Nat.zero_add, Nat.add_zero, Nat.reduceAdd, Int.reduceToNat, Nat.reduceMul, List.set_cons_zero, List.set_cons_succ, List.setIfInBounds_toArray] at hs
        try simp only [Z.putL, Nat.zero_add] at hs
        refine Z.lb 1 rfl ?_
        refine Z.lnil ?_
        refine Z.only [2, 5, 7, 9, 10, 11, 12] rfl ?_
        refine Z.nthen ?_
        refine Z.seq ?_
        refine Z.seq ?_
        refine Z.region ?_
        refine Z.lb 2 rfl ?_
        refine Z.lnil ?_
        refine Z.only [2, 5, 7, 9, 10, 11, 12, 38] rfl ?_
        refine Z.nthen ?_
        refine Z.cond rfl (fun h => absurd h (by simp)) (fun hc5 => ?_)
        refine Z.skip ?_
        refine Z.nthen ?_
        refine Z.seq ?_
        refine Z.seq ?_
        refine Z.region ?_
        refine Z.lb 1 rfl ?_
        refine Z.lnil ?_
        refine Z.only [2, 5, 7, 9, 11, 13] rfl ?_
        refine Z.nthen ?_
        refine Z.block ?_
        refine Z.loopk (ι := Nat × Nat) [2, 5, 7, 11] rfl (fun x => [(9, [], .pointer (some ⟨x.2, 0, none⟩)), (13, [], .int .i64 (x.1 : Int))]) (fun z wr => z.1 ≤ n ∧ SX.St w [] wr [SX.Ent.blk z.2 66 (runR (newR a b c d) (l.take z.1)).cells.toArray, SX.Ent.blk g11 31 (runR (newR a b c d) (l.take z.1)).ref.toArray, SX.Ent.blk g7 59 (x.cells ++ y.cells).toArray, SX.Ent.blk g5 28 #[.int .i64 a', .int .i64 b', .int .i64 c', .int .i64 d']]) (fun x => n - x.1) (0, ga) (by refine ⟨?_, ?_, trivial⟩ <;> (first | rfl | (refine Z.lookv rfl ?_; simp; done) | (refine Z.lookv rfl ?_; simp; omega))) ⟨Nat.zero_le _, hs.sel [1, 0, 2, 3] (by decide)⟩ ?_
        clear hs
        rintro ⟨k, gk⟩ w9 ⟨hk, hs⟩
        refine Z.only [2, 5, 7, 9, 11, 13] rfl ?_
        (try dsimp only at hs)
        dsimp only at hk hs
        refine Z.seq ?_
        refine Z.seq ?_
        refine Z.region ?_
        refine Z.lb 2 rfl ?_
        refine Z.l rfl rfl (by rfl) (Z.keepS hs) (Z.Yd.lenS rfl Try.underlying41) ?_
        refine Z.lb 1 rfl ?_
        refine Z.lnil ?_
        refine Z.only [2, 5, 7, 9, 11, 13, 49] rfl ?_
        refine Z.nthen ?_
        refine Z.cond rfl (fun hc8 => ?_) (fun hc8 => ?_)
        · first
            | (exfalso; simp at hc8 <;> omega)
            | (
              (try simp at hc8)
              obtain ⟨bk, off, rfl, hx2⟩ := hx.sx.some (by rw [Z.flat_length (s := 7) rx_len]; omega)
              obtain ⟨z, hzk⟩ : ∃ f, l[k]? = some f := ⟨_, List.getElem?_eq_getElem (by omega)⟩
              have hgz := hg z (List.mem_of_getElem? hzk)
              obtain ⟨mk, hmk⟩ : ∃ mk, mk = runR (newR a b c d) (l.take k) := ⟨_, rfl⟩
              have hmo : mk.ok := by rw [hmk]; exact hok.run _
              have hnx : runR (newR a b c d) (l.take (k + 1)) = actV mk z := by rw [hmk, ← take_snoc hzk, runR_snoc]
              rw [← hmk] at hs
              have hone1 := rr_one (actV mk z)
              refine Z.skip ?_
              refine Z.nthen ?_
              refine Z.seq ?_
              refine Z.block ?_
              refine Z.drawL [SX.Ent.blk g11 31 mk.ref.toArray] (fun j => !([8, 9, 10, 11, 12].contains j)) mixed hs ?_
              clear hs; intro wd10 hs
              refine Z.tX 0 [0, 6, 7, 8, 9, 10, 11, 12] rfl rfl rfl (by rfl) (by kernel_rfl) ⟨_, hs, by first | (simp; done) | exact fun e he => List.mem_append_right _ he⟩ (Z.Yd.pure rfl) ?_
              refine Z.tX 1 [1, 6, 7, 8, 9, 10, 11, 12] rfl rfl rfl (by rfl) (by kernel_rfl) ⟨_, hs, by first | (simp; done) | exact fun e he => List.mem_append_right _ he⟩ (Z.Yd.loadA _ rfl Try.isAgg31 (fun _ => Z.cellsB (cs := mk.ref) (by first | ((repeat (first | exact List.mem_cons_self | refine List.mem_cons_of_mem _ ?_ | refine List.mem_append_right _ ?_)); done) | fail)) (by exact Try.sizeOf31)) ?_
              refine Z.tX 2 [2, 4, 5, 6, 7, 8, 9, 10, 11, 12] rfl rfl rfl (by rfl) (by kernel_rfl) ⟨_, hs, by first | (simp; done) | exact fun e he => List.mem_append_right _ he⟩ (Z.Yd.pure rfl) ?_
              refine Z.tX 3 [3, 4, 5, 6, 7, 8, 9, 10, 11, 12] rfl rfl rfl (by rfl) (by kernel_rfl) ⟨_, hs, by first | (simp; done) | exact fun e he => List.mem_append_right _ he⟩ (Z.Yd.pure rfl) ?_
              refine Z.tX 4 [4, 5, 6, 7, 8, 9, 10, 11, 12] rfl rfl rfl (by rfl) (by kernel_rfl) ⟨_, hs, by first | (simp; done) | exact fun e he => List.mem_append_right _ he⟩ (Z.Yd.elem rfl rfl Try.underlying41 Try.sizeOf43 (fun hG => ⟨(by first | omega | (have hG' := Z.gh rfl hG; simp at hG'; omega)), (by first | omega | (have hG' := Z.gh rfl hG; simp at hG'; omega))⟩)) ?_
              refine Z.tX 5 [5, 6, 7, 8, 9, 10, 11, 12] rfl rfl rfl (by rfl) (by kernel_rfl) ⟨_, hs, by first | (simp; done) | exact fun e he => List.mem_append_right _ he⟩ (Z.Yd.loadA _ rfl Try.isAgg43 (fun _ => Z.cellsX z.cells hx2 rx_len hzk rfl) (by exact Try.sizeOf43)) ?_
              replace hs : SX.St w [] _ (RpB gk mk ++ [_, _, _]) := hs
              refine Z.tn 6 rfl rfl (by kernel_rfl) rfl trivial ?_
              refine Z.ZO.call rfl rfl (by rfl) rfl rfl Try.call19 rfl (rp_act gk mk z _ hs.lend hmo hgz) ?_
              rintro v10_6 w10_6 ⟨gn, rfl, hz⟩
              replace hs := hs.regain hz
              simp only [List.cons_append, List.nil_append] at hs
              refine Z.tk (Dn := fun j => !([8, 9, 10, 11, 12].contains j)) (i := 6) (fun _ => ⟨_, hs, by first | (simp; done) | exact fun e he => List.mem_append_right _ he⟩) ?_
              refine Z.tX 7 [7, 8, 9, 10, 11, 12] rfl rfl rfl (by rfl) (by kernel_rfl) ⟨_, hs, by first | (simp; done) | exact fun e he => List.mem_append_right _ he⟩ (Z.Yd.pure rfl) ?_
              refine Z.tY 8 [8, 11, 12] rfl rfl rfl (by rfl) (by kernel_rfl) (Z.Yd.pure rfl) ?_
              refine Z.tY 9 [9, 12] rfl rfl rfl (by rfl) (by kernel_rfl) (Z.Yd.pure rfl) ?_
              refine Z.tY 10 [10] rfl rfl rfl (by rfl) (by kernel_rfl) (Z.Yd.pure rfl) ?_
              refine Z.tY 11 [11, 12] rfl rfl rfl (by rfl) (by kernel_rfl) (Z.Yd.pure rfl) ?_
              refine Z.tn 12 rfl rfl (by kernel_rfl) rfl trivial ?_
              first | refine Z.ZO.storeA rfl rfl hs rfl rfl (by kernel_rfl) (by first | (simp [Value.oneCell']; done) | (refine Z.all_one ?_; assumption)) (by first | exact SX.at0 | exact SX.at1 | exact SX.at2 | exact SX.at3 | exact SX.at4 | exact SX.at5 | exact Z.at6 | exact Z.at7 | exact Z.at8 | exact Z.at9 | exact Z.at10 | exact Z.at11 | exact Z.at12) (by rfl) ?_ | refine Z.ZO.storeP rfl rfl hs rfl rfl (by kernel_rfl) (by first | (simp [Value.oneCell']; done) | (refine Z.all_one ?_; assumption)) (by first | exact SX.at0 | exact SX.at1 | exact SX.at2 | exact SX.at3 | exact SX.at4 | exact SX.at5 | exact Z.at6 | exact Z.at7 | exact Z.at8 | exact Z.at9 | exact Z.at10 | exact Z.at11 | exact Z.at12) (by first | decide | (simp; done) | (simp; omega)) ?_ | refine Z.ZO.storePR rfl rfl hs rfl rfl (by kernel_rfl) (by first | (simp [Value.oneCell']; done) | (refine Z.all_one ?_; assumption)) (by first | exact SX.at0 | exact SX.at1 | exact SX.at2 | exact SX.at3 | exact SX.at4 | exact SX.at5 | exact Z.at6 | exact Z.at7 | exact Z.at8 | exact Z.at9 | exact Z.at10 | exact Z.at11 | exact Z.at12) (by first | decide | (simp; done) | (simp; omega)) ?_
              clear hs; intro ws hs
              simp only [Nat.zero_add, Nat.add_zero, Nat.reduceAdd, Int.reduceToNat, Nat.reduceMul, List.set_cons_zero, List.set_cons_succ, List.setIfInBounds_toArray] at hs
              try simp only [Z.putL, Nat.zero_add] at hs
              refine Z.tk (Dn := fun j => !([8, 9, 10, 11, 12].contains j)) (i := 12) (fun h => absurd h (by decide)) ?_
              refine Z.td (by rfl) (by kernel_rfl) ?_
              refine Z.only [2, 5, 7, 9, 11, 13] rfl ?_
              refine Z.nblock ?_
              refine Z.nthen ?_
              refine Z.region ?_
              refine Z.lb 1 rfl ?_
              refine Z.l rfl rfl (by rfl) (Z.keepS hs) (Z.Yd.add rfl rfl (fun hG => Z.wi64 (by first | omega | (have hG' := Z.gh rfl hG; simp at hG'; omega)))) ?_
              refine Z.lb 1 rfl ?_
              refine Z.lnil ?_
              refine Z.only [2, 5, 7, 9, 11, 13] rfl ?_
              refine Z.nthen ?_
              exact Z.again (k + 1, gn) (by refine ⟨?_, ?_, ?_, ?_, ?_, ?_, trivial⟩ <;> (first | rfl | (refine Z.lookv rfl ?_; simp; done) | (refine Z.lookv rfl ?_; simp; omega))) ⟨by simp only; omega, by simp only; rw [hnx]; exact hs⟩ (by simp only; omega)
              )
        · first
            | (exfalso; simp at hc8 <;> omega)
            | (
              (try simp at hc8)
              refine Z.exit ?_
              refine Z.xthen ?_
              refine Z.xthen ?_
              refine Z.xblock ?_
              refine Z.nthen ?_
              refine Z.seq ?_
              refine Z.region ?_
              obtain ⟨mk, hmk⟩ : ∃ mk, mk = runR (newR a b c d) (l.take k) := ⟨_, rfl⟩
              have hmo : mk.ok := by rw [hmk]; exact hok.run _
              rw [← hmk] at hs
              refine Z.l rfl rfl (by rfl) (Z.keepS hs) (Z.Yd.pure rfl) ?_
              refine Z.le rfl trivial ?_
              refine Z.ZO.call rfl rfl (by rfl) rfl rfl Try.call21 rfl (rp_Copy gk mk _ (hs.celOf (cs := mk.cells) (by first | ((repeat (first | exact List.mem_cons_self | refine List.mem_cons_of_mem _ ?_ | refine List.mem_append_right _ ?_)); done) | fail))) ?_
              rintro v11_1 w11_1 ⟨go, rfl, hy⟩
              replace hs := hs.call hy
              clear hy
              try simp only [List.cons_append, List.nil_append, List.append_nil] at hs
              refine Z.lb 1 rfl ?_
              refine Z.lnil ?_
              refine Z.only [5, 7, 9, 11, 14] rfl ?_
              refine Z.nthen ?_
              refine Z.seq ?_
              refine Z.seq ?_
              refine Z.region ?_
              refine Z.lb 2 rfl ?_
              refine Z.le rfl trivial ?_
              refine Z.ZO.call rfl rfl (by rfl) rfl rfl Try.call22 rfl (rp_Same gk go mk mk _ (hs.celOf (cs := mk.cells) (by first | ((repeat (first | exact List.mem_cons_self | refine List.mem_cons_of_mem _ ?_ | refine List.mem_append_right _ ?_)); done) | fail)) (hs.celOf (cs := mk.cells) (by first | ((repeat (first | exact List.mem_cons_self | refine List.mem_cons_of_mem _ ?_ | refine List.mem_append_right _ ?_)); done) | fail))) ?_
              rintro v12_2 w12_2 ⟨rfl, hy⟩
              replace hs := hs.call hy
              clear hy
              try simp only [List.cons_append, List.nil_append, List.append_nil] at hs
              refine Z.lb 1 rfl ?_
              refine Z.lnil ?_
              refine Z.only [5, 7, 9, 11, 14, 68] rfl ?_
              refine Z.nthen ?_
              refine Z.cond rfl (fun h => absurd h (by simp)) (fun hc12 => ?_)
              refine Z.skip ?_
              refine Z.nthen ?_
              refine Z.seq ?_
              refine Z.region ?_
              obtain ⟨X, hX⟩ : ∃ X, X = actV mk x := ⟨_, rfl⟩
              obtain ⟨Y, hY⟩ : ∃ Y, Y = actV mk y := ⟨_, rfl⟩
              have hXo : X.ok := by rw [hX]; exact hmo.act _
              have hYo : Y.ok := by rw [hY]; exact hmo.act _
              have honeX := rr_one X
              have honeY := rr_one Y
              have honeE := rr_one (zeroR)
              refine Z.l rfl rfl (by rfl) (Z.keepS hs) (Z.Yd.pure rfl) ?_
              refine Z.l rfl rfl (by rfl) (Z.keepS hs) (Z.Yd.loadA _ rfl Try.isAgg31 (fun _ => Z.cellsB (cs := mk.ref) (by first | ((repeat (first | exact List.mem_cons_self | refine List.mem_cons_of_mem _ ?_ | refine List.mem_append_right _ ?_)); done) | fail)) (by exact Try.sizeOf31)) ?_
              refine Z.l rfl rfl (by rfl) (Z.keepS hs) (Z.Yd.elemA rfl rfl Try.underlying59 Try.sizeOf43 (fun hG => ⟨(by first | omega | (have hG' := Z.gh rfl hG; simp at hG'; omega)), (by first | omega | (have hG' := Z.gh rfl hG; simp at hG'; omega))⟩)) ?_
              refine Z.l rfl rfl (by rfl) (Z.keepS hs) (Z.Yd.loadA _ rfl Try.isAgg43 (fun _ => Z.cellsBo (cs := x.cells ++ y.cells) x.cells (by first | ((repeat (first | exact List.mem_cons_self | refine List.mem_cons_of_mem _ ?_ | refine List.mem_append_right _ ?_)); done) | fail) ⟨y.cells, rfl⟩) (by exact Try.sizeOf43)) ?_
              replace hs : SX.St w [] _ (RpB gk mk ++ [SX.Ent.blk go 66 (mk).cells.toArray, SX.Ent.blk g11 31 (mk).ref.toArray, SX.Ent.blk g7 59 (x.cells ++ y.cells).toArray, SX.Ent.blk g5 28 #[.int .i64 a', .int .i64 b', .int .i64 c', .int .i64 d']]) := hs.sel [1, 0, 2, 3, 4] (by decide)
              refine Z.le rfl trivial ?_
              refine Z.ZO.call rfl rfl (by rfl) rfl rfl Try.call19 rfl (rp_act gk mk x _ hs.lend hmo hfx) ?_
              rintro v14_4 w14_4 ⟨gx, rfl, hz⟩
              replace hs := hs.regain hz
              simp only [List.cons_append, List.nil_append] at hs
              rw [← hX] at hs ⊢
              refine Z.lb 4 rfl ?_
              refine Z.le rfl trivial ?_
              refine Z.ZO.alloc rfl rfl (by rfl) Try.zeroValue31 rfl hs ?_
              clear hs; intro g15 w15 hs
              refine Z.lb 1 rfl ?_
              refine Z.le rfl trivial ?_
              first | refine Z.ZO.storeA rfl rfl hs rfl rfl (by kernel_rfl) (by first | (simp [Value.oneCell']; done) | (refine Z.all_one ?_; assumption)) (by first | exact SX.at0 | exact SX.at1 | exact SX.at2 | exact SX.at3 | exact SX.at4 | exact SX.at5 | exact Z.at6 | exact Z.at7 | exact Z.at8 | exact Z.at9 | exact Z.at10 | exact Z.at11 | exact Z.at12) (by rfl) ?_ | refine Z.ZO.storeP rfl rfl hs rfl rfl (by kernel_rfl) (by first | (simp [Value.oneCell']; done) | (refine Z.all_one ?_; assumption)) (by first | exact SX.at0 | exact SX.at1 | exact SX.at2 | exact SX.at3 | exact SX.at4 | exact SX.at5 | exact Z.at6 | exact Z.at7 | exact Z.at8 | exact Z.at9 | exact Z.at10 | exact Z.at11 | exact Z.at12) (by first | decide | (simp; done) | (simp; omega)) ?_ | refine Z.ZO.storePR rfl rfl hs rfl rfl (by kernel_rfl) (by first | (simp [Value.oneCell']; done) | (refine Z.all_one ?_; assumption)) (by first | exact SX.at0 | exact SX.at1 | exact SX.at2 | exact SX.at3 | exact SX.at4 | exact SX.at5 | exact Z.at6 | exact Z.at7 | exact Z.at8 | exact Z.at9 | exact Z.at10 | exact Z.at11 | exact Z.at12) (by first | decide | (simp; done) | (simp; omega)) ?_
              clear hs; intro ws hs
              simp only [Nat.zero_add, Nat.add_zero, Nat.reduceAdd, Int.reduceToNat, Nat.reduceMul, List.set_cons_zero, List.set_cons_succ, List.setIfInBounds_toArray] at hs
              try simp only [Z.putL, Nat.zero_add] at hs
              refine Z.lb 1 rfl ?_
              refine Z.lnil ?_
              refine Z.only [5, 7, 9, 11, 14, 15, 16] rfl ?_
              refine Z.nthen ?_
              refine Z.seq ?_
              refine Z.region ?_
              refine Z.lb 1 rfl ?_
              refine Z.l rfl rfl (by rfl) (Z.keepS hs) (Z.Yd.loadA _ rfl Try.isAgg31 (fun _ => Z.cellsB (cs := mk.ref) (by first | ((repeat (first | exact List.mem_cons_self | refine List.mem_cons_of_mem _ ?_ | refine List.mem_append_right _ ?_)); done) | fail)) (by exact Try.sizeOf31)) ?_
              refine Z.l rfl rfl (by rfl) (Z.keepS hs) (Z.Yd.elemA rfl rfl Try.underlying59 Try.sizeOf43 (fun hG => ⟨(by first | omega | (have hG' := Z.gh rfl hG; simp at hG'; omega)), (by first | omega | (have hG' := Z.gh rfl hG; simp at hG'; omega))⟩)) ?_
              refine Z.l rfl rfl (by rfl) (Z.keepS hs) (Z.Yd.loadA _ rfl Try.isAgg43 (fun _ => Z.cellsBo (cs := x.cells ++ y.cells) y.cells (by first | ((repeat (first | exact List.mem_cons_self | refine List.mem_cons_of_mem _ ?_ | refine List.mem_append_right _ ?_)); done) | fail) ⟨[], rfl⟩) (by exact Try.sizeOf43)) ?_
              replace hs : SX.St w [] _ (RpB go mk ++ [SX.Ent.blk gx 66 (X).cells.toArray, SX.Ent.blk g15 31 (X).ref.toArray, SX.Ent.blk g11 31 (mk).ref.toArray, SX.Ent.blk g7 59 (x.cells ++ y.cells).toArray, SX.Ent.blk g5 28 #[.int .i64 a', .int .i64 b', .int .i64 c', .int .i64 d']]) := hs.sel [2, 1, 0, 3, 4, 5] (by decide)
              refine Z.le rfl trivial ?_
              refine Z.ZO.call rfl rfl (by rfl) rfl rfl Try.call19 rfl (rp_act go mk y _ hs.lend hmo hfy) ?_
              rintro v15_4 w15_4 ⟨gy, rfl, hz⟩
              replace hs := hs.regain hz
              simp only [List.cons_append, List.nil_append] at hs
              rw [← hY] at hs ⊢
              refine Z.lb 4 rfl ?_
              refine Z.le rfl trivial ?_
              refine Z.ZO.alloc rfl rfl (by rfl) Try.zeroValue31 rfl hs ?_
              clear hs; intro g17 w17 hs
              refine Z.lb 1 rfl ?_
              refine Z.le rfl trivial ?_
              first | refine Z.ZO.storeA rfl rfl hs rfl rfl (by kernel_rfl) (by first | (simp [Value.oneCell']; done) | (refine Z.all_one ?_; assumption)) (by first | exact SX.at0 | exact SX.at1 | exact SX.at2 | exact SX.at3 | exact SX.at4 | exact SX.at5 | exact Z.at6 | exact Z.at7 | exact Z.at8 | exact Z.at9 | exact Z.at10 | exact Z.at11 | exact Z.at12) (by rfl) ?_ | refine Z.ZO.storeP rfl rfl hs rfl rfl (by kernel_rfl) (by first | (simp [Value.oneCell']; done) | (refine Z.all_one ?_; assumption)) (by first | exact SX.at0 | exact SX.at1 | exact SX.at2 | exact SX.at3 | exact SX.at4 | exact SX.at5 | exact Z.at6 | exact Z.at7 | exact Z.at8 | exact Z.at9 | exact Z.at10 | exact Z.at11 | exact Z.at12) (by first | decide | (simp; done) | (simp; omega)) ?_ | refine Z.ZO.storePR rfl rfl hs rfl rfl (by kernel_rfl) (by first | (simp [Value.oneCell']; done) | (refine Z.all_one ?_; assumption)) (by first | exact SX.at0 | exact SX.at1 | exact SX.at2 | exact SX.at3 | exact SX.at4 | exact SX.at5 | exact Z.at6 | exact Z.at7 | exact Z.at8 | exact Z.at9 | exact Z.at10 | exact Z.at11 | exact Z.at12) (by first | decide | (simp; done) | (simp; omega)) ?_
              clear hs; intro ws hs
              simp only [Nat.zero_add, Nat.add_zero, Nat.reduceAdd, Int.reduceToNat, Nat.reduceMul, List.set_cons_zero, List.set_cons_succ, List.setIfInBounds_toArray] at hs
              try simp only [Z.putL, Nat.zero_add] at hs
              refine Z.lb 1 rfl ?_
              refine Z.lnil ?_
              refine Z.only [5, 9, 14, 15, 16, 17, 18] rfl ?_
              refine Z.nthen ?_
              refine Z.seq ?_
              refine Z.region ?_
              refine Z.l rfl rfl (by rfl) (Z.keepS hs) (by first | exact Z.Yd.loadA _ rfl Try.isAgg28 (fun _ => Z.cellsB (by first | ((repeat (first | exact List.mem_cons_self | refine List.mem_cons_of_mem _ ?_ | refine List.mem_append_right _ ?_)); done) | fail)) (by exact Try.sizeOf28) | fail "load 16.0") ?_
              refine Z.le rfl trivial ?_
              refine Z.ZO.call rfl rfl (by rfl) rfl rfl Try.call18 rfl (wkr_bad a' b' c' d' _ hc2) ?_
              rintro v16_1 w16_1 ⟨rfl, hy⟩
              replace hs := hs.call hy
              clear hy
              try simp only [List.cons_append, List.nil_append, List.append_nil] at hs
              refine Z.lb 3 rfl ?_
              refine Z.le rfl trivial ?_
              refine Z.ZO.alloc rfl rfl (by rfl) Try.zeroValue31 rfl hs ?_
              clear hs; intro g19 w19 hs
              refine Z.le rfl trivial ?_
              first | refine Z.ZO.storeA rfl rfl hs rfl rfl (by kernel_rfl) (by first | (simp [Value.oneCell']; done) | (refine Z.all_one ?_; assumption)) (by first | exact SX.at0 | exact SX.at1 | exact SX.at2 | exact SX.at3 | exact SX.at4 | exact SX.at5 | exact Z.at6 | exact Z.at7 | exact Z.at8 | exact Z.at9 | exact Z.at10 | exact Z.at11 | exact Z.at12) (by rfl) ?_ | refine Z.ZO.storeP rfl rfl hs rfl rfl (by kernel_rfl) (by first | (simp [Value.oneCell']; done) | (refine Z.all_one ?_; assumption)) (by first | exact SX.at0 | exact SX.at1 | exact SX.at2 | exact SX.at3 | exact SX.at4 | exact SX.at5 | exact Z.at6 | exact Z.at7 | exact Z.at8 | exact Z.at9 | exact Z.at10 | exact Z.at11 | exact Z.at12) (by first | decide | (simp; done) | (simp; omega)) ?_ | refine Z.ZO.storePR rfl rfl hs rfl rfl (by kernel_rfl) (by first | (simp [Value.oneCell']; done) | (refine Z.all_one ?_; assumption)) (by first | exact SX.at0 | exact SX.at1 | exact SX.at2 | exact SX.at3 | exact SX.at4 | exact SX.at5 | exact Z.at6 | exact Z.at7 | exact Z.at8 | exact Z.at9 | exact Z.at10 | exact Z.at11 | exact Z.at12) (by first | decide | (simp; done) | (simp; omega)) ?_
              clear hs; intro ws hs
              simp only [Nat.zero_add, Nat.add_zero, Nat.reduceAdd, Int.reduceToNat, Nat.reduceMul, List.set_cons_zero, List.set_cons_succ, List.setIfInBounds_toArray] at hs
              try simp only [Z.putL, Nat.zero_add] at hs
              refine Z.lb 1 rfl ?_
              refine Z.lnil ?_
              refine Z.only [5, 9, 14, 15, 16, 17, 18, 19, 20] rfl ?_
              refine Z.nthen ?_
              refine Z.seq ?_
              refine Z.region ?_
              refine Z.l rfl rfl (by rfl) (Z.keepS hs) (by first | exact Z.Yd.loadA _ rfl Try.isAgg28 (fun _ => Z.cellsB (by first | ((repeat (first | exact List.mem_cons_self | refine List.mem_cons_of_mem _ ?_ | refine List.mem_append_right _ ?_)); done) | fail)) (by exact Try.sizeOf28) | fail "load 17.0") ?_
              refine Z.le rfl trivial ?_
              refine Z.ZO.call rfl rfl (by rfl) rfl rfl Try.call8 rfl (wk_bad a' b' c' d' _ hc2) ?_
              rintro v17_1 w17_1 ⟨rfl, hy⟩
              replace hs := hs.call hy
              clear hy
              try simp only [List.cons_append, List.nil_append, List.append_nil] at hs
              refine Z.lb 5 rfl ?_
              refine Z.lnil ?_
              refine Z.only [9, 14, 15, 16, 17, 18, 19, 20, 21, 22] rfl ?_
              refine Z.nthen ?_
              refine Z.seq ?_
              refine Z.drawK (fun _ => true) mixed hs ?_
              clear hs; intro wd18 hs
              refine Z.tb [0, 1, 2, 3, 4, 5] (by kernel_rfl) rfl ⟨_, hs, by first | (simp; done) | exact fun e he => List.mem_append_right _ he⟩ rfl ?_
              refine Z.t 6 rfl rfl rfl (by rfl) (by kernel_rfl) ⟨_, hs, by first | (simp; done) | exact fun e he => List.mem_append_right _ he⟩ (Z.Yd.loadA _ rfl Try.isAgg31 (fun _ => Z.cellsB (cs := X.ref) (by first | ((repeat (first | exact List.mem_cons_self | refine List.mem_cons_of_mem _ ?_ | refine List.mem_append_right _ ?_)); done) | fail)) (by exact Try.sizeOf31)) ?_
              refine Z.yes (s := 101) (b := true) rfl (by simp) rfl ?_
              refine Z.tn 7 rfl rfl (by kernel_rfl) rfl (by exact ⟨rfl, trivial⟩) ?_
              refine Z.ZO.call rfl rfl (by rfl) rfl rfl Try.call20 rfl (rp_is gx X _ (hs.celOf (cs := X.cells) (by first | ((repeat (first | exact List.mem_cons_self | refine List.mem_cons_of_mem _ ?_ | refine List.mem_append_right _ ?_)); done) | fail)) hXo) ?_
              rintro v18_7 w18_7 ⟨rfl, hy⟩
              replace hs := hs.call hy
              clear hy
              try simp only [List.cons_append, List.nil_append, List.append_nil] at hs
              refine Z.tk (Dn := fun _ => true) (i := 7) (fun _ => ⟨_, hs, by first | (simp; done) | exact fun e he => List.mem_append_right _ he⟩) ?_
              refine Z.tb [8, 9, 10] (by kernel_rfl) rfl ⟨_, hs, by first | (simp; done) | exact fun e he => List.mem_append_right _ he⟩ rfl ?_
              refine Z.t 11 rfl rfl rfl (by rfl) (by kernel_rfl) ⟨_, hs, by first | (simp; done) | exact fun e he => List.mem_append_right _ he⟩ (Z.Yd.loadA _ rfl Try.isAgg31 (fun _ => Z.cellsB (cs := Y.ref) (by first | ((repeat (first | exact List.mem_cons_self | refine List.mem_cons_of_mem _ ?_ | refine List.mem_append_right _ ?_)); done) | fail)) (by exact Try.sizeOf31)) ?_
              refine Z.yes (s := 106) (b := true) rfl (by simp) rfl ?_
              refine Z.tn 12 rfl rfl (by kernel_rfl) rfl (by exact ⟨rfl, trivial⟩) ?_
              refine Z.ZO.call rfl rfl (by rfl) rfl rfl Try.call20 rfl (rp_is gy Y _ (hs.celOf (cs := Y.cells) (by first | ((repeat (first | exact List.mem_cons_self | refine List.mem_cons_of_mem _ ?_ | refine List.mem_append_right _ ?_)); done) | fail)) hYo) ?_
              rintro v18_12 w18_12 ⟨rfl, hy⟩
              replace hs := hs.call hy
              clear hy
              try simp only [List.cons_append, List.nil_append, List.append_nil] at hs
              refine Z.tk (Dn := fun _ => true) (i := 12) (fun _ => ⟨_, hs, by first | (simp; done) | exact fun e he => List.mem_append_right _ he⟩) ?_
              refine Z.tb [13, 14, 15, 16] (by kernel_rfl) rfl ⟨_, hs, by first | (simp; done) | exact fun e he => List.mem_append_right _ he⟩ rfl ?_
              refine Z.t 18 rfl rfl rfl (by rfl) (by kernel_rfl) ⟨_, hs, by first | (simp; done) | exact fun e he => List.mem_append_right _ he⟩ (Z.Yd.loadA _ rfl Try.isAgg31 (fun _ => Z.cellsB (cs := X.ref) (by first | ((repeat (first | exact List.mem_cons_self | refine List.mem_cons_of_mem _ ?_ | refine List.mem_append_right _ ?_)); done) | fail)) (by exact Try.sizeOf31)) ?_
              refine Z.t 19 rfl rfl rfl (by rfl) (by kernel_rfl) ⟨_, hs, by first | (simp; done) | exact fun e he => List.mem_append_right _ he⟩ (Z.Yd.loadA _ rfl Try.isAgg31 (fun _ => Z.cellsB (cs := Y.ref) (by first | ((repeat (first | exact List.mem_cons_self | refine List.mem_cons_of_mem _ ?_ | refine List.mem_append_right _ ?_)); done) | fail)) (by exact Try.sizeOf31)) ?_
              refine Z.t 20 rfl rfl rfl (by rfl) (by kernel_rfl) ⟨_, hs, by first | (simp; done) | exact fun e he => List.mem_append_right _ he⟩ (Z.Yd.eqA (r := decide (X = Y)) (.st (.fc 0 4 (.st (.fc 0 1 (.i) (.fc 1 1 (.i) (.fc 2 1 (.i) (.fc 3 1 (.i) (.fn)))))) (.fc 4 1 (.i) (.fc 5 4 (.ar 4 1 (.i)) (.fc 9 1 (.i) (.fc 10 1 (.b) (.fc 11 1 (.b) (.fc 12 1 (.b) (.fc 13 1 (.b) (.fc 14 1 (.i) (.fc 15 1 (.i) (.fc 16 1 (.i) (.fn))))))))))))) rfl rfl rfl rfl (by kernel_rfl) (by kernel_rfl) (refeq X Y)) ?_
              refine Z.yes (s := 111) (b := true) rfl (by simp) rfl ?_
              refine Z.tn 17 rfl rfl (by kernel_rfl) rfl (by exact ⟨rfl, trivial⟩) ?_
              refine Z.ZO.call rfl rfl (by rfl) rfl rfl Try.call22 rfl (rp_Same gx gy X Y _ (hs.celOf (cs := X.cells) (by first | ((repeat (first | exact List.mem_cons_self | refine List.mem_cons_of_mem _ ?_ | refine List.mem_append_right _ ?_)); done) | fail)) (hs.celOf (cs := Y.cells) (by first | ((repeat (first | exact List.mem_cons_self | refine List.mem_cons_of_mem _ ?_ | refine List.mem_append_right _ ?_)); done) | fail))) ?_
              rintro v18_17 w18_17 ⟨rfl, hy⟩
              replace hs := hs.call hy
              clear hy
              try simp only [List.cons_append, List.nil_append, List.append_nil] at hs
              refine Z.tk (Dn := fun _ => true) (i := 17) (fun _ => ⟨_, hs, by first | (simp; done) | exact fun e he => List.mem_append_right _ he⟩) ?_
              refine Z.t 21 rfl rfl rfl (by rfl) (by kernel_rfl) ⟨_, hs, by first | (simp; done) | exact fun e he => List.mem_append_right _ he⟩ (Z.Yd.bin rfl rfl (by intro _ w; go_simp; try rfl)) ?_
              refine Z.tb [22, 23, 24, 26] (by kernel_rfl) rfl ⟨_, hs, by first | (simp; done) | exact fun e he => List.mem_append_right _ he⟩ rfl ?_
              refine Z.yes (s := 120) (b := true) rfl (by simp) rfl ?_
              refine Z.tn 25 rfl rfl (by kernel_rfl) rfl (by exact ⟨rfl, trivial⟩) ?_
              refine Z.ZO.call rfl rfl (by rfl) rfl rfl Try.call11 rfl (rp_num _ _) ?_
              rintro v18_25 w18_25 ⟨rfl, hy⟩
              replace hs := hs.call hy
              clear hy
              try simp only [List.cons_append, List.nil_append, List.append_nil] at hs
              refine Z.tk (Dn := fun _ => true) (i := 25) (fun _ => ⟨_, hs, by first | (simp; done) | exact fun e he => List.mem_append_right _ he⟩) ?_
              refine Z.tb [27, 28, 29, 30, 31, 33, 34] (by kernel_rfl) rfl ⟨_, hs, by first | (simp; done) | exact fun e he => List.mem_append_right _ he⟩ rfl ?_
              refine Z.yes (s := 126) (b := true) rfl (by simp) rfl ?_
              refine Z.tn 32 rfl rfl (by kernel_rfl) rfl (by exact ⟨rfl, trivial⟩) ?_
              refine Z.ZO.call rfl rfl (by rfl) rfl rfl Try.call22 rfl (rp_SameNil gx X _ (hs.celOf (cs := X.cells) (by first | ((repeat (first | exact List.mem_cons_self | refine List.mem_cons_of_mem _ ?_ | refine List.mem_append_right _ ?_)); done) | fail))) ?_
              rintro v18_32 w18_32 ⟨rfl, hy⟩
              replace hs := hs.call hy
              clear hy
              try simp only [List.cons_append, List.nil_append, List.append_nil] at hs
              refine Z.tk (Dn := fun _ => true) (i := 32) (fun _ => ⟨_, hs, by first | (simp; done) | exact fun e he => List.mem_append_right _ he⟩) ?_
              refine Z.tb [35] (by kernel_rfl) rfl ⟨_, hs, by first | (simp; done) | exact fun e he => List.mem_append_right _ he⟩ rfl ?_
              refine Z.t 36 rfl rfl rfl (by rfl) (by kernel_rfl) ⟨_, hs, by first | (simp; done) | exact fun e he => List.mem_append_right _ he⟩ (Z.Yd.loadA _ rfl Try.isAgg31 (fun _ => Z.cellsB (cs := X.ref) (by first | ((repeat (first | exact List.mem_cons_self | refine List.mem_cons_of_mem _ ?_ | refine List.mem_append_right _ ?_)); done) | fail)) (by exact Try.sizeOf31)) ?_
              refine Z.t 37 rfl rfl rfl (by rfl) (by kernel_rfl) ⟨_, hs, by first | (simp; done) | exact fun e he => List.mem_append_right _ he⟩ (Z.Yd.loadA _ rfl Try.isAgg31 (fun _ => Z.cellsB (cs := (zeroR).ref) (by first | ((repeat (first | exact List.mem_cons_self | refine List.mem_cons_of_mem _ ?_ | refine List.mem_append_right _ ?_)); done) | fail)) (by exact Try.sizeOf31)) ?_
              refine Z.t 38 rfl rfl rfl (by rfl) (by kernel_rfl) ⟨_, hs, by first | (simp; done) | exact fun e he => List.mem_append_right _ he⟩ (Z.Yd.eqA (r := decide (X = zeroR)) (.st (.fc 0 4 (.st (.fc 0 1 (.i) (.fc 1 1 (.i) (.fc 2 1 (.i) (.fc 3 1 (.i) (.fn)))))) (.fc 4 1 (.i) (.fc 5 4 (.ar 4 1 (.i)) (.fc 9 1 (.i) (.fc 10 1 (.b) (.fc 11 1 (.b) (.fc 12 1 (.b) (.fc 13 1 (.b) (.fc 14 1 (.i) (.fc 15 1 (.i) (.fc 16 1 (.i) (.fn))))))))))))) rfl rfl rfl rfl (by kernel_rfl) (by kernel_rfl) (refeq X (zeroR))) ?_
              refine Z.tb [39] (by kernel_rfl) rfl ⟨_, hs, by first | (simp; done) | exact fun e he => List.mem_append_right _ he⟩ rfl ?_
              refine Z.t 40 rfl rfl rfl (by rfl) (by kernel_rfl) ⟨_, hs, by first | (simp; done) | exact fun e he => List.mem_append_right _ he⟩ (Z.Yd.bin rfl rfl (by intro _ w; go_simp; try rfl)) ?_
              refine Z.tb [41, 42] (by kernel_rfl) rfl ⟨_, hs, by first | (simp; done) | exact fun e he => List.mem_append_right _ he⟩ rfl ?_
              refine Z.yes (s := 139) (b := true) rfl (by simp) rfl ?_
              refine Z.tn 43 rfl rfl (by kernel_rfl) rfl (by exact ⟨rfl, trivial⟩) ?_
              refine Z.ZO.call rfl rfl (by rfl) rfl rfl Try.call13 rfl (works26 _) ?_
              rintro v18_43 w18_43 ⟨rfl, hy⟩
              replace hs := hs.call hy
              clear hy
              try simp only [List.cons_append, List.nil_append, List.append_nil] at hs
              refine Z.tk (Dn := fun _ => true) (i := 43) (fun _ => ⟨_, hs, by first | (simp; done) | exact fun e he => List.mem_append_right _ he⟩) ?_
              refine Z.tb [44, 45] (by kernel_rfl) rfl ⟨_, hs, by first | (simp; done) | exact fun e he => List.mem_append_right _ he⟩ rfl ?_
              refine Z.td (by rfl) (by kernel_rfl) ?_
              refine Z.only [8] rfl ?_
              refine Z.nthen ?_
              refine Z.ret ?_
              -- ret#0
              refine Z.out1 (by exact ⟨rfl, trivial⟩) ?_
              exact ⟨_, rfl, by simp, hs.sub (List.nil_sublist _)⟩
              )
    · skip
      have hone0 := rr_one zeroR
      refine Z.enter Try.func6 rfl Try.ntmps6 rfl rfl ?_
      refine Z.seq ?_
      refine Z.region ?_
      refine Z.le rfl trivial ?_
      refine Z.ZO.box rfl rfl (by rfl) rfl rfl hs ?_
      clear hs; intro g4 w4 hs
      refine Z.le rfl trivial ?_
      refine Z.ZO.box rfl rfl (by rfl) rfl rfl hs ?_
      clear hs; intro g5 w5 hs
      refine Z.le rfl trivial ?_
      refine Z.ZO.box rfl rfl (by rfl) rfl rfl hs ?_
      clear hs; intro g7 w7 hs
      refine Z.lb 1 rfl ?_
      refine Z.lnil ?_
      refine Z.only [2, 4, 5, 7] rfl ?_
      refine Z.nthen ?_
      refine Z.seq ?_
      refine Z.seq ?_
      refine Z.region ?_
      refine Z.lb 1 rfl ?_
      refine Z.l rfl rfl (by rfl) (Z.keepS hs) (Z.Yd.lenS rfl Try.underlying41) ?_
      refine Z.lb 1 rfl ?_
      refine Z.lnil ?_
      refine Z.only [2, 4, 5, 7, 25] rfl ?_
      refine Z.nthen ?_
      refine Z.cond rfl (fun h => absurd h (by simp; omega)) (fun hc1 => ?_)
      refine Z.skip ?_
      refine Z.nthen ?_
      refine Z.seq ?_
      refine Z.region ?_
      refine Z.l rfl rfl (by rfl) (Z.keepS hs) (by first | exact Z.Yd.loadA _ rfl Try.isAgg28 (fun _ => Z.cellsB (by first | ((repeat (first | exact List.mem_cons_self | refine List.mem_cons_of_mem _ ?_ | refine List.mem_append_right _ ?_)); done) | fail)) (by exact Try.sizeOf28) | fail "load 3.0") ?_
      refine Z.le rfl trivial ?_
      refine Z.ZO.call rfl rfl (by rfl) rfl rfl Try.call8 rfl (wk_bad a b c d _ hc) ?_
      rintro v3_1 w3_1 ⟨rfl, hy⟩
      replace hs := hs.call hy
      clear hy
      try simp only [List.cons_append, List.nil_append, List.append_nil] at hs
      refine Z.lb 5 rfl ?_
      refine Z.lnil ?_
      refine Z.only [2, 4, 5, 7, 9, 10] rfl ?_
      refine Z.nthen ?_
      refine Z.seq ?_
      refine Z.region ?_
      refine Z.l rfl rfl (by rfl) (Z.keepS hs) (by first | exact Z.Yd.loadA _ rfl Try.isAgg28 (fun _ => Z.cellsB (by first | ((repeat (first | exact List.mem_cons_self | refine List.mem_cons_of_mem _ ?_ | refine List.mem_append_right _ ?_)); done) | fail)) (by exact Try.sizeOf28) | fail "load 4.0") ?_
      refine Z.le rfl trivial ?_
      refine Z.ZO.call rfl rfl (by rfl) rfl rfl Try.call18 rfl (wkr_bad a b c d _ hc) ?_
      rintro v4_1 w4_1 ⟨rfl, hy⟩
      replace hs := hs.call hy
      clear hy
      try simp only [List.cons_append, List.nil_append, List.append_nil] at hs
      refine Z.lb 3 rfl ?_
      refine Z.le rfl trivial ?_
      refine Z.ZO.alloc rfl rfl (by rfl) Try.zeroValue31 rfl hs ?_
      clear hs; intro g11 w11 hs
      refine Z.le rfl trivial ?_
      first | refine Z.ZO.storeA rfl rfl hs rfl rfl (by kernel_rfl) (by first | (simp [Value.oneCell']; done) | (refine Z.all_one ?_; assumption)) (by first | exact SX.at0 | exact SX.at1 | exact SX.at2 | exact SX.at3 | exact SX.at4 | exact SX.at5 | exact Z.at6 | exact Z.at7 | exact Z.at8 | exact Z.at9 | exact Z.at10 | exact Z.at11 | exact Z.at12) (by rfl) ?_ | refine Z.ZO.storeP rfl rfl hs rfl rfl (by kernel_rfl) (by first | (simp [Value.oneCell']; done) | (refine Z.all_one ?_; assumption)) (by first | exact SX.at0 | exact SX.at1 | exact SX.at2 | exact SX.at3 | exact SX.at4 | exact SX.at5 | exact Z.at6 | exact Z.at7 | exact Z.at8 | exact Z.at9 | exact Z.at10 | exact Z.at11 | exact Z.at12) (by first | decide | (simp; done) | (simp; omega)) ?_ | refine Z.ZO.storePR rfl rfl hs rfl rfl (by kernel_rfl) (by first | (simp [Value.oneCell']; done) | (refine Z.all_one ?_; assumption)) (by first | exact SX.at0 | exact SX.at1 | exact SX.at2 | exact SX.at3 | exact SX.at4 | exact SX.at5 | exact Z.at6 | exact Z.at7 | exact Z.at8 | exact Z.at9 | exact Z.at10 | exact Z.at11 | exact Z.at12) (by first | decide | (simp; done) | (simp; omega)) ?_
      clear hs; intro ws hs
      simp only [Nat.zero_add, Nat.add_zero, Nat.reduceAdd, Int.reduceToNat, Nat.reduceMul, List.set_cons_zero, List.set_cons_succ, List.setIfInBounds_toArray] at hs
      try simp only [Z.putL, Nat.zero_add] at hs
      refine Z.lb 1 rfl ?_
      refine Z.lnil ?_
      refine Z.only [2, 5, 7, 9, 10, 11, 12] rfl ?_
      refine Z.nthen ?_
      refine Z.seq ?_
      refine Z.seq ?_
      refine Z.region ?_
      refine Z.lb 2 rfl ?_
      refine Z.lnil ?_
      refine Z.only [2, 5, 7, 9, 10, 11, 12, 38] rfl ?_
      refine Z.nthen ?_
      refine Z.cond rfl (fun hc5 => ?_) (fun h => absurd h (by simp))
      refine Z.seq ?_
      refine Z.region ?_
      refine Z.lb 1 rfl ?_
      refine Z.le rfl trivial ?_
      refine Z.ZO.call rfl rfl (by rfl) rfl rfl Try.call11 rfl (rp_num _ _) ?_
      rintro v6_1 w6_1 ⟨rfl, hy⟩
      replace hs := hs.call hy
      clear hy
      try simp only [List.cons_append, List.nil_append, List.append_nil] at hs
      refine Z.lb 3 rfl ?_
      refine Z.yes (s := 43) (b := true) rfl ((by simp)) rfl ?_
      refine Z.le rfl (by exact ⟨rfl, trivial⟩) ?_
      refine Z.ZO.call rfl rfl (by rfl) rfl rfl Try.call13 rfl (works26 _) ?_
      rintro v6_5 w6_5 ⟨rfl, hy⟩
      replace hs := hs.call hy
      clear hy
      try simp only [List.cons_append, List.nil_append, List.append_nil] at hs
      refine Z.l rfl rfl (by rfl) (Z.keepS hs) (Z.Yd.pickT rfl rfl) ?_
      refine Z.lb 1 rfl ?_
      refine Z.lnil ?_
      refine Z.only [8] rfl ?_
      refine Z.nthen ?_
      refine Z.ret ?_
      repeat (first | refine Z.rthen ?_ | refine Z.rblock ?_ | refine Z.rscope ?_)
      -- ret#0
      refine Z.out1 (by exact ⟨rfl, trivial⟩) ?_
      first | exact ⟨_, rfl, rfl, hs⟩ | exact ⟨_, rfl, rfl, hs.sub (List.nil_sublist _)⟩
  · skip
    refine Z.enter Try.func6 rfl Try.ntmps6 rfl rfl ?_
    refine Z.seq ?_
    refine Z.region ?_
    refine Z.le rfl trivial ?_
    refine Z.ZO.box rfl rfl (by rfl) rfl rfl hs ?_
    clear hs; intro g4 w4 hs
    refine Z.le rfl trivial ?_
    refine Z.ZO.box rfl rfl (by rfl) rfl rfl hs ?_
    clear hs; intro g5 w5 hs
    refine Z.le rfl trivial ?_
    refine Z.ZO.box rfl rfl (by rfl) rfl rfl hs ?_
    clear hs; intro g7 w7 hs
    refine Z.lb 1 rfl ?_
    refine Z.lnil ?_
    refine Z.only [2, 4, 5, 7] rfl ?_
    refine Z.nthen ?_
    refine Z.seq ?_
    refine Z.seq ?_
    refine Z.region ?_
    refine Z.lb 1 rfl ?_
    refine Z.l rfl rfl (by rfl) (Z.keepS hs) (Z.Yd.lenS rfl Try.underlying41) ?_
    refine Z.lb 1 rfl ?_
    refine Z.lnil ?_
    refine Z.only [2, 4, 5, 7, 25] rfl ?_
    refine Z.nthen ?_
    refine Z.cond rfl (fun hc1 => ?_) (fun h => absurd h (by simp; omega))
    refine Z.seq ?_
    refine Z.region ?_
    refine Z.le rfl trivial ?_
    refine Z.ZO.call rfl rfl (by rfl) rfl rfl Try.call13 rfl (works26 _) ?_
    rintro v2_0 w2_0 ⟨rfl, hy⟩
    replace hs := hs.call hy
    clear hy
    try simp only [List.cons_append, List.nil_append, List.append_nil] at hs
    refine Z.lb 1 rfl ?_
    refine Z.lnil ?_
    refine Z.only [8] rfl ?_
    refine Z.nthen ?_
    refine Z.ret ?_
    repeat (first | refine Z.rthen ?_ | refine Z.rblock ?_ | refine Z.rscope ?_)
    -- ret#0
    refine Z.out1 (by exact ⟨rfl, trivial⟩) ?_
    first | exact ⟨_, rfl, rfl, hs⟩ | exact ⟨_, rfl, rfl, hs.sub (List.nil_sublist _)⟩
theorem rw_two26 {W : World} {cs : List Value} (z : Rw Try.prog W 59 cs) : ∃ x y : RxV, cs = x.cells ++ y.cells ∧ x.fits ∧ y.fits := by
  obtain ⟨hl, hf⟩ := Rw.array Try.underlying59 z
  have c14 : Try.prog.cellsOf 59 = 14 := by kernel_rfl
  have c7 : Try.prog.cellsOf 43 = 7 := by kernel_rfl
  rw [c14] at hl
  obtain ⟨x, hx, fx⟩ := rw_act26 (hf 0 (by omega))
  obtain ⟨y, hy, fy⟩ := rw_act26 (hf 1 (by omega))
  simp only [c7] at hx hy
  refine ⟨x, y, ?_, fx, fy⟩
  rw [← hx, ← hy, Nat.zero_mul, List.drop_zero, Nat.one_mul]
  rw [List.take_of_length_le (l := cs.drop 7) (by simp; omega), List.take_append_drop]
theorem reportCopies_rd (cs0 : Array Value) (cs1 : Array Value) (a2 : Option Addr) (len2 cap2 : Nat) (cs3 : Array Value) (w : World) (z0 : Rw Try.prog w 28 (Value.agg cs0).cells.toList) (z1 : Rw Try.prog w 28 (Value.agg cs1).cells.toList) (z2 : Rw Try.prog w 41 (Value.slice a2 len2 cap2).cells.toList) (z3 : Rw Try.prog w 59 (Value.agg cs3).cells.toList) :
    Calls Try.prog 6 #[.agg cs0, .agg cs1, .slice a2 len2 cap2, .agg cs3] w fun e w' => e = .returned (.bool true) ∧ Below w.heap.size w w' := by
  obtain ⟨a, b, c, d, hr⟩ := rw_rcfg z0.rd
  obtain ⟨a', b', c', d', hr'⟩ := rw_rcfg z1.rd
  obtain ⟨x, y, hxy, fx, fy⟩ := rw_two26 z3
  rw [agg_eq hr, agg_eq hr', agg_eq hxy]
  obtain ⟨l, h1, h2, h3, h4⟩ := rw_acts26 (show Rw Try.prog w 41 [.slice a2 len2 cap2] by simpa [Value.cells] using z2)
  refine (reportCopies_walk a b c d a' b' c' d' a2 len2 cap2 l x y w h4 h1 h2 h3 fx fy).mono ?_
  rintro e w' ⟨v, rfl, rfl, h⟩
  exact ⟨rfl, h.below⟩
end Go.Proofs.Ytjejdlolgmhljaa

/- What every row needs. -/
namespace Go.Proofs.Ytjejdlolgmhljaa
open Go.ChangeShapes Go.WideShapes Go.ChangeAt Go.RowKit
theorem pown : ownKnob Try.prog.godebug = none := by kernel_rfl
theorem plaidOut : laidOutB Try.prog = true := by kernel_rfl
end Go.Proofs.Ytjejdlolgmhljaa
