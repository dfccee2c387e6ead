/- Part 6 of the proofs that lead to the statement. -/
import Derived.Test.YtbojkoiopkaciaaGreatY5
/- The MAC entity: Build. -/
namespace Go.Proofs.YtbojkoiopkaciaaGreat
open Go.RowKit
set_option linter.unusedSimpArgs false
set_option linter.unusedVariables false
--newlaws

def BuR (g gb gr : Nat) (C : Option Addr) (kc : Nat) (sv so : Value) (X : MaV × List Int × Int) (M : List Nat) (w : World) (v : Value) (w' : World) : Prop := ∃ ov, v = .tuple #[ov, .int .i64 X.2.2] ∧ SX.St w M w' (SX.Ent.row ov 5 1 X.2.1.length (ints .u8 X.2.1) :: maE g gb gr C kc sv so X.1)
theorem buN_nn (r : List Prt) : 0 ≤ buN r := by
  unfold buN
  split
  · exact Int.le_refl _
  unfold needP
  have h1 : ∀ l : List Prt, l ≠ [] → 0 ≤ totP l - extP (lastP l) := by
    intro l
    induction l with
    | nil => intro h; exact absurd rfl h
    | cons p l ih =>
      intro _
      have hb := extP_bd p
      rw [totP_cons]
      cases l with
      | nil => simp [totP, lastP]; omega
      | cons q l =>
        rw [lastP_cons Z.b17]
        have := ih Z.b17
        omega
  exact h1 r Z.b63
theorem bu_long {m : MaV} {now n : Int} {r : List Prt} (h : okBu m now n r) (h2 : n < buN r) : buildV m now n r = (m, [], 4) := by unfold buildV; rw [if_neg (fun k => k h), if_pos h2]
theorem bu_none {m : MaV} {now n : Int} {r : List Prt} (h : okBu m now n r) (h2 : buN r ≤ n) (h3 : (buE m now n r).2.1 ++ r = []) : buildV m now n r = (m, [], 10) := by unfold buildV; rw [if_neg (fun k => k h), if_neg Z.b9, if_pos h3]
theorem bu_main {m : MaV} {now n : Int} {r : List Prt} (h : okBu m now n r) (h2 : buN r ≤ n) (h3 : (buE m now n r).2.1 ++ r ≠ []) : buildV m now n r = ({ m with r := (buE m now n r).1, last := now }, (bldV n ((buE m now n r).2.1 ++ r)).1, 0) := by unfold buildV; rw [if_neg (fun k => k h), if_neg Z.b9, if_neg h3]
theorem comb {P : MpV → Prop} {qs : List PtV} {ps : List MpV} (h1 : ∀ q ∈ qs, P q.mp) (h2 : ∀ q ∈ ps, P q) : ∀ q ∈ qs.map PtV.mp ++ ps, P q := by
  intro q hq
  rcases List.mem_append.1 hq with h | h
  · obtain ⟨z, hz, rfl⟩ := List.mem_map.1 h
    exact h1 z hz
  exact h2 q h
def ctlG (p : Prt) : Prop := ¬ sduB p.1 ∧ ctlN p.1 ≠ 0 ∧ (p.2.length : Int) = ctlN p.1
theorem el_ctl (m : RpV) (room : Int) : ∀ p ∈ elP m room, ctlG p := by
  intro p hp
  unfold elP elP1 at hp
  rcases List.mem_append.1 hp with h | h
  · split at h
    · obtain rfl : p = _ := by simpa using h
      unfold ctlG
      simp only [encLc, encL_size]
      split <;> exact ⟨by unfold sduB; omega, by decide, rfl⟩
    simp at h
  split at h
  · obtain rfl : p = _ := by simpa using h
    exact ⟨by unfold sduB; omega, by show ctlN 26 ≠ 0; decide, rfl⟩
  simp at h
theorem vldP_ctl {r : List Prt} : ∀ {l : List Prt}, (∀ p ∈ l, ctlG p) → vldP false (l ++ r) = vldP false r
  | [], _ => rfl
  | p :: l, h => by
    obtain ⟨h1, h2, h3⟩ := h p Z.b17
    rw [List.cons_append, vldP_cons, if_neg h1, decide_eq_true h2, decide_eq_true h3, vldP_ctl fun q hq => h q (by simp [hq])]
    rfl
theorem totP_ctl : ∀ {l : List Prt}, (∀ p ∈ l, ctlG p) → totP l = bytesP l
  | [], _ => rfl
  | p :: l, h => by
    obtain ⟨h1, h2, h3⟩ := h p Z.b17
    have e : bytesP (p :: l) = (1 + (p.2.length : Int)) + bytesP l := by simp [bytesP]
    rw [totP_cons, e, ext_no h1, totP_ctl fun q hq => h q (by simp [hq])]
    omega
theorem lastP_ctl : ∀ {l : List Prt}, (∀ p ∈ l, ctlG p) → extP (lastP l) = 0
  | [], _ => rfl
  | [p], h => ext_no (h p Z.b17).1
  | p :: q :: l, h => by
    rw [lastP_cons Z.b17]
    exact lastP_ctl fun x hx => h x (by simp only [List.mem_cons] at hx ⊢; exact .inr hx)
theorem need_ctl {l r : List Prt} (h : ∀ p ∈ l, ctlG p) : needP (l ++ r) = bytesP l + buN r := by
  unfold buN
  by_cases hr : r = []
  · subst hr
    rw [if_pos rfl, List.append_nil, needP, lastP_ctl h, totP_ctl h]
    omega
  rw [if_neg hr]
  have e : lastP (l ++ r) = lastP r := by unfold lastP; rw [List.getLastD_eq_getLast?, List.getLastD_eq_getLast?, List.getLast?_append]; cases h9 : r.getLast? with
    | none => exact absurd (List.getLast?_eq_none_iff.1 h9) hr
    | some x => rfl
  unfold needP
  rw [e, totP_app, totP_ctl h]
  omega
theorem buE_ctl {m : MaV} {now n : Int} {r : List Prt} : ∀ p ∈ (buE m now n r).2.1, ctlG p := by
  unfold buE
  split
  · unfold elsV
    split
    · exact el_ctl _ _
    intro p hp; cases hp
  intro p hp; cases hp
theorem buE_bytes {m : MaV} (hm : m.ok) {now n : Int} {r : List Prt} (h : okBu m now n r) (h2 : buN r ≤ n) : bytesP (buE m now n r).2.1 ≤ n - buN r := by
  unfold buE
  split
  · exact (els_bytes (r := m.r) (now := now) ⟨by have := hm.rn; have := h.1.2.1; omega, h.1.2.2⟩ Z.b9).2
  simp [bytesP]; omega
theorem bu_fits {m : MaV} (hm : m.ok) {now n : Int} {r : List Prt} (h : okBu m now n r) (h2 : buN r ≤ n) (h3 : (buE m now n r).2.1 ++ r ≠ []) : (bldV n ((buE m now n r).2.1 ++ r)).2 = 0 := by
  refine bld_zero h.1.1 ⟨h3, by rw [vldP_ctl buE_ctl]; exact h.2.2⟩ ?_
  rw [need_ctl buE_ctl]
  have := buE_bytes hm h h2
  omega
theorem bu_arg {m : MaV} {now n : Int} {r : List Prt} (h : ¬ okBu m now n r) : buildV m now n r = (m, [], 2) := if_pos h
set_option maxHeartbeats 4000000 in
set_option maxRecDepth 100000 in
theorem mx_build_up (g gb gr : Nat) (C : Option Addr) (kc : Nat) (sv so : Value) (m : MaV) (now n : Int) (A : Option Addr) (nn c : Nat) (ps : List MpV) (w : World) (hs : SX.St w (SX.idsOf (maE g gb gr C kc sv so m)) w (maE g gb gr C kc sv so m)) (hm : m.ok) (hup : m.up = true)
    (hx : Sx w (SX.idsOf (maE g gb gr C kc sv so m)) A (ps.flatMap MpV.cells)) (hB : ∀ q ∈ ps, Sx w (SX.idsOf (maE g gb gr C kc sv so m)) q.B (ints .u8 q.l)) (hby : ∀ q ∈ ps, ∀ y ∈ q.l, 0 ≤ y ∧ y < 256) (hl : ps.length = nn) (hn : nn ≤ 90) (hf : ∀ q ∈ ps, q.l.length ≤ 100000) :
    Calls Tryz.prog 23 #[.pointer (some ⟨g, 0, none⟩), .int .i64 now, .int .i64 n, .slice A nn c] w (SX.Ret fun v w' => BuR g gb gr C kc sv so (buildV m now n (ps.map MpV.plain)) (SX.idsOf (maE g gb gr C kc sv so m)) w v w') := by
  generalize hM : SX.idsOf (maE g gb gr C kc sv so m) = M at *
  have hpos := hm.b.pos
  obtain ⟨r, hr⟩ : ∃ r, ps.map MpV.plain = r := ⟨_, rfl⟩
  have hrl : r.length = nn := by rw [← hr, List.length_map, hl]
  rw [hr]
  replace hs : SX.St w M w (SX.Ent.blk g 55 #[.pointer (some ⟨gb, 0, none⟩), .slice C m.b.l.length kc, .pointer (some ⟨gr, 0, none⟩), .int .i64 m.last] :: SX.Ent.blk gb 147 #[sv, so, .int .i64 m.b.now] :: SX.Ent.row sv 149 6 m.b.l.length (m.b.chs.flatMap chC) :: SX.Ent.row so 3 1 m.b.l.length (ints .i64 (natI (ordL m.b.l))) :: SX.Ent.blk gr 157 m.r.cells.toArray :: []) := by simpa [maE, bkE, rvP, rpE, hup] using hs
  have hfail : ∀ e : Int, buildV m now n r = (m, [], e) → ∀ w', SX.St w M w' (SX.Ent.blk g 55 #[.pointer (some ⟨gb, 0, none⟩), .slice C m.b.l.length kc, .pointer (some ⟨gr, 0, none⟩), .int .i64 m.last] :: SX.Ent.blk gb 147 #[sv, so, .int .i64 m.b.now] :: SX.Ent.row sv 149 6 m.b.l.length (m.b.chs.flatMap chC) :: SX.Ent.row so 3 1 m.b.l.length (ints .i64 (natI (ordL m.b.l))) :: SX.Ent.blk gr 157 m.r.cells.toArray :: []) → BuR g gb gr C kc sv so (buildV m now n r) M w (.tuple #[.slice none 0 0, .int .i64 e]) w' := fun e he w' h => by
    rw [he]
    exact ⟨_, rfl, SX.St.nil Z.b73 _ 1⟩
  refine Z.enterD Tryz.func23 rfl Tryz.ntmps23 rfl rfl ?_
  refine Z.g230 ?_
  refine Z.g164 ?_
  clear hs; intro g8 w8 hs
  refine Z.g184 ?_
  clear hs; intro g9 w9 hs
  refine Z.g314 ?_
  refine Z.g168 ?_
  refine Z.g30 ?_
  refine Z.g95 ?_
  refine Z.g168 ?_
  refine Z.g92 ?_
  refine Z.g3 ?_
  refine Z.ZO.callB rfl rfl (by rfl) rfl rfl Tryz.call40 rfl (mx_ready g gb _ _ m now n _ (hs.celOf (cs := [_, _, _, _]) Z.b0)) ?_ ?_
  · skip
    rintro v2_3 w2_3 ⟨hrd, rfl, hy⟩
    replace hs := Z.w1 (hs.call hy); clear hy
    skip
    refine Z.g314 ?_
    refine Z.g168 ?_
    refine Z.g30 ?_
    refine Z.g1 ?_
    refine Z.only [0, 1, 2, 3, 8, 9, 10] rfl ?_
    refine Z.g123 ?_
    refine Z.g258 ?_
    refine Z.g162 ?_
    refine Z.g210 ?_
    refine Z.loopk (ι := Nat) [0, 1, 2, 3, 8, 9, 10, 21, 22] rfl (fun i => [(23, [], .int .i64 (i : Int))]) (fun i wr => (i ≤ nn ∧ ∀ p ∈ r.take i, knowB m p.1 = true) ∧ SX.St w M wr (SX.Ent.blk g9 31 #[.int .i64 0] :: SX.Ent.blk g8 48 #[.slice none 0 0] :: SX.Ent.blk g 55 #[.pointer (some ⟨gb, 0, none⟩), .slice C m.b.l.length kc, .pointer (some ⟨gr, 0, none⟩), .int .i64 m.last] :: SX.Ent.blk gb 147 #[sv, so, .int .i64 m.b.now] :: SX.Ent.row sv 149 6 m.b.l.length (m.b.chs.flatMap chC) :: SX.Ent.row so 3 1 m.b.l.length (ints .i64 (natI (ordL m.b.l))) :: SX.Ent.blk gr 157 m.r.cells.toArray :: [])) (fun i => nn - i) 0 Z.b6 ⟨⟨Nat.zero_le _, by simp⟩, hs⟩ ?_
    clear hs
    rintro i w5 ⟨⟨hi, hkn⟩, hs⟩
    refine Z.g162 ?_
    refine Z.g120 ?_
    refine Z.only [0, 1, 2, 3, 8, 9, 10, 21, 22, 23, 24] rfl ?_
    refine Z.g150 ?_
    refine Z.cond rfl (fun hc5 => ?_) (fun hc5 => ?_)
    · (try simp at hc5)
      obtain ⟨bA, oA, rfl, hx2⟩ := hx.some Z.b66
      obtain ⟨q, hqi⟩ : ∃ q, ps[i]? = some q := ⟨_, List.getElem?_eq_getElem Z.b9⟩
      have hone := mp_one q
      have htk : r.take (i + 1) = r.take i ++ [q.plain] := by rw [← hr, plain_take hqi]
      refine Z.g238 ?_
      refine Z.g198 ?_
      refine Z.l rfl rfl (by rfl) (Z.keepS hs) (Z.Yd.loadA _ rfl Tryz.isAgg77 (fun _ W hK j u hu => Z.cellXq (enc := MpV.cells) hx2 mp_len hqi hu W hK) Z.b18) ?_
      refine Z.g254 ?_
      clear hs; intro g12 w12 hs
      refine Z.g124 ?_
      clear hs; intro ws hs
      replace hs := Z.w0 hs
      replace hs := Z.w3 hs
      refine Z.g314 ?_
      refine Z.only [0, 1, 2, 3, 8, 9, 10, 12, 21, 22, 23] rfl ?_
      refine Z.g150 ?_
      refine Z.drawL [SX.Ent.blk g12 77 q.cells.toArray, SX.Ent.blk g 55 #[.pointer (some ⟨gb, 0, none⟩), .slice C m.b.l.length kc, .pointer (some ⟨gr, 0, none⟩), .int .i64 m.last]] (fun _ => true) mixed hs ?_
      clear hs; intro wd7 hs
      refine Z.g50 ?_
      refine Z.t 3 rfl rfl rfl (by rfl) Z.b4 ⟨_, hs, Z.b2⟩ Z.b34 ?_
      refine Z.g112 ?_
      refine Z.t 5 rfl rfl rfl (by rfl) Z.b4 ⟨_, hs, Z.b2⟩ (Z.Yd.load rfl Tryz.isAgg3 (fun _ => Z.cellB (cs := q.cells.toArray) Z.b0 rfl)) ?_
      refine Z.g191 ?_
      refine Z.ZO.call rfl rfl (by rfl) rfl rfl Tryz.call64 rfl (bk_level gb m.b q.lc _ (hs.bkR (sv := sv) (so := so) (m := m.b) (by simp [bkE])) hm.b) ?_
      rintro v7_6 w7_6 ⟨rfl, hy⟩
      replace hs := Z.w1 (hs.call hy); clear hy
      refine Z.g70 ?_
      refine Z.tb [7, 8, 9, 10, 11] Z.b4 rfl ⟨_, hs, Z.b2⟩ rfl ?_
      refine Z.g68 ?_
      refine Z.only [0, 1, 2, 3, 8, 9, 10, 14, 21, 22, 23] rfl ?_
      refine Z.g121 ?_
      refine Z.g32 ?_
      refine Z.ZO.callB rfl rfl (by rfl) rfl rfl Tryz.call41 rfl (mx_must _ 2 _) ?_ ?_
      · skip
        rintro v8_1 w8_1 ⟨hm8, rfl, hy⟩
        replace hs := Z.w1 (hs.call hy); clear hy
        skip
        refine Z.g314 ?_
        refine Z.g162 ?_
        refine Z.g180 ?_
        refine Z.g162 ?_
        refine Z.g313 ?_
        exact Z.again (i + 1) Z.b20 ⟨⟨by omega, by rw [htk]; intro p hp; rcases List.mem_append.1 hp with h | h; exact hkn p h; (obtain rfl : p = _ := by simpa using h); exact hm8⟩, hs.tl⟩ Z.b9
      skip
      rintro c8_1 w8_1 ⟨hm8, rfl, hy⟩
      replace hs := Z.w1 (hs.call hy); clear hy
      have he := bu_arg (r := r) (n := n) (now := now) (m := m) (fun h => by have h1 := h.2.1 q.plain (by rw [← hr]; exact List.mem_map_of_mem (List.mem_of_getElem? hqi)); have h2 : (lvV m.b q.lc).2 = true := h1; rw [hm8] at h2; cases h2)
      replace hs := hs.tl
      repeat (first | refine Z.pthen ?_ | refine Z.pblock ?_ | refine Z.pscope ?_)
      refine Z.g20 ?_
      rintro vD wD ⟨rfl, hz⟩
      replace hs := hs.regain hz
      refine ⟨[_, _], Z.b26, ?_⟩
      exact ⟨_, rfl, hfail _ he _ (hs.sub (List.sublist_append_right _ _))⟩
    (try simp at hc5)
    refine Z.g11 ?_
    refine Z.g60 ?_
    obtain rfl : i = nn := by omega
    rw [List.take_of_length_le Z.b9] at hkn
    refine Z.g18 ?_
    refine Z.g258 ?_
    refine Z.only [0, 1, 2, 3, 8, 9, 10, 42] rfl ?_
    refine Z.g313 ?_
    refine Z.cutt (ι := Unit) [0, 1, 2, 3, 8, 9] rfl (fun _ => [(10, [], .int .i64 (buN r))]) (fun _ wr => vldP false r = true ∧ SX.St w M wr (SX.Ent.blk g9 31 #[.int .i64 0] :: SX.Ent.blk g8 48 #[.slice none 0 0] :: SX.Ent.blk g 55 #[.pointer (some ⟨gb, 0, none⟩), .slice C m.b.l.length kc, .pointer (some ⟨gr, 0, none⟩), .int .i64 m.last] :: SX.Ent.blk gb 147 #[sv, so, .int .i64 m.b.now] :: SX.Ent.row sv 149 6 m.b.l.length (m.b.chs.flatMap chC) :: SX.Ent.row so 3 1 m.b.l.length (ints .i64 (natI (ordL m.b.l))) :: SX.Ent.blk gr 157 m.r.cells.toArray :: [])) ?_ ?_
    · skip
      refine Z.cond rfl (fun hc10 => ?_) (fun hc10 => ?_)
      · (try simp at hc10)
        refine Z.region ?_
        refine Z.g32 ?_
        refine Z.ZO.call rfl rfl (by rfl) rfl rfl Tryz.call66 rfl (mc_Need A i c ps _ (hx.st hs) hl Z.b9 hf) ?_
        rintro v11_1 w11_1 ⟨rfl, hy⟩
        replace hs := Z.w1 (hs.call hy); clear hy
        rw [hr]
        have hrn : r ≠ [] := fun h => by rw [h] at hrl; simp at hrl; omega
        refine Z.g63 ?_
        refine Z.ZO.callB rfl rfl (by rfl) rfl rfl Tryz.call65 rfl (mx_gotI _ _ _) ?_ ?_
        · skip
          rintro v11_4 w11_4 ⟨hE, rfl, hy⟩
          replace hs := Z.w1 (hs.call hy); clear hy
          have hno : okN r := by
            by_cases h : okN r
            · exact h
            rw [needV, if_neg h] at hE; cases hE
          have hbn : buN r = needP r := if_neg hrn
          have hnv : needV r = (needP r, 0) := if_pos hno
          rw [hnv]
          refine Z.g1 ?_
          refine Z.only [0, 1, 2, 3, 8, 9, 10] rfl ?_
          refine Z.g313 ?_
          exact Z.meet () (by refine ⟨?_, ?_, ?_, ?_, ?_, ?_, ?_, trivial⟩ <;> first | rfl | (rw [hbn] ; rfl)) ⟨hno.2, hs⟩
        skip
        rintro c11_4 w11_4 ⟨hE, rfl, hy⟩
        replace hs := Z.w1 (hs.call hy); clear hy
        have hno : ¬ okN r := fun h => hE (by rw [needV, if_pos h])
        have he : buildV m now n r = (m, [], (needV r).2) := by rw [needV, if_neg hno]; exact bu_arg (fun h => hno ⟨hrn, h.2.2⟩)
        repeat (first | refine Z.pthen ?_ | refine Z.pblock ?_ | refine Z.pscope ?_)
        refine Z.g20 ?_
        rintro vD wD ⟨rfl, hz⟩
        replace hs := hs.regain hz
        refine ⟨[_, _], Z.b26, ?_⟩
        exact ⟨_, rfl, hfail _ he _ (hs.sub (List.sublist_append_right _ _))⟩
      (try simp at hc10)
      refine Z.skip ?_
      refine Z.g313 ?_
      obtain rfl : i = 0 := by omega
      obtain rfl : r = [] := List.eq_nil_of_length_eq_zero hrl
      exact Z.meet () Z.b13 ⟨rfl, hs⟩
    clear hs
    rintro _ w10 ⟨hv, hs⟩
    refine Z.only [0, 1, 2, 3, 8, 9, 10] rfl ?_
    refine Z.g0 ?_
    refine Z.g221 ?_
    refine Z.g3 ?_
    refine Z.ZO.callB rfl rfl (by rfl) rfl rfl Tryz.call41 rfl (mx_must _ 4 _) ?_ ?_
    · skip
      rintro v12_3 w12_3 ⟨hm12, rfl, hy⟩
      replace hs := Z.w1 (hs.call hy); clear hy
      have hok : okBu m now n r := ⟨hrd, hkn, hv⟩
      have hle : buN r ≤ n := by simpa using hm12
      have hnn := buN_nn r
      have hn1 := hrd.1
      refine Z.g314 ?_
      refine Z.only [0, 1, 2, 3, 8, 9, 10] rfl ?_
      refine Z.g30 ?_
      refine Z.g1 ?_
      refine Z.g192 ?_
      refine Z.g314 ?_
      refine Z.only [0, 1, 2, 3, 8, 9, 10, 15, 56] rfl ?_
      refine Z.g313 ?_
      refine Z.cond rfl (fun hc14 => ?_) (fun h => absurd h Z.b17)
      refine Z.region ?_
      refine Z.g157 ?_
      refine Z.g21 ?_
      refine Z.l rfl rfl (by rfl) (Z.keepS hs) Z.b38 ?_
      refine Z.g3 ?_
      refine Z.ZO.call rfl rfl (by rfl) rfl rfl Tryz.call46 rfl (rp_Copy gr m.r _ (hs.celOf Z.b0)) ?_
      rintro v15_4 w15_4 ⟨g2, rfl, hy⟩
      replace hs := Z.w1 (hs.call hy); clear hy
      refine Z.g221 ?_
      refine Z.g19 ?_
      refine Z.g3 ?_
      refine Z.ZO.call rfl rfl (by rfl) rfl rfl Tryz.call47 rfl (rp_elements g2 _ m.r now (n - buN r) _ (hs.lend (L1 := [_])) hm.r Z.b9) ?_
      rintro v15_9 w15_9 ⟨sve, qs, rfl, hqs, hz⟩
      replace hs := hs.regain (L1 := [_]) hz
      have hel := els_ok (r := m.r) (now := now) (n := n - buN r) ⟨by have := hm.rn; have := hrd.2.1; omega, hrd.2.2⟩ Z.b9
      rw [hel] at hs hqs ⊢
      simp only [ptsL, List.cons_append, List.nil_append] at hs hqs
      obtain ⟨Be, ce, rfl, hce, -, -⟩ := SX.row_slv hs (j := 1) rfl
      replace hs := SX.St.rot (L1 := SX.Ent.row _ 77 2 qs.length (qs.flatMap PtV.cells) :: qs.map PtV.row) hs.tl
      replace hs := Z.w2 hs
      have hbe : (buE m now n r).2.1 = elP m.r (n - buN r) ∧ (buE m now n r).1 = elM m.r now (n - buN r) := by unfold buE; rw [hup, hel]; exact ⟨rfl, rfl⟩
      refine Z.g63 ?_
      refine Z.ZO.call rfl rfl (by rfl) rfl rfl Tryz.call45 rfl (got_ok (mx_gotPt _ 0 _) rfl) ?_
      rintro v15_12 w15_12 ⟨rfl, hy⟩
      replace hs := Z.w1 (hs.call hy); clear hy
      have hbl : (buE m now n r).2.1.length = qs.length := by rw [hbe.1, ← hqs, List.length_map]
      have hpl : (qs.map PtV.mp ++ ps).map MpV.plain = (buE m now n r).2.1 ++ r := by rw [List.map_append, hr, hbe.1, ← hqs, List.map_map]; rfl
      have hql : qs.length ≤ 2 := by have h7 := congrArg List.length hqs; rw [List.length_map] at h7; have := elP_len m.r (n - buN r); omega
      refine Z.g1 ?_
      refine Z.only [0, 1, 2, 3, 8, 9, 10, 15] rfl ?_
      refine Z.g30 ?_
      refine Z.g64 ?_
      refine Z.g25 ?_
      refine Z.g64 ?_
      refine Z.g25 ?_
      refine Z.g5 ?_
      refine Z.g32 ?_
      refine Z.ZO.callB rfl rfl (by rfl) rfl rfl Tryz.call41 rfl (mx_must _ 10 _) ?_ ?_
      · skip
        rintro v16_6 w16_6 ⟨hm16, rfl, hy⟩
        replace hs := Z.w1 (hs.call hy); clear hy
        have hPn : (buE m now n r).2.1 ++ r ≠ [] := fun h => by
          have h7 := congrArg List.length h
          rw [List.length_append, hbl, List.length_nil] at h7
          simp at hm16
          omega
        refine Z.g314 ?_
        refine Z.g192 ?_
        refine Z.g314 ?_
        refine Z.only [0, 1, 2, 3, 8, 9, 10, 15, 81] rfl ?_
        refine Z.g313 ?_
        refine Z.cond rfl (fun hc17 => ?_) (fun h => absurd h Z.b17)
        refine Z.region ?_
        refine Z.g157 ?_
        refine Z.g21 ?_
        refine Z.l rfl rfl (by rfl) (Z.keepS hs) Z.b38 ?_
        refine Z.g221 ?_
        refine Z.g19 ?_
        replace hs : SX.St w M _ ([_] ++ _) := hs.selT (L1 := [_, _, _, _, _, _, _]) [6, 0, 1, 2, 3, 4, 5] Z.b12
        refine Z.g3 ?_
        refine Z.ZO.call rfl rfl (by rfl) rfl rfl Tryz.call47 rfl (rp_elements gr _ m.r now (n - buN r) _ (hs.lend (L1 := [_])) hm.r Z.b9) ?_
        rintro v18_8 w18_8 ⟨sv2, qs2, rfl, hqs2, hz⟩
        replace hs := hs.regain (L1 := [_]) hz
        rw [hel] at hs
        simp only [ptsL, List.cons_append, List.nil_append] at hs
        replace hs := hs.sub (((List.sublist_append_right _ _).cons _).cons_cons _)
        refine Z.g314 ?_
        refine Z.only [0, 1, 2, 3, 8, 9, 15] rfl ?_
        refine Z.g30 ?_
        refine Z.g186 ?_
        refine Z.g72 ?_
        refine Z.g156 ?_
        clear hs; intro ws hs
        replace hs := Z.w0 hs
        refine Z.g314 ?_
        refine Z.only [2, 3, 8, 9, 15] rfl ?_
        refine Z.g92 ?_
        refine Z.g25 ?_
        refine Z.g64 ?_
        refine Z.g25 ?_
        refine Z.l rfl rfl (by rfl) (Z.keepS hs) (Z.Yd.cut3 0 qs.length qs.length rfl rfl rfl rfl Tryz.underlying47 Tryz.sizeOf77 (fun hG => ⟨Z.b3, Z.b3, Z.b3, Z.b3, Z.b3⟩)) ?_
        refine Z.g64 ?_
        rw [slA_zero]
        refine Z.g3 ?_
        refine Z.ZO.appendC (i0 := Tryz.t77) (size := 2) (bytes := 32) (olds := qs.flatMap PtV.cells) (news := ps.flatMap MpV.cells) rfl rfl (by rfl) hs Tryz.underlying47 Z.b4 rfl rfl rfl rfl Z.b12 rfl rfl (fun h => SX.row_none hs (j := 7) rfl h) (by rw [Z.flat_length pt_sz]; rfl) (by exact hs.slm (A := Be) Z.b0) (by rw [fl_len mp_len, hl]) (hx.st hs) (flat_one mp_one ps) Z.b23 Z.b9 ?_
        intro Bz cz w8 hs8 _ hSl
        clear hs
        have hs := hs8
        refine Z.g3 ?_
        refine Z.ZO.call rfl rfl (by rfl) rfl rfl Tryz.call68 rfl (mc_Build n Bz _ cz (qs.map PtV.mp ++ ps) _ (by rw [List.flatMap_append, pt_mp]; exact hSl) Z.b41 Z.b9 (comb (P := fun q ↦ q.l.length ≤ 100000) (fun q hq ↦ by have h7 := elP_l3 m.r (n - buN r) q.plain (by rw [← hqs]; exact List.mem_map_of_mem hq); exact Nat.le_trans h7 Z.b9) hf) (comb (P := fun q ↦ Sl _ q.B (ints .u8 q.l)) (fun q hq ↦ hs.slm (A := q.B) (List.mem_append_right [_, _, _, _, _, _, _, _] (List.mem_map_of_mem (f := PtV.row) hq))) (fun q hq ↦ (hB q hq).st hs)) (comb (P := fun q ↦ ∀ y ∈ q.l, 0 ≤ y ∧ y < 256) (fun q hq ↦ elP_byts m.r hm.r (n - buN r) q.plain (by rw [← hqs]; exact List.mem_map_of_mem hq)) hby)) ?_
        rintro v20_9 w20_9 ⟨svb, rfl, hy⟩
        replace hs := Z.w1 (hs.call hy); clear hy
        have hz0 := bu_fits hm hok hle hPn
        rw [hpl, hz0]
        rw [hpl] at hs
        obtain ⟨Bb, cb, rfl, -, -, -⟩ := SX.row_slv hs (j := 0) rfl
        refine Z.g63 ?_
        refine Z.ZO.call rfl rfl (by rfl) rfl rfl Tryz.call67 rfl (got_ok (mx_gotBy _ 0 _) rfl) ?_
        rintro v20_12 w20_12 ⟨rfl, hy⟩
        replace hs := Z.w1 (hs.call hy); clear hy
        refine Z.g3 ?_
        refine Z.g84 ?_
        clear hs; intro ws hs
        replace hs := Z.w0 hs
        refine Z.g237 ?_
        clear hs; intro ws hs
        replace hs := Z.w0 hs
        refine Z.g314 ?_
        refine Z.only [8, 9] rfl ?_
        refine Z.g6 ?_
        refine Z.outDr Tryz.call26 (mx_caught_ret g9 _ _ _) ?_
        rintro vD wD ⟨rfl, hy⟩
        replace hs := hs.call hy
        refine ⟨[_, _], Z.b26, ?_⟩
        refine ⟨_, rfl, .slice Bb (bldV n ((buE m now n r).2.1 ++ r)).1.length cb, ?_⟩
        rw [bu_main hok hle hPn]
        exact ⟨rfl, by simpa [maE, bkE, rvP, rpE, hup, hbe.2] using hs.sel [0, 4, 5, 6, 7, 1] Z.b12⟩
      skip
      rintro c16_6 w16_6 ⟨hm16, rfl, hy⟩
      replace hs := Z.w1 (hs.call hy); clear hy
      have he := bu_none hok hle (by
        have h7 : ((buE m now n r).2.1 ++ r).length = 0 := by rw [List.length_append, hbl]; simp at hm16; omega
        exact List.eq_nil_of_length_eq_zero h7)
      replace hs := hs.sel [0, 1, 2, 3, 4, 5, 6] Z.b12
      repeat (first | refine Z.pthen ?_ | refine Z.pblock ?_ | refine Z.pscope ?_)
      refine Z.g20 ?_
      rintro vD wD ⟨rfl, hz⟩
      replace hs := hs.regain hz
      refine ⟨[_, _], Z.b26, ?_⟩
      exact ⟨_, rfl, hfail _ he _ (hs.sub (List.sublist_append_right _ _))⟩
    skip
    rintro c12_3 w12_3 ⟨hm12, rfl, hy⟩
    replace hs := Z.w1 (hs.call hy); clear hy
    have hok : okBu m now n r := ⟨hrd, hkn, hv⟩
    have he := bu_long hok (by simpa using hm12)
    repeat (first | refine Z.pthen ?_ | refine Z.pblock ?_ | refine Z.pscope ?_)
    refine Z.g20 ?_
    rintro vD wD ⟨rfl, hz⟩
    replace hs := hs.regain hz
    refine ⟨[_, _], Z.b26, ?_⟩
    exact ⟨_, rfl, hfail _ he _ (hs.sub (List.sublist_append_right _ _))⟩
  skip
  rintro c2_3 w2_3 ⟨hrd, rfl, hy⟩
  replace hs := Z.w1 (hs.call hy); clear hy
  have he := bu_arg (r := r) (n := n) (now := now) (m := m) (fun h => hrd h.1)
  repeat (first | refine Z.pthen ?_ | refine Z.pblock ?_ | refine Z.pscope ?_)
  refine Z.g20 ?_
  rintro vD wD ⟨rfl, hz⟩
  replace hs := hs.regain hz
  refine ⟨[_, _], Z.b26, ?_⟩
  exact ⟨_, rfl, hfail _ he _ (hs.sub (List.sublist_append_right _ _))⟩
set_option maxHeartbeats 4000000 in
set_option maxRecDepth 100000 in
theorem mx_build_dn (g gb gr : Nat) (C : Option Addr) (kc : Nat) (sv so : Value) (m : MaV) (now n : Int) (A : Option Addr) (nn c : Nat) (ps : List MpV) (w : World) (hs : SX.St w (SX.idsOf (maE g gb gr C kc sv so m)) w (maE g gb gr C kc sv so m)) (hm : m.ok) (hup : m.up = false)
    (hx : Sx w (SX.idsOf (maE g gb gr C kc sv so m)) A (ps.flatMap MpV.cells)) (hB : ∀ q ∈ ps, Sx w (SX.idsOf (maE g gb gr C kc sv so m)) q.B (ints .u8 q.l)) (hby : ∀ q ∈ ps, ∀ y ∈ q.l, 0 ≤ y ∧ y < 256) (hl : ps.length = nn) (hn : nn ≤ 90) (hf : ∀ q ∈ ps, q.l.length ≤ 100000) :
    Calls Tryz.prog 23 #[.pointer (some ⟨g, 0, none⟩), .int .i64 now, .int .i64 n, .slice A nn c] w (SX.Ret fun v w' => BuR g gb gr C kc sv so (buildV m now n (ps.map MpV.plain)) (SX.idsOf (maE g gb gr C kc sv so m)) w v w') := by
  generalize hM : SX.idsOf (maE g gb gr C kc sv so m) = M at *
  have hpos := hm.b.pos
  obtain ⟨r, hr⟩ : ∃ r, ps.map MpV.plain = r := ⟨_, rfl⟩
  have hrl : r.length = nn := by rw [← hr, List.length_map, hl]
  rw [hr]
  replace hs : SX.St w M w (SX.Ent.blk g 55 #[.pointer (some ⟨gb, 0, none⟩), .slice C m.b.l.length kc, .pointer none, .int .i64 m.last] :: SX.Ent.blk gb 147 #[sv, so, .int .i64 m.b.now] :: SX.Ent.row sv 149 6 m.b.l.length (m.b.chs.flatMap chC) :: SX.Ent.row so 3 1 m.b.l.length (ints .i64 (natI (ordL m.b.l))) :: []) := by simpa [maE, bkE, rvP, rpE, hup] using hs
  have hfail : ∀ e : Int, buildV m now n r = (m, [], e) → ∀ w', SX.St w M w' (SX.Ent.blk g 55 #[.pointer (some ⟨gb, 0, none⟩), .slice C m.b.l.length kc, .pointer none, .int .i64 m.last] :: SX.Ent.blk gb 147 #[sv, so, .int .i64 m.b.now] :: SX.Ent.row sv 149 6 m.b.l.length (m.b.chs.flatMap chC) :: SX.Ent.row so 3 1 m.b.l.length (ints .i64 (natI (ordL m.b.l))) :: []) → BuR g gb gr C kc sv so (buildV m now n r) M w (.tuple #[.slice none 0 0, .int .i64 e]) w' := fun e he w' h => by
    rw [he]
    exact ⟨_, rfl, SX.St.nil Z.b73 _ 1⟩
  refine Z.enterD Tryz.func23 rfl Tryz.ntmps23 rfl rfl ?_
  refine Z.g230 ?_
  refine Z.g164 ?_
  clear hs; intro g8 w8 hs
  refine Z.g184 ?_
  clear hs; intro g9 w9 hs
  refine Z.g314 ?_
  refine Z.g168 ?_
  refine Z.g30 ?_
  refine Z.g95 ?_
  refine Z.g168 ?_
  refine Z.g92 ?_
  refine Z.g3 ?_
  refine Z.ZO.callB rfl rfl (by rfl) rfl rfl Tryz.call40 rfl (mx_ready g gb _ _ m now n _ (hs.celOf (cs := [_, _, _, _]) Z.b0)) ?_ ?_
  · skip
    rintro v2_3 w2_3 ⟨hrd, rfl, hy⟩
    replace hs := Z.w1 (hs.call hy); clear hy
    skip
    refine Z.g314 ?_
    refine Z.g168 ?_
    refine Z.g30 ?_
    refine Z.g1 ?_
    refine Z.only [0, 1, 2, 3, 8, 9, 10] rfl ?_
    refine Z.g123 ?_
    refine Z.g258 ?_
    refine Z.g162 ?_
    refine Z.g210 ?_
    refine Z.loopk (ι := Nat) [0, 1, 2, 3, 8, 9, 10, 21, 22] rfl (fun i => [(23, [], .int .i64 (i : Int))]) (fun i wr => (i ≤ nn ∧ ∀ p ∈ r.take i, knowB m p.1 = true) ∧ SX.St w M wr (SX.Ent.blk g9 31 #[.int .i64 0] :: SX.Ent.blk g8 48 #[.slice none 0 0] :: SX.Ent.blk g 55 #[.pointer (some ⟨gb, 0, none⟩), .slice C m.b.l.length kc, .pointer none, .int .i64 m.last] :: SX.Ent.blk gb 147 #[sv, so, .int .i64 m.b.now] :: SX.Ent.row sv 149 6 m.b.l.length (m.b.chs.flatMap chC) :: SX.Ent.row so 3 1 m.b.l.length (ints .i64 (natI (ordL m.b.l))) :: [])) (fun i => nn - i) 0 Z.b6 ⟨⟨Nat.zero_le _, by simp⟩, hs⟩ ?_
    clear hs
    rintro i w5 ⟨⟨hi, hkn⟩, hs⟩
    refine Z.g162 ?_
    refine Z.g120 ?_
    refine Z.only [0, 1, 2, 3, 8, 9, 10, 21, 22, 23, 24] rfl ?_
    refine Z.g150 ?_
    refine Z.cond rfl (fun hc5 => ?_) (fun hc5 => ?_)
    · (try simp at hc5)
      obtain ⟨bA, oA, rfl, hx2⟩ := hx.some Z.b66
      obtain ⟨q, hqi⟩ : ∃ q, ps[i]? = some q := ⟨_, List.getElem?_eq_getElem Z.b9⟩
      have hone := mp_one q
      have htk : r.take (i + 1) = r.take i ++ [q.plain] := by rw [← hr, plain_take hqi]
      refine Z.g238 ?_
      refine Z.g198 ?_
      refine Z.l rfl rfl (by rfl) (Z.keepS hs) (Z.Yd.loadA _ rfl Tryz.isAgg77 (fun _ W hK j u hu => Z.cellXq (enc := MpV.cells) hx2 mp_len hqi hu W hK) Z.b18) ?_
      refine Z.g254 ?_
      clear hs; intro g12 w12 hs
      refine Z.g124 ?_
      clear hs; intro ws hs
      replace hs := Z.w0 hs
      replace hs := Z.w3 hs
      refine Z.g314 ?_
      refine Z.only [0, 1, 2, 3, 8, 9, 10, 12, 21, 22, 23] rfl ?_
      refine Z.g150 ?_
      refine Z.drawL [SX.Ent.blk g12 77 q.cells.toArray, SX.Ent.blk g 55 #[.pointer (some ⟨gb, 0, none⟩), .slice C m.b.l.length kc, .pointer none, .int .i64 m.last]] (fun _ => true) mixed hs ?_
      clear hs; intro wd7 hs
      refine Z.g50 ?_
      refine Z.t 3 rfl rfl rfl (by rfl) Z.b4 ⟨_, hs, Z.b2⟩ Z.b34 ?_
      refine Z.g112 ?_
      refine Z.t 5 rfl rfl rfl (by rfl) Z.b4 ⟨_, hs, Z.b2⟩ (Z.Yd.load rfl Tryz.isAgg3 (fun _ => Z.cellB (cs := q.cells.toArray) Z.b0 rfl)) ?_
      refine Z.g191 ?_
      refine Z.ZO.call rfl rfl (by rfl) rfl rfl Tryz.call64 rfl (bk_level gb m.b q.lc _ (hs.bkR (sv := sv) (so := so) (m := m.b) (by simp [bkE])) hm.b) ?_
      rintro v7_6 w7_6 ⟨rfl, hy⟩
      replace hs := Z.w1 (hs.call hy); clear hy
      refine Z.g70 ?_
      refine Z.tb [7, 8, 9, 10, 11] Z.b4 rfl ⟨_, hs, Z.b2⟩ rfl ?_
      refine Z.g68 ?_
      refine Z.only [0, 1, 2, 3, 8, 9, 10, 14, 21, 22, 23] rfl ?_
      refine Z.g121 ?_
      refine Z.g32 ?_
      refine Z.ZO.callB rfl rfl (by rfl) rfl rfl Tryz.call41 rfl (mx_must _ 2 _) ?_ ?_
      · skip
        rintro v8_1 w8_1 ⟨hm8, rfl, hy⟩
        replace hs := Z.w1 (hs.call hy); clear hy
        skip
        refine Z.g314 ?_
        refine Z.g162 ?_
        refine Z.g180 ?_
        refine Z.g162 ?_
        refine Z.g313 ?_
        exact Z.again (i + 1) Z.b20 ⟨⟨by omega, by rw [htk]; intro p hp; rcases List.mem_append.1 hp with h | h; exact hkn p h; (obtain rfl : p = _ := by simpa using h); exact hm8⟩, hs.tl⟩ Z.b9
      skip
      rintro c8_1 w8_1 ⟨hm8, rfl, hy⟩
      replace hs := Z.w1 (hs.call hy); clear hy
      have he := bu_arg (r := r) (n := n) (now := now) (m := m) (fun h => by have h1 := h.2.1 q.plain (by rw [← hr]; exact List.mem_map_of_mem (List.mem_of_getElem? hqi)); have h2 : (lvV m.b q.lc).2 = true := h1; rw [hm8] at h2; cases h2)
      replace hs := hs.tl
      repeat (first | refine Z.pthen ?_ | refine Z.pblock ?_ | refine Z.pscope ?_)
      refine Z.g20 ?_
      rintro vD wD ⟨rfl, hz⟩
      replace hs := hs.regain hz
      refine ⟨[_, _], Z.b26, ?_⟩
      exact ⟨_, rfl, hfail _ he _ (hs.sub (List.sublist_append_right _ _))⟩
    (try simp at hc5)
    refine Z.g11 ?_
    refine Z.g60 ?_
    obtain rfl : i = nn := by omega
    rw [List.take_of_length_le Z.b9] at hkn
    refine Z.g18 ?_
    refine Z.g258 ?_
    refine Z.only [0, 1, 2, 3, 8, 9, 10, 42] rfl ?_
    refine Z.g313 ?_
    refine Z.cutt (ι := Unit) [0, 1, 2, 3, 8, 9] rfl (fun _ => [(10, [], .int .i64 (buN r))]) (fun _ wr => vldP false r = true ∧ SX.St w M wr (SX.Ent.blk g9 31 #[.int .i64 0] :: SX.Ent.blk g8 48 #[.slice none 0 0] :: SX.Ent.blk g 55 #[.pointer (some ⟨gb, 0, none⟩), .slice C m.b.l.length kc, .pointer none, .int .i64 m.last] :: SX.Ent.blk gb 147 #[sv, so, .int .i64 m.b.now] :: SX.Ent.row sv 149 6 m.b.l.length (m.b.chs.flatMap chC) :: SX.Ent.row so 3 1 m.b.l.length (ints .i64 (natI (ordL m.b.l))) :: [])) ?_ ?_
    · skip
      refine Z.cond rfl (fun hc10 => ?_) (fun hc10 => ?_)
      · (try simp at hc10)
        refine Z.region ?_
        refine Z.g32 ?_
        refine Z.ZO.call rfl rfl (by rfl) rfl rfl Tryz.call66 rfl (mc_Need A i c ps _ (hx.st hs) hl Z.b9 hf) ?_
        rintro v11_1 w11_1 ⟨rfl, hy⟩
        replace hs := Z.w1 (hs.call hy); clear hy
        rw [hr]
        have hrn : r ≠ [] := fun h => by rw [h] at hrl; simp at hrl; omega
        refine Z.g63 ?_
        refine Z.ZO.callB rfl rfl (by rfl) rfl rfl Tryz.call65 rfl (mx_gotI _ _ _) ?_ ?_
        · skip
          rintro v11_4 w11_4 ⟨hE, rfl, hy⟩
          replace hs := Z.w1 (hs.call hy); clear hy
          have hno : okN r := by
            by_cases h : okN r
            · exact h
            rw [needV, if_neg h] at hE; cases hE
          have hbn : buN r = needP r := if_neg hrn
          have hnv : needV r = (needP r, 0) := if_pos hno
          rw [hnv]
          refine Z.g1 ?_
          refine Z.only [0, 1, 2, 3, 8, 9, 10] rfl ?_
          refine Z.g313 ?_
          exact Z.meet () (by refine ⟨?_, ?_, ?_, ?_, ?_, ?_, ?_, trivial⟩ <;> first | rfl | (rw [hbn] ; rfl)) ⟨hno.2, hs⟩
        skip
        rintro c11_4 w11_4 ⟨hE, rfl, hy⟩
        replace hs := Z.w1 (hs.call hy); clear hy
        have hno : ¬ okN r := fun h => hE (by rw [needV, if_pos h])
        have he : buildV m now n r = (m, [], (needV r).2) := by rw [needV, if_neg hno]; exact bu_arg (fun h => hno ⟨hrn, h.2.2⟩)
        repeat (first | refine Z.pthen ?_ | refine Z.pblock ?_ | refine Z.pscope ?_)
        refine Z.g20 ?_
        rintro vD wD ⟨rfl, hz⟩
        replace hs := hs.regain hz
        refine ⟨[_, _], Z.b26, ?_⟩
        exact ⟨_, rfl, hfail _ he _ (hs.sub (List.sublist_append_right _ _))⟩
      (try simp at hc10)
      refine Z.skip ?_
      refine Z.g313 ?_
      obtain rfl : i = 0 := by omega
      obtain rfl : r = [] := List.eq_nil_of_length_eq_zero hrl
      exact Z.meet () Z.b13 ⟨rfl, hs⟩
    clear hs
    rintro _ w10 ⟨hv, hs⟩
    refine Z.only [0, 1, 2, 3, 8, 9, 10] rfl ?_
    refine Z.g0 ?_
    refine Z.g221 ?_
    refine Z.g3 ?_
    refine Z.ZO.callB rfl rfl (by rfl) rfl rfl Tryz.call41 rfl (mx_must _ 4 _) ?_ ?_
    · skip
      rintro v12_3 w12_3 ⟨hm12, rfl, hy⟩
      replace hs := Z.w1 (hs.call hy); clear hy
      have hok : okBu m now n r := ⟨hrd, hkn, hv⟩
      have hle : buN r ≤ n := by simpa using hm12
      have hnn := buN_nn r
      have hn1 := hrd.1
      refine Z.g314 ?_
      refine Z.only [0, 1, 2, 3, 8, 9, 10] rfl ?_
      refine Z.g30 ?_
      refine Z.g1 ?_
      refine Z.g192 ?_
      refine Z.g314 ?_
      refine Z.only [0, 1, 2, 3, 8, 9, 10, 15, 56] rfl ?_
      refine Z.g313 ?_
      refine Z.cond rfl (fun h => absurd h Z.b17) (fun hc14 => ?_)
      refine Z.g151 ?_
      obtain ⟨qs, hq0⟩ : ∃ qs : List PtV, qs = [] := ⟨_, rfl⟩
      have hqs : qs.map PtV.plain = [] := by rw [hq0]; rfl
      have hbe : (buE m now n r).2.1 = [] ∧ (buE m now n r).1 = m.r := by unfold buE; rw [hup]; exact ⟨rfl, rfl⟩
      have hbl : (buE m now n r).2.1.length = qs.length := by rw [hbe.1, hq0]; rfl
      have hpl : (qs.map PtV.mp ++ ps).map MpV.plain = (buE m now n r).2.1 ++ r := by rw [List.map_append, hr, hbe.1, hq0]; rfl
      have hql : qs.length = 0 := by rw [hq0]; rfl
      refine Z.g18 ?_
      refine Z.g25 ?_
      refine Z.g64 ?_
      refine Z.g25 ?_
      refine Z.g5 ?_
      refine Z.g32 ?_
      refine Z.ZO.callB rfl rfl (by rfl) rfl rfl Tryz.call41 rfl (mx_must _ 10 _) ?_ ?_
      · skip
        rintro v16_6 w16_6 ⟨hm16, rfl, hy⟩
        replace hs := Z.w1 (hs.call hy); clear hy
        have hPn : (buE m now n r).2.1 ++ r ≠ [] := fun h => by
          have h7 := congrArg List.length h
          rw [List.length_append, hbl, List.length_nil] at h7
          simp at hm16
          omega
        refine Z.g314 ?_
        refine Z.g192 ?_
        refine Z.g314 ?_
        refine Z.only [0, 1, 2, 3, 8, 9, 10, 15, 81] rfl ?_
        refine Z.g313 ?_
        refine Z.cond rfl (fun h => absurd h Z.b17) (fun hc17 => ?_)
        refine Z.g151 ?_
        refine Z.g186 ?_
        refine Z.g72 ?_
        refine Z.g156 ?_
        clear hs; intro ws hs
        replace hs := Z.w0 hs
        refine Z.g314 ?_
        refine Z.only [2, 3, 8, 9, 15] rfl ?_
        refine Z.g92 ?_
        refine Z.g25 ?_
        refine Z.g64 ?_
        refine Z.g25 ?_
        refine Z.l rfl rfl (by rfl) (Z.keepS hs) (Z.Yd.cut3 0 0 0 rfl rfl rfl rfl Tryz.underlying47 Tryz.sizeOf77 (fun hG => ⟨Z.b3, Z.b3, Z.b3, Z.b3, Z.b3⟩)) ?_
        refine Z.g64 ?_
        rw [slA_zero]
        refine Z.g3 ?_
        refine Z.ZO.appendC (i0 := Tryz.t77) (size := 2) (bytes := 32) (olds := qs.flatMap PtV.cells) (news := ps.flatMap MpV.cells) rfl rfl (by rfl) hs Tryz.underlying47 Z.b4 rfl rfl rfl rfl Z.b12 rfl rfl (fun _ => rfl) (by rw [hq0]; rfl) (by rw [hq0]; exact sl_nil) (by rw [fl_len mp_len, hl]) (hx.st hs) (flat_one mp_one ps) Z.b23 Z.b9 ?_
        intro Bz cz w8 hs8 _ hSl
        clear hs
        have hs := hs8
        refine Z.g3 ?_
        refine Z.ZO.call rfl rfl (by rfl) rfl rfl Tryz.call68 rfl (mc_Build n Bz _ cz (qs.map PtV.mp ++ ps) _ (by rw [List.flatMap_append, pt_mp]; exact hSl) Z.b41 Z.b9 (comb (P := fun q ↦ q.l.length ≤ 100000) (fun q hq ↦ by rw [hq0] at hq; cases hq) hf) (comb (P := fun q ↦ Sl _ q.B (ints .u8 q.l)) (fun q hq ↦ by rw [hq0] at hq; cases hq) (fun q hq ↦ (hB q hq).st hs)) (comb (P := fun q ↦ ∀ y ∈ q.l, 0 ≤ y ∧ y < 256) (fun q hq ↦ by rw [hq0] at hq; cases hq) hby)) ?_
        rintro v20_9 w20_9 ⟨svb, rfl, hy⟩
        replace hs := Z.w1 (hs.call hy); clear hy
        have hz0 := bu_fits hm hok hle hPn
        rw [hpl, hz0]
        rw [hpl] at hs
        obtain ⟨Bb, cb, rfl, -, -, -⟩ := SX.row_slv hs (j := 0) rfl
        refine Z.g63 ?_
        refine Z.ZO.call rfl rfl (by rfl) rfl rfl Tryz.call67 rfl (got_ok (mx_gotBy _ 0 _) rfl) ?_
        rintro v20_12 w20_12 ⟨rfl, hy⟩
        replace hs := Z.w1 (hs.call hy); clear hy
        refine Z.g3 ?_
        refine Z.g84 ?_
        clear hs; intro ws hs
        replace hs := Z.w0 hs
        refine Z.g237 ?_
        clear hs; intro ws hs
        replace hs := Z.w0 hs
        refine Z.g314 ?_
        refine Z.only [8, 9] rfl ?_
        refine Z.g6 ?_
        refine Z.outDr Tryz.call26 (mx_caught_ret g9 _ _ _) ?_
        rintro vD wD ⟨rfl, hy⟩
        replace hs := hs.call hy
        refine ⟨[_, _], Z.b26, ?_⟩
        refine ⟨_, rfl, .slice Bb (bldV n ((buE m now n r).2.1 ++ r)).1.length cb, ?_⟩
        rw [bu_main hok hle hPn]
        exact ⟨rfl, by simpa [maE, bkE, rvP, rpE, hup, hbe.2] using hs.sel [0, 3, 4, 5, 6] Z.b12⟩
      skip
      rintro c16_6 w16_6 ⟨hm16, rfl, hy⟩
      replace hs := Z.w1 (hs.call hy); clear hy
      have he := bu_none hok hle (by
        have h7 : ((buE m now n r).2.1 ++ r).length = 0 := by rw [List.length_append, hbl]; simp at hm16; omega
        exact List.eq_nil_of_length_eq_zero h7)
      skip
      repeat (first | refine Z.pthen ?_ | refine Z.pblock ?_ | refine Z.pscope ?_)
      refine Z.g20 ?_
      rintro vD wD ⟨rfl, hz⟩
      replace hs := hs.regain hz
      refine ⟨[_, _], Z.b26, ?_⟩
      exact ⟨_, rfl, hfail _ he _ (hs.sub (List.sublist_append_right _ _))⟩
    skip
    rintro c12_3 w12_3 ⟨hm12, rfl, hy⟩
    replace hs := Z.w1 (hs.call hy); clear hy
    have hok : okBu m now n r := ⟨hrd, hkn, hv⟩
    have he := bu_long hok (by simpa using hm12)
    repeat (first | refine Z.pthen ?_ | refine Z.pblock ?_ | refine Z.pscope ?_)
    refine Z.g20 ?_
    rintro vD wD ⟨rfl, hz⟩
    replace hs := hs.regain hz
    refine ⟨[_, _], Z.b26, ?_⟩
    exact ⟨_, rfl, hfail _ he _ (hs.sub (List.sublist_append_right _ _))⟩
  skip
  rintro c2_3 w2_3 ⟨hrd, rfl, hy⟩
  replace hs := Z.w1 (hs.call hy); clear hy
  have he := bu_arg (r := r) (n := n) (now := now) (m := m) (fun h => hrd h.1)
  repeat (first | refine Z.pthen ?_ | refine Z.pblock ?_ | refine Z.pscope ?_)
  refine Z.g20 ?_
  rintro vD wD ⟨rfl, hz⟩
  replace hs := hs.regain hz
  refine ⟨[_, _], Z.b26, ?_⟩
  exact ⟨_, rfl, hfail _ he _ (hs.sub (List.sublist_append_right _ _))⟩
end Go.Proofs.YtbojkoiopkaciaaGreat

/- The MAC entity: the contents of a block. -/
namespace Go.Proofs.YtbojkoiopkaciaaGreat
open Go.RowKit
set_option linter.unusedSimpArgs false
set_option linter.unusedVariables false
--newlaws

def EnX (w : World) (M : List Nat) (g gb : Nat) (m : MaV) : Prop := ∃ ch rv lv A c B d, Sx w M (some ⟨g, 0, none⟩) [.pointer (some ⟨gb, 0, none⟩), ch, rv, lv] ∧ Sx w M (some ⟨gb, 0, none⟩) [.slice A m.b.l.length c, .slice B m.b.l.length d, .int .i64 m.b.now] ∧ Sx w M A (m.b.chs.flatMap chC) ∧ Sx w M B (ints .i64 (natI (ordL m.b.l)))
theorem cel_sl {w : World} {g : Nat} {cs : List Value} (h : Sl w (some ⟨g, 0, none⟩) cs) (hp : 0 < cs.length) : Cel w g cs := by
  obtain ⟨b, off, e, hb, hc⟩ := h hp
  simp only [Option.some.injEq, Addr.mk.injEq, and_true] at e
  obtain ⟨rfl, rfl⟩ := e
  exact ⟨hb, fun i u hu => by have := hc i u hu; rwa [Nat.zero_add] at this⟩
theorem EnX.bk {w W : World} {M : List Nat} {L : List SX.Ent} {g gb : Nat} {m : MaV} (h : EnX w M g gb m) (hW : SX.St w M W L) : BkR W gb m.b := by
  obtain ⟨ch, rv, lv, A, c, B, d, h1, h2, h3, h4⟩ := h
  exact ⟨A, c, B, d, cel_sl (h2.st hW) Z.b17, h3.st hW, h4.st hW⟩
theorem EnX.cel {w W : World} {M : List Nat} {L : List SX.Ent} {g gb : Nat} {m : MaV} (h : EnX w M g gb m) (hW : SX.St w M W L) : ∃ ch rv lv, Cel W g [.pointer (some ⟨gb, 0, none⟩), ch, rv, lv] := by
  obtain ⟨ch, rv, lv, A, c, B, d, h1, h2, h3, h4⟩ := h
  exact ⟨ch, rv, lv, cel_sl (h1.st hW) Z.b17⟩
theorem EnX.lent {w W : World} {M : List Nat} {L1 L2 : List SX.Ent} {g gb : Nat} {m : MaV} (h : EnX w M g gb m) (hW : SX.St w M W (L1 ++ L2)) : EnX W (SX.idsOf L1) g gb m := by
  obtain ⟨ch, rv, lv, A, c, B, d, h1, h2, h3, h4⟩ := h
  exact ⟨ch, rv, lv, A, c, B, d, h1.lent hW, h2.lent hW, h3.lent hW, h4.lent hW⟩
def ctE (gc g : Nat) (s0 s1 s2 s3 : Value) (xs : List MpV) (x : CtV) : List SX.Ent := [SX.Ent.blk gc 117 #[.pointer (some ⟨g, 0, none⟩), s0, s1, s2, s3], SX.Ent.row s0 77 2 xs.length (xs.flatMap MpV.cells), SX.Ent.row s1 86 6 x.rp.length (x.rp.flatMap RepV.cells), SX.Ent.row s2 3 1 x.pw.length (ints .i64 x.pw), SX.Ent.row s3 123 1 x.id.length (ints .u64 x.id)]
set_option maxHeartbeats 1000000 in
set_option maxRecDepth 100000 in
theorem mx_power (gc g : Nat) (s0 s1 s2 s3 : Value) (xs : List MpV) (x : CtV) (q : MpV) (w : World) (hs : SX.St w (SX.idsOf (ctE gc g s0 s1 s2 s3 xs x)) w (ctE gc g s0 s1 s2 s3 xs x)) (hq : Sx w (SX.idsOf (ctE gc g s0 s1 s2 s3 xs x)) q.B (ints .u8 q.l)) (hqb : Byts q.l) (hql : q.l.length ≤ 1000000) (hxl : x.pw.length ≤ 100000) :
    Calls Tryz.prog 51 #[.pointer (some ⟨gc, 0, none⟩), .agg q.cells.toArray] w (Z.Bo (fun v w' => powE q.lc q.l = 0 ∧ v = .tuple #[] ∧ ∃ s', SX.St w (SX.idsOf (ctE gc g s0 s1 s2 s3 xs x)) w' (ctE gc g s0 s1 s' s3 xs { x with pw := x.pw ++ [powV q.lc q.l] })) fun c w' => powE q.lc q.l ≠ 0 ∧ c = mperr (powE q.lc q.l) ∧ SX.St w (SX.idsOf (ctE gc g s0 s1 s2 s3 xs x)) w' (ctE gc g s0 s1 s2 s3 xs x)) := by
  generalize hM : SX.idsOf (ctE gc g s0 s1 s2 s3 xs x) = M at *
  unfold ctE at hs
  obtain ⟨A3, c3, rfl, -, -, -⟩ := SX.row_slv hs (j := 3) rfl
  have hone := mp_one q
  refine Z.enter Tryz.func51 rfl Tryz.ntmps51 rfl rfl ?_
  refine Z.g90 ?_
  clear hs; intro g3 w3 hs
  refine Z.g314 ?_
  refine Z.only [0, 3] rfl ?_
  refine Z.g313 ?_
  refine Z.drawP [SX.Ent.blk g3 77 q.cells.toArray, SX.Ent.blk gc 117 #[.pointer (some ⟨g, 0, none⟩), s0, s1, .slice A3 x.pw.length c3, s3]] (fun j => j != 16) mixed hs ?_
  clear hs; intro wd1 hs
  refine Z.g42 ?_
  refine Z.tXP 4 [4, 5, 12, 13, 14, 15, 16] (fun _ _ _ _ _ h => h) rfl rfl rfl (by rfl) Z.b4 ⟨_, hs, Z.b2⟩ (Z.Yd.fieldA (m := 2) rfl Z.b4) ?_
  refine Z.tXP 5 [5, 12, 13, 14, 15, 16] (fun _ _ _ _ _ h => h) rfl rfl rfl (by rfl) Z.b4 ⟨_, hs, Z.b2⟩ Z.b29 ?_
  refine Z.g89 ?_
  refine Z.ZO.call rfl rfl (by rfl) rfl rfl Tryz.call102 rfl (decpow_any q.lc q.B _ q.c q.l _ (hq.st hs).sx rfl hql hqb) ?_
  rintro v1_7 w1_7 ⟨rfl, hy⟩
  replace hs := Z.w1 (hs.call hy); clear hy
  refine Z.g56 ?_
  refine Z.ZO.callB rfl rfl (by rfl) rfl rfl Tryz.call65 rfl (mx_gotI _ _ _) ?_ ?_
  · skip
    rintro v1_10 w1_10 ⟨hE, rfl, hy⟩
    replace hs := Z.w1 (hs.call hy); clear hy
    skip
    refine Z.g195 ?_
    refine Z.g58 ?_
    clear hs; intro g15 w15 hs
    refine Z.g196 ?_
    refine Z.g38 ?_
    clear hs; intro g16 cap16 w16 hs
    simp only [List.set_cons_zero, List.set_cons_succ, List.eraseIdx_cons_zero, List.eraseIdx_cons_succ] at hs
    refine Z.g46 ?_
    refine Z.tXP 15 [15, 16] (fun _ _ _ _ _ h => h) rfl rfl rfl (by rfl) Z.b4 ⟨_, hs, Z.b2⟩ (Z.Yd.fieldA (m := 2) rfl Z.b4) ?_
    refine Z.tnP 16 rfl rfl Z.b4 rfl trivial ?_
    refine Z.g109 ?_
    clear hs; intro ws hs
    replace hs := Z.w0 hs
    refine Z.g189 ?_
    refine Z.g128 ?_
    exact .inl ⟨_, rfl, hE, rfl, _, by simpa [ctE, ints, RepV.cells] using hs.tl⟩
  skip
  rintro c1_10 w1_10 ⟨hE, rfl, hy⟩
  replace hs := Z.w1 (hs.call hy); clear hy
  skip
  refine Z.outp ?_
  exact .inr ⟨_, rfl, hE, rfl, hs.tl⟩
set_option maxHeartbeats 1000000 in
set_option maxRecDepth 100000 in
theorem mx_ident (gc g : Nat) (s0 s1 s2 s3 : Value) (xs : List MpV) (x : CtV) (q : MpV) (w : World) (hs : SX.St w (SX.idsOf (ctE gc g s0 s1 s2 s3 xs x)) w (ctE gc g s0 s1 s2 s3 xs x)) (hq : Sx w (SX.idsOf (ctE gc g s0 s1 s2 s3 xs x)) q.B (ints .u8 q.l)) (hqb : Byts q.l) (hql : q.l.length ≤ 1000000) (hxl : x.id.length ≤ 100000) :
    Calls Tryz.prog 52 #[.pointer (some ⟨gc, 0, none⟩), .agg q.cells.toArray] w (Z.Bo (fun v w' => idE q.lc q.l = 0 ∧ v = .tuple #[] ∧ ∃ s', SX.St w (SX.idsOf (ctE gc g s0 s1 s2 s3 xs x)) w' (ctE gc g s0 s1 s2 s' xs { x with id := x.id ++ [idV q.lc q.l] })) fun c w' => idE q.lc q.l ≠ 0 ∧ c = mperr (idE q.lc q.l) ∧ SX.St w (SX.idsOf (ctE gc g s0 s1 s2 s3 xs x)) w' (ctE gc g s0 s1 s2 s3 xs x)) := by
  generalize hM : SX.idsOf (ctE gc g s0 s1 s2 s3 xs x) = M at *
  unfold ctE at hs
  obtain ⟨A4, c4, rfl, -, -, -⟩ := SX.row_slv hs (j := 4) rfl
  have hone := mp_one q
  refine Z.enter Tryz.func52 rfl Tryz.ntmps52 rfl rfl ?_
  refine Z.g90 ?_
  clear hs; intro g3 w3 hs
  refine Z.g314 ?_
  refine Z.only [0, 3] rfl ?_
  refine Z.g313 ?_
  refine Z.drawP [SX.Ent.blk g3 77 q.cells.toArray, SX.Ent.blk gc 117 #[.pointer (some ⟨g, 0, none⟩), s0, s1, s2, .slice A4 x.id.length c4]] (fun j => j != 16) mixed hs ?_
  clear hs; intro wd1 hs
  refine Z.g42 ?_
  refine Z.tXP 4 [4, 5, 12, 13, 14, 15, 16] (fun _ _ _ _ _ h => h) rfl rfl rfl (by rfl) Z.b4 ⟨_, hs, Z.b2⟩ (Z.Yd.fieldA (m := 3) rfl Z.b4) ?_
  refine Z.tXP 5 [5, 12, 13, 14, 15, 16] (fun _ _ _ _ _ h => h) rfl rfl rfl (by rfl) Z.b4 ⟨_, hs, Z.b2⟩ Z.b53 ?_
  refine Z.g89 ?_
  refine Z.ZO.call rfl rfl (by rfl) rfl rfl Tryz.call104 rfl (decid_any q.lc q.B _ q.c q.l _ (hq.st hs).sx rfl Z.b9 hqb) ?_
  rintro v1_7 w1_7 ⟨rfl, hy⟩
  replace hs := Z.w1 (hs.call hy); clear hy
  refine Z.g56 ?_
  refine Z.ZO.callB rfl rfl (by rfl) rfl rfl Tryz.call103 rfl (mx_gotU _ _ _) ?_ ?_
  · skip
    rintro v1_10 w1_10 ⟨hE, rfl, hy⟩
    replace hs := Z.w1 (hs.call hy); clear hy
    skip
    refine Z.g195 ?_
    refine Z.ZO.litL (T' := 123) [(0, 1)] [.int .u64 0] rfl rfl (by rfl) rfl rfl Z.b19 hs ?_
    clear hs; intro g15 w15 hs
    refine Z.g196 ?_
    refine Z.ZO.append (i0 := Tryz.t123) (size := 1) (bytes := 8) rfl rfl (by rfl) hs Tryz.underlying59 Z.b4 rfl rfl rfl rfl Z.b12 rfl rfl Z.b1 Z.b1 Z.b24 Z.b45 Z.b12 Z.b23 Z.b9 ?_
    clear hs; intro g16 cap16 w16 hs
    simp only [List.set_cons_zero, List.set_cons_succ, List.eraseIdx_cons_zero, List.eraseIdx_cons_succ] at hs
    refine Z.g46 ?_
    refine Z.tXP 15 [15, 16] (fun _ _ _ _ _ h => h) rfl rfl rfl (by rfl) Z.b4 ⟨_, hs, Z.b2⟩ (Z.Yd.fieldA (m := 3) rfl Z.b4) ?_
    refine Z.tnP 16 rfl rfl Z.b4 rfl trivial ?_
    refine Z.ZO.store rfl rfl hs Tryz.sizeOf59 rfl rfl rfl Z.b1 Z.b8 ?_
    clear hs; intro ws hs
    replace hs := Z.w0 hs
    refine Z.g189 ?_
    refine Z.g128 ?_
    exact .inl ⟨_, rfl, hE, rfl, _, by simpa [ctE, ints, RepV.cells] using hs.tl⟩
  skip
  rintro c1_10 w1_10 ⟨hE, rfl, hy⟩
  replace hs := Z.w1 (hs.call hy); clear hy
  skip
  refine Z.outp ?_
  exact .inr ⟨_, rfl, hE, rfl, hs.tl⟩
set_option maxHeartbeats 1000000 in
set_option maxRecDepth 100000 in
theorem mx_status (gc g : Nat) (s0 s1 s2 s3 : Value) (xs : List MpV) (x : CtV) (q : MpV) (w : World) (hs : SX.St w (SX.idsOf (ctE gc g s0 s1 s2 s3 xs x)) w (ctE gc g s0 s1 s2 s3 xs x)) (hq : Sx w (SX.idsOf (ctE gc g s0 s1 s2 s3 xs x)) q.B (ints .u8 q.l)) (hqb : Byts q.l) (hql : q.l.length ≤ 1000000) (hxl : x.rp.length ≤ 100000) :
    Calls Tryz.prog 53 #[.pointer (some ⟨gc, 0, none⟩), .agg q.cells.toArray] w (Z.Bo (fun v w' => repE q.lc q.l = 0 ∧ v = .tuple #[] ∧ ∃ s', SX.St w (SX.idsOf (ctE gc g s0 s1 s2 s3 xs x)) w' (ctE gc g s0 s' s2 s3 xs { x with rp := x.rp ++ [repV q.lc q.l] })) fun c w' => repE q.lc q.l ≠ 0 ∧ c = mperr (repE q.lc q.l) ∧ SX.St w (SX.idsOf (ctE gc g s0 s1 s2 s3 xs x)) w' (ctE gc g s0 s1 s2 s3 xs x)) := by
  generalize hM : SX.idsOf (ctE gc g s0 s1 s2 s3 xs x) = M at *
  unfold ctE at hs
  obtain ⟨A2, c2, rfl, -, -, -⟩ := SX.row_slv hs (j := 2) rfl
  have hone := mp_one q
  refine Z.enter Tryz.func53 rfl Tryz.ntmps53 rfl rfl ?_
  refine Z.g90 ?_
  clear hs; intro g3 w3 hs
  refine Z.g314 ?_
  refine Z.only [0, 3] rfl ?_
  refine Z.g313 ?_
  refine Z.drawP [SX.Ent.blk g3 77 q.cells.toArray, SX.Ent.blk gc 117 #[.pointer (some ⟨g, 0, none⟩), s0, .slice A2 x.rp.length c2, s2, s3]] (fun j => j != 16) mixed hs ?_
  clear hs; intro wd1 hs
  refine Z.g42 ?_
  refine Z.tXP 4 [4, 5, 12, 13, 14, 15, 16] (fun _ _ _ _ _ h => h) rfl rfl rfl (by rfl) Z.b4 ⟨_, hs, Z.b2⟩ (Z.Yd.fieldA (m := 1) rfl Z.b4) ?_
  refine Z.tXP 5 [5, 12, 13, 14, 15, 16] (fun _ _ _ _ _ h => h) rfl rfl rfl (by rfl) Z.b4 ⟨_, hs, Z.b2⟩ Z.b49 ?_
  refine Z.g89 ?_
  refine Z.ZO.call rfl rfl (by rfl) rfl rfl Tryz.call106 rfl (decrep_any q.lc q.B _ q.c q.l _ (hq.st hs).sx rfl hql hqb) ?_
  rintro v1_7 w1_7 ⟨rfl, hy⟩
  replace hs := Z.w1 (hs.call hy); clear hy
  refine Z.g56 ?_
  refine Z.ZO.callB rfl rfl (by rfl) rfl rfl Tryz.call105 rfl (mx_gotBr _ _ _) ?_ ?_
  · skip
    rintro v1_10 w1_10 ⟨hE, rfl, hy⟩
    replace hs := Z.w1 (hs.call hy); clear hy
    skip
    refine Z.g195 ?_
    refine Z.ZO.litL (T' := 86) [(0, 6)] [.bool false, .int .i64 0, .int .i64 0, .int .i64 0, .int .i64 0, .int .i64 0] rfl rfl (by rfl) rfl rfl Z.b19 hs ?_
    clear hs; intro g15 w15 hs
    refine Z.g196 ?_
    refine Z.ZO.append (i0 := Tryz.t86) (size := 6) (bytes := 48) rfl rfl (by rfl) hs Tryz.underlying58 Z.b4 rfl rfl rfl rfl Z.b12 rfl rfl Z.b1 Z.b1 Z.b24 Z.b45 Z.b12 Z.b23 Z.b9 ?_
    clear hs; intro g16 cap16 w16 hs
    simp only [List.set_cons_zero, List.set_cons_succ, List.eraseIdx_cons_zero, List.eraseIdx_cons_succ] at hs
    refine Z.g46 ?_
    refine Z.tXP 15 [15, 16] (fun _ _ _ _ _ h => h) rfl rfl rfl (by rfl) Z.b4 ⟨_, hs, Z.b2⟩ (Z.Yd.fieldA (m := 1) rfl Z.b4) ?_
    refine Z.tnP 16 rfl rfl Z.b4 rfl trivial ?_
    refine Z.ZO.store rfl rfl hs Tryz.sizeOf58 rfl rfl rfl Z.b1 Z.b8 ?_
    clear hs; intro ws hs
    replace hs := Z.w0 hs
    refine Z.g189 ?_
    refine Z.g128 ?_
    exact .inl ⟨_, rfl, hE, rfl, _, by simpa [ctE, ints, RepV.cells] using hs.tl⟩
  skip
  rintro c1_10 w1_10 ⟨hE, rfl, hy⟩
  replace hs := Z.w1 (hs.call hy); clear hy
  skip
  refine Z.outp ?_
  exact .inr ⟨_, rfl, hE, rfl, hs.tl⟩
set_option maxHeartbeats 1000000 in
set_option maxRecDepth 100000 in
theorem mx_sdu (gc g gb : Nat) (s0 s1 s2 s3 : Value) (m : MaV) (xs : List MpV) (x : CtV) (q : MpV) (w : World) (hs : SX.St w (SX.idsOf (ctE gc g s0 s1 s2 s3 xs x)) w (ctE gc g s0 s1 s2 s3 xs x)) (hE : EnX w (SX.idsOf (ctE gc g s0 s1 s2 s3 xs x)) g gb m) (hm : m.ok) (hxl : xs.length ≤ 100000) :
    Calls Tryz.prog 55 #[.pointer (some ⟨gc, 0, none⟩), .agg q.cells.toArray] w (SX.Ret fun v w' => v = .tuple #[] ∧ ∃ s', SX.St w (SX.idsOf (ctE gc g s0 s1 s2 s3 xs x)) w' (ctE gc g s' s1 s2 s3 (if knowB m q.lc then xs ++ [q] else xs) x)) := by
  generalize hM : SX.idsOf (ctE gc g s0 s1 s2 s3 xs x) = M at *
  have hE2 := hE
  obtain ⟨ch, rv, lv, A, c, B, d, h1, h2, h3, h4⟩ := hE2
  unfold ctE at hs
  obtain ⟨A1, c1, rfl, -, -, -⟩ := SX.row_slv hs (j := 1) rfl
  have hone := mp_one q
  refine Z.enter Tryz.func55 rfl Tryz.ntmps55 rfl rfl ?_
  refine Z.g90 ?_
  clear hs; intro g3 w3 hs
  refine Z.g314 ?_
  refine Z.only [0, 3] rfl ?_
  refine Z.g150 ?_
  refine Z.drawL [SX.Ent.blk g3 77 q.cells.toArray, SX.Ent.blk gc 117 #[.pointer (some ⟨g, 0, none⟩), .slice A1 xs.length c1, s1, s2, s3]] (fun _ => true) mixed hs ?_
  clear hs; intro wd1 hs
  refine Z.g50 ?_
  refine Z.t 3 rfl rfl rfl (by rfl) Z.b4 ⟨_, hs, Z.b2⟩ Z.b71 ?_
  refine Z.t 4 rfl rfl rfl (by rfl) Z.b4 ⟨_, hs, Z.b2⟩ (Z.Yd.nilc rfl rfl) ?_
  refine Z.t 5 rfl rfl rfl (by rfl) Z.b4 ⟨_, hs, Z.b2⟩ (Z.Yd.fieldA (m := 0) rfl Z.b4) ?_
  refine Z.t 6 rfl rfl rfl (by rfl) Z.b4 ⟨_, hs, Z.b2⟩ (Z.Yd.load rfl Tryz.isAgg52 (fun _ => Z.cellX (i := 0) h1 rfl)) ?_
  refine Z.t 7 rfl rfl rfl (by rfl) Z.b4 ⟨_, hs, Z.b2⟩ (Z.Yd.fieldA (m := 0) rfl Z.b4) ?_
  refine Z.t 8 rfl rfl rfl (by rfl) Z.b4 ⟨_, hs, Z.b2⟩ (Z.Yd.load rfl Tryz.isAgg3 (fun _ => Z.cellB (cs := q.cells.toArray) Z.b0 rfl)) ?_
  refine Z.tn 9 rfl rfl Z.b4 rfl trivial ?_
  refine Z.ZO.call rfl rfl (by rfl) rfl rfl Tryz.call64 rfl (bk_level gb m.b q.lc _ (hE.bk hs) hm.b) ?_
  rintro v1_9 w1_9 ⟨rfl, hy⟩
  replace hs := Z.w1 (hs.call hy); clear hy
  refine Z.tk (Dn := fun _ => true) (i := 9) (fun _ => ⟨_, hs, Z.b2⟩) ?_
  refine Z.tb [10, 11, 12, 13, 14] Z.b4 rfl ⟨_, hs, Z.b2⟩ rfl ?_
  refine Z.g68 ?_
  refine Z.only [0, 3, 5] rfl ?_
  refine Z.g30 ?_
  refine Z.g1 ?_
  refine Z.only [0, 3, 19] rfl ?_
  refine Z.g313 ?_
  refine Z.cond rfl (fun hc2 => ?_) (fun hc2 => ?_)
  · (try simp at hc2)
    refine Z.drawL [SX.Ent.blk g3 77 q.cells.toArray, SX.Ent.blk gc 117 #[.pointer (some ⟨g, 0, none⟩), .slice A1 xs.length c1, s1, s2, s3]] (fun j => j != 12) mixed hs ?_
    clear hs; intro wd3 hs
    refine Z.tb [0, 1] Z.b4 rfl ⟨_, hs, Z.b2⟩ rfl ?_
    refine Z.t 2 rfl rfl rfl (by rfl) Z.b4 ⟨_, hs, Z.b2⟩ (Z.Yd.nilc rfl rfl) ?_
    refine Z.t 3 rfl rfl rfl (by rfl) Z.b4 ⟨_, hs, Z.b2⟩ (Z.Yd.fieldA (m := 1) rfl Z.b4) ?_
    refine Z.g112 ?_
    refine Z.t 5 rfl rfl rfl (by rfl) Z.b4 ⟨_, hs, Z.b2⟩ Z.b39 ?_
    refine Z.t 6 rfl rfl rfl (by rfl) Z.b4 ⟨_, hs, Z.b2⟩ (Z.Yd.loadA _ rfl Tryz.isAgg77 (fun _ => Z.cellsB (cs := q.cells) Z.b0) Z.b18) ?_
    refine Z.tn 7 rfl rfl Z.b4 rfl trivial ?_
    refine Z.g69 ?_
    clear hs; intro g27 w27 hs
    refine Z.tk (Dn := fun j => j != 12) (i := 7) (fun _ => ⟨_, hs, Z.b2⟩) ?_
    refine Z.tn 8 rfl rfl Z.b4 rfl trivial ?_
    refine Z.g88 ?_
    clear hs; intro g28 cap28 w28 hs
    simp only [List.set_cons_zero, List.set_cons_succ, List.eraseIdx_cons_zero, List.eraseIdx_cons_succ] at hs
    refine Z.tk (Dn := fun j => j != 12) (i := 8) (fun _ => ⟨_, hs, Z.b2⟩) ?_
    refine Z.tn 9 rfl rfl Z.b4 rfl trivial ?_
    refine Z.g80 ?_
    refine Z.tk (Dn := fun j => j != 12) (i := 9) (fun _ => ⟨_, hs, Z.b2⟩) ?_
    refine Z.tn 10 rfl rfl Z.b4 rfl trivial ?_
    refine Z.ZO.quiet rfl (by rfl) (Z.keepS hs) (Z.Yd.fieldA (m := 1) rfl Z.b4) ?_
    refine Z.tk (Dn := fun j => j != 12) (i := 10) (fun _ => ⟨_, hs, Z.b2⟩) ?_
    refine Z.t 11 rfl rfl rfl (by rfl) Z.b4 ⟨_, hs, Z.b2⟩ (Z.Yd.fieldA (m := 0) rfl Z.b4) ?_
    refine Z.tn 12 rfl rfl Z.b4 rfl trivial ?_
    refine Z.g116 ?_
    clear hs; intro ws hs
    replace hs := Z.w0 hs
    refine Z.tk (Dn := fun j => j != 12) (i := 12) (fun h => absurd h Z.b12) ?_
    refine Z.g68 ?_
    refine Z.only [] rfl ?_
    refine Z.g128 ?_
    exact ⟨_, rfl, rfl, _, by simpa [ctE, knowB, hc2, MpV.cells] using hs.tl⟩
  (try simp at hc2)
  refine Z.skip ?_
  refine Z.g128 ?_
  exact ⟨_, rfl, rfl, _, by simpa [ctE, knowB, hc2, MpV.cells] using hs.tl⟩
end Go.Proofs.YtbojkoiopkaciaaGreat

/- The MAC entity: Receive. -/
namespace Go.Proofs.YtbojkoiopkaciaaGreat
open Go.RowKit
set_option linter.unusedSimpArgs false
set_option linter.unusedVariables false
--newlaws

theorem hGo_cnt {l : List Int} : ∀ (F p : Nat) (acc : List (Int × Int)) (d pt : Bool), (hGo l F p acc d pt).2.1.length ≤ acc.length + F
  | 0, _, _, _, _ => by simp [hGo]
  | F + 1, p, acc, d, pt => by
    rw [hGo]
    split
    · simp
    split
    · simp
    split
    · split
      · split
        · simp
        refine Nat.le_trans (hGo_cnt F _ _ _ _) ?_
        simp; omega
      refine Nat.le_trans (hGo_cnt F _ _ _ _) ?_
      simp; omega
    simp
theorem ptGo_cnt {l : List Int} : ∀ (hs : List (Int × Int)) (p : Nat) (acc : List Prt), (ptGo l hs p acc).2.length ≤ acc.length + hs.length
  | [], p, acc => by
    unfold ptGo
    split <;> simp
  | z :: hs, p, acc => by
    rw [ptGo]
    split
    · refine Nat.le_trans (ptGo_cnt hs _ _) ?_
      simp
    split
    · simp
    split
    · simp
    refine Nat.le_trans (ptGo_cnt hs _ _) ?_
    simp; omega
theorem par_cnt (l : List Int) : (parV l).2.length ≤ 16385 := by
  unfold parV
  split
  · simp
  split
  · simp
  have h1 := ptGo_cnt (l := l) (hdV l).2.1 (hdV l).2.2 []
  have h2 := hGo_cnt (l := l) (l.length + 1) 0 [] false false
  unfold hdV at h1 ⊢
  simp only [List.length_nil] at h1 h2
  omega
theorem ptGo_mem {l : List Int} : ∀ (hs : List (Int × Int)) (p : Nat) (acc : List Prt), (∀ x ∈ acc, ∀ y ∈ x.2, y ∈ l) → ∀ x ∈ (ptGo l hs p acc).2, ∀ y ∈ x.2, y ∈ l
  | [], p, acc, h => by
    unfold ptGo
    split
    · intro x hx; cases hx
    exact h
  | z :: hs, p, acc, h => by
    rw [ptGo]
    split
    · exact ptGo_mem hs p acc h
    split
    · intro x hx; cases hx
    split
    · intro x hx; cases hx
    refine ptGo_mem hs _ _ ?_
    intro x hx
    rcases List.mem_append.1 hx with h1 | h1
    · exact h x h1
    obtain rfl : x = _ := by simpa using h1
    intro y hy
    exact List.mem_of_mem_drop (List.mem_of_mem_take hy)
theorem par_mem (l : List Int) : ∀ x ∈ (parV l).2, ∀ y ∈ x.2, y ∈ l := by
  unfold parV
  split
  · intro x hx; cases hx
  split
  · intro x hx; cases hx
  exact ptGo_mem _ _ _ Z.b17
def fnK (x : Int) : Nat := if x = 26 then 51 else if x = 27 ∨ x = 28 then 52 else 53
theorem fnK_call (x : Int) : ∀ args w, (callFunc (fnK x) args).run Tryz.prog w = .ok (.enter (fnK x) args) w := by
  unfold fnK
  split
  · exact Tryz.call51
  split
  · exact Tryz.call52
  exact Tryz.call53
def mapL (gc : Nat) : List (Int × Value) := [(26, .func (.func (fnK 26)) #[.pointer (some ⟨gc, 0, none⟩)] #[]), (27, .func (.func (fnK 27)) #[.pointer (some ⟨gc, 0, none⟩)] #[]), (28, .func (.func (fnK 28)) #[.pointer (some ⟨gc, 0, none⟩)] #[]), (29, .func (.func (fnK 29)) #[.pointer (some ⟨gc, 0, none⟩)] #[]), (30, .func (.func (fnK 30)) #[.pointer (some ⟨gc, 0, none⟩)] #[])]
theorem map_mlk (gc : Nat) (x : Int) : (ctlN x ≠ 0 → mlk (mapL gc) x = some (.func (.func (fnK x)) #[.pointer (some ⟨gc, 0, none⟩)] #[])) ∧ (ctlN x = 0 → mlk (mapL gc) x = none) := by
  unfold mlk mapL ctlN
  by_cases h1 : x = 26
  · subst h1; exact ⟨fun _ => rfl, by simp⟩
  by_cases h2 : x = 27
  · subst h2; exact ⟨fun _ => rfl, by simp⟩
  by_cases h3 : x = 28
  · subst h3; exact ⟨fun _ => rfl, by simp⟩
  by_cases h4 : x = 29
  · subst h4; exact ⟨fun _ => rfl, by simp⟩
  by_cases h5 : x = 30
  · subst h5; exact ⟨fun _ => rfl, by simp⟩
  have e1 : ((26 : Int) == x) = false := by simp; omega
  have e2 : ((27 : Int) == x) = false := by simp; omega
  have e3 : ((28 : Int) == x) = false := by simp; omega
  have e4 : ((29 : Int) == x) = false := by simp; omega
  have e5 : ((30 : Int) == x) = false := by simp; omega
  simp [List.find?_cons, e1, e2, e3, e4, e5, h1, h2, h3, h4, h5]
theorem map_get (gc : Nat) (x : Int) : ((mlk (mapL gc) x).getD .nilFunc = if ctlN x ≠ 0 then .func (.func (fnK x)) #[.pointer (some ⟨gc, 0, none⟩)] #[] else .nilFunc) ∧ (mlk (mapL gc) x).isSome = decide (ctlN x ≠ 0) := by
  obtain ⟨h1, h2⟩ := map_mlk gc x
  by_cases h : ctlN x = 0
  · rw [h2 h, if_neg (fun k => k h)]; exact ⟨rfl, by simp [h]⟩
  rw [h1 h, if_pos h]; exact ⟨rfl, by simp [h]⟩
theorem mx_store (gc g : Nat) (s0 s1 s2 s3 : Value) (xs : List MpV) (x : CtV) (m : MaV) (q : MpV) (w : World) (hc : ctlN q.lc ≠ 0) (hs : SX.St w (SX.idsOf (ctE gc g s0 s1 s2 s3 xs x)) w (ctE gc g s0 s1 s2 s3 xs x)) (hq : Sx w (SX.idsOf (ctE gc g s0 s1 s2 s3 xs x)) q.B (ints .u8 q.l)) (hqb : Byts q.l) (hql : q.l.length ≤ 1000000) (hx1 : x.pw.length ≤ 100000) (hx2 : x.id.length ≤ 100000) (hx3 : x.rp.length ≤ 100000) :
    Calls Tryz.prog (fnK q.lc) #[.pointer (some ⟨gc, 0, none⟩), .agg q.cells.toArray] w (Z.Bo (fun v w' => (recS m x q.plain).1 = 0 ∧ v = .tuple #[] ∧ ∃ s1' s2' s3', SX.St w (SX.idsOf (ctE gc g s0 s1 s2 s3 xs x)) w' (ctE gc g s0 s1' s2' s3' xs (recS m x q.plain).2)) fun c w' => (recS m x q.plain).1 ≠ 0 ∧ c = mperr (recS m x q.plain).1 ∧ ∃ s1' s2' s3', SX.St w (SX.idsOf (ctE gc g s0 s1 s2 s3 xs x)) w' (ctE gc g s0 s1' s2' s3' xs x)) := by
  have hcl : q.lc = 26 ∨ (q.lc = 27 ∨ q.lc = 28) ∨ (q.lc = 29 ∨ q.lc = 30) := by
    unfold ctlN at hc
    split at hc
    · omega
    split at hc
    · omega
    split at hc
    · omega
    split at hc <;> omega
  by_cases h1 : q.lc = 26
  · have e1 : fnK q.lc = 51 := if_pos h1
    have e2 : recS m x q.plain = (powE q.lc q.l, { x with pw := x.pw ++ [powV q.lc q.l] }) := by unfold recS; rw [if_pos (by exact h1)]; rw [h1]; rfl
    rw [e1, e2]
    refine (mx_power gc g s0 s1 s2 s3 xs x q w hs hq hqb hql hx1).mono ?_
    rintro e w' (⟨v, rfl, h2, h3, s', h4⟩ | ⟨c, rfl, h2, h3, h4⟩)
    · exact .inl ⟨v, rfl, h2, h3, _, _, _, h4⟩
    exact .inr ⟨c, rfl, h2, h3, _, _, _, h4⟩
  by_cases h2 : q.lc = 27 ∨ q.lc = 28
  · have e1 : fnK q.lc = 52 := by unfold fnK; rw [if_neg h1, if_pos h2]
    have e2 : recS m x q.plain = (idE q.lc q.l, { x with id := x.id ++ [idV q.lc q.l] }) := by unfold recS; rw [if_neg (by exact h1), if_pos (by exact h2)]; rfl
    rw [e1, e2]
    refine (mx_ident gc g s0 s1 s2 s3 xs x q w hs hq hqb hql hx2).mono ?_
    rintro e w' (⟨v, rfl, h2, h3, s', h4⟩ | ⟨c, rfl, h2, h3, h4⟩)
    · exact .inl ⟨v, rfl, h2, h3, _, _, _, h4⟩
    exact .inr ⟨c, rfl, h2, h3, _, _, _, h4⟩
  have h3 : q.lc = 29 ∨ q.lc = 30 := by omega
  have e1 : fnK q.lc = 53 := by unfold fnK; rw [if_neg h1, if_neg h2]
  have e2 : recS m x q.plain = (repE q.lc q.l, { x with rp := x.rp ++ [repV q.lc q.l] }) := by unfold recS; rw [if_neg (by exact h1), if_neg (by exact h2), if_pos (by exact h3)]; rfl
  rw [e1, e2]
  refine (mx_status gc g s0 s1 s2 s3 xs x q w hs hq hqb hql hx3).mono ?_
  rintro e w' (⟨v, rfl, h2, h3, s', h4⟩ | ⟨c, rfl, h2, h3, h4⟩)
  · exact .inl ⟨v, rfl, h2, h3, _, _, _, h4⟩
  exact .inr ⟨c, rfl, h2, h3, _, _, _, h4⟩
theorem recS_ctl {m : MaV} {x : CtV} {p : Prt} (h : ctlN p.1 ≠ 0) : (recS m x p).2.sd = x.sd ∧ (recS m x p).2.pw.length ≤ x.pw.length + 1 ∧ (recS m x p).2.id.length ≤ x.id.length + 1 ∧ (recS m x p).2.rp.length ≤ x.rp.length + 1 := by
  have hcl : p.1 = 26 ∨ (p.1 = 27 ∨ p.1 = 28) ∨ (p.1 = 29 ∨ p.1 = 30) := by
    unfold ctlN at h
    split at h
    · omega
    split at h
    · omega
    split at h
    · omega
    split at h <;> omega
  unfold recS
  split
  · simp
  split
  · simp
  rw [if_pos Z.b9]; simp
theorem recS_no {m : MaV} {x : CtV} {p : Prt} (h : ctlN p.1 = 0) : recS m x p = if knowB m p.1 then (0, { x with sd := x.sd ++ [p] }) else (0, x) := by
  unfold ctlN at h
  unfold recS
  rw [if_neg (fun k => by rw [if_pos (.inl k)] at h; omega), if_neg (fun k => by revert h; split <;> (try split) <;> (try split) <;> (try split) <;> omega), if_neg (fun k => by revert h; split <;> (try split) <;> (try split) <;> (try split) <;> omega)]
def ReR (R : Int × CtV) (v : Value) (w w' : World) : Prop := ∃ (s0 s1 s2 s3 : Value) (xs : List MpV) (qs : List (MpV × Nat)), v = .tuple #[.agg #[s0, s1, s2, s3], .int .i64 R.1] ∧ xs.map MpV.plain = R.2.sd ∧ (∀ q ∈ xs, q ∈ qs.map Prod.fst) ∧ SX.St w [] w' ([SX.Ent.row s0 77 2 xs.length (xs.flatMap MpV.cells), SX.Ent.row s1 86 6 R.2.rp.length (R.2.rp.flatMap RepV.cells), SX.Ent.row s2 3 1 R.2.pw.length (ints .i64 R.2.pw), SX.Ent.row s3 123 1 R.2.id.length (ints .u64 R.2.id)] ++ rowsQ qs)
theorem ReR.fail {e : Int} {w w' : World} (hs : SX.St w [] w' []) : ReR (e, CtV.nil) (.tuple #[.agg #[.slice none 0 0, .slice none 0 0, .slice none 0 0, .slice none 0 0], .int .i64 e]) w w' := ⟨_, _, _, _, [], [], rfl, rfl, by simp, (((hs.nil _ 1).nil _ 1).nil _ 6).nil _ 2⟩
theorem sl_cel {w : World} {g : Nat} {cs : List Value} (h : Cel w g cs) : Sl w (some ⟨g, 0, none⟩) cs := fun _ => ⟨g, 0, rfl, h.1, fun i u hu => by rw [Nat.zero_add]; exact h.2 i u hu⟩
theorem bkX {w : World} {g gb : Nat} {m : MaV} {ch rv lv : Value} (h : BkR w gb m.b) (hc : Cel w g [.pointer (some ⟨gb, 0, none⟩), ch, rv, lv]) : EnX w [] g gb m := by
  obtain ⟨A, c, B, d, h1, h2, h3⟩ := h
  exact ⟨ch, rv, lv, A, c, B, d, (sl_cel hc).sx, (sl_cel h1).sx, h2.sx, h3.sx⟩
set_option maxHeartbeats 4000000 in
set_option maxRecDepth 100000 in
theorem mx_receive (g gb : Nat) (m : MaV) (A : Option Addr) (n c : Nat) (l : List Int) (w : World) (hE : EnX w [] g gb m) (hm : m.ok) (hx : Sl w A (ints .u8 l)) (hl : l.length = n) (hn : n ≤ 100000) (hb : ∀ x ∈ l, 0 ≤ x ∧ x < 256) :
    Calls Tryz.prog 17 #[.pointer (some ⟨g, 0, none⟩), .slice A n c] w (SX.Ret fun v w' => ReR (recV m l) v w w') := by
  have hs := SX.St.start w
  obtain ⟨ch, rv, lv, hcel⟩ := hE.cel hs
  obtain ⟨R, hR⟩ : ∃ R, recV m l = R := ⟨_, rfl⟩
  rw [hR]
  have hcnt := par_cnt l
  have hgood := par_good hb
  have hmem := par_mem l
  have hlen := par_len l
  unfold recV at hR
  refine Z.enterD Tryz.func17 rfl Tryz.ntmps17 rfl rfl ?_
  refine Z.g230 ?_
  refine Z.ZO.alloc rfl rfl (by rfl) Tryz.zeroValue61 rfl hs ?_
  clear hs; intro g4 w4 hs
  refine Z.g184 ?_
  clear hs; intro g5 w5 hs
  refine Z.g260 ?_
  refine Z.g95 ?_
  refine Z.g142 ?_
  refine Z.g30 ?_
  refine Z.g32 ?_
  refine Z.ZO.call rfl rfl (by rfl) rfl rfl Tryz.call37 rfl (mx_none g gb ch rv lv _ (hcel.st (hs.sub (List.nil_sublist _)))) ?_
  rintro v2_1 w2_1 ⟨rfl, hy⟩
  replace hs := Z.w1 (hs.call hy); clear hy
  refine Z.g32 ?_
  refine Z.ZO.call rfl rfl (by rfl) rfl rfl Tryz.call41 rfl (mx_must_ok _ 1 _ rfl) ?_
  rintro v2_3 w2_3 ⟨rfl, hy⟩
  replace hs := Z.w1 (hs.call hy); clear hy
  refine Z.g260 ?_
  refine Z.g64 ?_
  refine Z.l rfl rfl (by rfl) (Z.keepS hs) (Z.Yd.buildL [(0, 1), (1, 4)] [.pointer none, .slice none 0 0, .slice none 0 0, .slice none 0 0, .slice none 0 0] rfl rfl Z.b15) ?_
  refine Z.g3 ?_
  refine Z.g17 ?_
  clear hs; intro g19 w19 hs
  refine Z.g1 ?_
  refine Z.only [1, 4, 5, 6] rfl ?_
  refine Z.g30 ?_
  refine Z.g3 ?_
  refine Z.ZO.mkMap rfl rfl (by rfl) hs .i64 ?_
  clear hs; intro g20 w20 hs
  refine Z.g111 ?_
  clear hs; intro ws hs
  simp only [List.set_cons_zero, List.set_cons_succ, List.cons_append, List.nil_append] at hs
  refine Z.g111 ?_
  clear hs; intro ws hs
  simp only [List.set_cons_zero, List.set_cons_succ, List.cons_append, List.nil_append] at hs
  refine Z.g111 ?_
  clear hs; intro ws hs
  simp only [List.set_cons_zero, List.set_cons_succ, List.cons_append, List.nil_append] at hs
  refine Z.g111 ?_
  clear hs; intro ws hs
  simp only [List.set_cons_zero, List.set_cons_succ, List.cons_append, List.nil_append] at hs
  refine Z.g111 ?_
  clear hs; intro ws hs
  simp only [List.set_cons_zero, List.set_cons_succ, List.cons_append, List.nil_append] at hs
  refine Z.g31 ?_
  refine Z.only [1, 4, 5, 6, 7] rfl ?_
  refine Z.g159 ?_
  refine Z.ZO.call rfl rfl (by rfl) rfl rfl Tryz.call54 rfl (mc_Parse A n c l _ (hx.st (hs.sub (List.nil_sublist _))) hl hn hb) ?_
  rintro v5_1 w5_1 ⟨qs, svp, rfl, hqp, hy⟩
  replace hs := Z.w1 (hs.call hy); clear hy
  refine Z.g63 ?_
  refine Z.ZO.callB rfl rfl (by rfl) rfl rfl Tryz.call45 rfl (mx_gotPt _ _ _) ?_ ?_
  · skip
    rintro v5_4 w5_4 ⟨hE5, rfl, hy⟩
    replace hs := Z.w1 (hs.call hy); clear hy
    rw [if_neg (fun k => k hE5)] at hR
    replace hs := SX.St.rot (L1 := _ :: rowsQ qs) hs
    replace hs := Z.w2 hs
    obtain ⟨Ap, cp, rfl, -, -, -⟩ := SX.row_slv hs (j := 4) rfl
    replace hs := ((((hs.nil 123 1).nil 3 1).nil 86 6).nil 77 2)
    replace hs : SX.St w [] _ (ctE g19 g (.slice none 0 0) (.slice none 0 0) (.slice none 0 0) (.slice none 0 0) [] CtV.nil ++ ([SX.Ent.row (.slice Ap qs.length cp) 77 2 qs.length (cellsQ qs), SX.Ent.mp g20 .i64 (mapL g19), SX.Ent.blk g5 31 #[.int .i64 0], SX.Ent.blk g4 61 #[.slice none 0 0, .slice none 0 0, .slice none 0 0, .slice none 0 0]] ++ rowsQ qs)) := hs.selT (L1 := [_, _, _, _, _, _, _, _, _]) [5, 0, 1, 2, 3, 8, 4, 6, 7] Z.b12
    have hql : qs.length ≤ 16385 := by have h7 := congrArg List.length hqp; rw [plainQ, List.length_map] at h7; omega
    have hqm : ∀ x ∈ qs, x.1.plain ∈ (parV l).2 := fun x hx => by rw [← hqp]; exact List.mem_map_of_mem hx
    refine Z.g258 ?_
    refine Z.only [4, 5, 6, 7, 36, 37, 38] rfl ?_
    refine Z.g210 ?_
    refine Z.loopk (ι := Nat × CtV × List MpV × Value × Value × Value × Value) [4, 5, 6, 7, 36, 37] rfl (fun z => [(38, [], .int .i64 (z.1 : Int))]) (fun z wr => (z.1 ≤ qs.length ∧ recGo m ((plainQ qs).drop z.1) z.2.1 = R ∧ z.2.2.1.map MpV.plain = z.2.1.sd ∧ (∀ q ∈ z.2.2.1, q ∈ qs.map Prod.fst) ∧ z.2.2.1.length ≤ z.1 ∧ z.2.1.pw.length ≤ z.1 ∧ z.2.1.id.length ≤ z.1 ∧ z.2.1.rp.length ≤ z.1) ∧ SX.St w [] wr (ctE g19 g z.2.2.2.1 z.2.2.2.2.1 z.2.2.2.2.2.1 z.2.2.2.2.2.2 z.2.2.1 z.2.1 ++ ([SX.Ent.row (.slice Ap qs.length cp) 77 2 qs.length (cellsQ qs), SX.Ent.mp g20 .i64 (mapL g19), SX.Ent.blk g5 31 #[.int .i64 0], SX.Ent.blk g4 61 #[.slice none 0 0, .slice none 0 0, .slice none 0 0, .slice none 0 0]] ++ rowsQ qs))) (fun z => qs.length - z.1) (0, CtV.nil, [], .slice none 0 0, .slice none 0 0, .slice none 0 0, .slice none 0 0) Z.b6 ⟨⟨Nat.zero_le _, by rw [List.drop_zero, hqp]; exact hR, rfl, by simp, Nat.le_refl _, Nat.le_refl _, Nat.le_refl _, Nat.le_refl _⟩, hs⟩ ?_
    clear hs
    rintro ⟨i, x, xs, s0, s1, s2, s3⟩ w6 ⟨⟨hi, hgo, hxp, hxm, hk0, hk1, hk2, hk3⟩, hs⟩
    refine Z.only [4, 5, 6, 7, 36, 37, 38] rfl ?_
    (try dsimp only at hs)
    dsimp only at hi hgo hxp hxm hk0 hk1 hk2 hk3
    simp only [ctE, List.cons_append, List.nil_append] at hs
    refine Z.g120 ?_
    refine Z.only [4, 5, 6, 7, 36, 37, 38, 39] rfl ?_
    refine Z.g150 ?_
    refine Z.cond rfl (fun hc6 => ?_) (fun hc6 => ?_)
    · (try simp at hc6)
      obtain ⟨z, hz⟩ : ∃ z, qs[i]? = some z := ⟨_, List.getElem?_eq_getElem Z.b9⟩
      obtain ⟨q, kq⟩ := z
      have hqi : (q, kq) ∈ qs := List.mem_of_getElem? hz
      have hpg := hgood _ (hqm _ hqi)
      have hpl := hlen _ (hqm _ hqi)
      have hpm := hmem _ (hqm _ hqi)
      have hone := mp_one q
      have hdr : (plainQ qs).drop i = q.plain :: (plainQ qs).drop (i + 1) := drop_at (by rw [plainQ, List.getElem?_map, hz]; rfl)
      rw [hdr, recGo] at hgo
      obtain ⟨gp, cp', e9, -, -⟩ := row_form (j := 5) hs rfl Z.b9
      cases e9
      refine Z.g238 ?_
      refine Z.g198 ?_
      refine Z.l rfl rfl (by rfl) (Z.keepS hs) (Z.Yd.loadA _ rfl Tryz.isAgg77 (fun _ => Z.cellsRf (enc := fun x : MpV × Nat => x.1.cells) Z.b0 (fun _ => rfl) hz rfl) Z.b18) ?_
      refine Z.g254 ?_
      clear hs; intro g9 w9 hs
      refine Z.g124 ?_
      clear hs; intro ws hs
      replace hs := Z.w0 hs
      replace hs := Z.w3 hs
      refine Z.g314 ?_
      refine Z.only [4, 5, 6, 7, 9, 36, 37, 38] rfl ?_
      refine Z.g123 ?_
      refine Z.g97 ?_
      refine Z.l rfl rfl (by rfl) (Z.keepS hs) (Z.Yd.lookupT rfl rfl Tryz.underlying119 Tryz.underlying3 Tryz.zeroValue118 Z.b0) ?_
      refine Z.g212 ?_
      refine Z.only [4, 5, 6, 7, 9, 10, 11, 36, 37, 38] rfl ?_
      refine Z.g30 ?_
      obtain ⟨em1, em2⟩ := map_get g19 q.lc
      rw [em1, em2]
      refine Z.g264 ?_
      refine Z.only [4, 5, 6, 7, 9, 10, 36, 37, 38, 49] rfl ?_
      refine Z.g313 ?_
      refine Z.cond rfl (fun hc9 => ?_) (fun hc9 => ?_)
      · (try simp at hc9)
        refine Z.g182 ?_
        refine Z.l rfl rfl (by rfl) (Z.keepS hs) (Z.Yd.loadA _ rfl Tryz.isAgg77 (fun _ => Z.cellsB (cs := q.cells) Z.b0) Z.b18) ?_
        have hcn : ctlN q.lc ≠ 0 := by simpa using hc9
        rw [if_pos hcn]
        replace hs : SX.St w [] _ (ctE g19 g s0 s1 s2 s3 xs x ++ ([_, _, _, _, _] ++ rowsQ qs)) := hs.selT (L1 := [_, _, _, _, _, _, _, _, _, _]) [1, 2, 3, 4, 5, 0, 6, 7, 8, 9] Z.b12
        obtain ⟨jq, hjq⟩ := List.getElem?_of_mem (List.mem_append_right [_, _, _, _, _] (List.mem_map_of_mem (f := fun x : MpV × Nat => SX.Ent.row (.slice x.1.B x.1.l.length x.2) 5 1 x.1.l.length (ints .u8 x.1.l)) hqi))
        have hqx := Z.row_lentv hs hjq
        have hfk := fnK_call q.lc
        refine Z.g3 ?_
        refine Z.ZO.callB rfl rfl (by rfl) rfl rfl hfk Z.b24 (mx_store g19 g s0 s1 s2 s3 xs x m q _ hcn hs.lend hqx (fun y hy ↦ hb y (hpm y hy)) (by have h8 : q.l.length ≤ l.length := hpl; omega) Z.b9 Z.b9 Z.b9) ?_ ?_
        · skip
          rintro v10_2 w10_2 ⟨he, rfl, s1', s2', s3', hz⟩
          replace hs := hs.regain hz
          rw [if_neg (fun k => k he)] at hgo
          refine Z.g314 ?_
          refine Z.only [4, 5, 6, 7, 36, 37, 38] rfl ?_
          refine Z.g313 ?_
          refine Z.exit ?_
          refine Z.xthen ?_
          refine Z.xblock ?_
          refine Z.g313 ?_
          refine Z.g34 ?_
          refine Z.only [4, 5, 6, 7, 36, 37, 38] rfl ?_
          refine Z.g313 ?_
          have hrc := recS_ctl (m := m) (x := x) (p := q.plain) hcn
          have hs2 : SX.St w [] _ (ctE g19 g s0 s1' s2' s3' xs (recS m x q.plain).2 ++ ([_, _, _, _] ++ rowsQ qs)) := hs.selT (L1 := [_, _, _, _, _, _, _, _, _, _]) [0, 1, 2, 3, 4, 6, 7, 8, 9] Z.b12
          exact Z.again (i + 1, (recS m x q.plain).2, xs, s0, s1', s2', s3') Z.b13 ⟨⟨by simp only; omega, hgo, by rw [hrc.1]; exact hxp, hxm, by simp only; omega, by simp only; omega, by simp only; omega, by simp only; omega⟩, hs2⟩ Z.b21
        skip
        rintro c10_2 w10_2 ⟨he, rfl, s1', s2', s3', hz⟩
        replace hs := hs.regain hz
        rw [if_pos he] at hgo
        subst hgo
        replace hs := hs.sel [8, 9] Z.b12
        repeat (first | refine Z.pthen ?_ | refine Z.pblock ?_ | refine Z.pscope ?_)
        refine Z.outDp Tryz.call26 (mx_caught_pan g5 _ _ _ _ _ [SX.Ent.blk g4 _ _] _ _ (hs.lend (L2 := [])) Tryz.call50 (fun W hW ↦ mx_clearRec g4 _ _ _ _ _ W hW)) ?_
        rintro vD wD ⟨rfl, hz⟩
        replace hs := hs.regain (L2 := []) hz
        refine ⟨[_, _], Z.b59, ?_⟩
        exact ⟨_, rfl, ReR.fail (hs.sub (List.nil_sublist _))⟩
      (try simp at hc9)
      refine Z.skip ?_
      refine Z.g121 ?_
      refine Z.g64 ?_
      refine Z.l rfl rfl (by rfl) (Z.keepS hs) (Z.Yd.loadA _ rfl Tryz.isAgg77 (fun _ => Z.cellsB (cs := q.cells) Z.b0) Z.b18) ?_
      have hcn : ctlN q.lc = 0 := by simpa using hc9
      replace hs : SX.St w [] _ (ctE g19 g s0 s1 s2 s3 xs x ++ ([_, _, _, _, _] ++ rowsQ qs)) := hs.selT (L1 := [_, _, _, _, _, _, _, _, _, _]) [1, 2, 3, 4, 5, 0, 6, 7, 8, 9] Z.b12
      refine Z.g3 ?_
      refine Z.ZO.call rfl rfl (by rfl) rfl rfl Tryz.call55 rfl (mx_sdu g19 g gb s0 s1 s2 s3 m xs x q _ hs.lend (hE.lent hs) hm Z.b9) ?_
      rintro v11_2 w11_2 ⟨rfl, s0', hz⟩
      replace hs := hs.regain hz
      rw [recS_no hcn] at hgo
      refine Z.g314 ?_
      refine Z.only [4, 5, 6, 7, 36, 37, 38] rfl ?_
      refine Z.g180 ?_
      refine Z.only [4, 5, 6, 7, 36, 37, 38] rfl ?_
      refine Z.g313 ?_
      by_cases hkn : knowB m q.lc = true
      · rw [if_pos hkn] at hs
        rw [if_pos (c := knowB m q.plain.1 = true) hkn] at hgo
        simp only [ne_eq, not_true_eq_false, ↓reduceIte] at hgo
        have hs2 : SX.St w [] _ (ctE g19 g s0' s1 s2 s3 (xs ++ [q]) { x with sd := x.sd ++ [q.plain] } ++ ([_, _, _, _] ++ rowsQ qs)) := hs.selT (L1 := [_, _, _, _, _, _, _, _, _, _]) [0, 1, 2, 3, 4, 6, 7, 8, 9] Z.b12
        exact Z.again (i + 1, { x with sd := x.sd ++ [q.plain] }, xs ++ [q], s0', s1, s2, s3) Z.b13 ⟨⟨by simp only; omega, hgo, by rw [List.map_append, hxp]; rfl, by intro z hz9; rcases List.mem_append.1 hz9 with h | h; exact hxm z h; (obtain rfl : z = _ := by simpa using h); exact List.mem_map_of_mem (f := Prod.fst) hqi, by simp; omega, by simp only; omega, by simp only; omega, by simp only; omega⟩, hs2⟩ Z.b21
      rw [if_neg hkn] at hs
      rw [if_neg (c := knowB m q.plain.1 = true) hkn] at hgo
      simp only [ne_eq, not_true_eq_false, ↓reduceIte] at hgo
      have hs2 : SX.St w [] _ (ctE g19 g s0' s1 s2 s3 xs x ++ ([_, _, _, _] ++ rowsQ qs)) := hs.selT (L1 := [_, _, _, _, _, _, _, _, _, _]) [0, 1, 2, 3, 4, 6, 7, 8, 9] Z.b12
      exact Z.again (i + 1, x, xs, s0', s1, s2, s3) Z.b13 ⟨⟨by simp only; omega, hgo, hxp, hxm, by simp only; omega, by simp only; omega, by simp only; omega, by simp only; omega⟩, hs2⟩ Z.b21
    (try simp at hc6)
    refine Z.g211 ?_
    obtain ⟨B0, d0, rfl, -, -, -⟩ := SX.row_slv hs (j := 1) rfl
    obtain ⟨B1, d1, rfl, -, -, -⟩ := SX.row_slv hs (j := 2) rfl
    obtain ⟨B2, d2, rfl, -, -, -⟩ := SX.row_slv hs (j := 3) rfl
    obtain ⟨B3, d3, rfl, -, -, -⟩ := SX.row_slv hs (j := 4) rfl
    refine Z.g18 ?_
    refine Z.g10 ?_
    refine Z.g9 ?_
    refine Z.l rfl rfl (by rfl) (Z.keepS hs) (Z.Yd.loadA _ rfl Tryz.isAgg61 (fun _ => Z.cellsBo (cs := [.pointer (some ⟨g, 0, none⟩), .slice B0 _ d0, .slice B1 _ d1, .slice B2 _ d2, .slice B3 _ d3]) [.slice B0 _ d0, .slice B1 _ d1, .slice B2 _ d2, .slice B3 _ d3] Z.b0 ⟨[], rfl⟩) (by exact Tryz.sizeOf61)) ?_
    refine Z.g124 ?_
    clear hs; intro ws hs
    replace hs := Z.w0 hs
    replace hs := Z.w3 hs
    refine Z.g237 ?_
    clear hs; intro ws hs
    replace hs := Z.w0 hs
    refine Z.g314 ?_
    refine Z.g158 ?_
    refine Z.outDr Tryz.call26 (mx_caught_ret g5 _ _ _) ?_
    rintro vD wD ⟨rfl, hy⟩
    replace hs := hs.call hy
    refine ⟨[_, _], Z.b59, ?_⟩
    obtain rfl : i = qs.length := by omega
    rw [List.drop_of_length_le (by rw [plainQ, List.length_map]; exact Nat.le_refl _)] at hgo
    subst hgo
    exact ⟨_, rfl, _, _, _, _, xs, qs, rfl, hxp, hxm, hs.selT (L1 := [_, _, _, _, _, _, _, _, _]) [1, 2, 3, 4] Z.b12⟩
  skip
  rintro c5_4 w5_4 ⟨hE5, rfl, hy⟩
  replace hs := Z.w1 (hs.call hy); clear hy
  rw [if_pos hE5] at hR
  subst hR
  replace hs := (SX.St.rot (L1 := _ :: rowsQ qs) hs).sel [2, 3] Z.b12
  repeat (first | refine Z.pthen ?_ | refine Z.pblock ?_ | refine Z.pscope ?_)
  refine Z.outDp Tryz.call26 (mx_caught_pan g5 _ _ _ _ _ [SX.Ent.blk g4 _ _] _ _ (hs.lend (L2 := [])) Tryz.call50 (fun W hW ↦ mx_clearRec g4 _ _ _ _ _ W hW)) ?_
  rintro vD wD ⟨rfl, hz⟩
  replace hs := hs.regain (L2 := []) hz
  refine ⟨[_, _], Z.b59, ?_⟩
  exact ⟨_, rfl, ReR.fail (hs.sub (List.nil_sublist _))⟩
end Go.Proofs.YtbojkoiopkaciaaGreat

/- The MAC entity: Request, Channels, Copy. -/
namespace Go.Proofs.YtbojkoiopkaciaaGreat
open Go.RowKit
set_option linter.unusedSimpArgs false
set_option linter.unusedVariables false
--newlaws

theorem mx_request_up (g gb gr : Nat) (m : MaV) (ch lv : Value) (w : World) (hc : Cel w g [.pointer (some ⟨gb, 0, none⟩), ch, .pointer (some ⟨gr, 0, none⟩), lv]) (hr : Cel w gr m.r.cells) :
    Calls Tryz.prog 15 #[.pointer (some ⟨g, 0, none⟩)] w (SX.Ret fun v w' => v = .bool m.r.reg ∧ SX.St w [] w' []) := by
  have hs := SX.St.start w
  refine Z.enter Tryz.func15 rfl Tryz.ntmps15 rfl rfl ?_
  refine Z.g241 ?_
  refine Z.g32 ?_
  refine Z.ZO.call rfl rfl (by rfl) rfl rfl Tryz.call37 rfl (mx_none g gb _ _ _ _ hc) ?_
  rintro v1_1 w1_1 ⟨rfl, hy⟩
  replace hs := Z.w1 (hs.call hy); clear hy
  refine Z.g22 ?_
  refine Z.yes (s := 6) (b := true) rfl (rfl) rfl ?_
  refine Z.g157 ?_
  refine Z.g21 ?_
  refine Z.l rfl rfl (by rfl) (Z.keepS hs) (Z.Yd.load rfl Tryz.isAgg53 (fun _ => Z.cellO hc.1 Z.b17 (hc.2 2 _ rfl))) ?_
  refine Z.yes (s := 6) (b := true) rfl rfl rfl ?_
  refine Z.g117 ?_
  refine Z.ZO.call rfl rfl (by rfl) rfl rfl Tryz.call38 rfl (rp_request gr m.r _ (hr.st hs)) ?_
  rintro v1_8 w1_8 ⟨rfl, hy⟩
  replace hs := Z.w1 (hs.call hy); clear hy
  refine Z.g15 ?_
  refine Z.g154 ?_
  refine Z.g52 ?_
  exact ⟨_, rfl, rfl, hs⟩
theorem mx_request_dn (g gb : Nat) (ch lv : Value) (w : World) (hc : Cel w g [.pointer (some ⟨gb, 0, none⟩), ch, .pointer none, lv]) :
    Calls Tryz.prog 15 #[.pointer (some ⟨g, 0, none⟩)] w (SX.Ret fun v w' => v = .bool false ∧ SX.St w [] w' []) := by
  have hs := SX.St.start w
  refine Z.enter Tryz.func15 rfl Tryz.ntmps15 rfl rfl ?_
  refine Z.g241 ?_
  refine Z.g32 ?_
  refine Z.ZO.call rfl rfl (by rfl) rfl rfl Tryz.call37 rfl (mx_none g gb _ _ _ _ hc) ?_
  rintro v1_1 w1_1 ⟨rfl, hy⟩
  replace hs := Z.w1 (hs.call hy); clear hy
  refine Z.g22 ?_
  refine Z.yes (s := 6) (b := true) rfl (rfl) rfl ?_
  refine Z.g157 ?_
  refine Z.g21 ?_
  refine Z.l rfl rfl (by rfl) (Z.keepS hs) (Z.Yd.load rfl Tryz.isAgg53 (fun _ => Z.cellO hc.1 Z.b17 (hc.2 2 _ rfl))) ?_
  refine Z.yes (s := 6) (b := true) rfl rfl rfl ?_
  refine Z.g117 ?_
  refine Z.ZO.call rfl rfl (by rfl) rfl rfl Tryz.call38 rfl (rn_request (.pointer none) _ (noR_nil _)) ?_
  rintro v1_8 w1_8 ⟨rfl, hy⟩
  replace hs := Z.w1 (hs.call hy); clear hy
  refine Z.g15 ?_
  refine Z.g154 ?_
  refine Z.g52 ?_
  exact ⟨_, rfl, rfl, hs⟩
end Go.Proofs.YtbojkoiopkaciaaGreat

/- The MAC entity: contents compared, the law's small functions. -/
namespace Go.Proofs.YtbojkoiopkaciaaGreat
open Go.RowKit
set_option linter.unusedSimpArgs false
set_option linter.unusedVariables false
--newlaws

def CtQ (w : World) (vs : List Value) (xs : List MpV) (x : CtV) : Prop := ∃ A0 c0 A1 c1 A2 c2 A3 c3, vs = [.slice A0 xs.length c0, .slice A1 x.rp.length c1, .slice A2 x.pw.length c2, .slice A3 x.id.length c3] ∧ xs.map MpV.plain = x.sd ∧ Sl w A0 (xs.flatMap MpV.cells) ∧ Sl w A1 (x.rp.flatMap RepV.cells) ∧ Sl w A2 (ints .i64 x.pw) ∧ Sl w A3 (ints .u64 x.id) ∧ (∀ q ∈ xs, Sl w q.B (ints .u8 q.l)) ∧ (∀ q ∈ xs, ∀ z ∈ q.l, 0 ≤ z ∧ z < 256)
theorem repv_ext {a b : RepV} (h : a.long = b.long ∧ a.group = b.group ∧ a.a = b.a ∧ a.b = b.b ∧ a.c = b.c ∧ a.d = b.d) : a = b := by
  cases a; cases b; simp_all
instance : DecidableEq RepV := fun a b => decidable_of_iff (a.long = b.long ∧ a.group = b.group ∧ a.a = b.a ∧ a.b = b.b ∧ a.c = b.c ∧ a.d = b.d) ⟨repv_ext, fun h => by subst h; exact ⟨rfl, rfl, rfl, rfl, rfl, rfl⟩⟩
def sameC (x y : CtV) : Prop := x.sd = y.sd ∧ x.rp = y.rp ∧ x.pw = y.pw ∧ x.id = y.id
instance (x y : CtV) : Decidable (sameC x y) := by unfold sameC; infer_instance
theorem rep_len (r : RepV) : r.cells.length = 6 := rfl
theorem at_ne {α : Type} {l k : List α} {i : Nat} {x y : α} (hx : l[i]? = some x) (hy : k[i]? = some y) (h : x ≠ y) : l ≠ k := fun e => by
  subst e
  rw [hx] at hy
  exact h (Option.some.inj hy)
theorem tk_eq {α : Type} {l k : List α} {i : Nat} {x y : α} (ht : l.take i = k.take i) (hx : l[i]? = some x) (hy : k[i]? = some y) (h : x = y) : l.take (i + 1) = k.take (i + 1) := by
  rw [List.take_add_one, List.take_add_one, ht, hx, hy, h]
set_option maxHeartbeats 1000000 in
set_option maxRecDepth 100000 in
theorem ct_same (vs us : List Value) (xs ys : List MpV) (x y : CtV) (w : World) (hX : CtQ w vs xs x) (hY : CtQ w us ys y) (hn : xs.length ≤ 9223372036854775807 ∧ x.rp.length ≤ 1000000 ∧ x.pw.length ≤ 1000000 ∧ x.id.length ≤ 1000000) :
    Calls Tryz.prog 20 #[.agg vs.toArray, .agg us.toArray] w (SX.Ret fun v w' => v = .bool (decide (sameC x y)) ∧ SX.St w [] w' []) := by
  have hs := SX.St.start w
  obtain ⟨A0, c0, A1, c1, A2, c2, A3, c3, rfl, hp, h0, h1, h2, h3, h4, h5⟩ := hX
  obtain ⟨B0, d0, B1, d1, B2, d2, B3, d3, rfl, kp, k0, k1, k2, k3, k4, k5⟩ := hY
  refine Z.enter Tryz.func20 rfl Tryz.ntmps20 rfl rfl ?_
  refine Z.g90 ?_
  clear hs; intro g2 w2 hs
  refine Z.g3 ?_
  refine Z.g17 ?_
  clear hs; intro g3 w3 hs
  refine Z.g1 ?_
  refine Z.only [2, 3] rfl ?_
  refine Z.g60 ?_
  refine Z.g4 ?_
  refine Z.g179 ?_
  refine Z.g4 ?_
  refine Z.g179 ?_
  refine Z.g3 ?_
  refine Z.ZO.call rfl rfl (by rfl) rfl rfl Tryz.call24 rfl (mr_Same A0 B0 _ c0 _ d0 xs ys _ (h0.st (hs.sub (List.nil_sublist _))) (k0.st (hs.sub (List.nil_sublist _))) rfl rfl hn.1 (fun q hq ↦ (h4 q hq).st (hs.sub (List.nil_sublist _))) (fun q hq ↦ (k4 q hq).st (hs.sub (List.nil_sublist _))) h5 k5) ?_
  rintro v1_4 w1_4 ⟨rfl, hy⟩
  replace hs := Z.w1 (hs.call hy); clear hy
  rw [hp, kp]
  refine Z.g22 ?_
  refine Z.g98 ?_
  refine Z.g98 ?_
  refine Z.g221 ?_
  refine Z.g21 ?_
  refine Z.g130 ?_
  refine Z.g16 ?_
  refine Z.g21 ?_
  refine Z.g130 ?_
  refine Z.g16 ?_
  refine Z.g221 ?_
  refine Z.g106 ?_
  refine Z.g106 ?_
  refine Z.g31 ?_
  refine Z.only [2, 3, 40] rfl ?_
  refine Z.g313 ?_
  refine Z.cond rfl (fun hc1 => ?_) (fun hc1 => ?_)
  · (try simp at hc1)
    refine Z.g120 ?_
    refine Z.g62 ?_
    repeat (first | refine Z.rthen ?_ | refine Z.rblock ?_ | refine Z.rscope ?_)
    refine Z.g52 ?_
    refine ⟨_, rfl, congrArg Value.bool ?_, hs.sub (List.nil_sublist _)⟩
    first
    | exact (decide_eq_true ⟨hq.1, hq.2.1, hq.2.2.1, by rwa [List.take_of_length_le Z.b9, List.take_of_length_le Z.b9] at ht⟩).symm
    | exact (decide_eq_false fun h ↦ at_ne hxi hyi hc16 h.2.2.2).symm
    | exact (decide_eq_false fun h ↦ at_ne hxi hyi hc11 h.2.2.1).symm
    | exact (decide_eq_false fun h ↦ at_ne hpi hqi (fun e ↦ by subst e; simp at hc6) h.2.1).symm
    | exact (decide_eq_false fun h ↦ by
        rcases hc1 with ((e | e) | e) | e
        · exact e h.1
        · exact e (by rw [h.2.1])
        · exact e (by rw [h.2.2.1])
        exact e (by rw [h.2.2.2])).symm
  (try simp at hc1)
  refine Z.g183 ?_
  have hq : x.sd = y.sd ∧ x.rp.length = y.rp.length ∧ x.pw.length = y.pw.length ∧ x.id.length = y.id.length := by obtain ⟨⟨⟨e0, e1⟩, e2⟩, e3⟩ := hc1; exact ⟨e0, by omega, by omega, by omega⟩
  refine Z.g264 ?_
  refine Z.only [2, 3, 5] rfl ?_
  refine Z.g210 ?_
  refine Z.loopk (ι := Nat) [2, 3] rfl (fun i => [(5, [], .int .i64 (i : Int))]) (fun i wr => (i ≤ x.rp.length ∧ (x.sd = y.sd ∧ x.rp.length = y.rp.length ∧ x.pw.length = y.pw.length ∧ x.id.length = y.id.length) ∧ x.rp.take i = y.rp.take i) ∧ SX.St w [] wr [SX.Ent.blk g3 61 #[.slice B0 ys.length d0, .slice B1 y.rp.length d1, .slice B2 y.pw.length d2, .slice B3 y.id.length d3], SX.Ent.blk g2 61 #[.slice A0 xs.length c0, .slice A1 x.rp.length c1, .slice A2 x.pw.length c2, .slice A3 x.id.length c3]]) (fun i => x.rp.length - i) 0 Z.b6 ⟨⟨Nat.zero_le _, hq, rfl⟩, hs⟩ ?_
  clear hs
  rintro i w4 ⟨⟨hi, hq, ht⟩, hs⟩
  refine Z.only [2, 3, 5] rfl ?_
  refine Z.seq ?_
  refine Z.g182 ?_
  refine Z.g98 ?_
  refine Z.g1 ?_
  refine Z.only [2, 3, 5, 45] rfl ?_
  refine Z.g313 ?_
  refine Z.cond rfl (fun hc4 => ?_) (fun hc4 => ?_)
  · (try simp at hc4)
    obtain ⟨p, hpi⟩ : ∃ f, x.rp[i]? = some f := ⟨_, List.getElem?_eq_getElem Z.b9⟩
    obtain ⟨q, hqi⟩ : ∃ f, y.rp[i]? = some f := ⟨_, List.getElem?_eq_getElem Z.b9⟩
    obtain ⟨b, off, rfl, hb1, hx2⟩ := Z.Sl.some h1 (by rw [fl_len rep_len]; omega)
    obtain ⟨b', off', rfl, hb2, hy2⟩ := Z.Sl.some k1 (by rw [fl_len rep_len]; omega)
    refine Z.g91 ?_
    refine Z.g99 ?_
    clear hs; intro wd6 hs
    refine Z.g145 ?_
    refine Z.t 1 rfl rfl rfl (by rfl) Z.b4 ⟨_, hs, Z.b2⟩ Z.b49 ?_
    refine Z.tb [2] Z.b4 rfl ⟨_, hs, Z.b2⟩ rfl ?_
    refine Z.t 3 rfl rfl rfl (by rfl) Z.b4 ⟨_, hs, Z.b2⟩ (Z.Yd.elem rfl rfl Tryz.underlying58 Tryz.sizeOf86 (fun hG => ⟨Z.b3, Z.b3⟩)) ?_
    refine Z.t 4 rfl rfl rfl (by rfl) Z.b4 ⟨_, hs, Z.b2⟩ (Z.Yd.loadA _ rfl Tryz.isAgg86 (fun _ W hK j u hu => Z.cellXf hx2.sx rep_len hpi hu W hK) (by exact Tryz.sizeOf86)) ?_
    refine Z.t 5 rfl rfl rfl (by rfl) Z.b4 ⟨_, hs, Z.b2⟩ (Z.Yd.fieldA (m := 1) rfl Z.b4) ?_
    refine Z.t 6 rfl rfl rfl (by rfl) Z.b4 ⟨_, hs, Z.b2⟩ Z.b49 ?_
    refine Z.tb [7] Z.b4 rfl ⟨_, hs, Z.b2⟩ rfl ?_
    refine Z.t 8 rfl rfl rfl (by rfl) Z.b4 ⟨_, hs, Z.b2⟩ (Z.Yd.elem rfl rfl Tryz.underlying58 Tryz.sizeOf86 (fun hG => ⟨Z.b3, Z.b3⟩)) ?_
    refine Z.t 9 rfl rfl rfl (by rfl) Z.b4 ⟨_, hs, Z.b2⟩ (Z.Yd.loadA _ rfl Tryz.isAgg86 (fun _ W hK j u hu => Z.cellXf hy2.sx rep_len hqi hu W hK) (by exact Tryz.sizeOf86)) ?_
    refine Z.t 10 rfl rfl rfl (by rfl) Z.b4 ⟨_, hs, Z.b2⟩ (Z.Yd.neA (.st (.fc 0 1 (.b) (.fc 1 1 (.i) (.fc 2 4 (.ar 4 1 (.i)) (.fn))))) rfl rfl rfl rfl Z.b4 Z.b4 rfl) ?_
    refine Z.g68 ?_
    refine Z.only [2, 3, 5, 58] rfl ?_
    refine Z.g313 ?_
    refine Z.cond rfl (fun hc6 => ?_) (fun hc6 => ?_)
    · (try simp at hc6)
      refine Z.g120 ?_
      refine Z.g62 ?_
      repeat (first | refine Z.rthen ?_ | refine Z.rblock ?_ | refine Z.rscope ?_)
      refine Z.g52 ?_
      refine ⟨_, rfl, congrArg Value.bool ?_, hs.sub (List.nil_sublist _)⟩
      first
      | exact (decide_eq_true ⟨hq.1, hq.2.1, hq.2.2.1, by rwa [List.take_of_length_le Z.b9, List.take_of_length_le Z.b9] at ht⟩).symm
      | exact (decide_eq_false fun h ↦ at_ne hxi hyi hc16 h.2.2.2).symm
      | exact (decide_eq_false fun h ↦ at_ne hxi hyi hc11 h.2.2.1).symm
      | exact (decide_eq_false fun h ↦ at_ne hpi hqi (fun e ↦ by subst e; simp at hc6) h.2.1).symm
      | exact (decide_eq_false fun h ↦ by
          rcases hc1 with ((e | e) | e) | e
          · exact e h.1
          · exact e (by rw [h.2.1])
          · exact e (by rw [h.2.2.1])
          exact e (by rw [h.2.2.2])).symm
    (try simp at hc6)
    refine Z.g71 ?_
    refine Z.g226 ?_
    refine Z.only [2, 3, 5] rfl ?_
    refine Z.g313 ?_
    exact Z.again (i + 1) Z.b16 ⟨⟨by omega, hq, tk_eq ht hpi hqi (repv_ext hc6)⟩, hs⟩ Z.b9
  (try simp at hc4)
  refine Z.g11 ?_
  refine Z.g60 ?_
  replace hq : x.sd = y.sd ∧ x.rp = y.rp ∧ x.pw.length = y.pw.length ∧ x.id.length = y.id.length := ⟨hq.1, by rwa [List.take_of_length_le Z.b9, List.take_of_length_le Z.b9] at ht, hq.2.2.1, hq.2.2.2⟩
  refine Z.g264 ?_
  refine Z.only [2, 3, 6] rfl ?_
  refine Z.g210 ?_
  refine Z.loopk (ι := Nat) [2, 3] rfl (fun i => [(6, [], .int .i64 (i : Int))]) (fun i wr => (i ≤ x.pw.length ∧ (x.sd = y.sd ∧ x.rp = y.rp ∧ x.pw.length = y.pw.length ∧ x.id.length = y.id.length) ∧ x.pw.take i = y.pw.take i) ∧ SX.St w [] wr [SX.Ent.blk g3 61 #[.slice B0 ys.length d0, .slice B1 y.rp.length d1, .slice B2 y.pw.length d2, .slice B3 y.id.length d3], SX.Ent.blk g2 61 #[.slice A0 xs.length c0, .slice A1 x.rp.length c1, .slice A2 x.pw.length c2, .slice A3 x.id.length c3]]) (fun i => x.pw.length - i) 0 Z.b6 ⟨⟨Nat.zero_le _, hq, rfl⟩, hs⟩ ?_
  clear hs
  rintro i w9 ⟨⟨hi, hq, ht⟩, hs⟩
  refine Z.only [2, 3, 6] rfl ?_
  refine Z.seq ?_
  refine Z.g182 ?_
  refine Z.g21 ?_
  refine Z.g130 ?_
  refine Z.g227 ?_
  refine Z.only [2, 3, 6, 63] rfl ?_
  refine Z.g313 ?_
  refine Z.cond rfl (fun hc9 => ?_) (fun hc9 => ?_)
  · (try simp at hc9)
    have hxi : x.pw[i]? = some (elt x.pw (i : Int)) := by rw [elt_get Z.b9]; exact List.getElem?_eq_getElem Z.b9
    have hyi : y.pw[i]? = some (elt y.pw (i : Int)) := by rw [elt_get Z.b9]; exact List.getElem?_eq_getElem Z.b9
    obtain ⟨b, off, rfl, hb1, hx2⟩ := Z.Sl.some h2 Z.b65
    obtain ⟨b', off', rfl, hb2, hy2⟩ := Z.Sl.some k2 Z.b65
    refine Z.g91 ?_
    refine Z.g99 ?_
    clear hs; intro wd11 hs
    refine Z.t 0 rfl rfl rfl (by rfl) Z.b4 ⟨_, hs, Z.b2⟩ (Z.Yd.fieldA (m := 2) rfl Z.b4) ?_
    refine Z.t 1 rfl rfl rfl (by rfl) Z.b4 ⟨_, hs, Z.b2⟩ Z.b29 ?_
    refine Z.tb [2] Z.b4 rfl ⟨_, hs, Z.b2⟩ rfl ?_
    refine Z.t 3 rfl rfl rfl (by rfl) Z.b4 ⟨_, hs, Z.b2⟩ (Z.Yd.elem rfl rfl Tryz.underlying34 Tryz.sizeOf3 (fun hG => ⟨Z.b3, Z.b3⟩)) ?_
    refine Z.t 4 rfl rfl rfl (by rfl) Z.b4 ⟨_, hs, Z.b2⟩ (Z.Yd.load rfl Tryz.isAgg3 (fun _ => Z.cellS hx2 rfl Z.b9 Z.b9)) ?_
    refine Z.t 5 rfl rfl rfl (by rfl) Z.b4 ⟨_, hs, Z.b2⟩ (Z.Yd.fieldA (m := 2) rfl Z.b4) ?_
    refine Z.t 6 rfl rfl rfl (by rfl) Z.b4 ⟨_, hs, Z.b2⟩ Z.b29 ?_
    refine Z.tb [7] Z.b4 rfl ⟨_, hs, Z.b2⟩ rfl ?_
    refine Z.g174 ?_
    refine Z.t 9 rfl rfl rfl (by rfl) Z.b4 ⟨_, hs, Z.b2⟩ (Z.Yd.load rfl Tryz.isAgg3 (fun _ => Z.cellS hy2 rfl Z.b9 Z.b9)) ?_
    refine Z.tb [10] Z.b4 rfl ⟨_, hs, Z.b2⟩ rfl ?_
    refine Z.g68 ?_
    refine Z.only [2, 3, 6, 76] rfl ?_
    refine Z.g313 ?_
    refine Z.cond rfl (fun hc11 => ?_) (fun hc11 => ?_)
    · (try simp at hc11)
      refine Z.g120 ?_
      refine Z.g62 ?_
      repeat (first | refine Z.rthen ?_ | refine Z.rblock ?_ | refine Z.rscope ?_)
      refine Z.g52 ?_
      refine ⟨_, rfl, congrArg Value.bool ?_, hs.sub (List.nil_sublist _)⟩
      first
      | exact (decide_eq_true ⟨hq.1, hq.2.1, hq.2.2.1, by rwa [List.take_of_length_le Z.b9, List.take_of_length_le Z.b9] at ht⟩).symm
      | exact (decide_eq_false fun h ↦ at_ne hxi hyi hc16 h.2.2.2).symm
      | exact (decide_eq_false fun h ↦ at_ne hxi hyi hc11 h.2.2.1).symm
      | exact (decide_eq_false fun h ↦ at_ne hpi hqi (fun e ↦ by subst e; simp at hc6) h.2.1).symm
      | exact (decide_eq_false fun h ↦ by
          rcases hc1 with ((e | e) | e) | e
          · exact e h.1
          · exact e (by rw [h.2.1])
          · exact e (by rw [h.2.2.1])
          exact e (by rw [h.2.2.2])).symm
    (try simp at hc11)
    refine Z.g71 ?_
    refine Z.g226 ?_
    refine Z.only [2, 3, 6] rfl ?_
    refine Z.g313 ?_
    exact Z.again (i + 1) Z.b16 ⟨⟨by omega, hq, tk_eq ht hxi hyi hc11⟩, hs⟩ Z.b9
  (try simp at hc9)
  refine Z.g11 ?_
  refine Z.g60 ?_
  replace hq : x.sd = y.sd ∧ x.rp = y.rp ∧ x.pw = y.pw ∧ x.id.length = y.id.length := ⟨hq.1, hq.2.1, by rwa [List.take_of_length_le Z.b9, List.take_of_length_le Z.b9] at ht, hq.2.2.2⟩
  refine Z.g264 ?_
  refine Z.only [2, 3, 7] rfl ?_
  refine Z.g210 ?_
  refine Z.loopk (ι := Nat) [2, 3] rfl (fun i => [(7, [], .int .i64 (i : Int))]) (fun i wr => (i ≤ x.id.length ∧ (x.sd = y.sd ∧ x.rp = y.rp ∧ x.pw = y.pw ∧ x.id.length = y.id.length) ∧ x.id.take i = y.id.take i) ∧ SX.St w [] wr [SX.Ent.blk g3 61 #[.slice B0 ys.length d0, .slice B1 y.rp.length d1, .slice B2 y.pw.length d2, .slice B3 y.id.length d3], SX.Ent.blk g2 61 #[.slice A0 xs.length c0, .slice A1 x.rp.length c1, .slice A2 x.pw.length c2, .slice A3 x.id.length c3]]) (fun i => x.id.length - i) 0 Z.b6 ⟨⟨Nat.zero_le _, hq, rfl⟩, hs⟩ ?_
  clear hs
  rintro i w14 ⟨⟨hi, hq, ht⟩, hs⟩
  refine Z.only [2, 3, 7] rfl ?_
  refine Z.seq ?_
  refine Z.g182 ?_
  refine Z.g106 ?_
  refine Z.g1 ?_
  refine Z.only [2, 3, 7, 81] rfl ?_
  refine Z.g313 ?_
  refine Z.cond rfl (fun hc14 => ?_) (fun hc14 => ?_)
  · (try simp at hc14)
    have hxi : x.id[i]? = some (elt x.id (i : Int)) := by rw [elt_get Z.b9]; exact List.getElem?_eq_getElem Z.b9
    have hyi : y.id[i]? = some (elt y.id (i : Int)) := by rw [elt_get Z.b9]; exact List.getElem?_eq_getElem Z.b9
    obtain ⟨b, off, rfl, hb1, hx2⟩ := Z.Sl.some h3 Z.b65
    obtain ⟨b', off', rfl, hb2, hy2⟩ := Z.Sl.some k3 Z.b65
    refine Z.g91 ?_
    refine Z.g99 ?_
    clear hs; intro wd16 hs
    refine Z.t 0 rfl rfl rfl (by rfl) Z.b4 ⟨_, hs, Z.b2⟩ (Z.Yd.fieldA (m := 3) rfl Z.b4) ?_
    refine Z.t 1 rfl rfl rfl (by rfl) Z.b4 ⟨_, hs, Z.b2⟩ Z.b53 ?_
    refine Z.tb [2] Z.b4 rfl ⟨_, hs, Z.b2⟩ rfl ?_
    refine Z.t 3 rfl rfl rfl (by rfl) Z.b4 ⟨_, hs, Z.b2⟩ (Z.Yd.elem rfl rfl Tryz.underlying59 Tryz.sizeOf123 (fun hG => ⟨Z.b3, Z.b3⟩)) ?_
    refine Z.t 4 rfl rfl rfl (by rfl) Z.b4 ⟨_, hs, Z.b2⟩ (Z.Yd.load rfl Tryz.isAgg123 (fun _ => Z.cellS hx2 rfl Z.b9 Z.b9)) ?_
    refine Z.t 5 rfl rfl rfl (by rfl) Z.b4 ⟨_, hs, Z.b2⟩ (Z.Yd.fieldA (m := 3) rfl Z.b4) ?_
    refine Z.t 6 rfl rfl rfl (by rfl) Z.b4 ⟨_, hs, Z.b2⟩ Z.b53 ?_
    refine Z.tb [7] Z.b4 rfl ⟨_, hs, Z.b2⟩ rfl ?_
    refine Z.t 8 rfl rfl rfl (by rfl) Z.b4 ⟨_, hs, Z.b2⟩ (Z.Yd.elem rfl rfl Tryz.underlying59 Tryz.sizeOf123 (fun hG => ⟨Z.b3, Z.b3⟩)) ?_
    refine Z.t 9 rfl rfl rfl (by rfl) Z.b4 ⟨_, hs, Z.b2⟩ (Z.Yd.load rfl Tryz.isAgg123 (fun _ => Z.cellS hy2 rfl Z.b9 Z.b9)) ?_
    refine Z.tb [10] Z.b4 rfl ⟨_, hs, Z.b2⟩ rfl ?_
    refine Z.g68 ?_
    refine Z.only [2, 3, 7, 94] rfl ?_
    refine Z.g313 ?_
    refine Z.cond rfl (fun hc16 => ?_) (fun hc16 => ?_)
    · (try simp at hc16)
      refine Z.g120 ?_
      refine Z.g62 ?_
      repeat (first | refine Z.rthen ?_ | refine Z.rblock ?_ | refine Z.rscope ?_)
      refine Z.g52 ?_
      refine ⟨_, rfl, congrArg Value.bool ?_, hs.sub (List.nil_sublist _)⟩
      first
      | exact (decide_eq_true ⟨hq.1, hq.2.1, hq.2.2.1, by rwa [List.take_of_length_le Z.b9, List.take_of_length_le Z.b9] at ht⟩).symm
      | exact (decide_eq_false fun h ↦ at_ne hxi hyi hc16 h.2.2.2).symm
      | exact (decide_eq_false fun h ↦ at_ne hxi hyi hc11 h.2.2.1).symm
      | exact (decide_eq_false fun h ↦ at_ne hpi hqi (fun e ↦ by subst e; simp at hc6) h.2.1).symm
      | exact (decide_eq_false fun h ↦ by
          rcases hc1 with ((e | e) | e) | e
          · exact e h.1
          · exact e (by rw [h.2.1])
          · exact e (by rw [h.2.2.1])
          exact e (by rw [h.2.2.2])).symm
    (try simp at hc16)
    refine Z.g71 ?_
    refine Z.g226 ?_
    refine Z.only [2, 3, 7] rfl ?_
    refine Z.g313 ?_
    exact Z.again (i + 1) Z.b16 ⟨⟨by omega, hq, tk_eq ht hxi hyi hc16⟩, hs⟩ Z.b9
  (try simp at hc14)
  refine Z.g244 ?_
  refine Z.g52 ?_
  refine ⟨_, rfl, congrArg Value.bool ?_, hs.sub (List.nil_sublist _)⟩
  first
  | exact (decide_eq_true ⟨hq.1, hq.2.1, hq.2.2.1, by rwa [List.take_of_length_le Z.b9, List.take_of_length_le Z.b9] at ht⟩).symm
  | exact (decide_eq_false fun h ↦ at_ne hxi hyi hc16 h.2.2.2).symm
  | exact (decide_eq_false fun h ↦ at_ne hxi hyi hc11 h.2.2.1).symm
  | exact (decide_eq_false fun h ↦ at_ne hpi hqi (fun e ↦ by subst e; simp at hc6) h.2.1).symm
  | exact (decide_eq_false fun h ↦ by
      rcases hc1 with ((e | e) | e) | e
      · exact e h.1
      · exact e (by rw [h.2.1])
      · exact e (by rw [h.2.2.1])
      exact e (by rw [h.2.2.2])).symm
end Go.Proofs.YtbojkoiopkaciaaGreat

/- The MAC entity: the law's small functions. -/
namespace Go.Proofs.YtbojkoiopkaciaaGreat
open Go.RowKit
set_option linter.unusedSimpArgs false
set_option linter.unusedVariables false
--newlaws

theorem build_ok {m : MaV} (hm : m.ok) {now n : Int} {sd : List Prt} : (buildV m now n sd).1.ok := by
  unfold buildV
  split
  · exact hm
  rename_i h1
  have h1 : okBu m now n sd := Classical.not_not.1 h1
  split
  · exact hm
  split
  · exact hm
  have hr : (buE m now n sd).1.ok ∧ (buE m now n sd).1.now ≤ now := by
    unfold buE
    split
    · refine ⟨hm.r.elsV _ _, ?_⟩
      have h3 := hm.rn
      have h4 := h1.1.2
      unfold elsV
      split
      · show (elM m.r now (n - buN sd)).now ≤ now
        unfold elM
        split
        · exact Int.le_of_eq elM1_now.1
        exact Int.le_of_eq elM1_now.1
      show m.r.now ≤ now
      omega
    exact ⟨hm.r, by have := hm.rn; have := h1.1.2.1; show m.r.now ≤ now; omega⟩
  exact ⟨hm.b, hr.1, by have := hm.bn; have := h1.1.2.1; show m.b.now ≤ now; omega, hr.2, by have := hm.ln; have := h1.1.2.1; show 0 ≤ now; omega, h1.1.2.2⟩
theorem build_l (m : MaV) (now n : Int) (sd : List Prt) : (buildV m now n sd).1.b = m.b ∧ (buildV m now n sd).1.up = m.up := by
  unfold buildV
  split
  · exact ⟨rfl, rfl⟩
  split
  · exact ⟨rfl, rfl⟩
  split <;> exact ⟨rfl, rfl⟩
theorem plan_l (m : MaV) (now n head : Int) (dem : List Int) : (planV m now n head dem).1.b.l = m.b.l ∧ (planV m now n head dem).1.up = m.up := by
  unfold planV
  split
  · refine ⟨?_, rfl⟩
    show (plD m now n head dem).1.l = m.b.l
    unfold plD
    rw [(divV_l _ _ _).1]
    unfold tickV
    split <;> rfl
  exact ⟨rfl, rfl⟩
theorem plan_len {m : MaV} (hm : m.ok) {now n head : Int} {dem : List Int} : (planV m now n head dem).2.1.length ≤ 1000 := by
  unfold planV
  split
  · rename_i h
    show (List.map _ _).length ≤ 1000
    rw [List.length_map, (plan_out hm h).1]
    have := hm.b.pos
    omega
  exact Nat.zero_le _
def ByP (r : List Prt) : Prop := ∀ p ∈ r, ∀ x ∈ p.2, 0 ≤ x ∧ x < 256
theorem bld_byP {size : Int} {r : List Prt} (h : ByP r) (hv : vldP false r = true) : ∀ x ∈ (bldV size r).1, 0 ≤ x ∧ x < 256 := by
  have e : (r.map fun p => (⟨p.1, none, 0, p.2⟩ : MpV)).map MpV.plain = r := by rw [List.map_map]; exact List.map_id _
  have := bld_by (size := size) (ps := r.map fun p => (⟨p.1, none, 0, p.2⟩ : MpV)) (fun q hq => by obtain ⟨p, hp, rfl⟩ := List.mem_map.1 hq; exact h p hp) (by rw [e]; exact hv)
  rw [e] at this
  exact this
theorem build_by {m : MaV} (hm : m.ok) {now n : Int} {sd : List Prt} (h : ByP sd) : ∀ x ∈ (buildV m now n sd).2.1, 0 ≤ x ∧ x < 256 := by
  unfold buildV
  split
  · intro x hx; cases hx
  rename_i h1
  have h1 : okBu m now n sd := Classical.not_not.1 h1
  split
  · intro x hx; cases hx
  split
  · intro x hx; cases hx
  refine bld_byP ?_ (by rw [vldP_ctl buE_ctl]; exact h1.2.2)
  intro p hp
  rcases List.mem_append.1 hp with hp | hp
  · unfold buE at hp
    split at hp
    · exact elsV_byts m.r hm.r _ _ p hp
    cases hp
  exact h p hp
theorem mx_plan (g gb gr : Nat) (C : Option Addr) (kc : Nat) (sv so : Value) (m : MaV) (now n head : Int) (D : Option Addr) (nd cd : Nat) (dem : List Int) (w : World) (hs : SX.St w (SX.idsOf (maE g gb gr C kc sv so m)) w (maE g gb gr C kc sv so m)) (hm : m.ok)
    (hC : Sx w (SX.idsOf (maE g gb gr C kc sv so m)) C (m.b.l.flatMap LgV.cells)) (hD : Sx w (SX.idsOf (maE g gb gr C kc sv so m)) D (ints .i64 dem)) (hdl : dem.length = nd) (hnd : nd ≤ 1000) :
    Calls Tryz.prog 16 #[.pointer (some ⟨g, 0, none⟩), .int .i64 now, .int .i64 n, .int .i64 head, .slice D nd cd] w (SX.Ret fun v w' => PlR g gb gr C kc sv so (planV m now n head dem) (SX.idsOf (maE g gb gr C kc sv so m)) w v w') := by
  cases hup : m.up with
  | true => exact mx_plan_up g gb gr C kc sv so m now n head D nd cd dem w hs hm hup hC hD hdl hnd
  | false => exact mx_plan_dn g gb gr C kc sv so m now n head D nd cd dem w hs hm hup hC hD hdl hnd
theorem mx_build (g gb gr : Nat) (C : Option Addr) (kc : Nat) (sv so : Value) (m : MaV) (now n : Int) (A : Option Addr) (nn c : Nat) (ps : List MpV) (w : World) (hs : SX.St w (SX.idsOf (maE g gb gr C kc sv so m)) w (maE g gb gr C kc sv so m)) (hm : m.ok)
    (hx : Sx w (SX.idsOf (maE g gb gr C kc sv so m)) A (ps.flatMap MpV.cells)) (hB : ∀ q ∈ ps, Sx w (SX.idsOf (maE g gb gr C kc sv so m)) q.B (ints .u8 q.l)) (hby : ∀ q ∈ ps, ∀ y ∈ q.l, 0 ≤ y ∧ y < 256) (hl : ps.length = nn) (hn : nn ≤ 90) (hf : ∀ q ∈ ps, q.l.length ≤ 100000) :
    Calls Tryz.prog 23 #[.pointer (some ⟨g, 0, none⟩), .int .i64 now, .int .i64 n, .slice A nn c] w (SX.Ret fun v w' => BuR g gb gr C kc sv so (buildV m now n (ps.map MpV.plain)) (SX.idsOf (maE g gb gr C kc sv so m)) w v w') := by
  cases hup : m.up with
  | true => exact mx_build_up g gb gr C kc sv so m now n A nn c ps w hs hm hup hx hB hby hl hn hf
  | false => exact mx_build_dn g gb gr C kc sv so m now n A nn c ps w hs hm hup hx hB hby hl hn hf
theorem num29 (e : Int) (w : World) : Calls Tryz.prog 13 #[.int .i64 e] w (SX.Ret fun v w' => v = .int .i64 e ∧ SX.St w [] w' []) := by
  have hs := SX.St.start w
  refine Z.enter Tryz.func13 rfl Tryz.ntmps13 rfl rfl ?_
  refine Z.g241 ?_
  refine Z.g31 ?_
  refine Z.g33 ?_
  refine Z.g52 ?_
  exact ⟨_, rfl, rfl, hs⟩
theorem same29 (A B : Option Addr) (n c k d : Nat) (xs ys : List Int) (w : World) (hA : Sl w A (ints .i64 xs)) (hB : Sl w B (ints .i64 ys)) (hl : xs.length = n) (hk : ys.length = k) (hn : n ≤ 1000) :
    Calls Tryz.prog 35 #[.slice A n c, .slice B k d] w (SX.Ret fun v w' => v = .bool (decide (xs = ys)) ∧ SX.St w [] w' []) := by
  have hs := SX.St.start w
  refine Z.enter Tryz.func35 rfl Tryz.ntmps35 rfl rfl ?_
  refine Z.g243 ?_
  refine Z.g123 ?_
  refine Z.g16 ?_
  refine Z.g64 ?_
  refine Z.g227 ?_
  refine Z.only [0, 1, 10] rfl ?_
  refine Z.g313 ?_
  refine Z.cond rfl (fun hc1 => ?_) (fun hc1 => ?_)
  · (try simp at hc1)
    have hne : ¬ xs = ys := fun h => by subst h; omega
    refine Z.g120 ?_
    refine Z.g62 ?_
    repeat (first | refine Z.rthen ?_ | refine Z.rblock ?_ | refine Z.rscope ?_)
    refine Z.g52 ?_
    exact ⟨_, rfl, by rw [decide_eq_false hne], hs⟩
  (try simp at hc1)
  have hnk : n = k := by omega
  refine Z.g183 ?_
  refine Z.g1 ?_
  refine Z.only [0, 1, 5] rfl ?_
  refine Z.g210 ?_
  refine Z.loopk (ι := Nat) [0, 1] rfl (fun i => [(5, [], .int .i64 (i : Int))]) (fun i wr => (i ≤ n ∧ xs.take i = ys.take i) ∧ SX.St w [] wr []) (fun i => n - i) 0 Z.b6 ⟨⟨by omega, rfl⟩, hs⟩ ?_
  clear hs
  rintro i w4 ⟨⟨hi, ht⟩, hs⟩
  refine Z.only [0, 1, 5] rfl ?_
  refine Z.seq ?_
  refine Z.g0 ?_
  refine Z.g22 ?_
  refine Z.g227 ?_
  refine Z.only [0, 1, 5, 14] rfl ?_
  refine Z.g313 ?_
  refine Z.cond rfl (fun hc4 => ?_) (fun hc4 => ?_)
  · (try simp at hc4)
    have hxi : xs[i]? = some (elt xs (i : Int)) := by rw [elt_get Z.b9]; exact List.getElem?_eq_getElem Z.b9
    have hyi : ys[i]? = some (elt ys (i : Int)) := by rw [elt_get Z.b9]; exact List.getElem?_eq_getElem Z.b9
    obtain ⟨b, off, rfl, hb1, hx2⟩ := Z.Sl.some hA Z.b65
    obtain ⟨b', off', rfl, hb2, hy2⟩ := Z.Sl.some hB Z.b65
    refine Z.g91 ?_
    refine Z.g99 ?_
    clear hs; intro wd6 hs
    refine Z.tb [0, 1] Z.b4 rfl ⟨_, hs, Z.b2⟩ rfl ?_
    refine Z.t 2 rfl rfl rfl (by rfl) Z.b4 ⟨_, hs, Z.b2⟩ (Z.Yd.elem rfl rfl Tryz.underlying34 Tryz.sizeOf3 (fun hG => ⟨Z.b3, Z.b3⟩)) ?_
    refine Z.t 3 rfl rfl rfl (by rfl) Z.b4 ⟨_, hs, Z.b2⟩ (Z.Yd.load rfl Tryz.isAgg3 (fun _ => Z.cellS hx2 rfl Z.b9 Z.b9)) ?_
    refine Z.tb [4, 5] Z.b4 rfl ⟨_, hs, Z.b2⟩ rfl ?_
    refine Z.t 6 rfl rfl rfl (by rfl) Z.b4 ⟨_, hs, Z.b2⟩ (Z.Yd.elem rfl rfl Tryz.underlying34 Tryz.sizeOf3 (fun hG => ⟨Z.b3, Z.b3⟩)) ?_
    refine Z.t 7 rfl rfl rfl (by rfl) Z.b4 ⟨_, hs, Z.b2⟩ (Z.Yd.load rfl Tryz.isAgg3 (fun _ => Z.cellS hy2 rfl Z.b9 Z.b9)) ?_
    refine Z.tb [8] Z.b4 rfl ⟨_, hs, Z.b2⟩ rfl ?_
    refine Z.g68 ?_
    refine Z.only [0, 1, 5, 25] rfl ?_
    refine Z.g313 ?_
    refine Z.cond rfl (fun hc6 => ?_) (fun hc6 => ?_)
    · (try simp at hc6)
      have hne : ¬ xs = ys := fun h => by
        rw [h] at hc6
        simp at hc6
      refine Z.g120 ?_
      refine Z.g62 ?_
      repeat (first | refine Z.rthen ?_ | refine Z.rblock ?_ | refine Z.rscope ?_)
      refine Z.g52 ?_
      exact ⟨_, rfl, by rw [decide_eq_false hne], hs⟩
    (try simp at hc6)
    refine Z.g71 ?_
    refine Z.g226 ?_
    refine Z.only [0, 1, 5] rfl ?_
    refine Z.g313 ?_
    refine Z.again (i + 1) Z.b16 ⟨⟨by omega, ?_⟩, hs⟩ Z.b9
    rw [List.take_add_one, List.take_add_one, hxi, hyi, ht]
    simp_all
  (try simp at hc4)
  refine Z.g244 ?_
  refine Z.g52 ?_
  rw [List.take_of_length_le Z.b9, List.take_of_length_le Z.b9] at ht
  exact ⟨_, rfl, by rw [decide_eq_true ht], hs⟩
set_option maxHeartbeats 1000000 in
set_option maxRecDepth 100000 in
theorem plans29 (g gb gr : Nat) (C : Option Addr) (kc : Nat) (sv so : Value) (m : MaV) (now n head dm want no : Int) (w : World) (hs : SX.St w (SX.idsOf (maE g gb gr C kc sv so m)) w (maE g gb gr C kc sv so m)) (hm : m.ok)
    (hC : Sx w (SX.idsOf (maE g gb gr C kc sv so m)) C (m.b.l.flatMap LgV.cells)) :
    Calls Tryz.prog 25 #[.pointer (some ⟨g, 0, none⟩), .int .i64 now, .int .i64 n, .int .i64 head, .int .i64 dm, .int .i64 want, .int .i64 no] w (SX.Ret fun v w' => v = .bool (decide ((planV m now n head [dm]).2 = (if no ≠ 0 then [] else [want], no))) ∧ SX.St w (SX.idsOf (maE g gb gr C kc sv so m)) w' (maE g gb gr C kc sv so (planV m now n head [dm]).1)) := by
  obtain ⟨R, hR⟩ : ∃ R, planV m now n head [dm] = R := ⟨_, rfl⟩
  have hlen : R.2.1.length ≤ 1000 := by rw [← hR]; exact plan_len hm
  refine Z.enter Tryz.func25 rfl Tryz.ntmps25 rfl rfl ?_
  refine Z.g120 ?_
  refine Z.only [0, 1, 2, 3, 4, 5, 6] rfl ?_
  refine Z.g30 ?_
  refine Z.lb 5 rfl ?_
  refine Z.g3 ?_
  refine Z.g58 ?_
  clear hs; intro g23 w23 hs
  replace hs : SX.St w _ _ (maE g gb gr C kc sv so m ++ [SX.Ent.blk g23 3 #[.int .i64 dm]]) := SX.St.rot (L1 := [_]) hs
  refine Z.g3 ?_
  refine Z.ZO.call rfl rfl (by rfl) rfl rfl Tryz.call16 rfl (mx_plan g gb gr C kc sv so m now n head (some ⟨g23, 0, none⟩) 1 1 [dm] _ hs.lend hm (hC.lent hs) (Z.blk_lentj hs (j := 0) rfl) rfl Z.b12) ?_
  rintro v1_6 w1_6 ⟨ov, rfl, hz⟩
  rw [hR] at hz
  rw [hR]
  replace hs := hs.regain hz
  obtain ⟨Ao, co, rfl, -, -, -⟩ := SX.row_slv hs (j := 0) rfl
  refine Z.g212 ?_
  refine Z.only [5, 6, 15, 16] rfl ?_
  refine Z.g234 ?_
  refine Z.only [5, 6, 15, 16, 28] rfl ?_
  refine Z.g313 ?_
  refine Z.cond rfl (fun hc2 => ?_) (fun hc2 => ?_)
  · (try simp at hc2)
    refine Z.g182 ?_
    refine Z.g16 ?_
    refine Z.g22 ?_
    refine Z.split (s := 32) rfl (fun hsp32 => ?_) (fun hsp32 => ?_)
    · refine Z.yes (s := 32) (b := true) rfl hsp32 rfl ?_
      (try simp at hsp32)
      refine Z.g64 ?_
      refine Z.yes (s := 32) (b := true) rfl rfl rfl ?_
      refine Z.g117 ?_
      refine Z.g51 ?_
      rintro v3_5 w3_5 ⟨rfl, hy⟩
      replace hs := Z.w1 (hs.call hy); clear hy
      refine Z.g22 ?_
      refine Z.yes (s := 32) (b := true) rfl rfl rfl ?_
      refine Z.g15 ?_
      refine Z.g1 ?_
      refine Z.only [14] rfl ?_
      refine Z.g6 ?_
      repeat (first | refine Z.rthen ?_ | refine Z.rblock ?_ | refine Z.rscope ?_)
      refine Z.g52 ?_
      exact ⟨_, rfl, by congr 1; rw [Bool.eq_iff_iff]; simp [Prod.ext_iff, hc2, hsp32], hs.sub ((List.sublist_append_left _ _).cons _)⟩
    refine Z.yes (s := 32) (b := false) rfl hsp32 rfl ?_
    (try simp at hsp32)
    refine Z.g2 ?_
    refine Z.g43 ?_
    refine Z.g13 ?_
    refine Z.g1 ?_
    refine Z.only [14] rfl ?_
    refine Z.g6 ?_
    repeat (first | refine Z.rthen ?_ | refine Z.rblock ?_ | refine Z.rscope ?_)
    refine Z.g52 ?_
    exact ⟨_, rfl, by congr 1; rw [Bool.eq_iff_iff]; simp [Prod.ext_iff, hc2, hsp32], hs.sub ((List.sublist_append_left _ _).cons _)⟩
  (try simp at hc2)
  refine Z.g151 ?_
  refine Z.g63 ?_
  refine Z.g58 ?_
  clear hs; intro g40 w40 hs
  refine Z.g3 ?_
  refine Z.ZO.call rfl rfl (by rfl) rfl rfl Tryz.call35 rfl (same29 Ao (some ⟨g40, 0, none⟩) _ co 1 1 R.2.1 [want] _ (hs.slm Z.b0) (hs.blkSl Z.b0) rfl rfl hlen) ?_
  rintro v4_3 w4_3 ⟨rfl, hy⟩
  replace hs := Z.w1 (hs.call hy); clear hy
  refine Z.g64 ?_
  refine Z.split (s := 42) rfl (fun hsp42 => ?_) (fun hsp42 => ?_)
  · refine Z.yes (s := 42) (b := true) rfl hsp42 rfl ?_
    (try simp at hsp42)
    refine Z.g64 ?_
    refine Z.yes (s := 42) (b := true) rfl rfl rfl ?_
    refine Z.g117 ?_
    refine Z.g51 ?_
    rintro v4_6 w4_6 ⟨rfl, hy⟩
    replace hs := Z.w1 (hs.call hy); clear hy
    refine Z.g64 ?_
    refine Z.yes (s := 42) (b := true) rfl rfl rfl ?_
    refine Z.g15 ?_
    refine Z.g1 ?_
    refine Z.only [14] rfl ?_
    refine Z.g6 ?_
    refine Z.g52 ?_
    exact ⟨_, rfl, by congr 1; rw [Bool.eq_iff_iff]; simp [Prod.ext_iff, hc2, hsp42], hs.sub (((List.sublist_append_left _ _).cons _).cons _)⟩
  refine Z.yes (s := 42) (b := false) rfl hsp42 rfl ?_
  (try simp at hsp42)
  refine Z.g193 ?_
  refine Z.g1 ?_
  refine Z.only [14] rfl ?_
  refine Z.g6 ?_
  refine Z.g52 ?_
  exact ⟨_, rfl, by congr 1; rw [Bool.eq_iff_iff]; simp [Prod.ext_iff, hc2, hsp42], hs.sub (((List.sublist_append_left _ _).cons _).cons _)⟩
set_option maxHeartbeats 1000000 in
set_option maxRecDepth 100000 in
theorem builds29 (g gb gr : Nat) (C : Option Addr) (kc : Nat) (sv so : Value) (m : MaV) (now n : Int) (s : ByteArray) (no : Int) (A : Option Addr) (nn c : Nat) (ps : List MpV) (w : World) (hs : SX.St w (SX.idsOf (maE g gb gr C kc sv so m)) w (maE g gb gr C kc sv so m)) (hm : m.ok)
    (hx : Sx w (SX.idsOf (maE g gb gr C kc sv so m)) A (ps.flatMap MpV.cells)) (hB : ∀ q ∈ ps, Sx w (SX.idsOf (maE g gb gr C kc sv so m)) q.B (ints .u8 q.l)) (hby : ∀ q ∈ ps, ∀ y ∈ q.l, 0 ≤ y ∧ y < 256) (hl : ps.length = nn) (hn : nn ≤ 90) (hf : ∀ q ∈ ps, q.l.length ≤ 100000) :
    Calls Tryz.prog 19 #[.pointer (some ⟨g, 0, none⟩), .int .i64 now, .int .i64 n, .string s, .int .i64 no, .slice A nn c] w (SX.Ret fun v w' => v = .bool (((Z.strOf (buildV m now n (ps.map MpV.plain)).2.1).toList == s.toList) && decide ((buildV m now n (ps.map MpV.plain)).2.2 = no)) ∧ SX.St w (SX.idsOf (maE g gb gr C kc sv so m)) w' (maE g gb gr C kc sv so (buildV m now n (ps.map MpV.plain)).1)) := by
  obtain ⟨R, hR⟩ : ∃ R, buildV m now n (ps.map MpV.plain) = R := ⟨_, rfl⟩
  refine Z.enter Tryz.func19 rfl Tryz.ntmps19 rfl rfl ?_
  refine Z.g120 ?_
  refine Z.only [0, 1, 2, 3, 4, 5] rfl ?_
  refine Z.g30 ?_
  refine Z.lb 4 rfl ?_
  refine Z.g3 ?_
  refine Z.ZO.call rfl rfl (by rfl) rfl rfl Tryz.call23 rfl (mx_build g gb gr C kc sv so m now n A nn c ps _ hs hm hx hB hby hl hn hf) ?_
  rintro v1_4 w1_4 ⟨ov, rfl, hs⟩
  rw [hR] at hs
  rw [hR]
  obtain ⟨Ao, co, rfl, -, -, -⟩ := SX.row_slv hs (j := 0) rfl
  refine Z.g212 ?_
  refine Z.only [3, 4, 13, 14] rfl ?_
  refine Z.g30 ?_
  refine Z.g64 ?_
  refine Z.l rfl rfl (by rfl) (Z.keepS hs) (Z.Yd.b2s rfl Tryz.underlying48 Tryz.underlying5 Tryz.underlying9 rfl (fun W hW => by obtain ⟨L', hR', hsub⟩ := hW; exact hR'.slm (hsub _ Z.b0))) ?_
  refine Z.g64 ?_
  refine Z.l rfl rfl (by rfl) (Z.keepS hs) (Z.Yd.strEq rfl rfl) ?_
  refine Z.g64 ?_
  refine Z.split (s := 27) rfl (fun hsp27 => ?_) (fun hsp27 => ?_)
  · refine Z.yes (s := 27) (b := true) rfl hsp27 rfl ?_
    (try simp at hsp27)
    refine Z.g64 ?_
    refine Z.yes (s := 27) (b := true) rfl rfl rfl ?_
    refine Z.g117 ?_
    refine Z.g51 ?_
    rintro v2_6 w2_6 ⟨rfl, hy⟩
    replace hs := Z.w1 (hs.call hy); clear hy
    refine Z.g22 ?_
    refine Z.yes (s := 27) (b := true) rfl rfl rfl ?_
    refine Z.g15 ?_
    refine Z.g1 ?_
    refine Z.only [12] rfl ?_
    refine Z.g6 ?_
    refine Z.g52 ?_
    exact ⟨_, rfl, by congr 1; rw [Bool.eq_iff_iff]; simp [hsp27], hs.tl⟩
  refine Z.yes (s := 27) (b := false) rfl hsp27 rfl ?_
  (try simp at hsp27)
  refine Z.g2 ?_
  refine Z.g43 ?_
  refine Z.g13 ?_
  refine Z.g1 ?_
  refine Z.only [12] rfl ?_
  refine Z.g6 ?_
  refine Z.g52 ?_
  exact ⟨_, rfl, by congr 1; rw [Bool.eq_iff_iff]; simp [hsp27], hs.tl⟩
end Go.Proofs.YtbojkoiopkaciaaGreat

/- The MAC entity: the examples hold. -/
namespace Go.Proofs.YtbojkoiopkaciaaGreat
open Go.RowKit
set_option linter.unusedSimpArgs false
set_option linter.unusedVariables false
--newlaws

def k29l : List LgV := [⟨3, 1, 10, 100, 2⟩]
def k29m0 : MaV := newM k29l 0 0 0 0 false
def k29m1 : MaV := (planV k29m0 1 20 0 [50]).1
def k29m2 : MaV := (planV k29m1 1 2 0 [50]).1
def k29m3 : MaV := (planV k29m2 0 20 0 [50]).1
def k29m4 : MaV := (buildV k29m3 1 5 [(3, [1, 2])]).1
def k29m5 : MaV := (buildV k29m4 1 2 [(3, [1, 2])]).1
def k29m6 : MaV := (buildV k29m5 1 5 []).1
def k29m7 : MaV := (buildV k29m6 1 5 [(4, [1])]).1
def k29u0 : MaV := newM k29l 0 0 0 0 true
def k29u1 : MaV := (planV k29u0 1 20 5 [50]).1
theorem k29s : okSet k29l := by decide +kernel
theorem k29c : okC 0 0 0 0 := by decide +kernel
theorem e29_1 : (planV k29m0 1 20 0 [50]).2 = ([17], 0) := by decide +kernel
theorem e29_2 : (planV k29m1 1 2 0 [50]).2 = ([0], 0) := by decide +kernel
theorem e29_3 : (planV k29m2 0 20 0 [50]).2 = ([], 2) := by decide +kernel
theorem e29_8 : (recV k29m7 [63, 61, 3, 7, 1, 2]).1 = 0 ∧ sameC (recV k29m7 [63, 61, 3, 7, 1, 2]).2 ⟨[(3, [1, 2])], [⟨false, 0, 7, 0, 0, 0⟩], [], []⟩ := by decide +kernel
theorem e29_9 : (planV k29u0 1 20 5 [50]).2 = ([13], 0) := by decide +kernel
theorem blk_lentm {w0 w : World} {M : List Nat} {L1 L2 : List SX.Ent} {g T : Nat} {cs : Array Value} (hs : SX.St w0 M w (L1 ++ L2)) (hm : SX.Ent.blk g T cs ∈ L2) : Sx w (SX.idsOf L1) (some ⟨g, 0, none⟩) cs.toList := by
  obtain ⟨j, hj⟩ := List.getElem?_of_mem hm
  exact Z.blk_lentj hs hj
theorem St.mid {w0 w : World} {M : List Nat} {L1 L2 : List SX.Ent} {e : SX.Ent} (hs : SX.St w0 M w (e :: (L1 ++ L2))) : SX.St w0 M w (L1 ++ (e :: L2)) := hs.perm List.perm_middle
theorem recGo_sd {m : MaV} : ∀ (r : List Prt) (x : CtV), (∀ p ∈ (recGo m r x).2.sd, p ∈ x.sd ∨ p ∈ r) ∧ (recGo m r x).2.rp.length ≤ x.rp.length + r.length ∧ (recGo m r x).2.pw.length ≤ x.pw.length + r.length ∧ (recGo m r x).2.id.length ≤ x.id.length + r.length ∧ (recGo m r x).2.sd.length ≤ x.sd.length + r.length
  | [], x => ⟨fun p hp => .inl hp, Nat.le_refl _, Nat.le_refl _, Nat.le_refl _, Nat.le_refl _⟩
  | p :: r, x => by
    rw [recGo]
    split
    · exact ⟨fun p hp => (by cases hp), Nat.zero_le _, Nat.zero_le _, Nat.zero_le _, Nat.zero_le _⟩
    obtain ⟨h1, h2, h3, h4, h5⟩ := recGo_sd (m := m) r (recS m x p).2
    have key : (∀ q ∈ (recS m x p).2.sd, q ∈ x.sd ∨ q = p) ∧ (recS m x p).2.rp.length ≤ x.rp.length + 1 ∧ (recS m x p).2.pw.length ≤ x.pw.length + 1 ∧ (recS m x p).2.id.length ≤ x.id.length + 1 ∧ (recS m x p).2.sd.length ≤ x.sd.length + 1 := by
      by_cases hc : ctlN p.1 = 0
      · rw [recS_no hc]
        split
        · refine ⟨fun q hq => ?_, by simp, by simp, by simp, by simp⟩
          rcases List.mem_append.1 hq with h | h
          · exact .inl h
          exact .inr (by simpa using h)
        exact ⟨fun q hq => .inl hq, by simp, by simp, by simp, by simp⟩
      obtain ⟨k1, k2, k3, k4⟩ := recS_ctl (m := m) (x := x) hc
      exact ⟨fun q hq => .inl (by rwa [k1] at hq), k4, k2, k3, by rw [k1]; omega⟩
    obtain ⟨k1, k2, k3, k4, k5⟩ := key
    refine ⟨fun q hq => ?_, by simp only [List.length_cons]; omega, by simp only [List.length_cons]; omega, by simp only [List.length_cons]; omega, by simp only [List.length_cons]; omega⟩
    rcases h1 q hq with h | h
    · rcases k1 q h with h' | h'
      · exact .inl h'
      exact .inr (by rw [h']; exact List.mem_cons_self ..)
    exact .inr (List.mem_cons_of_mem _ h)
theorem rec_bd (m : MaV) (l : List Int) : (∀ p ∈ (recV m l).2.sd, p ∈ (parV l).2) ∧ (recV m l).2.rp.length ≤ 16385 ∧ (recV m l).2.pw.length ≤ 16385 ∧ (recV m l).2.id.length ≤ 16385 ∧ (recV m l).2.sd.length ≤ 16385 := by
  have hc := par_cnt l
  unfold recV
  split
  · exact ⟨fun p hp => (by cases hp), Nat.zero_le _, Nat.zero_le _, Nat.zero_le _, Nat.zero_le _⟩
  obtain ⟨h1, h2, h3, h4, h5⟩ := recGo_sd (m := m) (parV l).2 CtV.nil
  have e : CtV.nil.rp.length = 0 ∧ CtV.nil.pw.length = 0 ∧ CtV.nil.id.length = 0 ∧ CtV.nil.sd.length = 0 := ⟨rfl, rfl, rfl, rfl⟩
  refine ⟨fun p hp => ?_, by omega, by omega, by omega, by omega⟩
  rcases h1 p hp with h | h
  · cases h
  exact h
theorem rec_ctq {w0 W : World} {M : List Nat} {L : List SX.Ent} {m : MaV} {l : List Int} {s0 s1 s2 s3 : Value} {xs : List MpV} {qs : List (MpV × Nat)} (hb : ∀ x ∈ l, 0 ≤ x ∧ x < 256) (hs : SX.St w0 M W L) (hp : xs.map MpV.plain = (recV m l).2.sd) (hm : ∀ q ∈ xs, q ∈ qs.map Prod.fst)
    (hL : ∀ e ∈ ([SX.Ent.row s0 77 2 xs.length (xs.flatMap MpV.cells), SX.Ent.row s1 86 6 (recV m l).2.rp.length ((recV m l).2.rp.flatMap RepV.cells), SX.Ent.row s2 3 1 (recV m l).2.pw.length (ints .i64 (recV m l).2.pw), SX.Ent.row s3 123 1 (recV m l).2.id.length (ints .u64 (recV m l).2.id)] ++ rowsQ qs), e ∈ L) : CtQ W [s0, s1, s2, s3] xs (recV m l).2 := by
  obtain ⟨j0, h0⟩ := List.getElem?_of_mem (hL (SX.Ent.row s0 77 2 xs.length (xs.flatMap MpV.cells)) Z.b17)
  obtain ⟨j1, h1⟩ := List.getElem?_of_mem (hL (SX.Ent.row s1 86 6 (recV m l).2.rp.length ((recV m l).2.rp.flatMap RepV.cells)) Z.b17)
  obtain ⟨j2, h2⟩ := List.getElem?_of_mem (hL (SX.Ent.row s2 3 1 (recV m l).2.pw.length (ints .i64 (recV m l).2.pw)) Z.b17)
  obtain ⟨j3, h3⟩ := List.getElem?_of_mem (hL (SX.Ent.row s3 123 1 (recV m l).2.id.length (ints .u64 (recV m l).2.id)) Z.b17)
  obtain ⟨A0, c0, rfl, -, -, -⟩ := SX.row_slv hs h0
  obtain ⟨A1, c1, rfl, -, -, -⟩ := SX.row_slv hs h1
  obtain ⟨A2, c2, rfl, -, -, -⟩ := SX.row_slv hs h2
  obtain ⟨A3, c3, rfl, -, -, -⟩ := SX.row_slv hs h3
  refine ⟨A0, c0, A1, c1, A2, c2, A3, c3, rfl, hp, hs.slm (List.mem_of_getElem? h0), hs.slm (List.mem_of_getElem? h1), hs.slm (List.mem_of_getElem? h2), hs.slm (List.mem_of_getElem? h3), fun q hq => rowsQ_sl hs (fun e he => hL e (List.mem_append_right _ he)) q (hm q hq), fun q hq z hz => ?_⟩
  have h5 : q.plain ∈ (recV m l).2.sd := by rw [← hp]; exact List.mem_map_of_mem hq
  exact hb z (par_mem l _ ((rec_bd m l).1 _ h5) z hz)
theorem en_of {w0 W : World} {M : List Nat} {L : List SX.Ent} {g gb gr : Nat} {C : Option Addr} {kc : Nat} {sv so : Value} {m : MaV} (hs : SX.St w0 M W L) (hL : ∀ e ∈ maE g gb gr C kc sv so m, e ∈ L) : EnX W [] g gb m :=
  bkX (hs.bkR (sv := sv) (so := so) (m := m.b) (fun e he => hL e (List.mem_cons_of_mem _ (List.mem_append_left _ he)))) (hs.celOf (cs := [_, _, _, _]) (hL _ (List.mem_cons_self ..)))
theorem pl29 (g gb gr : Nat) (C : Option Addr) (kc : Nat) (sv so : Value) (m : MaV) (now n head dm want no : Int) (w : World) (hs : SX.St w (SX.idsOf (maE g gb gr C kc sv so m)) w (maE g gb gr C kc sv so m)) (hm : m.ok)
    (hC : Sx w (SX.idsOf (maE g gb gr C kc sv so m)) C (m.b.l.flatMap LgV.cells)) (hv : (planV m now n head [dm]).2 = (if no ≠ 0 then [] else [want], no)) :
    Calls Tryz.prog 25 #[.pointer (some ⟨g, 0, none⟩), .int .i64 now, .int .i64 n, .int .i64 head, .int .i64 dm, .int .i64 want, .int .i64 no] w (SX.Ret fun v w' => v = .bool true ∧ SX.St w (SX.idsOf (maE g gb gr C kc sv so m)) w' (maE g gb gr C kc sv so (planV m now n head [dm]).1)) := by
  have := plans29 g gb gr C kc sv so m now n head dm want no w hs hm hC
  rwa [decide_eq_true hv] at this
theorem bu29 (g gb gr : Nat) (C : Option Addr) (kc : Nat) (sv so : Value) (m : MaV) (now n : Int) (s : ByteArray) (no : Int) (A : Option Addr) (nn c : Nat) (ps : List MpV) (sd : List Prt) (w : World) (hs : SX.St w (SX.idsOf (maE g gb gr C kc sv so m)) w (maE g gb gr C kc sv so m)) (hm : m.ok)
    (hx : Sx w (SX.idsOf (maE g gb gr C kc sv so m)) A (ps.flatMap MpV.cells)) (hB : ∀ q ∈ ps, Sx w (SX.idsOf (maE g gb gr C kc sv so m)) q.B (ints .u8 q.l)) (hby : ∀ q ∈ ps, ∀ y ∈ q.l, 0 ≤ y ∧ y < 256) (hl : ps.length = nn) (hn : nn ≤ 90) (hf : ∀ q ∈ ps, q.l.length ≤ 100000) (hsd : ps.map MpV.plain = sd) (hv : (((Z.strOf (buildV m now n sd).2.1).toList == s.toList) && decide ((buildV m now n sd).2.2 = no)) = true) :
    Calls Tryz.prog 19 #[.pointer (some ⟨g, 0, none⟩), .int .i64 now, .int .i64 n, .string s, .int .i64 no, .slice A nn c] w (SX.Ret fun v w' => v = .bool true ∧ SX.St w (SX.idsOf (maE g gb gr C kc sv so m)) w' (maE g gb gr C kc sv so (buildV m now n sd).1)) := by
  have := builds29 g gb gr C kc sv so m now n s no A nn c ps w hs hm hx hB hby hl hn hf
  rwa [hsd, hv] at this
def ex4 (B : Option Addr) : MpV := ⟨4, B, 1, [1]⟩
theorem ex_b {B : Option Addr} : ∀ y ∈ (exS B).l, 0 ≤ y ∧ y < 256 := by show ∀ y ∈ [(1 : Int), 2], 0 ≤ y ∧ y < 256; decide
theorem ex_n {B : Option Addr} : (exS B).l.length ≤ 100000 := by show 2 ≤ 100000; decide
theorem ex_b4 {B : Option Addr} : ∀ y ∈ (ex4 B).l, 0 ≤ y ∧ y < 256 := by show ∀ y ∈ [(1 : Int)], 0 ≤ y ∧ y < 256; decide
theorem ex_n4 {B : Option Addr} : (ex4 B).l.length ≤ 100000 := by show 1 ≤ 100000; decide
theorem k29o0 : k29m0.ok := newM_ok k29s k29c
theorem k29o1 : k29m1.ok := plan_ok k29o0
theorem k29o2 : k29m2.ok := plan_ok k29o1
theorem k29o3 : k29m3.ok := plan_ok k29o2
theorem k29o4 : k29m4.ok := build_ok k29o3
theorem k29o5 : k29m5.ok := build_ok k29o4
theorem k29o6 : k29m6.ok := build_ok k29o5
theorem k29o7 : k29m7.ok := build_ok k29o6
theorem k29p0 : k29u0.ok := newM_ok k29s k29c
theorem k29p1 : k29u1.ok := plan_ok k29p0
theorem k29l1 : k29m1.b.l = k29l := (plan_l _ _ _ _ _).1
theorem k29l2 : k29m2.b.l = k29l := (plan_l _ _ _ _ _).1.trans k29l1
theorem ex_one4 {B : Option Addr} {P : MpV → Prop} (h : P (ex4 B)) : ∀ q ∈ [ex4 B], P q := fun q hq => by rw [List.mem_singleton.1 hq]; exact h
theorem St.mid2 {w0 w : World} {M : List Nat} {L1 L2 : List SX.Ent} {e f : SX.Ent} (hs : SX.St w0 M w (e :: f :: (L1 ++ L2))) : SX.St w0 M w (L1 ++ (e :: f :: L2)) := hs.perm (List.perm_append_comm_assoc L1 [e, f] L2)
theorem ex_one {B : Option Addr} {P : MpV → Prop} (h : P (exS B)) : ∀ q ∈ [exS B], P q := fun q hq => by rw [List.mem_singleton.1 hq]; exact h
set_option maxHeartbeats 4000000 in
set_option maxRecDepth 100000 in
theorem works29 (w : World) : Calls Tryz.prog 10 #[] w (SX.Ret fun v w' => v = .bool true ∧ SX.St w [] w' []) := by
  have hs := SX.St.start w
  refine Z.enter Tryz.func10 rfl Tryz.ntmps10 rfl rfl ?_
  refine Z.g120 ?_
  refine Z.only [] rfl ?_
  refine Z.g30 ?_
  refine Z.l rfl rfl (by rfl) (Z.keepS hs) (Z.Yd.buildL [(0, 1), (1, 1), (2, 1), (3, 1), (4, 1)] [.int .i64 0, .int .i64 0, .int .i64 0, .int .i64 0, .int .i64 0] rfl rfl Z.b15) ?_
  refine Z.g3 ?_
  refine Z.ZO.litL (T' := 75) [(0, 5)] [.int .i64 0, .int .i64 0, .int .i64 0, .int .i64 0, .int .i64 0] rfl rfl (by rfl) rfl rfl Z.b19 hs ?_
  clear hs; intro g10 w10 hs
  refine Z.l rfl rfl (by rfl) (Z.keepS hs) (Z.Yd.buildL [(0, 1), (1, 4), (5, 1)] [.slice none 0 0, .int .i64 0, .int .i64 0, .int .i64 0, .int .i64 0, .bool false] rfl rfl Z.b15) ?_
  refine Z.g3 ?_
  refine Z.ZO.alloc rfl rfl (by rfl) Tryz.zeroValue26 rfl hs ?_
  clear hs; intro g1 w1 hs
  refine Z.g124 ?_
  clear hs; intro ws hs
  replace hs := Z.w0 hs
  replace hs := Z.w3 hs
  refine Z.g314 ?_
  refine Z.only [1] rfl ?_
  refine Z.g30 ?_
  refine Z.g3 ?_
  refine Z.ZO.litL (T' := 5) [(0, 1), (1, 1)] [.int .u8 0, .int .u8 0] rfl rfl (by rfl) rfl rfl Z.b19 hs ?_
  clear hs; intro g12 w12 hs
  refine Z.g204 ?_
  refine Z.g254 ?_
  clear hs; intro g2 w2 hs
  refine Z.g124 ?_
  clear hs; intro ws hs
  replace hs := Z.w0 hs
  replace hs := Z.w3 hs
  refine Z.g314 ?_
  refine Z.only [1, 2] rfl ?_
  refine Z.g30 ?_
  refine Z.l rfl rfl (by rfl) (Z.keepS hs) (Z.Yd.loadA _ rfl Tryz.isAgg26 (fun _ => Z.cellsB (cs := [.slice (some ⟨g10, 0, none⟩) 1 1, .int .i64 0, .int .i64 0, .int .i64 0, .int .i64 0, .bool false]) Z.b0) (by exact Tryz.sizeOf26)) ?_
  refine Z.g3 ?_
  refine Z.ZO.call rfl rfl (by rfl) rfl rfl Tryz.call11 rfl (mx_new_ok (some ⟨g10, 0, none⟩) 1 1 k29l 0 0 0 0 false _ (by have h0 := hs.blkSl (g := g10) Z.b0; exact h0) rfl Z.b12 Z.b12 k29s k29c) ?_
  rintro v3_1 w3_1 ⟨gm, gb, gr, C, kc, sv, so, rfl, hy⟩
  replace hs := Z.w1 (hs.call hy); clear hy
  simp only [List.append_assoc, List.cons_append, List.nil_append] at hs
  replace hs : SX.St w [] _ (maE gm gb gr C kc sv so k29m0 ++ (_ :: _)) := hs
  refine Z.g212 ?_
  refine Z.only [1, 2, 3, 4] rfl ?_
  refine Z.g159 ?_
  refine Z.g51 ?_
  rintro v4_1 w4_1 ⟨rfl, hy⟩
  replace hs := Z.w1 (hs.call hy); clear hy
  refine Z.g22 ?_
  refine Z.yes (s := 22) (b := false) rfl (Z.b17) rfl ?_
  refine Z.g64 ?_
  refine Z.yes (s := 22) (b := false) rfl rfl rfl ?_
  refine Z.g117 ?_
  refine Z.ZO.call rfl rfl (by rfl) rfl rfl Tryz.call25 rfl (pl29 gm gb gr C kc sv so k29m0 1 20 0 50 17 0 _ hs.lend k29o0 (Z.row_lentv hs (j := 0) rfl) e29_1) ?_
  rintro v4_5 w4_5 ⟨rfl, hz⟩
  replace hs : SX.St w [] _ (maE gm gb gr C kc sv so k29m1 ++ _) := hs.regain hz
  refine Z.g64 ?_
  refine Z.yes (s := 22) (b := false) rfl rfl rfl ?_
  refine Z.g13 ?_
  refine Z.g64 ?_
  refine Z.yes (s := 27) (b := false) rfl (Z.b17) rfl ?_
  refine Z.g64 ?_
  refine Z.yes (s := 27) (b := false) rfl rfl rfl ?_
  refine Z.g117 ?_
  refine Z.ZO.call rfl rfl (by rfl) rfl rfl Tryz.call25 rfl (pl29 gm gb gr C kc sv so k29m1 1 2 0 50 0 0 _ hs.lend k29o1 (by rw [k29l1]; exact Z.row_lentv hs (j := 0) rfl) e29_2) ?_
  rintro v4_10 w4_10 ⟨rfl, hz⟩
  replace hs : SX.St w [] _ (maE gm gb gr C kc sv so k29m2 ++ _) := hs.regain hz
  refine Z.g64 ?_
  refine Z.yes (s := 27) (b := false) rfl rfl rfl ?_
  refine Z.g13 ?_
  refine Z.g64 ?_
  refine Z.yes (s := 32) (b := false) rfl (Z.b17) rfl ?_
  refine Z.g64 ?_
  refine Z.yes (s := 32) (b := false) rfl rfl rfl ?_
  refine Z.g117 ?_
  refine Z.ZO.call rfl rfl (by rfl) rfl rfl Tryz.call25 rfl (pl29 gm gb gr C kc sv so k29m2 0 20 0 50 0 2 _ hs.lend k29o2 (by rw [k29l2]; exact Z.row_lentv hs (j := 0) rfl) e29_3) ?_
  rintro v4_15 w4_15 ⟨rfl, hz⟩
  replace hs : SX.St w [] _ (maE gm gb gr C kc sv so k29m3 ++ _) := hs.regain hz
  refine Z.g64 ?_
  refine Z.yes (s := 32) (b := false) rfl rfl rfl ?_
  refine Z.g13 ?_
  refine Z.g314 ?_
  refine Z.only [1, 2, 3, 36] rfl ?_
  refine Z.g313 ?_
  refine Z.cond rfl (fun h => absurd h Z.b17) (fun hc4 => ?_)
  refine Z.skip ?_
  refine Z.g123 ?_
  refine Z.g103 ?_
  refine Z.g3 ?_
  refine Z.g69 ?_
  clear hs; intro g39 w39 hs
  replace hs : SX.St w [] _ (maE gm gb gr C kc sv so k29m3 ++ (_ :: _)) := St.mid hs
  refine Z.g3 ?_
  refine Z.ZO.call rfl rfl (by rfl) rfl rfl Tryz.call19 rfl (bu29 gm gb gr C kc sv so k29m3 1 5 _ 0 (some ⟨g39, 0, none⟩) 1 1 [exS (some ⟨g12, 0, none⟩)] [(3, [1, 2])] _ hs.lend k29o3 (blk_lentm hs Z.b0) (ex_one (blk_lentm hs Z.b0)) (ex_one ex_b) rfl Z.b12 (ex_one ex_n) rfl (by decide +kernel)) ?_
  rintro v6_3 w6_3 ⟨rfl, hz⟩
  replace hs : SX.St w [] _ (maE gm gb gr C kc sv so k29m4 ++ _) := hs.regain hz
  refine Z.g22 ?_
  refine Z.yes (s := 42) (b := false) rfl (Z.b17) rfl ?_
  refine Z.g64 ?_
  refine Z.g103 ?_
  refine Z.yes (s := 42) (b := false) rfl rfl rfl ?_
  refine Z.g117 ?_
  refine Z.g69 ?_
  clear hs; intro g45 w45 hs
  replace hs : SX.St w [] _ (maE gm gb gr C kc sv so k29m4 ++ (_ :: _)) := St.mid hs
  refine Z.g117 ?_
  refine Z.ZO.call rfl rfl (by rfl) rfl rfl Tryz.call19 rfl (bu29 gm gb gr C kc sv so k29m4 1 2 _ 4 (some ⟨g45, 0, none⟩) 1 1 [exS (some ⟨g12, 0, none⟩)] [(3, [1, 2])] _ hs.lend k29o4 (blk_lentm hs Z.b0) (ex_one (blk_lentm hs Z.b0)) (ex_one ex_b) rfl Z.b12 (ex_one ex_n) rfl (by decide +kernel)) ?_
  rintro v6_9 w6_9 ⟨rfl, hz⟩
  replace hs : SX.St w [] _ (maE gm gb gr C kc sv so k29m5 ++ _) := hs.regain hz
  refine Z.g64 ?_
  refine Z.yes (s := 42) (b := false) rfl rfl rfl ?_
  refine Z.g13 ?_
  refine Z.g64 ?_
  refine Z.yes (s := 49) (b := false) rfl (Z.b17) rfl ?_
  refine Z.g64 ?_
  refine Z.yes (s := 49) (b := false) rfl rfl rfl ?_
  refine Z.g117 ?_
  refine Z.ZO.call rfl rfl (by rfl) rfl rfl Tryz.call19 rfl (bu29 gm gb gr C kc sv so k29m5 1 5 _ 10 none 0 0 [] [] _ hs.lend k29o5 (fun h ↦ absurd h Z.b12) Z.b17 Z.b17 rfl Z.b12 Z.b17 rfl (by decide +kernel)) ?_
  rintro v6_14 w6_14 ⟨rfl, hz⟩
  replace hs : SX.St w [] _ (maE gm gb gr C kc sv so k29m6 ++ _) := hs.regain hz
  refine Z.g64 ?_
  refine Z.yes (s := 49) (b := false) rfl rfl rfl ?_
  refine Z.g13 ?_
  refine Z.g64 ?_
  refine Z.yes (s := 54) (b := false) rfl (Z.b17) rfl ?_
  refine Z.g64 ?_
  refine Z.yes (s := 54) (b := false) rfl rfl rfl ?_
  refine Z.g117 ?_
  refine Z.ZO.litL (T' := 5) [(0, 1)] [.int .u8 0] rfl rfl (by rfl) rfl rfl Z.b19 hs ?_
  clear hs; intro g56 w56 hs
  refine Z.g204 ?_
  refine Z.yes (s := 54) (b := false) rfl rfl rfl ?_
  refine Z.g117 ?_
  refine Z.g69 ?_
  clear hs; intro g58 w58 hs
  replace hs : SX.St w [] _ (maE gm gb gr C kc sv so k29m6 ++ (_ :: _)) := St.mid2 hs
  refine Z.g117 ?_
  refine Z.ZO.call rfl rfl (by rfl) rfl rfl Tryz.call19 rfl (bu29 gm gb gr C kc sv so k29m6 1 5 _ 2 (some ⟨g58, 0, none⟩) 1 1 [ex4 (some ⟨g56, 0, none⟩)] [(4, [1])] _ hs.lend k29o6 (blk_lentm hs Z.b0) (ex_one4 (blk_lentm hs Z.b0)) (ex_one4 ex_b4) rfl Z.b12 (ex_one4 ex_n4) rfl (by decide +kernel)) ?_
  rintro v6_22 w6_22 ⟨rfl, hz⟩
  replace hs : SX.St w [] _ (maE gm gb gr C kc sv so k29m7 ++ _) := hs.regain hz
  refine Z.g64 ?_
  refine Z.yes (s := 54) (b := false) rfl rfl rfl ?_
  refine Z.g13 ?_
  refine Z.g314 ?_
  refine Z.only [1, 2, 3, 61] rfl ?_
  refine Z.g313 ?_
  refine Z.cond rfl (fun h => absurd h Z.b17) (fun hc6 => ?_)
  refine Z.g151 ?_
  refine Z.g32 ?_
  refine Z.ZO.litL (T' := 5) [(0, 1), (1, 1), (2, 1), (3, 1), (4, 1), (5, 1)] [.int .u8 0, .int .u8 0, .int .u8 0, .int .u8 0, .int .u8 0, .int .u8 0] rfl rfl (by rfl) rfl rfl Z.b19 hs ?_
  clear hs; intro g64 w64 hs
  refine Z.g3 ?_
  refine Z.ZO.convB rfl rfl (by rfl) hs rfl Tryz.underlying48 Tryz.underlying5 Z.b1 ?_
  clear hs; intro w65 hs hsl
  simp only [List.eraseIdx_cons_zero, List.eraseIdx_cons_succ] at hs
  refine Z.g3 ?_
  refine Z.ZO.call rfl rfl (by rfl) rfl rfl Tryz.call17 rfl (mx_receive gm gb k29m7 (some ⟨g64, 0, none⟩) 6 6 [63, 61, 3, 7, 1, 2] _ (en_of (gr := gr) (C := C) (kc := kc) (sv := sv) (so := so) hs (fun e he ↦ by simp [he])) k29o7 hsl rfl Z.b12 Z.b12) ?_
  rintro v8_3 w8_3 ⟨s0, s1, s2, s3, xs, qs, rfl, hxp, hxm, hy⟩
  replace hs := Z.w1 (hs.call hy); clear hy
  have hbd := rec_bd k29m7 [63, 61, 3, 7, 1, 2]
  have hxl := congrArg List.length hxp
  rw [List.length_map] at hxl
  replace hbd : xs.length ≤ 9223372036854775807 ∧ (recV k29m7 [63, 61, 3, 7, 1, 2]).2.rp.length ≤ 1000000 ∧ (recV k29m7 [63, 61, 3, 7, 1, 2]).2.pw.length ≤ 1000000 ∧ (recV k29m7 [63, 61, 3, 7, 1, 2]).2.id.length ≤ 1000000 := by omega
  rw [e29_8.1]
  obtain ⟨B0, d0, rfl, -, -, -⟩ := SX.row_slv hs (j := 0) rfl
  obtain ⟨B1, d1, rfl, -, -, -⟩ := SX.row_slv hs (j := 1) rfl
  obtain ⟨B2, d2, rfl, -, -, -⟩ := SX.row_slv hs (j := 2) rfl
  obtain ⟨B3, d3, rfl, -, -, -⟩ := SX.row_slv hs (j := 3) rfl
  refine Z.g221 ?_
  refine Z.g3 ?_
  refine Z.ZO.alloc rfl rfl (by rfl) Tryz.zeroValue61 rfl hs ?_
  clear hs; intro g5 w5 hs
  refine Z.g124 ?_
  clear hs; intro ws hs
  replace hs := Z.w0 hs
  replace hs := Z.w3 hs
  refine Z.g1 ?_
  refine Z.only [1, 2, 5, 6] rfl ?_
  refine Z.g159 ?_
  refine Z.g51 ?_
  rintro v9_1 w9_1 ⟨rfl, hy⟩
  replace hs := Z.w1 (hs.call hy); clear hy
  refine Z.g22 ?_
  refine Z.yes (s := 72) (b := false) rfl (Z.b17) rfl ?_
  refine Z.l rfl rfl (by rfl) (Z.keepS hs) (Z.Yd.loadA _ rfl Tryz.isAgg61 (fun _ => Z.cellsB (cs := [.slice B0 _ d0, .slice B1 _ d1, .slice B2 _ d2, .slice B3 _ d3]) Z.b0) (by exact Tryz.sizeOf61)) ?_
  refine Z.g103 ?_
  refine Z.yes (s := 72) (b := false) rfl rfl rfl ?_
  refine Z.g117 ?_
  refine Z.g69 ?_
  clear hs; intro g75 w75 hs
  refine Z.l rfl rfl (by rfl) (Z.keepS hs) (Z.Yd.buildL [(0, 1), (1, 1), (2, 1), (3, 1)] [.int .i64 0, .int .i64 0, .int .i64 0, .int .i64 0] rfl rfl Z.b15) ?_
  refine Z.g136 ?_
  refine Z.yes (s := 72) (b := false) rfl rfl rfl ?_
  refine Z.g117 ?_
  refine Z.ZO.litL (T' := 86) [(0, 6)] [.bool false, .int .i64 0, .int .i64 0, .int .i64 0, .int .i64 0, .int .i64 0] rfl rfl (by rfl) rfl rfl Z.b19 hs ?_
  clear hs; intro g78 w78 hs
  refine Z.l rfl rfl (by rfl) (Z.keepS hs) (Z.Yd.buildL [(0, 1), (1, 1), (2, 1), (3, 1)] [.slice none 0 0, .slice none 0 0, .slice none 0 0, .slice none 0 0] rfl rfl Z.b15) ?_
  have hct := rec_ctq (s0 := .slice B0 xs.length d0) (s1 := .slice B1 (recV k29m7 [63, 61, 3, 7, 1, 2]).2.rp.length d1) (s2 := .slice B2 (recV k29m7 [63, 61, 3, 7, 1, 2]).2.pw.length d2) (s3 := .slice B3 (recV k29m7 [63, 61, 3, 7, 1, 2]).2.id.length d3) Z.b12 hs hxp hxm (fun e he ↦ by simp only [List.cons_append, List.nil_append, List.mem_cons] at he; rcases he with h | h | h | h | h <;> simp [h])
  refine Z.yes (s := 72) (b := false) rfl rfl rfl ?_
  refine Z.g117 ?_
  refine Z.ZO.call rfl rfl (by rfl) rfl rfl Tryz.call20 rfl (ct_same _ [.slice (some ⟨g75, 0, none⟩) 1 1, .slice (some ⟨g78, 0, none⟩) 1 1, .slice none 0 0, .slice none 0 0] xs [exS (some ⟨g12, 0, none⟩)] _ ⟨[(3, [1, 2])], [⟨false, 0, 7, 0, 0, 0⟩], [], []⟩ _ hct ⟨_, _, _, _, _, _, _, _, rfl, rfl, by have h0 := hs.blkSl (g := g75) Z.b0; exact h0, by have h0 := hs.blkSl (g := g78) Z.b0; exact h0, sl_nil23, sl_nil23, ex_one (by have h0 := hs.blkSl (g := g12) Z.b0; exact h0), ex_one ex_b⟩ hbd) ?_
  rintro v9_11 w9_11 ⟨rfl, hy⟩
  replace hs := Z.w1 (hs.call hy); clear hy
  rw [decide_eq_true e29_8.2]
  refine Z.g64 ?_
  refine Z.yes (s := 72) (b := false) rfl rfl rfl ?_
  refine Z.g13 ?_
  refine Z.g314 ?_
  refine Z.only [1, 2, 82] rfl ?_
  refine Z.g313 ?_
  refine Z.cond rfl (fun h => absurd h Z.b17) (fun hc9 => ?_)
  refine Z.g151 ?_
  replace hs := ((hs.tl.tl.tl.tl.tl.tl.tl).sub (List.sublist_append_right _ _)).sub (List.sublist_append_right _ _)
  refine Z.g118 ?_
  refine Z.g3 ?_
  refine Z.g75 ?_
  clear hs; intro ws hs
  replace hs := Z.w0 hs
  refine Z.g314 ?_
  refine Z.only [1, 2] rfl ?_
  refine Z.g30 ?_
  refine Z.l rfl rfl (by rfl) (Z.keepS hs) (Z.Yd.loadA _ rfl Tryz.isAgg26 (fun _ => Z.cellsB (cs := [.slice (some ⟨g10, 0, none⟩) 1 1, .int .i64 0, .int .i64 0, .int .i64 0, .int .i64 0, .bool true]) Z.b0) (by exact Tryz.sizeOf26)) ?_
  refine Z.g3 ?_
  refine Z.ZO.call rfl rfl (by rfl) rfl rfl Tryz.call11 rfl (mx_new_ok (some ⟨g10, 0, none⟩) 1 1 k29l 0 0 0 0 true _ (by have h0 := hs.blkSl (g := g10) Z.b0; exact h0) rfl Z.b12 Z.b12 k29s k29c) ?_
  rintro v12_1 w12_1 ⟨gn, gc, gs, C2, kc2, sv2, so2, rfl, hy⟩
  replace hs := Z.w1 (hs.call hy); clear hy
  simp only [List.append_assoc, List.cons_append, List.nil_append] at hs
  replace hs : SX.St w [] _ (maE gn gc gs C2 kc2 sv2 so2 k29u0 ++ (_ :: _)) := hs
  refine Z.g212 ?_
  refine Z.only [2, 7, 8] rfl ?_
  refine Z.g30 ?_
  refine Z.g32 ?_
  refine Z.g51 ?_
  rintro v13_1 w13_1 ⟨rfl, hy⟩
  replace hs := Z.w1 (hs.call hy); clear hy
  refine Z.g22 ?_
  refine Z.yes (s := 92) (b := true) rfl (Z.b17) rfl ?_
  refine Z.g64 ?_
  refine Z.yes (s := 92) (b := true) rfl rfl rfl ?_
  refine Z.g117 ?_
  refine Z.ZO.call rfl rfl (by rfl) rfl rfl Tryz.call25 rfl (pl29 gn gc gs C2 kc2 sv2 so2 k29u0 1 20 5 50 13 0 _ hs.lend k29p0 (Z.row_lentv hs (j := 0) rfl) e29_9) ?_
  rintro v13_5 w13_5 ⟨rfl, hz⟩
  replace hs : SX.St w [] _ (maE gn gc gs C2 kc2 sv2 so2 k29u1 ++ _) := hs.regain hz
  refine Z.g15 ?_
  refine Z.g64 ?_
  refine Z.yes (s := 96) (b := true) rfl (Z.b17) rfl ?_
  refine Z.g64 ?_
  refine Z.g103 ?_
  refine Z.yes (s := 96) (b := true) rfl rfl rfl ?_
  refine Z.g117 ?_
  refine Z.g69 ?_
  clear hs; intro g99 w99 hs
  replace hs : SX.St w [] _ (maE gn gc gs C2 kc2 sv2 so2 k29u1 ++ (_ :: _)) := St.mid hs
  refine Z.g117 ?_
  refine Z.ZO.call rfl rfl (by rfl) rfl rfl Tryz.call19 rfl (bu29 gn gc gs C2 kc2 sv2 so2 k29u1 1 8 _ 0 (some ⟨g99, 0, none⟩) 1 1 [exS (some ⟨g12, 0, none⟩)] [(3, [1, 2])] _ hs.lend k29p1 (blk_lentm hs Z.b0) (ex_one (blk_lentm hs Z.b0)) (ex_one ex_b) rfl Z.b12 (ex_one ex_n) rfl (by decide +kernel)) ?_
  rintro v13_11 w13_11 ⟨rfl, hz⟩
  replace hs := hs.regain hz
  refine Z.g15 ?_
  refine Z.g1 ?_
  refine Z.g82 ?_
  refine Z.g6 ?_
  refine Z.g52 ?_
  exact ⟨_, rfl, by simp, hs.sub (List.nil_sublist _)⟩
end Go.Proofs.YtbojkoiopkaciaaGreat

/- The MAC entity: calls, entities that New did not make. -/
namespace Go.Proofs.YtbojkoiopkaciaaGreat
open Go.RowKit
set_option linter.unusedSimpArgs false
set_option linter.unusedVariables false
--newlaws

structure Ac9 where
  what : Int
  now : Int
  n : Int
  head : Int
  D : Option Addr
  dc : Nat
  dem : List Int
  P : Option Addr
  pc : Nat
  ps : List MpV
  B : Option Addr
  bc : Nat
  bl : List Int
def Ac9.cells (x : Ac9) : List Value := [.int .i64 x.what, .int .i64 x.now, .int .i64 x.n, .int .i64 x.head, .slice x.D x.dem.length x.dc, .slice x.P x.ps.length x.pc, .slice x.B x.bl.length x.bc]
structure Ac9.good (W : World) (x : Ac9) : Prop where
  d : Sl W x.D (ints .i64 x.dem)
  p : Sl W x.P (x.ps.flatMap MpV.cells)
  q : ∀ q ∈ x.ps, Sl W q.B (ints .u8 q.l)
  y : ∀ q ∈ x.ps, ∀ z ∈ q.l, 0 ≤ z ∧ z < 256
  b : Sl W x.B (ints .u8 x.bl)
  z : ∀ z ∈ x.bl, 0 ≤ z ∧ z < 256
  m : x.ps.length ≤ maxLen
  c : x.bl.length ≤ x.bc
theorem Ac9.good.st {w W : World} {L : List SX.Ent} {x : Ac9} (h : x.good w) (hW : SX.St w [] W L) : x.good W := ⟨h.d.st hW, h.p.st hW, fun q hq => (h.q q hq).st hW, h.y, h.b.st hW, h.z, h.m, h.c⟩
def few1 (x : Ac9) : Prop := x.dem.length ≤ 10 ∧ x.ps.length ≤ 6 ∧ x.bl.length ≤ 600 ∧ ∀ q ∈ x.ps, q.l.length ≤ 300
instance (x : Ac9) : Decidable (few1 x) := by unfold few1; infer_instance
def few9 (l : List Ac9) (most : Int) : Prop := (l.length : Int) ≤ most ∧ ∀ x ∈ l, few1 x
instance (l : List Ac9) (most : Int) : Decidable (few9 l most) := by unfold few9; infer_instance
def NoE (w : World) (a : Option Addr) : Prop := a = none ∨ ∃ g ch rv lv, a = some ⟨g, 0, none⟩ ∧ Cel w g [.pointer none, ch, rv, lv]
theorem NoE.st {w W : World} {L : List SX.Ent} {a : Option Addr} (h : NoE w a) (hW : SX.St w [] W L) : NoE W a := by
  rcases h with h | ⟨g, ch, rv, lv, h, hc⟩
  · exact .inl h
  exact .inr ⟨g, ch, rv, lv, h, hc.st hW⟩
end Go.Proofs.YtbojkoiopkaciaaGreat

/- Buckets: any sequence of calls. -/
namespace Go.Proofs.YtbojkoiopkaciaaGreat
open Go.RowKit
set_option linter.unusedSimpArgs false
set_option linter.unusedVariables false
--newlaws

def runB (m : BkV) (l : List AcV) : BkV := l.foldl actBk m
theorem BkV.ok.run {m : BkV} (h : m.ok) (l : List AcV) : (runB m l).ok := by
  unfold runB
  induction l generalizing m with
  | nil => exact h
  | cons x l ih => exact ih (h.act x)
theorem rd_logical {W : World} {cs : List Value} (z : Rd Tryz.prog W 75 cs) : ∃ x : LgV, cs = x.cells ∧ True := by
  obtain ⟨hl, hf⟩ := Rd.field Tryz.underlying75 z
  have c5 : Tryz.prog.cellsOf 75 = 5 := by kernel_rfl
  have c1 : Tryz.prog.cellsOf 3 = 1 := by kernel_rfl
  rw [c5] at hl
  obtain ⟨x0, x1, x2, x3, x4, rfl⟩ := list5 hl
  obtain ⟨a, ha, -⟩ := Rd.int Tryz.underlying3 (hf 0 _ rfl)
  obtain ⟨b, hb, -⟩ := Rd.int Tryz.underlying3 (hf 1 _ rfl)
  obtain ⟨p, hp, -⟩ := Rd.int Tryz.underlying3 (hf 2 _ rfl)
  obtain ⟨q, hq, -⟩ := Rd.int Tryz.underlying3 (hf 3 _ rfl)
  obtain ⟨r, hr, -⟩ := Rd.int Tryz.underlying3 (hf 4 _ rfl)
  simp [c1] at ha hb hp hq hr
  subst ha hb hp hq hr
  exact ⟨⟨a, b, p, q, r⟩, rfl, trivial⟩
theorem rd_logicals {W : World} {A : Option Addr} {n c : Nat} (z : Rd Tryz.prog W 22 [.slice A n c]) : ∃ l : List LgV, l.length = n ∧ n ≤ c ∧ c ≤ maxLen ∧ Sl W A (l.flatMap LgV.cells) := by
  have c8 : Tryz.prog.cellsOf 75 = 5 := by kernel_rfl
  obtain ⟨xs, h1, h2, h3, -, h5⟩ := Rd.rows LgV.cells (fun _ => True) Tryz.underlying22 (by rw [c8]; decide) (fun r hr => rd_logical hr) (fun x => c8.symm) z
  exact ⟨xs, h1, h2, h3, h5⟩
end Go.Proofs.YtbojkoiopkaciaaGreat

/- The MAC entity: nil entities; readers of the arguments. -/
namespace Go.Proofs.YtbojkoiopkaciaaGreat
open Go.RowKit
set_option linter.unusedSimpArgs false
set_option linter.unusedVariables false
--newlaws

theorem sl_of1 {W : World} {T e : TypeId} {x : Value} (ht : Tryz.prog.underlying T = some (.slice e)) (z : Rd Tryz.prog W T [x]) : ∃ A n c, x = .slice A n c := by
  rcases Rd.slice ht z with h1 | ⟨a, len, cap, rows, h1, -⟩
  · exact ⟨none, 0, 0, by simpa using h1⟩
  exact ⟨some a, len, cap, by simpa using h1⟩
end Go.Proofs.YtbojkoiopkaciaaGreat

/- The MAC entity: the iterator over the channels. -/
namespace Go.Proofs.YtbojkoiopkaciaaGreat
open Go.RowKit
set_option linter.unusedSimpArgs false
set_option linter.unusedVariables false
--newlaws

def okN9 (ls : List LgV) (a b c d : Int) : Prop := okSet ls ∧ okC a b c d
instance (ls : List LgV) (a b c d : Int) : Decidable (okN9 ls a b c d) := by unfold okN9; infer_instance
theorem rd_cfg29 {W : World} {cs : List Value} (z : Rd Tryz.prog W 26 cs) : ∃ (A : Option Addr) (n k : Nat) (a b c d : Int) (up : Bool) (ls : List LgV), cs = [.slice A n k, .int .i64 a, .int .i64 b, .int .i64 c, .int .i64 d, .bool up] ∧ ls.length = n ∧ n ≤ k ∧ k ≤ maxLen ∧ Sl W A (ls.flatMap LgV.cells) := by
  obtain ⟨hl, hf⟩ := Rd.field Tryz.underlying26 z
  have c6 : Tryz.prog.cellsOf 26 = 6 := by kernel_rfl
  have c1 : Tryz.prog.cellsOf 3 = 1 := by kernel_rfl
  have cb : Tryz.prog.cellsOf 4 = 1 := by kernel_rfl
  have c2 : Tryz.prog.cellsOf 22 = 1 := by kernel_rfl
  have c4 : Tryz.prog.cellsOf 24 = 4 := by kernel_rfl
  rw [c6] at hl
  obtain ⟨x0, x1, x2, x3, x4, x5, rfl⟩ := list6 hl
  have h0 : Rd Tryz.prog W 22 (([x0, x1, x2, x3, x4, x5].drop 0).take (Tryz.prog.cellsOf 22)) := hf 0 _ rfl
  have h1 : Rd Tryz.prog W 24 (([x0, x1, x2, x3, x4, x5].drop 1).take (Tryz.prog.cellsOf 24)) := hf 1 _ rfl
  obtain ⟨up, hu⟩ := Rd.bool Tryz.underlying4 (hf 2 _ rfl)
  rw [c2] at h0
  rw [c4] at h1
  have h0' : Rd Tryz.prog W 22 [x0] := by simpa using h0
  have h1' : Rd Tryz.prog W 24 [x1, x2, x3, x4] := by simpa using h1
  obtain ⟨A, n, k, rfl⟩ := sl_of1 Tryz.underlying22 h0'
  obtain ⟨ls, l1, l2, l3, l4⟩ := rd_logicals h0'
  obtain ⟨hl2, hf2⟩ := Rd.field Tryz.underlying24 h1'
  obtain ⟨a, ha, -⟩ := Rd.int Tryz.underlying3 (hf2 0 _ rfl)
  obtain ⟨b, hb, -⟩ := Rd.int Tryz.underlying3 (hf2 1 _ rfl)
  obtain ⟨c, hc, -⟩ := Rd.int Tryz.underlying3 (hf2 2 _ rfl)
  obtain ⟨d, hd, -⟩ := Rd.int Tryz.underlying3 (hf2 3 _ rfl)
  simp [c1] at ha hb hc hd
  simp [cb] at hu
  subst ha hb hc hd hu
  exact ⟨A, n, k, a, b, c, d, up, ls, rfl, l1, l2, l3, l4⟩
end Go.Proofs.YtbojkoiopkaciaaGreat

/- The document's entity: New, Receive. -/
namespace Go.Proofs.YtbojkoiopkaciaaGreat
open Go.RowKit
set_option linter.unusedSimpArgs false
set_option linter.unusedVariables false
--newlaws

theorem recS_pw {m : MaV} {x : CtV} {p : Prt} (h : p.1 = 26) : recS m x p = (powE p.1 p.2, { x with pw := x.pw ++ [powV p.1 p.2] }) := by unfold recS; rw [if_pos h, h]
theorem recS_rp {m : MaV} {x : CtV} {p : Prt} (h : p.1 = 29 ∨ p.1 = 30) : recS m x p = (repE p.1 p.2, { x with rp := x.rp ++ [repV p.1 p.2] }) := by unfold recS; rw [if_neg Z.b9, if_neg Z.b9, if_pos h]
theorem rep_good {p : Prt} (h : parG p) (h2 : p.1 = 29 ∨ p.1 = 30) : repE p.1 p.2 = 0 := by
  have hc : ctlN p.1 ≠ 0 := by unfold ctlN; rcases h2 with e | e <;> rw [e] <;> decide
  have hl := h.2 hc
  unfold repE opE
  unfold ctlN at hl
  rcases h2 with e | e <;> rw [e] at hl ⊢ <;> simp at hl ⊢ <;> omega
def RdR (R : Int × CtV) (A : Option Addr) (l : List Int) (w : World) (v : Value) (w' : World) : Prop := ∃ (s0 s1 s2 s3 : Value) (xs : List MpV), v = .tuple #[.agg #[s0, s1, s2, s3], .int .i64 R.1] ∧ xs.map MpV.plain = R.2.sd ∧ (∀ q ∈ xs, ∀ W, Sl W A (ints .u8 l) → Sl W q.B (ints .u8 q.l)) ∧ SX.St w [] w' [SX.Ent.row s0 77 2 xs.length (xs.flatMap MpV.cells), SX.Ent.row s1 86 6 R.2.rp.length (R.2.rp.flatMap RepV.cells), SX.Ent.row s2 3 1 R.2.pw.length (ints .i64 R.2.pw), SX.Ent.row s3 123 1 R.2.id.length (ints .u64 R.2.id)]
theorem RdR.fail {e : Int} {A : Option Addr} {l : List Int} {w w' : World} (hs : SX.St w [] w' []) : RdR (e, CtV.nil) A l w (.tuple #[.agg #[.slice none 0 0, .slice none 0 0, .slice none 0 0, .slice none 0 0], .int .i64 e]) w' := ⟨_, _, _, _, [], rfl, rfl, by simp, (((hs.nil _ 1).nil _ 1).nil _ 6).nil _ 2⟩
theorem mx_new_bad (A : Option Addr) (n k : Nat) (ls : List LgV) (a b c d : Int) (up : Bool) (w : World) (hx : Sl w A (ls.flatMap LgV.cells)) (hl : ls.length = n) (hn : n ≤ 1000) (hk : n ≤ k) (h : ¬ okN9 ls a b c d) :
    Calls Tryz.prog 11 #[cfgV A n k a b c d up] w (SX.Ret fun v w' => v = .tuple #[.pointer none, .int .i64 2] ∧ SX.St w [] w' []) := by
  by_cases h1 : okSet ls
  · exact mx_new_badR A n k ls a b c d up w hx hl hn hk h1 (fun h2 => h ⟨h1, h2⟩)
  exact mx_new_badB A n k ls a b c d up w hx hl hn hk h1
end Go.Proofs.YtbojkoiopkaciaaGreat

/- The MAC entity: contents of arbitrary blocks. -/
namespace Go.Proofs.YtbojkoiopkaciaaGreat
open Go.RowKit
set_option linter.unusedSimpArgs false
set_option linter.unusedVariables false
--newlaws

end Go.Proofs.YtbojkoiopkaciaaGreat

/- Buckets: the iterator over the channels in the order of service. -/
namespace Go.Proofs.YtbojkoiopkaciaaGreat
open Go.RowKit
set_option linter.unusedSimpArgs false
set_option linter.unusedVariables false
--newlaws

end Go.Proofs.YtbojkoiopkaciaaGreat

/- Buckets: objects that are nil or zero. -/
namespace Go.Proofs.YtbojkoiopkaciaaGreat
open Go.RowKit
set_option linter.unusedSimpArgs false
set_option linter.unusedVariables false
--newlaws

def NonP (w : World) (p : Option Addr) : Prop := p = none ∨ ∃ g, p = some ⟨g, 0, none⟩ ∧ Cel w g [.slice none 0 0, .slice none 0 0, .int .i64 0]
theorem NonP.st {w W : World} {L : List SX.Ent} {p : Option Addr} (h : NonP w p) (hW : SX.St w [] W L) : NonP W p := by
  rcases h with h | ⟨g, h, hc⟩
  · exact .inl h
  exact .inr ⟨g, h, hc.st hW⟩
end Go.Proofs.YtbojkoiopkaciaaGreat

/- Buckets: copies, and the equality of objects. -/
namespace Go.Proofs.YtbojkoiopkaciaaGreat
open Go.RowKit
set_option linter.unusedSimpArgs false
set_option linter.unusedVariables false
--newlaws

theorem NewB.sl {Bn B : Option Addr} {dn d : Nat} {m m' : BkV} {Ln L : List SX.Ent} (h : NewB Bn B dn d m m' Ln) {w0 w : World} {M : List Nat} (hs : SX.St w0 M w L) (hL : ∀ e ∈ Ln, e ∈ L) (hB : SX.Ent.row (.slice B m.l.length d) 3 1 m.l.length (ints .i64 m.b) ∈ L) : Sl w Bn (ints .i64 m'.b) := by
  rcases h with rfl | ⟨rfl, rfl, rfl, e⟩
  · exact hs.slm (hL _ List.mem_cons_self)
  rw [e]; exact hs.slm hB
end Go.Proofs.YtbojkoiopkaciaaGreat

/- Buckets: sums, plainly. -/
namespace Go.Proofs.YtbojkoiopkaciaaGreat
open Go.RowKit
set_option linter.unusedSimpArgs false
set_option linter.unusedVariables false

def sm (l : List Int) : Nat → Int
  | 0 => 0
  | k + 1 => sm l k + elt l (k : Int)
theorem sm_le {l : List Int} {c : Int} : ∀ {k : Nat}, (∀ i : Nat, i < k → elt l (i : Int) ≤ c) → sm l k ≤ k * c
  | 0, _ => by simp [sm]
  | k + 1, h => by
    have h1 := sm_le (l := l) (c := c) (k := k) fun i hi => h i Z.b9
    have h2 := h k Z.b9
    have h3 : ((k + 1 : Nat) : Int) * c = k * c + c := by rw [Int.natCast_add, Int.add_mul]; simp
    simp only [sm]
    omega
theorem sm_ge {l : List Int} : ∀ {k : Nat}, (∀ i : Nat, i < k → 0 ≤ elt l (i : Int)) → 0 ≤ sm l k
  | 0, _ => by simp [sm]
  | k + 1, h => by
    have h1 := sm_ge (l := l) (k := k) fun i hi => h i Z.b9
    have h2 := h k Z.b9
    simp only [sm]
    omega
theorem sm_mono {l l' : List Int} : ∀ {k : Nat}, (∀ i : Nat, i < k → elt l (i : Int) ≤ elt l' (i : Int)) → sm l k ≤ sm l' k
  | 0, _ => by simp [sm]
  | k + 1, h => by
    have h1 := sm_mono (l := l) (l' := l') (k := k) fun i hi => h i Z.b9
    have h2 := h k Z.b9
    simp only [sm]
    omega
theorem sm_eq {l l' : List Int} : ∀ {k : Nat}, (∀ i : Nat, i < k → elt l (i : Int) = elt l' (i : Int)) → sm l k = sm l' k
  | 0, _ => by simp [sm]
  | k + 1, h => by
    have h1 := sm_eq (l := l) (l' := l') (k := k) fun i hi => h i Z.b9
    have h2 := h k Z.b9
    simp only [sm]
    omega
theorem sm_set {l : List Int} {i : Nat} (v : Int) (hi : i < l.length) : ∀ {k : Nat}, sm (l.set i v) k = if i < k then sm l k + (v - elt l (i : Int)) else sm l k
  | 0 => by simp [sm]
  | k + 1 => by
    have h1 := sm_set (l := l) (i := i) v hi (k := k)
    simp only [sm]
    rw [h1, elt_set hi]
    by_cases h : i < k
    · rw [if_pos h, if_neg (show ¬ i = k by omega), if_pos (show i < k + 1 by omega)]; omega
    rw [if_neg h]
    by_cases h2 : i = k
    · subst h2; rw [if_pos rfl, if_pos (show i < i + 1 by omega)]; omega
    rw [if_neg h2, if_neg (show ¬ i < k + 1 by omega)]
def so (b : List Int) : List Nat → Int
  | [] => 0
  | i :: o => elt b (i : Int) + so b o
theorem dst_out {m : BkV} {dem : List Int} {s : DvS} (hs : s.ok m dem) (r : Nat) {i j : Nat} (hi : i < m.l.length) : elt (dst r dem s i).out (j : Int) = if i = j then elt s.out (i : Int) + amt r dem s i else elt s.out (j : Int) := by
  simp only [dst]
  rw [elt_set (by rw [hs.ol]; exact hi)]
theorem rnd_mono {m : BkV} {dem : List Int} {r : Nat} : ∀ {o : List Nat} {s : DvS}, s.ok m dem → (∀ i ∈ o, i < m.l.length) → (rnd r dem s o).sz ≤ s.sz ∧ ∀ j : Nat, elt s.out (j : Int) ≤ elt (rnd r dem s o).out (j : Int)
  | [], s, _, _ => ⟨Int.le_refl _, fun j => Int.le_refl _⟩
  | i :: o, s, hs, ho => by
    have hi := ho i Z.b17
    obtain ⟨h1, h2⟩ := rnd_mono (r := r) (o := o) (hs.step r hi) fun j hj => ho j (by simp [hj])
    obtain ⟨a1, a2, a3, -⟩ := amt_bd hs r hi
    refine ⟨Int.le_trans h1 (by simp only [dst]; omega), fun j => Int.le_trans ?_ (h2 j)⟩
    rw [dst_out hs r hi]
    split
    · rename_i e; subst e; omega
    exact Int.le_refl _
theorem rnd_sum {m : BkV} {dem : List Int} {r : Nat} : ∀ {o : List Nat} {s : DvS}, s.ok m dem → (∀ i ∈ o, i < m.l.length) → sm (rnd r dem s o).out m.l.length + (rnd r dem s o).sz = sm s.out m.l.length + s.sz
  | [], s, _, _ => rfl
  | i :: o, s, hs, ho => by
    have hi := ho i Z.b17
    have h1 := rnd_sum (r := r) (o := o) (hs.step r hi) fun j hj => ho j (by simp [hj])
    show sm (rnd r dem (dst r dem s i) o).out m.l.length + (rnd r dem (dst r dem s i) o).sz = _
    rw [h1]
    simp only [dst]
    rw [sm_set _ (by rw [hs.ol]; exact hi), if_pos hi]
    omega
theorem rnd_fill {m : BkV} {dem : List Int} : ∀ {o : List Nat} {s : DvS}, s.ok m dem → (∀ i ∈ o, i < m.l.length) → (rnd 1 dem s o).sz = 0 ∨ ∀ i ∈ o, elt (rnd 1 dem s o).out (i : Int) = elt dem (i : Int)
  | [], s, _, _ => .inr Z.b17
  | i :: o, s, hs, ho => by
    have hi := ho i Z.b17
    have ho' : ∀ j ∈ o, j < m.l.length := fun j hj => ho j (by simp [hj])
    have hs1 := hs.step 1 hi
    have hs2 := hs1.fold 1 ho'
    obtain ⟨m1, m2⟩ := rnd_mono (r := 1) (o := o) hs1 ho'
    have m3 := m2 i
    have h6 := hs2.sz
    have h7 := hs2.og i hi
    have h8 := hs1.sz
    rcases rnd_fill (o := o) hs1 ho' with h | h
    · exact .inl h
    have hd : elt (dst 1 dem s i).out (i : Int) = elt s.out (i : Int) + amt 1 dem s i := by rw [dst_out hs 1 hi, if_pos rfl]
    have hz : (dst 1 dem s i).sz = s.sz - amt 1 dem s i := rfl
    have ha : amt 1 dem s i = min (elt dem (i : Int) - elt s.out (i : Int)) s.sz := rfl
    by_cases hc : elt dem (i : Int) - elt s.out (i : Int) ≤ s.sz
    · right
      intro j hj
      rcases List.mem_cons.1 hj with rfl | hj
      · show elt (rnd 1 dem (dst 1 dem s j) o).out (j : Int) = _
        omega
      exact h j hj
    left
    show (rnd 1 dem (dst 1 dem s i) o).sz = 0
    omega
theorem rounds_all {m : BkV} (hm : m.ok) {size : Int} {dem : List Int} (h : okD m size dem) : sm (rounds m size dem 2).out m.l.length = min size (sm dem m.l.length) := by
  have o1 := rounds_ok hm h 1
  have o2 := rounds_ok hm h 2
  have s0 : sm (dv0 m size).out m.l.length = 0 := by
    have h1 := sm_le (l := (dv0 m size).out) (c := 0) (k := m.l.length) fun i hi => by simp [dv0, elt, hi]
    have h2 := sm_ge (l := (dv0 m size).out) (k := m.l.length) fun i hi => by simp [dv0, elt, hi]
    omega
  have s1 : sm (rounds m size dem 1).out m.l.length + (rounds m size dem 1).sz = sm (dv0 m size).out m.l.length + size := rnd_sum (dv0_ok hm h) (ord_lt hm)
  have s2 : sm (rounds m size dem 2).out m.l.length + (rounds m size dem 2).sz = sm (rounds m size dem 1).out m.l.length + (rounds m size dem 1).sz := rnd_sum o1 (ord_lt hm)
  have hz := o2.sz
  have hle := sm_mono (l := (rounds m size dem 2).out) (l' := dem) (k := m.l.length) fun i hi => (o2.og i hi).2
  have hf : (rounds m size dem 2).sz = 0 ∨ ∀ i ∈ ordL m.l, elt (rounds m size dem 2).out (i : Int) = elt dem (i : Int) := rnd_fill o1 (ord_lt hm)
  rcases hf with h0 | h0
  · omega
  have := sm_eq (l := (rounds m size dem 2).out) (l' := dem) (k := m.l.length) fun i hi => h0 i ((mem_ordL hm.set).2 hi)
  omega
theorem lvV_at {m : BkV} (hm : m.ok) {k : Nat} (hk : k < m.l.length) : lvV m m.l[k]!.id = (elt m.b (k : Int), true) := by
  refine lvV_some (fun x hx => ?_) hk rfl
  obtain ⟨j, hj, rfl⟩ := List.mem_take_iff_getElem.1 hx
  have hjk : j < k := by omega
  have := hm.set.idne (i := j) (j := k) Z.b9 hk Z.b9
  rw [getElem!_pos m.l j Z.b9] at this
  simpa using this
end Go.Proofs.YtbojkoiopkaciaaGreat

/- The MAC entity: SDUs within the plan, plainly. -/
namespace Go.Proofs.YtbojkoiopkaciaaGreat
open Go.RowKit
set_option linter.unusedSimpArgs false
set_option linter.unusedVariables false

theorem sm_one {l : List Int} {i : Nat} : ∀ {k : Nat}, (∀ j : Nat, j < k → 0 ≤ elt l (j : Int)) → i < k → elt l (i : Int) ≤ sm l k
  | 0, _, h => by omega
  | k + 1, h, hi => by
    have h0 := sm_ge (l := l) (k := k) fun j hj => h j Z.b9
    have h1 := h k Z.b9
    simp only [sm]
    by_cases e : i = k
    · subst e; omega
    have := sm_one (l := l) (i := i) (k := k) (fun j hj => h j Z.b9) Z.b9
    omega
def hN (use : List Int) (p : Int) (i : Nat) : Int := if i < use.length then min p (elt use (i : Int)) else p
def hS (ls : List LgV) (pl use : List Int) : Nat → List Prt
  | 0 => []
  | i + 1 => hS ls pl use i ++ if 0 < hN use (elt pl (i : Int)) i then [(ls[i]!.id, List.replicate (hN use (elt pl (i : Int)) i).toNat 0)] else []
theorem hN_le {use : List Int} {p : Int} {i : Nat} : hN use p i ≤ p := by unfold hN; split <;> omega
theorem hS_mem {ls : List LgV} {pl use : List Int} : ∀ {k : Nat} {p : Prt}, p ∈ hS ls pl use k → ∃ i, i < k ∧ p.1 = ls[i]!.id ∧ 0 < p.2.length ∧ (p.2.length : Int) ≤ elt pl (i : Int) ∧ ∀ y ∈ p.2, y = 0
  | 0, p, h => by simp [hS] at h
  | k + 1, p, h => by
    rw [hS] at h
    rcases List.mem_append.1 h with h1 | h1
    · obtain ⟨i, hi, h2⟩ := hS_mem h1
      exact ⟨i, by omega, h2⟩
    split at h1
    · rename_i h0
      obtain rfl := List.mem_singleton.1 h1
      have := hN_le (use := use) (p := elt pl (k : Int)) (i := k)
      exact ⟨k, by omega, rfl, by simp only [List.length_replicate]; omega, by simp only [List.length_replicate]; omega, fun y hy => (List.mem_replicate.1 hy).2⟩
    cases h1
theorem hS_tot {ls : List LgV} {pl use out : List Int} : ∀ {k : Nat}, (∀ i : Nat, i < k → 0 ≤ elt out (i : Int) ∧ elt pl (i : Int) = max 0 (elt out (i : Int) - 3)) → totP (hS ls pl use k) ≤ sm out k
  | 0, _ => by simp [hS, totP, sm]
  | k + 1, h => by
    have h1 := hS_tot (ls := ls) (use := use) (k := k) fun i hi => h i Z.b9
    obtain ⟨h2, h3⟩ := h k Z.b9
    have h4 := hN_le (use := use) (p := elt pl (k : Int)) (i := k)
    rw [hS, totP_app]
    simp only [sm]
    split
    · have h5 := extP_bd (ls[k]!.id, List.replicate (hN use (elt pl (k : Int)) k).toNat 0)
      rw [totP_cons]
      simp only [List.length_replicate, totP, List.map_nil, List.sum_nil] at *
      omega
    simp only [totP, List.map_nil, List.sum_nil] at *
    omega
theorem vldP_sdu : ∀ {r : List Prt} {d : Bool}, (∀ p ∈ r, sduB p.1 ∧ 1 ≤ p.2.length ∧ p.2.length ≤ 32767) → vldP d r = true
  | [], _, _ => by simp [vldP]
  | p :: r, d, h => by
    obtain ⟨h1, h2⟩ := h p Z.b17
    rw [vldP_cons, if_pos h1, decide_eq_true h2, vldP_sdu fun q hq => h q (by simp [hq])]
    rfl
theorem recGo_sdu {m : MaV} : ∀ {r : List Prt} {x : CtV}, (∀ p ∈ r, sduB p.1 ∧ knowB m p.1 = true) → recGo m r x = (0, { x with sd := x.sd ++ r })
  | [], x, _ => by simp [recGo]
  | p :: r, x, h => by
    obtain ⟨h1, h2⟩ := h p Z.b17
    have e : recS m x p = (0, { x with sd := x.sd ++ [p] }) := by rw [recS_no (sdu_ctl h1), if_pos h2]
    rw [recGo, e]
    simp only [ne_eq, not_true_eq_false, ↓reduceIte]
    rw [recGo_sdu fun q hq => h q (by simp [hq])]
    simp
theorem rec_rep {m : MaV} {x : CtV} {p : Prt} (h : p.1 = 29 ∨ p.1 = 30) (hl : (p.2.length : Int) = ctlN p.1) : recS m x p = (0, { x with rp := x.rp ++ [repV p.1 p.2] }) := by
  rw [recS_rp h, rep_good ⟨.inr (by rcases h with h | h <;> rw [h] <;> decide), fun _ => hl⟩ h]
theorem rec_pow {m : MaV} {x : CtV} {h : Int} (h0 : 0 ≤ h ∧ h ≤ 63) : recS m x (26, [h]) = (0, { x with pw := x.pw ++ [powV 26 [h]] }) := by
  rw [recS_pw rfl]
  have e : powE 26 [h] = 0 := by
    unfold powE opE
    simp [num]
    omega
  rw [e]
theorem rec_el1 {m : MaV} {r : RpV} {room : Int} {rest : List Prt} {x : CtV} : recGo m (elP1 r room ++ rest) x = recGo m rest { x with rp := x.rp ++ if bufB r room then [repV (encLc (statV r room)) (encL (statV r room))] else [] } := by
  unfold elP1
  split
  · have e := rec_rep (m := m) (x := x) (p := (encLc (statV r room), encL (statV r room))) (by unfold encLc; split <;> simp) (by
      simp only [encLc, encL_size]
      split <;> rfl)
    rw [List.singleton_append, recGo, e]
    simp
  simp
theorem rec_el {m : MaV} {r : RpV} (hr : r.ok) {room : Int} {rest : List Prt} {x : CtV} : recGo m (elP r room ++ rest) x = recGo m rest { x with rp := x.rp ++ (if bufB r room then [repV (encLc (statV r room)) (encL (statV r room))] else []), pw := x.pw ++ if powB r room then [powV 26 [r.head]] else [] } := by
  unfold elP
  rw [List.append_assoc, rec_el1]
  split
  · have e := rec_pow (m := m) (x := { x with rp := x.rp ++ if bufB r room then [repV (encLc (statV r room)) (encL (statV r room))] else [] }) hr.head
    rw [List.singleton_append, recGo, e]
    simp
  simp
structure Hol (m1 : MaV) (n : Int) (sd : List Prt) (B : MaV × List Int × Int) (R : Int × CtV) : Prop where
  big : B.2.2 ≠ 10 → B.2.2 = 0 ∧ (B.2.1.length : Int) = n ∧ R.1 = 0 ∧ R.2.sd = sd ∧ R.2.id = [] ∧ R.2.rp.length ≤ 1 ∧ R.2.pw.length ≤ 1
  no : B.2.2 = 10 → sd = [] ∧ B.2.1 = []
  up : B.2.2 ≠ 10 → m1.up = true → 6 ≤ n → B.1.r.reg = false ∧ (m1.r.reg = true → R.2.rp.length = 1) ∧ R.2.pw.length = 1
theorem stat_room {r : RpV} {p q : Int} (h : 6 ≤ p) (h2 : bytesP (elP r p) ≤ q) (hp : r.pow = true) : (bufB r p ↔ bufB r q) ∧ powB r p ∧ powB r q := by
  have hb : (bufB r p) = ((r.reg = true ∨ r.per = true) ∧ 2 ≤ p) := rfl
  have e1 : ∀ room, (encL (statV r room)).length = if 1 < (gps r.b0 r.b1 r.b2 r.b3).length ∧ 4 ≤ room then 3 else 1 := fun room => by
    rw [encL_size]
    unfold statV
    split <;> rfl
  unfold elP elP1 at h2
  have h3 : powB r p := by
    refine ⟨hp, ?_⟩
    unfold elR1
    rw [e1]
    split <;> (try split) <;> omega
  rw [if_pos h3] at h2
  by_cases hc : r.reg = true ∨ r.per = true
  · have h4 : bufB r p := ⟨hc, by omega⟩
    rw [if_pos h4] at h2
    have h5 := e1 p
    simp only [bytesP, List.cons_append, List.nil_append, List.map_cons, List.map_nil, List.sum_cons, List.sum_nil, List.length_cons, List.length_nil] at h2
    rw [h5] at h2
    have h6 : bufB r q := ⟨hc, by split at h2 <;> omega⟩
    refine ⟨⟨fun _ => h6, fun _ => h4⟩, h3, hp, ?_⟩
    unfold elR1
    rw [if_pos h6, e1 q]
    split at h2 <;> split <;> omega
  have h4 : ¬ bufB r p := fun h => hc h.1
  have h6 : ¬ bufB r q := fun h => hc h.1
  rw [if_neg h4] at h2
  simp only [bytesP, List.cons_append, List.nil_append, List.map_cons, List.map_nil, List.sum_cons, List.sum_nil, List.length_cons, List.length_nil] at h2
  refine ⟨⟨fun h => absurd h h4, fun h => absurd h h6⟩, h3, hp, ?_⟩
  unfold elR1
  rw [if_neg h6]
  omega
theorem knowB_at {m : MaV} (hm : m.ok) {k : Nat} (hk : k < m.b.l.length) : knowB m m.b.l[k]!.id = true := by unfold knowB; rw [lvV_at hm.b hk]
theorem knowB_l {m m' : MaV} (h : m.b.l = m'.b.l) (id : Int) : knowB m id = knowB m' id := by
  unfold knowB lvV
  rw [h]
  split <;> rfl
theorem hol {m0 : MaV} (hm : m0.ok) (hl0 : m0.last ≤ 1) (hf : m0.r.fst = true) {n head : Int} {dem use : List Int} (hu : ∀ x ∈ use, 0 ≤ x) (h : (planV m0 1 n head dem).2.2 = 0) :
    (planV m0 1 n head dem).2.1.length = m0.b.l.length ∧ dem.length = m0.b.l.length ∧ (∀ i : Nat, i < m0.b.l.length → 0 ≤ elt (planV m0 1 n head dem).2.1 (i : Int) ∧ elt (planV m0 1 n head dem).2.1 (i : Int) ≤ elt dem (i : Int) ∧ elt (planV m0 1 n head dem).2.1 (i : Int) ≤ 16384) ∧ Hol (planV m0 1 n head dem).1 n (hS m0.b.l (planV m0 1 n head dem).2.1 use m0.b.l.length) (buildV (planV m0 1 n head dem).1 1 n (hS m0.b.l (planV m0 1 n head dem).2.1 use m0.b.l.length)) (recV m0 (buildV (planV m0 1 n head dem).1 1 n (hS m0.b.l (planV m0 1 n head dem).2.1 use m0.b.l.length)).2.1) := by
  have hok : okPl m0 1 n head dem := by
    refine Decidable.byContradiction fun hn => ?_
    unfold planV at h
    rw [if_neg hn] at h
    simp at h
  have hPok := plan_ok hm (now := 1) (n := n) (head := head) (dem := dem)
  have e : planV m0 1 n head dem = (⟨(plD m0 1 n head dem).1, m0.up, plR m0 1 head dem, 1⟩, (plD m0 1 n head dem).2.1.map (fun x => max 0 (x - 3)), 0) := if_pos hok
  obtain ⟨o1, o2⟩ := plan_out hm hok
  have hd := plan_okD hm hok
  have hN := plN_bd hm hok
  have hsum := rounds_all (hm.b.tick 1) hd
  have hog := (rounds_ok (hm.b.tick 1) hd 2).og
  have eo : (plD m0 1 n head dem).2.1 = (rounds (tickV m0.b 1).1 (plN m0 1 n head dem) (dem.map askd) 2).out := by
    unfold plD
    rw [divV, if_pos hd]
  have el : (plD m0 1 n head dem).1.l = m0.b.l := by
    have := (plan_l m0 1 n head dem).1
    rw [e] at this
    exact this
  rw [← eo, tickV_l] at hsum hog
  rw [e] at hPok ⊢
  obtain ⟨O, hO⟩ : ∃ O, (plD m0 1 n head dem).2.1 = O := ⟨_, rfl⟩
  rw [hO] at o1 o2 hsum hog hPok ⊢
  have hdl := hok.2.2.1
  have hdm := hok.2.2.2
  have hpl : ∀ i : Nat, i < m0.b.l.length → elt (O.map fun x => max 0 (x - 3)) (i : Int) = max 0 (elt O (i : Int) - 3) := fun i hi => by
    rw [elt_get Z.b41, elt_get Z.b9]
    simp
  have hle : ∀ i : Nat, i < m0.b.l.length → elt O (i : Int) ≤ askd (elt dem (i : Int)) := fun i hi => by
    have := (hog i hi).2
    rw [elt_get (l := dem.map askd) (by rw [List.length_map]; omega)] at this
    rw [elt_get (l := dem) Z.b9]
    simpa using this
  have hdi : ∀ i : Nat, i < m0.b.l.length → 0 ≤ elt dem (i : Int) := fun i hi => by
    rw [elt_get Z.b9]
    exact (hdm _ (List.getElem_mem _)).1
  have hOn : ∀ i : Nat, i < m0.b.l.length → elt O (i : Int) ≤ 16384 := fun i hi => by
    have := sm_one (l := O) (fun j hj => (o2 j hj).1) hi
    omega
  obtain ⟨pl, hpd⟩ : ∃ pl, O.map (fun x => max 0 (x - 3)) = pl := ⟨_, rfl⟩
  rw [hpd] at hpl ⊢
  simp only
  refine ⟨by rw [← hpd, List.length_map]; exact o1, hdl, fun i hi => ?_, ?_⟩
  · have h1 := hpl i hi
    have h2 := hle i hi
    have h3 := hdi i hi
    have h4 := hOn i hi
    unfold askd at h2
    split at h2 <;> omega
  obtain ⟨sd, hsd⟩ : ∃ sd, hS m0.b.l pl use m0.b.l.length = sd := ⟨_, rfl⟩
  have htot : totP sd ≤ plN m0 1 n head dem := by
    have := hS_tot (ls := m0.b.l) (use := use) (pl := pl) (out := O) (k := m0.b.l.length) fun i hi => ⟨(o2 i hi).1, hpl i hi⟩
    rw [hsd] at this
    omega
  have hmem : ∀ p ∈ sd, (sduB p.1 ∧ 1 ≤ p.2.length ∧ p.2.length ≤ 32767) ∧ knowB m0 p.1 = true := fun p hp => by
    rw [← hsd] at hp
    obtain ⟨i, hi, h1, h2, h3, -⟩ := hS_mem hp
    have h4 := hpl i hi
    have h5 := hOn i hi
    have h6 := (hm.b.set.lg hi).1
    exact ⟨⟨by rw [h1]; exact h6, by omega, by omega⟩, by rw [h1]; exact knowB_at hm hi⟩
  have hbn : buN sd ≤ plN m0 1 n head dem := by
    unfold buN
    split
    · exact hN.1
    unfold needP
    have := extP_bd (lastP sd)
    omega
  rw [hsd]
  obtain ⟨m1, hm1⟩ : ∃ m1 : MaV, (⟨(plD m0 1 n head dem).1, m0.up, plR m0 1 head dem, 1⟩ : MaV) = m1 := ⟨_, rfl⟩
  have hr1 : m1.r = plR m0 1 head dem := by rw [← hm1]
  have hu1 : m1.up = m0.up := by rw [← hm1]
  have hl1 : m1.b.l = m0.b.l := by rw [← hm1]; exact el
  have hla : m1.last = 1 := by rw [← hm1]
  rw [hm1] at hPok ⊢
  have hbu : okBu m1 1 n sd := ⟨⟨hok.1.1, by omega, by decide⟩, fun p hp => by rw [knowB_l hl1]; exact (hmem p hp).2, vldP_sdu fun p hp => (hmem p hp).1⟩
  have hnn : plN m0 1 n head dem ≤ n := by
    unfold plN
    split
    · have := bytesP_nn (elsV (plR m0 1 head dem) 1 n).2.1
      omega
    omega
  have hbn2 : buN sd ≤ n := by omega
  have hnow := plR_ok hm hok
  by_cases hz : (buE m1 1 n sd).2.1 ++ sd = []
  · rw [show buildV m1 1 n sd = (m1, [], 10) from bu_none hbu hbn2 hz]
    exact ⟨fun h => absurd rfl h, fun _ => ⟨(List.append_eq_nil_iff.1 hz).2, rfl⟩, fun h => absurd rfl h⟩
  have hfit := bu_fits hPok hbu hbn2 hz
  rw [bu_main hbu hbn2 hz]
  have hpar := par_build hfit
  have hlen := bld_len hfit
  obtain ⟨bl, hbl⟩ : ∃ bl, (bldV n ((buE m1 1 n sd).2.1 ++ sd)).1 = bl := ⟨_, rfl⟩
  rw [hbl] at hpar hlen ⊢
  have hrec : recV m0 bl = recGo m0 ((buE m1 1 n sd).2.1 ++ sd) CtV.nil := by
    unfold recV
    rw [hpar]
    simp
  show Hol m1 n sd _ (recV m0 bl)
  rw [hrec]
  have hsdg : ∀ x : CtV, recGo m0 sd x = (0, { x with sd := x.sd ++ sd }) := fun x => recGo_sdu fun p hp => ⟨(hmem p hp).1.1, (hmem p hp).2⟩
  cases hup : m1.up with
  | false =>
    have eE : buE m1 1 n sd = (m1.r, [], 0) := by unfold buE; rw [hup]; rfl
    rw [eE, List.nil_append, hsdg]
    exact ⟨fun _ => ⟨rfl, hlen, rfl, by simp [CtV.nil], rfl, by simp [CtV.nil], by simp [CtV.nil]⟩, fun h => absurd h Z.b17, fun _ h => by rw [hup] at h; cases h⟩
  | true =>
    have h0 := hnow.2
    rw [← hr1] at h0
    have eE : buE m1 1 n sd = (elM m1.r 1 (n - buN sd), elP m1.r (n - buN sd), 0) := by
      unfold buE
      rw [hup, if_pos rfl, els_ok ⟨h0, by decide⟩ Z.b9]
    rw [eE]
    rw [rec_el hPok.r, hsdg]
    refine ⟨fun _ => ⟨rfl, hlen, rfl, by simp [CtV.nil], rfl, by simp only [CtV.nil, List.nil_append]; split <;> simp, by simp only [CtV.nil, List.nil_append]; split <;> simp⟩, fun h => absurd h Z.b17, fun _ _ h6 => ?_⟩
    have hpw : m1.r.pow = true := by
      rw [hr1]
      unfold plR
      rw [← hu1, hup, if_pos rfl, updV, if_pos (plan_okU hm hok)]
      simp [updG, hf]
    have hpn : plN m0 1 n head dem = n - bytesP (elP m1.r n) := by
      unfold plN
      rw [← hu1, hup, if_pos rfl, ← hr1, els_ok ⟨h0, by decide⟩ Z.b9]
    obtain ⟨s1, s2, s3⟩ := stat_room (r := m1.r) (p := n) (q := n - buN sd) h6 Z.b9 hpw
    refine ⟨?_, fun hreg => ?_, by simp only [CtV.nil, List.nil_append]; rw [if_pos s3]; rfl⟩
    · show (elM m1.r 1 (n - buN sd)).reg = false
      unfold elM
      rw [if_pos s3]
      show (elM1 m1.r 1 (n - buN sd)).reg = false
      unfold elM1
      split
      · rfl
      rename_i hb
      have : ¬ bufB m1.r n := fun h => hb (s1.1 h)
      cases hc : m1.r.reg with
      | false => rfl
      | true => exact absurd ⟨.inl hc, by omega⟩ this
    have hb : bufB m1.r (n - buN sd) := s1.1 ⟨.inl hreg, by omega⟩
    simp only [CtV.nil, List.nil_append]
    rw [if_pos hb]
    rfl
end Go.Proofs.YtbojkoiopkaciaaGreat

/- The MAC entity: SDUs within the plan fit. -/
namespace Go.Proofs.YtbojkoiopkaciaaGreat
open Go.RowKit
set_option linter.unusedSimpArgs false
set_option linter.unusedVariables false
--newlaws

theorem mx_request29 {w0 w : World} {M : List Nat} {L : List SX.Ent} (g gb gr : Nat) (C : Option Addr) (kc : Nat) (sv so : Value) (m : MaV) (hs : SX.St w0 M w L) (hL : ∀ e ∈ maE g gb gr C kc sv so m, e ∈ L) :
    Calls Tryz.prog 15 #[.pointer (some ⟨g, 0, none⟩)] w (SX.Ret fun v w' => v = .bool (m.up && m.r.reg) ∧ SX.St w [] w' []) := by
  have hc := hs.celOf (cs := [.pointer (some ⟨gb, 0, none⟩), .slice C m.b.l.length kc, rvP m gr, .int .i64 m.last]) (hL _ (List.mem_cons_self ..))
  have hr : m.up = true → Cel w gr m.r.cells := fun hu => hs.celOf (hL _ (List.mem_cons_of_mem _ (List.mem_append_right _ (by rw [rpE, if_pos hu]; exact List.mem_cons_self ..))))
  cases hup : m.up with
  | true =>
    rw [show rvP m gr = .pointer (some ⟨gr, 0, none⟩) from by simp [rvP, hup]] at hc
    exact mx_request_up g gb gr m _ _ w hc (hr hup)
  | false =>
    rw [show rvP m gr = .pointer none from by simp [rvP, hup]] at hc
    exact mx_request_dn g gb _ _ w hc
theorem St.pull {w0 w : World} {M : List Nat} {A Q E R : List SX.Ent} (h : SX.St w0 M w (A ++ (Q ++ (E ++ R)))) : SX.St w0 M w (E ++ (A ++ (Q ++ R))) := h.perm (by simpa [List.append_assoc] using List.perm_append_comm_assoc E (A ++ Q) R)
theorem St.intoQ {w0 w : World} {M : List Nat} {A Q R : List SX.Ent} {e : SX.Ent} (h : SX.St w0 M w (A ++ (e :: (Q ++ R)))) : SX.St w0 M w (A ++ ((Q ++ [e]) ++ R)) := h.perm (List.Perm.append_left _ (by simp [List.append_assoc]))
theorem St.bk1 {w0 w : World} {M : List Nat} {a b : SX.Ent} {E R : List SX.Ent} (h : SX.St w0 M w (a :: (E ++ (b :: R)))) : SX.St w0 M w (a :: b :: (E ++ R)) := h.perm (List.Perm.cons _ (List.perm_middle (l₁ := E) (a := b) (l₂ := R)).symm)
theorem row_lentm {w0 w : World} {M : List Nat} {L1 L2 : List SX.Ent} {T size m kk cc : Nat} {A : Option Addr} {xs : List Value} (hs : SX.St w0 M w (L1 ++ L2)) (hm : SX.Ent.row (.slice A kk cc) T size m xs ∈ L2) : Sx w (SX.idsOf L1) A xs := by
  obtain ⟨j, hj⟩ := List.getElem?_of_mem hm
  exact Z.row_lentv hs hj
theorem rowsQ_mem {qs : List (MpV × Nat)} {q : MpV} (h : q ∈ qs.map Prod.fst) : ∃ cc, SX.Ent.row (.slice q.B q.l.length cc) 5 1 q.l.length (ints .u8 q.l) ∈ rowsQ qs := by
  obtain ⟨x, hx, rfl⟩ := List.mem_map.1 h
  exact ⟨x.2, List.mem_map.2 ⟨x, hx, rfl⟩⟩
theorem slQ {w0 w : World} {M : List Nat} {L : List SX.Ent} {qs : List (MpV × Nat)} {q : MpV} (hs : SX.St w0 M w L) (hL : ∀ e ∈ rowsQ qs, e ∈ L) (hq : q ∈ qs.map Prod.fst) : Sl w q.B (ints .u8 q.l) := by
  obtain ⟨cc, h⟩ := rowsQ_mem hq
  exact hs.slm (hL _ h)
theorem hS_all {ls : List LgV} {pl use : List Int} {k : Nat} {qs : List (MpV × Nat)} {P : Prt → Prop} (h : plainQ qs = hS ls pl use k) (hp : ∀ p ∈ hS ls pl use k, P p) : ∀ q ∈ qs.map Prod.fst, P q.plain := by
  intro q hq
  refine hp _ ?_
  rw [← h, ← plainQ_fst]
  exact List.mem_map_of_mem hq
theorem plan_bad {m : MaV} {now n head : Int} {dem : List Int} (h : (planV m now n head dem).2.2 ≠ 0) : (planV m now n head dem).2.1 = [] := by
  unfold planV at h ⊢
  split
  · rename_i h1
    rw [if_pos h1] at h
    exact absurd rfl h
  rfl
set_option maxHeartbeats 4000000 in
set_option maxRecDepth 100000 in
theorem holds_bad (A : Option Addr) (n cc : Nat) (a b c d : Int) (up : Bool) (D : Option Addr) (nd cd : Nat) (size head : Int) (U : Option Addr) (nu cu : Nat) (ls : List LgV) (dem use : List Int) (w : World) (hx : Sl w A (ls.flatMap LgV.cells)) (hl : ls.length = n) (hc : n ≤ cc) (hn : n ≤ maxLen) (hD : Sl w D (ints .i64 dem)) (hdl : dem.length = nd) (hnd : nd ≤ maxLen) (hU : Sl w U (ints .u8 use)) (hul : use.length = nu) (hnu : nu ≤ maxLen) (hub : ∀ x ∈ use, 0 ≤ x ∧ x < 256) (h : ¬ okN9 ls a b c d) :
    Calls Tryz.prog 6 #[cfgV A n cc a b c d up, .slice D nd cd, .int .i64 size, .int .i64 head, .slice U nu cu] w (SX.Ret fun v w' => v = .bool true ∧ SX.St w [] w' []) := by
  have hs := SX.St.start w
  unfold maxLen at hn hnd hnu
  unfold cfgV
  refine Z.enter Tryz.func6 rfl Tryz.ntmps6 rfl rfl ?_
  refine Z.g90 ?_
  clear hs; intro g5 w5 hs
  refine Z.g248 ?_
  refine Z.g60 ?_
  refine Z.g4 ?_
  refine Z.g101 ?_
  refine Z.g221 ?_
  refine Z.g16 ?_
  refine Z.lb 6 rfl ?_
  refine Z.g314 ?_
  refine Z.only [1, 2, 3, 4, 5, 37] rfl ?_
  refine Z.g313 ?_
  refine Z.cond rfl (fun hc1 => ?_) (fun hc1 => ?_)
  · (try simp at hc1)
    refine Z.g230 ?_
    refine Z.g129 ?_
    rintro v2_0 w2_0 ⟨rfl, hy⟩
    replace hs := Z.w1 (hs.call hy); clear hy
    refine Z.g239 ?_
    repeat (first | refine Z.rthen ?_ | refine Z.rblock ?_ | refine Z.rscope ?_)
    refine Z.g52 ?_
    exact ⟨_, rfl, by simp, hs.sub (List.nil_sublist _)⟩
  (try simp at hc1)
  refine Z.g151 ?_
  refine Z.g77 ?_
  have hn6 : n ≤ 6 := by obtain ⟨⟨h1, h2⟩, h3⟩ := hc1; omega
  refine Z.g3 ?_
  refine Z.ZO.call rfl rfl (by rfl) rfl rfl Tryz.call11 rfl (mx_new_bad A n cc ls a b c d up _ (hx.st (hs.sub (List.nil_sublist _))) hl Z.b9 hc h) ?_
  rintro v3_1 w3_1 ⟨rfl, hy⟩
  replace hs := Z.w1 (hs.call hy); clear hy
  refine Z.g212 ?_
  refine Z.only [1, 2, 3, 4, 5, 11, 12] rfl ?_
  refine Z.g30 ?_
  refine Z.g77 ?_
  refine Z.g3 ?_
  refine Z.ZO.call rfl rfl (by rfl) rfl rfl Tryz.call11 rfl (mx_new_bad A n cc ls a b c d up _ (hx.st (hs.sub (List.nil_sublist _))) hl Z.b9 hc h) ?_
  rintro v4_1 w4_1 ⟨rfl, hy⟩
  replace hs := Z.w1 (hs.call hy); clear hy
  refine Z.g212 ?_
  refine Z.only [1, 2, 3, 4, 5, 11, 12, 13, 14] rfl ?_
  refine Z.g159 ?_
  refine Z.g51 ?_
  rintro v5_1 w5_1 ⟨rfl, hy⟩
  replace hs := Z.w1 (hs.call hy); clear hy
  refine Z.g32 ?_
  refine Z.g51 ?_
  rintro v5_3 w5_3 ⟨rfl, hy⟩
  replace hs := Z.w1 (hs.call hy); clear hy
  refine Z.g187 ?_
  refine Z.only [1, 2, 3, 4, 5, 11, 12, 13, 14, 54] rfl ?_
  refine Z.g313 ?_
  refine Z.cond rfl (fun hc5 => ?_) (fun h => absurd h Z.b17)
  refine Z.g0 ?_
  refine Z.g32 ?_
  refine Z.g51 ?_
  rintro v6_1 w6_1 ⟨rfl, hy⟩
  replace hs := Z.w1 (hs.call hy); clear hy
  refine Z.g32 ?_
  refine Z.g51 ?_
  rintro v6_3 w6_3 ⟨rfl, hy⟩
  replace hs := Z.w1 (hs.call hy); clear hy
  refine Z.g22 ?_
  refine Z.yes (s := 60) (b := true) rfl (Z.b17) rfl ?_
  refine Z.g117 ?_
  refine Z.g129 ?_
  rintro v6_6 w6_6 ⟨rfl, hy⟩
  replace hs := Z.w1 (hs.call hy); clear hy
  refine Z.g15 ?_
  refine Z.g239 ?_
  repeat (first | refine Z.rthen ?_ | refine Z.rblock ?_ | refine Z.rscope ?_)
  refine Z.g52 ?_
  exact ⟨_, rfl, by simp, hs.sub (List.nil_sublist _)⟩
set_option maxHeartbeats 4000000 in
set_option maxRecDepth 100000 in
theorem holds_ok (A : Option Addr) (n cc : Nat) (a b c d : Int) (up : Bool) (D : Option Addr) (nd cd : Nat) (size head : Int) (U : Option Addr) (nu cu : Nat) (ls : List LgV) (dem use : List Int) (w : World) (hx : Sl w A (ls.flatMap LgV.cells)) (hl : ls.length = n) (hc : n ≤ cc) (hn : n ≤ maxLen) (hD : Sl w D (ints .i64 dem)) (hdl : dem.length = nd) (hnd : nd ≤ maxLen) (hU : Sl w U (ints .u8 use)) (hul : use.length = nu) (hnu : nu ≤ maxLen) (hub : ∀ x ∈ use, 0 ≤ x ∧ x < 256) (h : okN9 ls a b c d) :
    Calls Tryz.prog 6 #[cfgV A n cc a b c d up, .slice D nd cd, .int .i64 size, .int .i64 head, .slice U nu cu] w (SX.Ret fun v w' => v = .bool true ∧ SX.St w [] w' []) := by
  have hs := SX.St.start w
  unfold maxLen at hn hnd hnu
  unfold cfgV
  have hm : (newM ls a b c d up).ok := newM_ok h.1 h.2
  subst hul
  refine Z.enter Tryz.func6 rfl Tryz.ntmps6 rfl rfl ?_
  refine Z.g90 ?_
  clear hs; intro g5 w5 hs
  refine Z.g248 ?_
  refine Z.g60 ?_
  refine Z.g4 ?_
  refine Z.g101 ?_
  refine Z.g221 ?_
  refine Z.g16 ?_
  refine Z.lb 6 rfl ?_
  refine Z.g314 ?_
  refine Z.only [1, 2, 3, 4, 5, 37] rfl ?_
  refine Z.g313 ?_
  refine Z.cond rfl (fun hc1 => ?_) (fun hc1 => ?_)
  · (try simp at hc1)
    refine Z.g230 ?_
    refine Z.g129 ?_
    rintro v2_0 w2_0 ⟨rfl, hy⟩
    replace hs := Z.w1 (hs.call hy); clear hy
    refine Z.g239 ?_
    repeat (first | refine Z.rthen ?_ | refine Z.rblock ?_ | refine Z.rscope ?_)
    refine Z.g52 ?_
    exact ⟨_, rfl, rfl, hs.sub (List.nil_sublist _)⟩
  (try simp at hc1)
  refine Z.g151 ?_
  have hn6 : n ≤ 6 ∧ nd ≤ 6 ∧ size ≤ 3000 := by obtain ⟨⟨h1, h2⟩, h3⟩ := hc1; omega
  refine Z.g77 ?_
  refine Z.g3 ?_
  refine Z.ZO.call rfl rfl (by rfl) rfl rfl Tryz.call11 rfl (mx_new_ok A n cc ls a b c d up _ (hx.st (hs.sub (List.nil_sublist _))) hl Z.b9 hc h.1 h.2) ?_
  rintro v3_1 w3_1 ⟨g, gb, gr, C, kc, sv, so, rfl, hy⟩
  replace hs := Z.w1 (hs.call hy); clear hy
  replace hs := SX.St.rot (L1 := maE g gb gr C kc sv so (newM ls a b c d up) ++ [_]) hs
  replace hs := Z.w2 hs
  refine Z.g212 ?_
  refine Z.only [1, 2, 3, 4, 5, 11, 12] rfl ?_
  refine Z.g30 ?_
  refine Z.g77 ?_
  refine Z.g3 ?_
  refine Z.ZO.call rfl rfl (by rfl) rfl rfl Tryz.call11 rfl (mx_new_ok A n cc ls a b c d up _ (hx.st (hs.sub (List.nil_sublist _))) hl Z.b9 hc h.1 h.2) ?_
  rintro v4_1 w4_1 ⟨g2, gb2, gr2, C2, kc2, sv2, so2, rfl, hy⟩
  replace hs := Z.w1 (hs.call hy); clear hy
  have hbll : (newM ls a b c d up).b.l = ls := rfl
  have hla : (newM ls a b c d up).last ≤ 1 := by show (0 : Int) ≤ 1; decide
  have hfs : (newM ls a b c d up).r.fst = true := rfl
  have hupp : (newM ls a b c d up).up = up := rfl
  generalize newM ls a b c d up = m at hm hs hbll hla hfs hupp
  obtain ⟨Lq, hLq⟩ : ∃ Lq, maE g2 gb2 gr2 C2 kc2 sv2 so2 m ++ [SX.Ent.row (.slice C2 n kc2) 75 5 n (ls.flatMap LgV.cells)] = Lq := ⟨_, rfl⟩
  have hq2 : ∀ e ∈ maE g2 gb2 gr2 C2 kc2 sv2 so2 m, e ∈ Lq := fun e he => by rw [← hLq]; exact List.mem_append_left _ he
  rw [hLq] at hs
  replace hs : SX.St w [] _ (maE g gb gr C kc sv so m ++ (SX.Ent.blk g5 26 #[.slice A n cc, .int .i64 a, .int .i64 b, .int .i64 c, .int .i64 d, .bool up] :: SX.Ent.row (.slice C n kc) 75 5 n (ls.flatMap LgV.cells) :: Lq)) := St.mid (by have := SX.St.rot (L1 := Lq) hs; rwa [List.cons_append, List.append_assoc] at this)
  clear hLq
  refine Z.g212 ?_
  refine Z.only [1, 2, 3, 4, 5, 11, 12, 13, 14] rfl ?_
  refine Z.g159 ?_
  refine Z.g51 ?_
  rintro v5_1 w5_1 ⟨rfl, hy⟩
  replace hs := Z.w1 (hs.call hy); clear hy
  refine Z.g32 ?_
  refine Z.g51 ?_
  rintro v5_3 w5_3 ⟨rfl, hy⟩
  replace hs := Z.w1 (hs.call hy); clear hy
  refine Z.g187 ?_
  refine Z.only [1, 2, 3, 4, 5, 11, 12, 13, 14, 54] rfl ?_
  refine Z.g313 ?_
  refine Z.cond rfl (fun h => absurd h Z.b17) (fun hc5 => ?_)
  refine Z.g151 ?_
  refine Z.lb 4 rfl ?_
  refine Z.g3 ?_
  refine Z.ZO.call rfl rfl (by rfl) rfl rfl Tryz.call16 rfl (mx_plan g gb gr C kc sv so m 1 size head D nd cd dem _ hs.lend hm (by rw [hbll]; exact Z.row_lentv hs (j := 1) rfl) (hD.sx.lent hs) hdl Z.b9) ?_
  rintro v7_4 w7_4 ⟨ov, rfl, hz⟩
  replace hs := hs.regain hz
  have hhol := hol hm hla hfs (n := size) (head := head) (dem := dem) (use := use) (fun x hx => (hub x hx).1)
  have hbad := plan_bad (m := m) (now := 1) (n := size) (head := head) (dem := dem)
  have hPok := plan_ok hm (now := 1) (n := size) (head := head) (dem := dem)
  have hPl := plan_l m 1 size head dem
  have hPlen := plan_len hm (now := 1) (n := size) (head := head) (dem := dem)
  generalize planV m 1 size head dem = R at hs hhol hbad hPok hPl hPlen ⊢
  rw [hbll] at hhol hPl
  obtain ⟨Ap, cp, rfl, -, -, -⟩ := SX.row_slv hs (j := 0) rfl
  refine Z.g212 ?_
  refine Z.only [1, 2, 4, 5, 11, 13, 15, 16] rfl ?_
  refine Z.g159 ?_
  refine Z.g51 ?_
  rintro v8_1 w8_1 ⟨rfl, hy⟩
  replace hs := Z.w1 (hs.call hy); clear hy
  refine Z.g1 ?_
  refine Z.only [1, 2, 4, 5, 11, 13, 15, 73] rfl ?_
  refine Z.g313 ?_
  refine Z.cond rfl (fun hc8 => ?_) (fun hc8 => ?_)
  · (try simp at hc8)
    refine Z.g182 ?_
    refine Z.g16 ?_
    refine Z.g22 ?_
    refine Z.yes (s := 77) (b := true) rfl ((by rw [hbad Z.b63]; rfl)) rfl ?_
    refine Z.g117 ?_
    refine Z.g129 ?_
    rintro v9_4 w9_4 ⟨rfl, hy⟩
    replace hs := Z.w1 (hs.call hy); clear hy
    refine Z.g15 ?_
    refine Z.g239 ?_
    repeat (first | refine Z.rthen ?_ | refine Z.rblock ?_ | refine Z.rscope ?_)
    refine Z.g52 ?_
    exact ⟨_, rfl, rfl, hs.sub (List.nil_sublist _)⟩
  (try simp at hc8)
  obtain ⟨p1, p2, p3, hol⟩ := hhol Z.b9
  rw [hl] at p1 p2 p3 hol
  refine Z.skip ?_
  refine Z.g123 ?_
  refine Z.g16 ?_
  refine Z.g4 ?_
  refine Z.g101 ?_
  refine Z.g221 ?_
  refine Z.g16 ?_
  refine Z.g64 ?_
  refine Z.g16 ?_
  refine Z.g31 ?_
  refine Z.only [1, 2, 4, 5, 11, 13, 15, 92] rfl ?_
  refine Z.g313 ?_
  refine Z.cond rfl (fun h => absurd h Z.b41) (fun hc10 => ?_)
  refine Z.g151 ?_
  refine Z.g1 ?_
  refine Z.only [1, 2, 4, 5, 11, 13, 15, 17] rfl ?_
  refine Z.g60 ?_
  replace hs : SX.St w [] _ (SX.Ent.row (.slice Ap R.2.1.length cp) 3 1 R.2.1.length (ints .i64 R.2.1) :: SX.Ent.blk g5 26 #[.slice A n cc, .int .i64 a, .int .i64 b, .int .i64 c, .int .i64 d, .bool up] :: (maE g gb gr C kc sv so R.1 ++ (SX.Ent.row (.slice C n kc) 75 5 n (ls.flatMap LgV.cells) :: Lq))) := St.bk1 (E := maE g gb gr C kc sv so R.1) hs
  replace hs := hs.nil 77 2
  refine Z.g264 ?_
  refine Z.only [1, 2, 4, 5, 11, 13, 15, 17, 18] rfl ?_
  refine Z.g210 ?_
  refine Z.loopk (ι := Nat × List (MpV × Nat) × Value) [1, 2, 4, 5, 11, 13, 15] rfl (fun x => [(17, [], x.2.2), (18, [], .int .i64 (x.1 : Int))]) (fun x wr => (x.1 ≤ n ∧ x.2.1.length ≤ x.1 ∧ plainQ x.2.1 = hS ls R.2.1 use x.1) ∧ SX.St w [] wr (SX.Ent.row x.2.2 77 2 x.2.1.length (cellsQ x.2.1) :: SX.Ent.row (.slice Ap R.2.1.length cp) 3 1 R.2.1.length (ints .i64 R.2.1) :: SX.Ent.blk g5 26 #[.slice A n cc, .int .i64 a, .int .i64 b, .int .i64 c, .int .i64 d, .bool up] :: (rowsQ x.2.1 ++ (maE g gb gr C kc sv so R.1 ++ (SX.Ent.row (.slice C n kc) 75 5 n (ls.flatMap LgV.cells) :: Lq))))) (fun x => n - x.1) (0, [], .slice none 0 0) Z.b14 ⟨⟨Nat.zero_le _, Nat.le_refl _, rfl⟩, hs⟩ ?_
  clear hs
  rintro ⟨i, qs, svo⟩ w14 ⟨⟨hi, hql, hpl⟩, hs⟩
  refine Z.only [1, 2, 4, 5, 11, 13, 15, 17, 18] rfl ?_
  (try dsimp only at hs)
  dsimp only at hi hql hpl hs
  obtain ⟨Ao, co, rfl, -, -, -⟩ := SX.row_slv hs (j := 0) rfl
  refine Z.seq ?_
  refine Z.g0 ?_
  refine Z.g22 ?_
  refine Z.g227 ?_
  refine Z.only [1, 2, 4, 5, 11, 13, 15, 17, 18, 96] rfl ?_
  refine Z.g313 ?_
  refine Z.cond rfl (fun hc14 => ?_) (fun hc14 => ?_)
  · (try simp at hc14)
    have hp3 := p3 i Z.b9
    obtain ⟨bd, od, rfl, hbd, hd2⟩ := Z.Sl.some hD Z.b65
    obtain ⟨bx, ox, rfl, hbx, hx2⟩ := Z.Sl.some hx (by rw [fl_len lg_len]; omega)
    obtain ⟨q, hqi⟩ : ∃ q, ls[i]? = some q := ⟨_, List.getElem?_eq_getElem Z.b9⟩
    obtain ⟨gp, kp, ep, -, -⟩ := row_form (j := 1) hs rfl Z.b9
    cases ep
    refine Z.g91 ?_
    refine Z.seq ?_
    refine Z.seq ?_
    refine Z.drawL [SX.Ent.row (.slice (some ⟨gp, 0, none⟩) R.2.1.length cp) 3 1 R.2.1.length (ints .i64 R.2.1)] (fun _ => true) mixed hs ?_
    clear hs; intro wd16 hs
    refine Z.tb [0, 1] Z.b4 rfl ⟨_, hs, Z.b2⟩ rfl ?_
    refine Z.t 2 rfl rfl rfl (by rfl) Z.b4 ⟨_, hs, Z.b2⟩ (Z.Yd.elem rfl rfl Tryz.underlying34 Tryz.sizeOf3 (fun hG => ⟨Z.b3, Z.b3⟩)) ?_
    refine Z.t 3 rfl rfl rfl (by rfl) Z.b4 ⟨_, hs, Z.b2⟩ Z.b35 ?_
    refine Z.tb [4, 5, 6, 7] Z.b4 rfl ⟨_, hs, Z.b2⟩ rfl ?_
    refine Z.g174 ?_
    refine Z.t 9 rfl rfl rfl (by rfl) Z.b4 ⟨_, hs, Z.b2⟩ Z.b35 ?_
    refine Z.tb [10, 11] Z.b4 rfl ⟨_, hs, Z.b2⟩ rfl ?_
    refine Z.g171 ?_
    refine Z.t 13 rfl rfl rfl (by rfl) Z.b4 ⟨_, hs, Z.b2⟩ (Z.Yd.load rfl Tryz.isAgg3 (fun _ => Z.cellXi hd2.sx Z.b9 Z.b9)) ?_
    refine Z.tb [14, 15] Z.b4 rfl ⟨_, hs, Z.b2⟩ rfl ?_
    refine Z.g68 ?_
    refine Z.only [1, 2, 4, 5, 11, 13, 15, 17, 18, 114] rfl ?_
    refine Z.g313 ?_
    refine Z.cond rfl (fun h => absurd h Z.b41) (fun hc16 => ?_)
    refine Z.g151 ?_
    refine Z.g22 ?_
    refine Z.g24 ?_
    refine Z.l rfl rfl (by rfl) (Z.keepS hs) Z.b35 ?_
    refine Z.g1 ?_
    refine Z.only [1, 2, 4, 5, 11, 13, 15, 17, 18, 19] rfl ?_
    refine Z.g60 ?_
    refine Z.g22 ?_
    refine Z.g104 ?_
    refine Z.g1 ?_
    refine Z.only [1, 2, 4, 5, 11, 13, 15, 17, 18, 19, 122] rfl ?_
    refine Z.g313 ?_
    refine Z.cutt (ι := Unit) [1, 2, 4, 5, 11, 13, 15, 17, 18] rfl (fun _ => [(19, [], .int .i64 (hN use (elt R.2.1 (i : Int)) i))]) (fun _ wr => SX.St w [] wr (SX.Ent.row (.slice Ao qs.length co) 77 2 qs.length (cellsQ qs) :: SX.Ent.row (.slice (some ⟨gp, 0, none⟩) R.2.1.length cp) 3 1 R.2.1.length (ints .i64 R.2.1) :: SX.Ent.blk g5 26 #[.slice (some ⟨bx, ox, none⟩) n cc, .int .i64 a, .int .i64 b, .int .i64 c, .int .i64 d, .bool up] :: (rowsQ qs ++ (maE g gb gr C kc sv so R.1 ++ (SX.Ent.row (.slice C n kc) 75 5 n (ls.flatMap LgV.cells) :: Lq))))) ?_ ?_
    · skip
      refine Z.cond rfl (fun hc19 => ?_) (fun hc19 => ?_)
      · (try simp at hc19)
        obtain ⟨bu, ou, rfl, hbu, hu2⟩ := Z.Sl.some hU Z.b65
        have hube := hub _ (Z.elt_mem (l := use) (z := (i : Int)) Z.b9 Z.b9)
        obtain ⟨ub0, ub1⟩ := hube
        refine Z.region ?_
        refine Z.g221 ?_
        refine Z.l rfl rfl (by rfl) (Z.keepS hs) (Z.Yd.elem rfl rfl Tryz.underlying48 Tryz.sizeOf5 (fun hG => ⟨Z.b3, Z.b3⟩)) ?_
        refine Z.l rfl rfl (by rfl) (Z.keepS hs) (Z.Yd.load rfl Tryz.isAgg5 (fun _ => Z.cellXi hu2.sx Z.b9 Z.b9)) ?_
        refine Z.l rfl rfl (by rfl) (Z.keepS hs) (Z.Yd.convI rfl ⟨_, Tryz.underlying5⟩ Tryz.underlying3 (fun _ => Z.wi64 (n := elt use (i : Int)) ⟨by omega, by omega⟩)) ?_
        refine Z.l rfl rfl (by rfl) (Z.keepS hs) (Z.Yd.min rfl rfl) ?_
        refine Z.g1 ?_
        refine Z.only [1, 2, 4, 5, 11, 13, 15, 17, 18, 19] rfl ?_
        refine Z.g313 ?_
        exact Z.meet () (by refine ⟨?_, ?_, ?_, ?_, ?_, ?_, ?_, ?_, ?_, ?_, trivial⟩ <;> first | rfl | (refine Z.lookv rfl ?_; congr 1; unfold hN; first | (rw [if_pos Z.b9]) | (rw [if_neg Z.b9]))) hs
      (try simp at hc19)
      refine Z.skip ?_
      refine Z.g313 ?_
      exact Z.meet () (by refine ⟨?_, ?_, ?_, ?_, ?_, ?_, ?_, ?_, ?_, ?_, trivial⟩ <;> first | rfl | (refine Z.lookv rfl ?_; congr 1; unfold hN; first | (rw [if_pos Z.b9]) | (rw [if_neg Z.b9]))) hs
    clear hs
    rintro _ w19 hs
    refine Z.only [1, 2, 4, 5, 11, 13, 15, 17, 18, 19] rfl ?_
    refine Z.g152 ?_
    refine Z.only [1, 2, 4, 5, 11, 13, 15, 17, 18, 19, 131] rfl ?_
    refine Z.g313 ?_
    refine Z.cond rfl (fun hc21 => ?_) (fun hc21 => ?_)
    · (try simp at hc21)
      obtain ⟨k, hk⟩ : ∃ k : Nat, hN use (elt R.2.1 (i : Int)) i = (k : Int) := ⟨(hN use (elt R.2.1 (i : Int)) i).toNat, by omega⟩
      rw [hk]
      have hkb : 0 < k ∧ k ≤ 16384 := by have := hN_le (use := use) (p := elt R.2.1 (i : Int)) (i := i); omega
      refine Z.drawL [SX.Ent.blk g5 26 #[.slice (some ⟨bx, ox, none⟩) n cc, .int .i64 a, .int .i64 b, .int .i64 c, .int .i64 d, .bool up]] (fun _ => true) mixed hs ?_
      clear hs; intro wd22 hs
      refine Z.tb [0] Z.b4 rfl ⟨_, hs, Z.b2⟩ rfl ?_
      refine Z.t 1 rfl rfl rfl (by rfl) Z.b4 ⟨_, hs, Z.b2⟩ (Z.Yd.fieldA (m := 0) rfl Z.b4) ?_
      refine Z.t 2 rfl rfl rfl (by rfl) Z.b4 ⟨_, hs, Z.b2⟩ Z.b32 ?_
      refine Z.tb [3] Z.b4 rfl ⟨_, hs, Z.b2⟩ rfl ?_
      refine Z.t 4 rfl rfl rfl (by rfl) Z.b4 ⟨_, hs, Z.b2⟩ (Z.Yd.elem rfl rfl Tryz.underlying22 Tryz.sizeOf75 (fun hG => ⟨Z.b3, Z.b3⟩)) ?_
      refine Z.t 5 rfl rfl rfl (by rfl) Z.b4 ⟨_, hs, Z.b2⟩ (Z.Yd.fieldA (m := 0) rfl Z.b4) ?_
      refine Z.t 6 rfl rfl rfl (by rfl) Z.b4 ⟨_, hs, Z.b2⟩ (Z.Yd.load rfl Tryz.isAgg3 (fun _ => Z.cellXf hx2.sx lg_len hqi rfl)) ?_
      refine Z.tb [7] Z.b4 rfl ⟨_, hs, Z.b2⟩ rfl ?_
      refine Z.tn 8 rfl rfl Z.b4 rfl trivial ?_
      refine Z.ZO.make1 (m := k) (i0 := Tryz.t5) (bytes := 1) rfl rfl (by rfl) hs Tryz.underlying48 Z.b4 rfl rfl rfl rfl rfl rfl Z.b9 Z.b23 ?_
      clear hs; intro g140 w140 hs
      refine Z.tk (Dn := fun _ => true) (i := 8) (fun _ => ⟨_, hs, Z.b2⟩) ?_
      refine Z.t 9 rfl rfl rfl (by rfl) Z.b4 ⟨_, hs, Z.b2⟩ (Z.Yd.buildL [(0, 1), (1, 1)] [.int .i64 0, .slice none 0 0] rfl rfl Z.b15) ?_
      refine Z.tn 10 rfl rfl Z.b4 rfl trivial ?_
      refine Z.g69 ?_
      clear hs; intro g142 w142 hs
      refine Z.tk (Dn := fun _ => true) (i := 10) (fun _ => ⟨_, hs, Z.b2⟩) ?_
      refine Z.tn 11 rfl rfl Z.b4 rfl trivial ?_
      refine Z.g88 ?_
      clear hs; intro g143 cap143 w143 hs
      simp only [List.set_cons_zero, List.set_cons_succ, List.eraseIdx_cons_zero, List.eraseIdx_cons_succ] at hs
      refine Z.tk (Dn := fun _ => true) (i := 11) (fun _ => ⟨_, hs, Z.b2⟩) ?_
      refine Z.tb [12] Z.b4 rfl ⟨_, hs, Z.b2⟩ rfl ?_
      refine Z.g68 ?_
      refine Z.only [1, 2, 4, 5, 11, 13, 15, 17, 18] rfl ?_
      refine Z.nblock ?_
      refine Z.g226 ?_
      refine Z.only [1, 2, 4, 5, 11, 13, 15, 17, 18] rfl ?_
      refine Z.g313 ?_
      have hs2 := St.intoQ (A := [_, _, _]) (Q := rowsQ qs) (hs.selT (L1 := [_, _, _, _]) [1, 2, 3, 0] Z.b12)
      have e1 : (qs ++ [((⟨q.id, some ⟨g140, 0, none⟩, k, List.replicate k 0⟩ : MpV), k)]).length = qs.length + 1 := by simp
      have e2 : cellsQ (qs ++ [((⟨q.id, some ⟨g140, 0, none⟩, k, List.replicate k 0⟩ : MpV), k)]) = cellsQ qs ++ [.int .i64 q.id, .slice (some ⟨g140, 0, none⟩) k k] := by simp [cellsQ, MpV.cells]
      have e3 : rowsQ (qs ++ [((⟨q.id, some ⟨g140, 0, none⟩, k, List.replicate k 0⟩ : MpV), k)]) = rowsQ qs ++ [SX.Ent.row (.slice (some ⟨g140, 0, none⟩) k k) 5 1 k (List.replicate k (.int .u8 0))] := by simp [rowsQ, ints]
      have e4 : plainQ (qs ++ [((⟨q.id, some ⟨g140, 0, none⟩, k, List.replicate k 0⟩ : MpV), k)]) = plainQ qs ++ [(q.id, List.replicate k 0)] := by simp [plainQ, MpV.plain]
      rw [← e1, ← e2, ← e3] at hs2
      refine Z.again (i + 1, qs ++ [((⟨q.id, some ⟨g140, 0, none⟩, k, List.replicate k 0⟩ : MpV), k)], _) Z.b57 ⟨⟨by simp only; omega, by simp only [e1]; omega, ?_⟩, hs2⟩ Z.b21
      show plainQ (qs ++ [_]) = hS ls R.2.1 use (i + 1)
      have hqe : ls[i]! = q := by rw [getElem!_pos ls i Z.b9]; exact (List.getElem?_eq_some_iff.1 hqi).2
      rw [e4, hS, if_pos Z.b9, hpl, hk, hqe, Int.toNat_natCast]
    (try simp at hc21)
    refine Z.g71 ?_
    refine Z.g226 ?_
    refine Z.only [1, 2, 4, 5, 11, 13, 15, 17, 18] rfl ?_
    refine Z.g313 ?_
    refine Z.again (i + 1, qs, _) Z.b57 ⟨⟨by simp only; omega, by simp only; omega, ?_⟩, hs⟩ Z.b21
    show plainQ qs = hS ls R.2.1 use (i + 1)
    rw [hS, if_neg Z.b9, List.append_nil]
    exact hpl
  (try simp at hc14)
  have hin : i = n := by omega
  rw [hin] at hpl
  have hq6 : qs.length ≤ 6 := by omega
  have hz0 : ∀ q ∈ qs.map Prod.fst, ∀ y ∈ q.l, 0 ≤ y ∧ y < 256 := hS_all (P := fun p => ∀ y ∈ p.2, 0 ≤ y ∧ y < 256) hpl (fun p hp y hy => by obtain ⟨-, -, -, -, -, h5⟩ := hS_mem hp; rw [h5 y hy]; decide)
  have hlen : ∀ q ∈ qs.map Prod.fst, q.l.length ≤ 100000 := hS_all (P := fun p => p.2.length ≤ 100000) hpl (fun p hp => by obtain ⟨i, hi, -, -, h4, -⟩ := hS_mem hp; have := (p3 i hi).2.2; omega)
  have hby0 : ByP (hS ls R.2.1 use n) := fun p hp y hy => by obtain ⟨-, -, -, -, -, h5⟩ := hS_mem hp; rw [h5 y hy]; decide
  refine Z.g211 ?_
  refine Z.g32 ?_
  refine Z.ZO.call rfl rfl (by rfl) rfl rfl Tryz.call15 rfl (mx_request29 g gb gr C kc sv so R.1 hs (fun e he ↦ by simp [he])) ?_
  rintro v23_1 w23_1 ⟨rfl, hy⟩
  replace hs := Z.w1 (hs.call hy); clear hy
  refine Z.g1 ?_
  refine Z.only [2, 5, 11, 13, 17, 20] rfl ?_
  refine Z.g92 ?_
  replace hs : SX.St w [] _ (maE g gb gr C kc sv so R.1 ++ (SX.Ent.row (.slice Ao qs.length co) 77 2 qs.length (cellsQ qs) :: SX.Ent.row (.slice Ap R.2.1.length cp) 3 1 R.2.1.length (ints .i64 R.2.1) :: SX.Ent.blk g5 26 #[.slice A n cc, .int .i64 a, .int .i64 b, .int .i64 c, .int .i64 d, .bool up] :: (rowsQ qs ++ (SX.Ent.row (.slice C n kc) 75 5 n (ls.flatMap LgV.cells) :: Lq)))) := St.pull (A := [_, _, _]) hs
  rw [cellsQ_fst] at hs
  refine Z.g3 ?_
  refine Z.ZO.call rfl rfl (by rfl) rfl rfl Tryz.call23 rfl (mx_build g gb gr C kc sv so R.1 1 size Ao qs.length co (qs.map Prod.fst) _ hs.lend hPok (Z.row_lentv hs (j := 0) rfl) (fun q hq ↦ by obtain ⟨cc, h⟩ := rowsQ_mem hq; exact row_lentm hs (.tail _ (.tail _ (.tail _ (List.mem_append_left _ h))))) hz0 Z.b17 Z.b9 hlen) ?_
  rintro v24_3 w24_3 ⟨ov2, rfl, hz⟩
  replace hs := hs.regain hz
  rw [plainQ_fst, hpl] at hs
  rw [plainQ_fst, hpl]
  have hby := build_by hPok (now := 1) (n := size) hby0
  have hBl := (build_l R.1 1 size (hS ls R.2.1 use n)).2
  generalize hS ls R.2.1 use n = sd at hs hol hby hBl hpl ⊢
  generalize buildV R.1 1 size sd = B at hs hol hby hBl ⊢
  obtain ⟨Ab, cb, rfl, -, -, -⟩ := SX.row_slv hs (j := 0) rfl
  refine Z.g212 ?_
  refine Z.only [2, 5, 11, 13, 17, 20, 21, 22] rfl ?_
  refine Z.g159 ?_
  refine Z.g51 ?_
  rintro v25_1 w25_1 ⟨rfl, hy⟩
  replace hs := Z.w1 (hs.call hy); clear hy
  refine Z.g1 ?_
  refine Z.only [2, 5, 11, 13, 17, 20, 21, 22, 155] rfl ?_
  refine Z.g313 ?_
  refine Z.cond rfl (fun hc25 => ?_) (fun hc25 => ?_)
  · (try simp at hc25)
    obtain ⟨n1, n2⟩ := hol.no Z.b9
    have hq0 : qs = [] := by rw [n1] at hpl; simpa [plainQ] using hpl
    refine Z.g182 ?_
    refine Z.g25 ?_
    refine Z.g221 ?_
    refine Z.g104 ?_
    refine Z.g221 ?_
    refine Z.yes (s := 164) (b := true) rfl ((by rw [n2, hq0]; rfl)) rfl ?_
    refine Z.g117 ?_
    refine Z.g129 ?_
    rintro v26_9 w26_9 ⟨rfl, hy⟩
    replace hs := Z.w1 (hs.call hy); clear hy
    refine Z.g15 ?_
    refine Z.g239 ?_
    repeat (first | refine Z.rthen ?_ | refine Z.rblock ?_ | refine Z.rscope ?_)
    refine Z.g52 ?_
    exact ⟨_, rfl, rfl, hs.sub (List.nil_sublist _)⟩
  (try simp at hc25)
  obtain ⟨b1, b2, b3, b4, b5, b6, b7⟩ := hol.big Z.b9
  have hup := hol.up Z.b9
  refine Z.g151 ?_
  refine Z.g63 ?_
  refine Z.ZO.call rfl rfl (by rfl) rfl rfl Tryz.call17 rfl (mx_receive g2 gb2 m Ab B.2.1.length cb B.2.1 _ (en_of (gr := gr2) (C := C2) (kc := kc2) (sv := sv2) (so := so2) hs (fun e he ↦ by simp [hq2 e he])) hm (hs.slm Z.b0) rfl Z.b9 hby) ?_
  rintro v27_2 w27_2 ⟨s0, s1, s2, s3, xs, qs2, rfl, hxp, hxm, hy⟩
  replace hs := Z.w1 (hs.call hy); clear hy
  generalize recV m B.2.1 = X at hs hup b3 b4 b5 b6 b7 hxp ⊢
  obtain ⟨E0, f0, rfl, -, -, -⟩ := SX.row_slv hs (j := 0) rfl
  obtain ⟨E1, f1, rfl, -, -, -⟩ := SX.row_slv hs (j := 1) rfl
  obtain ⟨E2, f2, rfl, -, -, -⟩ := SX.row_slv hs (j := 2) rfl
  obtain ⟨E3, f3, rfl, -, -, -⟩ := SX.row_slv hs (j := 3) rfl
  refine Z.g221 ?_
  refine Z.g3 ?_
  refine Z.ZO.alloc rfl rfl (by rfl) Tryz.zeroValue61 rfl hs ?_
  clear hs; intro g23 w23 hs
  refine Z.g124 ?_
  clear hs; intro ws hs
  replace hs := Z.w0 hs
  replace hs := Z.w3 hs
  refine Z.g1 ?_
  refine Z.only [2, 5, 11, 17, 20, 21, 22, 23, 24] rfl ?_
  refine Z.g159 ?_
  refine Z.g51 ?_
  rintro v28_1 w28_1 ⟨rfl, hy⟩
  replace hs := Z.w1 (hs.call hy); clear hy
  refine Z.g32 ?_
  refine Z.g51 ?_
  rintro v28_3 w28_3 ⟨rfl, hy⟩
  replace hs := Z.w1 (hs.call hy); clear hy
  refine Z.g5 ?_
  refine Z.g221 ?_
  refine Z.g104 ?_
  refine Z.lb 4 rfl ?_
  refine Z.g4 ?_
  refine Z.g179 ?_
  refine Z.g64 ?_
  have hxs : xs.map MpV.plain = (qs.map Prod.fst).map MpV.plain := by rw [hxp, b4, plainQ_fst, hpl]
  have hxz : ∀ q ∈ xs, ∀ y ∈ q.l, 0 ≤ y ∧ y < 256 := fun q hq => by
    have : q.plain ∈ (qs.map Prod.fst).map MpV.plain := by rw [← hxs]; exact List.mem_map_of_mem hq
    obtain ⟨z, hz, e⟩ := List.mem_map.1 this
    have := hz0 z hz
    rw [show z.l = q.l from congrArg Prod.snd e] at this
    exact this
  refine Z.yes (s := 185) (b := false) rfl ((by rw [b1, b3]; simp; omega)) rfl ?_
  refine Z.g117 ?_
  refine Z.ZO.call rfl rfl (by rfl) rfl rfl Tryz.call24 rfl (mr_Same E0 Ao xs.length f0 qs.length co xs (qs.map Prod.fst) _ (hs.slm Z.b0) (hs.slm Z.b0) rfl Z.b17 (by have := congrArg List.length hxs; simp only [List.length_map] at this; omega) (fun q hq ↦ slQ hs (fun e he ↦ by simp [he]) (hxm q hq)) (fun q hq ↦ slQ hs (fun e he ↦ by simp [he]) hq) hxz hz0) ?_
  rintro v28_16 w28_16 ⟨rfl, hy⟩
  replace hs := Z.w1 (hs.call hy); clear hy
  rw [decide_eq_true hxs]
  refine Z.g64 ?_
  refine Z.yes (s := 185) (b := false) rfl rfl rfl ?_
  refine Z.g13 ?_
  refine Z.g64 ?_
  refine Z.g106 ?_
  refine Z.g221 ?_
  refine Z.g98 ?_
  refine Z.g221 ?_
  refine Z.g21 ?_
  refine Z.g130 ?_
  refine Z.g16 ?_
  refine Z.g31 ?_
  refine Z.only [2, 5, 11, 20, 23, 209] rfl ?_
  refine Z.g313 ?_
  refine Z.cond rfl (fun h => absurd h (by rw [b5]; simp; omega)) (fun hc28 => ?_)
  refine Z.g183 ?_
  refine Z.g118 ?_
  refine Z.l rfl rfl (by rfl) (Z.keepS hs) Z.b44 ?_
  refine Z.lb 6 rfl ?_
  refine Z.split (s := 216) rfl (fun hsp216 => ?_) (fun hsp216 => ?_)
  · refine Z.yes (s := 216) (b := true) rfl hsp216 rfl ?_
    (try simp at hsp216)
    refine Z.g117 ?_
    refine Z.ZO.call rfl rfl (by rfl) rfl rfl Tryz.call15 rfl (mx_request29 g gb gr C kc sv so B.1 hs (fun e he ↦ by simp [he])) ?_
    rintro v30_8 w30_8 ⟨rfl, hy⟩
    replace hs := Z.w1 (hs.call hy); clear hy
    refine Z.g22 ?_
    refine Z.g98 ?_
    refine Z.g64 ?_
    refine Z.g138 ?_
    refine Z.lb 5 rfl ?_
    refine Z.g21 ?_
    refine Z.g130 ?_
    refine Z.g16 ?_
    refine Z.g22 ?_
    refine Z.yes (s := 216) (b := true) rfl rfl rfl ?_
    refine Z.g15 ?_
    refine Z.g314 ?_
    refine Z.only [236] rfl ?_
    refine Z.g313 ?_
    refine Z.cond rfl (fun h => absurd h (by first | (simp; done) | (obtain ⟨hh1, hh2⟩ : up = true ∧ 6 ≤ size := (by simpa using hsp216); obtain ⟨u1, u2, u3⟩ := hup (hPl.2.trans (hupp.trans hh1)) hh2; simp only [u1, u3]; simp; intro hne _; cases hr : R.1.r.reg with | false => rfl | true => exact absurd (by rw [hr, u2 hr]; decide) hne))) (fun hc30 => ?_)
    refine Z.g151 ?_
    refine Z.g3 ?_
    refine Z.g129 ?_
    rintro v32_0 w32_0 ⟨rfl, hy⟩
    replace hs := Z.w1 (hs.call hy); clear hy
    refine Z.g239 ?_
    refine Z.g52 ?_
    exact ⟨_, rfl, rfl, hs.sub (List.nil_sublist _)⟩
  refine Z.yes (s := 216) (b := false) rfl hsp216 rfl ?_
  (try simp at hsp216)
  refine Z.g43 ?_
  refine Z.g43 ?_
  refine Z.g8 ?_
  refine Z.g8 ?_
  refine Z.g8 ?_
  refine Z.g43 ?_
  refine Z.g43 ?_
  refine Z.g8 ?_
  refine Z.g200 ?_
  refine Z.g13 ?_
  refine Z.g314 ?_
  refine Z.only [236] rfl ?_
  refine Z.g313 ?_
  refine Z.cond rfl (fun h => absurd h (by first | (simp; done) | (obtain ⟨hh1, hh2⟩ : up = true ∧ 6 ≤ size := (by simpa using hsp216); obtain ⟨u1, u2, u3⟩ := hup (hPl.2.trans (hupp.trans hh1)) hh2; simp only [u1, u3]; simp; intro hne _; cases hr : R.1.r.reg with | false => rfl | true => exact absurd (by rw [hr, u2 hr]; decide) hne))) (fun hc30 => ?_)
  refine Z.g151 ?_
  refine Z.g3 ?_
  refine Z.g129 ?_
  rintro v32_0 w32_0 ⟨rfl, hy⟩
  replace hs := Z.w1 (hs.call hy); clear hy
  refine Z.g239 ?_
  refine Z.g52 ?_
  exact ⟨_, rfl, rfl, hs.sub (List.nil_sublist _)⟩
theorem macHolds_rd (cs0 : Array Value) (a1 : Option Addr) (len1 cap1 : Nat) (a2 : Int) (a3 : Int) (a4 : Option Addr) (len4 cap4 : Nat) (w : World) (z0 : Rd Tryz.prog w 26 (Value.agg cs0).cells.toList) (z1 : Rd Tryz.prog w 34 (Value.slice a1 len1 cap1).cells.toList) (z2 : Rd Tryz.prog w 3 (Value.int .i64 a2).cells.toList) (z3 : Rd Tryz.prog w 3 (Value.int .i64 a3).cells.toList) (z4 : Rd Tryz.prog w 48 (Value.slice a4 len4 cap4).cells.toList) :
    Calls Tryz.prog 6 #[.agg cs0, .slice a1 len1 cap1, .int .i64 a2, .int .i64 a3, .slice a4 len4 cap4] w fun e w' => e = .returned (.bool true) ∧ Below w.heap.size w w' := by
  obtain ⟨A, n, k, a, b, c, d, up, ls, hr, h1, h2, h3, h4⟩ := rd_cfg29 z0
  have e : cs0 = #[.slice A n k, .int .i64 a, .int .i64 b, .int .i64 c, .int .i64 d, .bool up] := by
    have : cs0.toList = [.slice A n k, .int .i64 a, .int .i64 b, .int .i64 c, .int .i64 d, .bool up] := by simpa [Value.cells] using hr
    exact Array.toList_inj.1 this
  rw [e]
  obtain ⟨dem, j1, j2, j3, j4, j5⟩ := Rb.rd_ints (show Rd Tryz.prog w 34 [.slice a1 len1 cap1] by simpa [Value.cells] using z1)
  obtain ⟨use, k1, k2, k3, k4, k5⟩ := Rb.rd_bytes (show Rd Tryz.prog w 48 [.slice a4 len4 cap4] by simpa [Value.cells] using z4)
  have key : Calls Tryz.prog 6 #[cfgV A n k a b c d up, .slice a1 len1 cap1, .int .i64 a2, .int .i64 a3, .slice a4 len4 cap4] w (SX.Ret fun v w' => v = .bool true ∧ SX.St w [] w' []) := by
    by_cases h : okN9 ls a b c d
    · exact holds_ok A n k a b c d up a1 len1 cap1 a2 a3 a4 len4 cap4 ls dem use w h4 h1 h2 Z.b9 j5 j1 Z.b9 k5 k1 Z.b9 k4 h
    exact holds_bad A n k a b c d up a1 len1 cap1 a2 a3 a4 len4 cap4 ls dem use w h4 h1 h2 Z.b9 j5 j1 Z.b9 k5 k1 Z.b9 k4 h
  refine key.mono ?_
  rintro e w' ⟨v, rfl, rfl, h⟩
  exact ⟨rfl, h.below⟩
end Go.Proofs.YtbojkoiopkaciaaGreat
