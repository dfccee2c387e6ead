/- Part 5 of the proofs that lead to the statement. -/
import Derived.Test.YtbojkoiopkaciaaGreatY4
import Derived.Test.YtbojkoiopkaciaaGreatRows
namespace Go.Proofs.YtbojkoiopkaciaaGreat
open Go.RowKit Go.Proofs.Tryz SX
set_option linter.unusedSimpArgs false
set_option linter.unusedVariables false
set_option maxRecDepth 100000
set_option maxHeartbeats 8000000
structure PtV where
  lc : Int
  B : Option Addr
  c : Nat
  co : Nat
  l : List Int
def PtV.cells (q : PtV) : List Value := [.int .i64 q.lc, .slice q.B q.l.length q.c]
def PtV.row (q : PtV) : Ent := Ent.row (.slice q.B q.l.length q.co) 5 1 q.l.length (ints .u8 q.l)
def PtV.plain (q : PtV) : Int × List Int := (q.lc, q.l)
def ptsL (sv : Value) (qs : List PtV) : List Ent := Ent.row sv 77 2 qs.length (qs.flatMap PtV.cells) :: qs.map PtV.row
theorem rp_add (go To gr Tr n ln c : Nat) (room lc : Int) (sv e : Value) (B : Option Addr) (cs : List Value) (w : World) (hs : St w (idsOf [Ent.blk go To #[sv], Ent.blk gr Tr #[.int .i64 room], Ent.row sv 77 2 n cs]) w [Ent.blk go To #[sv], Ent.blk gr Tr #[.int .i64 room], Ent.row sv 77 2 n cs])
    (hn : n ≤ 10) (hr : 0 ≤ room ∧ room ≤ 9223372036854775807) (hl : ln ≤ 10) :
    Calls Tryz.prog 93 #[.agg #[.int .i64 lc, .slice B ln c], e, .pointer (some ⟨go, 0, none⟩), .pointer (some ⟨gr, 0, none⟩)] w (Ret fun v w' => v = .tuple #[] ∧ ∃ sv', St w (idsOf [Ent.blk go To #[sv], Ent.blk gr Tr #[.int .i64 room], Ent.row sv 77 2 n cs]) w' [Ent.blk go To #[sv'], Ent.blk gr Tr #[.int .i64 (room - (1 + (ln : Int)))], Ent.row sv' 77 2 (n + 1) (cs ++ [.int .i64 lc, .slice B ln c])]) := by
  generalize hM : idsOf [Ent.blk go To #[sv], Ent.blk gr Tr #[.int .i64 room], Ent.row sv 77 2 n cs] = M at *; refine Z.enter func93 rfl ntmps93 rfl rfl ?_; refine V91 ?_; clear hs; intro g4 w4 hs; refine V857 ?_; refine V588 ?_; refine V858 ?_; refine V256 ?_; refine V513 ?_; refine V58 ?_; clear hs; intro g8 w8 hs; refine V2 ?_; refine V75 ?_; clear hs; intro g9 cap9 w9 hs; replace hs := U3 hs; refine V2 ?_; refine V170 ?_; clear hs; intro ws hs; replace hs := U1 hs; refine V857 ?_; refine Z.only [3, 4] rfl ?_; refine V300 ?_; refine V9 ?_; refine V200 ?_; refine V5 ?_; refine V17 ?_; refine V183 ?_; clear hs; intro ws hs; replace hs := U1 hs; refine V857 ?_; refine V77 ?_; exact ⟨_, rfl, rfl, _, hs.sel [1, 2, 3] J12⟩
theorem RpV.ok.time {m : RpV} (hm : m.ok) {t : Int} (h : m.now ≤ t ∧ t < 1073741824) : ({ m with now := t } : RpV).ok := by
  obtain ⟨h1, h2, h3, h4, h5, h6, h7, h8, h9, h10, h11⟩ := hm; exact ⟨h1, by simp only; omega, h3, h4, h5, h6, h7, h8, h9, h10, h11⟩
theorem encL_size (r : RepV) : (encL r).length = if r.long = true then 3 else 1 := by
  unfold encL
  split <;> simp
def okE (m : RpV) (t room : Int) : Prop := (m.now ≤ t ∧ t < 1073741824) ∧ 0 ≤ room
instance (m : RpV) (t room : Int) : Decidable (okE m t room) := by unfold okE; infer_instance
def bufB (m : RpV) (room : Int) : Prop := (m.reg = true ∨ m.per = true) ∧ 2 ≤ room
instance (m : RpV) (room : Int) : Decidable (bufB m room) := by unfold bufB; infer_instance
def elP1 (m : RpV) (room : Int) : List (Int × List Int) := if bufB m room then [(encLc (statV m room), encL (statV m room))] else []
def elR1 (m : RpV) (room : Int) : Int := if bufB m room then room - (1 + ((encL (statV m room)).length : Int)) else room
def elM1 (m : RpV) (t room : Int) : RpV := if bufB m room then { m with now := t, reg := false, per := false, last := t } else { m with now := t }
def powB (m : RpV) (room : Int) : Prop := m.pow = true ∧ 2 ≤ elR1 m room
instance (m : RpV) (room : Int) : Decidable (powB m room) := by unfold powB; infer_instance
def elM (m : RpV) (t room : Int) : RpV := if powB m room then { elM1 m t room with pow := false, fst := false, lastP := t, told := m.head } else elM1 m t room
theorem elR1_le (m : RpV) (room : Int) : elR1 m room ≤ room := by unfold elR1; split <;> omega
def elP (m : RpV) (room : Int) : List (Int × List Int) := elP1 m room ++ if powB m room then [(26, [m.head])] else []
def elsV (m : RpV) (t room : Int) : RpV × List (Int × List Int) × Int := if okE m t room then (elM m t room, elP m room, 0) else (m, [], 2)
theorem RpV.ok.elM1 {m : RpV} (hm : m.ok) {t room : Int} (h : m.now ≤ t ∧ t < 1073741824) : (elM1 m t room).ok := by
  obtain ⟨h1, h2, h3, h4, h5, h6, h7, h8, h9, h10, h11⟩ := hm.time h; unfold Go.Proofs.YtbojkoiopkaciaaGreat.elM1
  split
  · exact ⟨h1, h2, h3, h4, h5, h6, h7, h2, h9, h10, fun h => by simp at h⟩
  exact ⟨h1, h2, h3, h4, h5, h6, h7, h8, h9, h10, h11⟩
theorem elM1_now {m : RpV} {t room : Int} : (elM1 m t room).now = t ∧ (elM1 m t room).head = m.head ∧ (elM1 m t room).pow = m.pow := by unfold elM1; split <;> exact ⟨rfl, rfl, rfl⟩
theorem RpV.ok.elM {m : RpV} (hm : m.ok) {t room : Int} (h : m.now ≤ t ∧ t < 1073741824) : (elM m t room).ok := by
  obtain ⟨h1, h2, h3, h4, h5, h6, h7, h8, h9, h10, h11⟩ := hm.elM1 (room := room) h; unfold Go.Proofs.YtbojkoiopkaciaaGreat.elM
  split
  · exact ⟨h1, h2, h3, h4, h5, h6, h7, h8, (by have e := (elM1_now (m := m) (t := t) (room := room)).1; rw [e] at h2; exact h2), hm.head, h11⟩
  exact ⟨h1, h2, h3, h4, h5, h6, h7, h8, h9, h10, h11⟩
theorem RpV.ok.elsV {m : RpV} (hm : m.ok) (t room : Int) : (elsV m t room).1.ok := by
  unfold Go.Proofs.YtbojkoiopkaciaaGreat.elsV
  split
  · rename_i h; exact hm.elM h.1
  exact hm
theorem rp_elements (g T : Nat) (m : RpV) (t room : Int) (w : World) (hs : St w (idsOf [Ent.blk g T m.cells.toArray]) w [Ent.blk g T m.cells.toArray]) (hm : m.ok) (hroom : room ≤ 9223372036854775807) :
    Calls Tryz.prog 47 #[.pointer (some ⟨g, 0, none⟩), .int .i64 t, .int .i64 room] w (Ret fun v w' => ∃ sv qs, v = .tuple #[sv, .int .i64 (elsV m t room).2.2] ∧ qs.map PtV.plain = (elsV m t room).2.1 ∧ St w (idsOf [Ent.blk g T m.cells.toArray]) w' (Ent.blk g T (elsV m t room).1.cells.toArray :: ptsL sv qs)) := by
  generalize hM : idsOf [Ent.blk g T m.cells.toArray] = M at *; replace hs : St w M w [Ent.blk g T #[.bool (m).reg, .bool (m).per, .bool (m).pow, .bool (m).fst, .bool true, .int .i64 (m).c0, .int .i64 (m).c1, .int .i64 (m).c2, .int .i64 (m).c3, .int .i64 (m).now, .int .i64 (m).b0, .int .i64 (m).b1, .int .i64 (m).b2, .int .i64 (m).b3, .int .i64 (m).head, .int .i64 (m).last, .int .i64 (m).lastP, .int .i64 (m).told]] := hs; refine Z.enter func47 rfl ntmps47 rfl rfl ?_; refine V91 ?_; clear hs; intro g5 w5 hs; refine V2 ?_; refine Z.ZO.alloc rfl rfl (by rfl) zeroValue47 rfl hs ?_; clear hs; intro g6 w6 hs; refine V1 ?_; refine Z.only [0, 1, 5, 6] rfl ?_; refine V594 ?_; refine V62 ?_; refine Z.ZO.call rfl rfl (by rfl) rfl rfl call87 rfl (rp_none g m _ (hs.celOf J0)) ?_; rintro v1_1 w1_1 ⟨rfl, hy⟩; replace hs := U0 (hs.call hy); clear hy; refine V1 ?_; refine Z.only [0, 1, 5, 6, 9] rfl ?_; refine V6 ?_; refine Z.cond rfl (fun h => absurd h J16) (fun hc1 => ?_); refine V0 ?_; refine V527 ?_; refine Z.ZO.call rfl rfl (by rfl) rfl rfl call89 rfl (rp_valid g m t _ (hs.celOf J0)) ?_; rintro v3_2 w3_2 ⟨rfl, hy⟩; replace hs := U0 (hs.call hy); clear hy; refine V11 ?_; refine V9 ?_; refine V184 ?_; refine Z.only [0, 1, 5, 6, 12] rfl ?_; refine V6 ?_; refine Z.cond rfl (fun hc3 => ?_) (fun hc3 => ?_)
  · (try simp at hc3)
    have e : elsV m t room = (m, [], 2) := if_neg (by unfold okE; simp_all <;> omega); rw [e]; refine V304 ?_; refine V170 ?_; clear hs; intro ws hs; replace hs := U1 hs; refine V1 ?_; refine V337 ?_
    repeat (first | refine Z.rthen ?_ | refine Z.rblock ?_ | refine Z.rscope ?_)
    refine Z.out2 J105 ?_; exact ⟨_, rfl, _, [], rfl, rfl, (hs.nil 77 2).sel [3, 0] J12⟩
  (try simp at hc3)
  have hok : okE m t room := by unfold okE; simp_all <;> omega
  have e : elsV m t room = (elM m t room, elP m room, 0) := if_pos hok; rw [e]; refine V68 ?_; refine V858 ?_; refine V277 ?_; refine V231 ?_; refine V183 ?_; clear hs; intro ws hs; replace hs := U1 hs; refine V857 ?_; refine Z.only [0, 1, 5, 6] rfl ?_; refine V423 ?_; refine Z.only [0, 1, 5, 6, 8] rfl ?_; refine V125 ?_; refine V384 ?_; refine Z.l rfl rfl (by rfl) (Z.keepS hs) (Z.Yd.loadA _ rfl isAgg155 (fun _ => Z.cellsBo (cs := ({ m with now := t } : RpV).cells) [.bool m.reg, .bool m.per, .bool m.pow, .bool m.fst] J0 ⟨List.replicate 0 (.bool true) ++ ({ m with now := t } : RpV).cells.drop 4, rfl⟩) (by exact sizeOf155)) ?_; refine V2 ?_; refine Z.ZO.call rfl rfl (by rfl) rfl rfl call94 rfl (rp_buffer m.reg m.per m.pow m.fst _) ?_; rintro v7_4 w7_4 ⟨rfl, hy⟩; replace hs := U0 (hs.call hy); clear hy; refine V859 ?_; refine V9 ?_; refine V31 ?_; refine Z.only [0, 1, 5, 6, 8, 34] rfl ?_; refine V6 ?_; refine Z.cutt (ι := Value × List PtV) [0, 1, 5, 6, 8] rfl (fun _ => []) (fun x wr => x.2.map PtV.plain = elP1 m room ∧ St w M wr (Ent.blk g6 47 #[x.1] :: Ent.blk g5 3 #[.int .i64 (elR1 m room)] :: Ent.row x.1 77 2 x.2.length (x.2.flatMap PtV.cells) :: Ent.blk g T (elM1 m t room).cells.toArray :: x.2.map PtV.row)) ?_ ?_
  · skip
    refine Z.cond rfl (fun hc7 => ?_) (fun hc7 => ?_)
    · (try simp at hc7)
      have hbuf : bufB m room := by unfold bufB; simp_all
      refine V0 ?_; refine V11 ?_; refine V9 ?_; refine V2 ?_; refine Z.ZO.call rfl rfl (by rfl) rfl rfl call96 rfl (rp_status g { m with now := t } room _ (hs.celOf J0) (hm.time hok.1) (hm.full hbuf.1)) ?_; rintro v8_3 w8_3 ⟨rfl, hy⟩; replace hs := U0 (hs.call hy); clear hy; refine V2 ?_; refine Z.ZO.call rfl rfl (by rfl) rfl rfl call95 rfl (encrep_ok (statV m room) _ (statV_ok m room (hm.full hbuf.1))) ?_; rintro v8_4 w8_4 ⟨u, rfl, ⟨B, co, rfl, hy⟩⟩; replace hs := U0 (hs.call hy); clear hy; replace hs : St w M _ ([Ent.blk g6 _ _, Ent.blk g5 _ _, Ent.row _ _ _ _ _] ++ [Ent.blk g T #[.bool ({ m with now := t }).reg, .bool ({ m with now := t }).per, .bool ({ m with now := t }).pow, .bool ({ m with now := t }).fst, .bool true, .int .i64 ({ m with now := t }).c0, .int .i64 ({ m with now := t }).c1, .int .i64 ({ m with now := t }).c2, .int .i64 ({ m with now := t }).c3, .int .i64 ({ m with now := t }).now, .int .i64 ({ m with now := t }).b0, .int .i64 ({ m with now := t }).b1, .int .i64 ({ m with now := t }).b2, .int .i64 ({ m with now := t }).b3, .int .i64 ({ m with now := t }).head, .int .i64 ({ m with now := t }).last, .int .i64 ({ m with now := t }).lastP, .int .i64 ({ m with now := t }).told], Ent.row _ _ _ _ _]) := (hs.nil 77 2).sel [2, 3, 0, 4, 1] J12; refine V527 ?_
      refine Z.ZO.call rfl rfl (by rfl) rfl rfl call93 rfl (rp_add g6 _ g5 _ _ _ _ _ _ _ _ _ _ _ (hs.lend (L1 := [_, _, _])) J12 ⟨by omega, hroom⟩ (by rw [encL_size]; split <;> omega)) ?_; rintro v8_7 w8_7 ⟨rfl, sv, hz⟩; replace hs := hs.regain (L1 := [_, _, _]) hz; refine V857 ?_; refine Z.only [0, 1, 5, 6, 8] rfl ?_; refine V300 ?_; refine V259 ?_; refine V384 ?_; refine V3 ?_; refine V393 ?_; clear hs; intro ws hs; replace hs := U1 hs; refine V384 ?_; refine V8 ?_; refine V393 ?_; clear hs; intro ws hs; replace hs := U1 hs; refine V12 ?_; refine V504 ?_; refine V183 ?_; clear hs; intro ws hs; replace hs := U1 hs; refine V857 ?_; refine Z.only [0, 1, 5, 6, 8] rfl ?_; refine V6 ?_; exact Z.meet (sv, [⟨_, B, _, co, _⟩]) J8 ⟨by rw [show elP1 m room = _ from if_pos hbuf]; rfl, by rw [show elR1 m room = _ from if_pos hbuf, show elM1 m t room = _ from if_pos hbuf]; exact hs⟩
    (try simp at hc7)
    have hbuf : ¬ bufB m room := by unfold bufB; simp_all <;> omega
    refine V361 ?_; exact Z.meet (.slice none 0 0, []) J8 ⟨by rw [show elP1 m room = [] from if_neg hbuf]; rfl, by rw [show elR1 m room = room from if_neg hbuf, show elM1 m t room = { m with now := t } from if_neg hbuf]; exact (hs.nil 77 2).sel [1, 2, 0, 3] J12⟩
  clear hs; rintro ⟨sv, qs⟩ w7 ⟨hqs, hs⟩; refine Z.only [0, 1, 5, 6, 8] rfl ?_
  (try dsimp only at hs)
  dsimp only at hqs hs; have hmo := hm.elM1 (room := room) hok.1; obtain ⟨en, eh, ep⟩ := elM1_now (m := m) (t := t) (room := room); have hle := elR1_le m room; have hql : qs.length ≤ 1 := by rw [← List.length_map (f := PtV.plain), hqs]; unfold elP1; split <;> simp
  obtain ⟨A, cA, rfl, hcA, -, -⟩ := row_slv hs (j := 2) rfl; obtain ⟨m1, hm1⟩ : ∃ m1, m1 = elM1 m t room := ⟨_, rfl⟩; rw [← hm1] at hs hmo en eh ep; replace hs : St w M w7 ([Ent.blk g6 47 #[.slice A qs.length cA], Ent.blk g5 3 #[.int .i64 (elR1 m room)], Ent.row (.slice A qs.length cA) 77 2 qs.length (qs.flatMap PtV.cells), Ent.blk g T #[.bool (m1).reg, .bool (m1).per, .bool (m1).pow, .bool (m1).fst, .bool true, .int .i64 (m1).c0, .int .i64 (m1).c1, .int .i64 (m1).c2, .int .i64 (m1).c3, .int .i64 (m1).now, .int .i64 (m1).b0, .int .i64 (m1).b1, .int .i64 (m1).b2, .int .i64 (m1).b3, .int .i64 (m1).head, .int .i64 (m1).last, .int .i64 (m1).lastP, .int .i64 (m1).told]] ++ qs.map PtV.row) := hs; refine V182 ?_; refine V245 ?_; refine V3 ?_; refine V19 ?_; refine V107 ?_; refine V859 ?_; refine V9 ?_; refine V31 ?_; refine Z.only [0, 1, 6, 8, 63] rfl ?_; refine V6 ?_; refine Z.cond rfl (fun hc10 => ?_) (fun hc10 => ?_)
  · (try simp at hc10)
    have hpow : powB m room := by unfold powB; rw [← ep]; simp_all
    refine V0 ?_; refine V277 ?_; refine V226 ?_; refine V9 ?_; refine V2 ?_; refine Z.ZO.call rfl rfl (by rfl) rfl rfl call97 rfl (encpow_ok m1.head _ hmo.head) ?_; rintro v11_5 w11_5 ⟨u, rfl, ⟨B, co, rfl, hy⟩⟩; replace hs := U0 (hs.call hy); clear hy; replace hs : St w M _ ([Ent.blk g6 _ _, Ent.blk g5 _ _, Ent.row _ _ _ _ _] ++ ([Ent.blk g T #[.bool (m1).reg, .bool (m1).per, .bool (m1).pow, .bool (m1).fst, .bool true, .int .i64 (m1).c0, .int .i64 (m1).c1, .int .i64 (m1).c2, .int .i64 (m1).c3, .int .i64 (m1).now, .int .i64 (m1).b0, .int .i64 (m1).b1, .int .i64 (m1).b2, .int .i64 (m1).b3, .int .i64 (m1).head, .int .i64 (m1).last, .int .i64 (m1).lastP, .int .i64 (m1).told], Ent.row _ _ _ _ _] ++ qs.map PtV.row)) := St.selT (L1 := [_, _, _, _, _]) hs [1, 2, 3, 4, 0] J12; refine V527 ?_; refine Z.ZO.call rfl rfl (by rfl) rfl rfl call93 rfl (rp_add g6 _ g5 _ _ _ _ _ _ _ _ _ _ _ hs.lend J5 ⟨by simp_all <;> omega, by omega⟩ J16) ?_; rintro v11_8 w11_8 ⟨rfl, sv, hz⟩; replace hs := hs.regain hz; obtain ⟨A2, c2, rfl, -, -, -⟩ := row_slv hs (j := 2) rfl
    replace hs : St w M _ ([Ent.blk g6 _ _, Ent.blk g5 _ _, Ent.row _ _ _ _ _, Ent.blk g T #[.bool (m1).reg, .bool (m1).per, .bool (m1).pow, .bool (m1).fst, .bool true, .int .i64 (m1).c0, .int .i64 (m1).c1, .int .i64 (m1).c2, .int .i64 (m1).c3, .int .i64 (m1).now, .int .i64 (m1).b0, .int .i64 (m1).b1, .int .i64 (m1).b2, .int .i64 (m1).b3, .int .i64 (m1).head, .int .i64 (m1).last, .int .i64 (m1).lastP, .int .i64 (m1).told], Ent.row _ _ _ _ _] ++ qs.map PtV.row) := hs; refine V857 ?_; refine Z.only [0, 1, 6] rfl ?_; refine V300 ?_; refine V476 ?_; refine V12 ?_; refine V226 ?_; refine V9 ?_; refine V384 ?_; refine V19 ?_; refine V393 ?_; clear hs; intro ws hs; replace hs := U1 hs; refine V384 ?_; refine V38 ?_; refine V393 ?_; clear hs; intro ws hs; replace hs := U1 hs; refine V12 ?_; refine V505 ?_; refine V183 ?_; clear hs; intro ws hs; replace hs := U1 hs; refine V12 ?_; refine Z.l rfl rfl (by rfl) (Z.keepS hs) (Z.Yd.fieldA (m := 17) rfl J3) ?_; refine V183 ?_; clear hs; intro ws hs; replace hs := U1 hs; refine V857 ?_; refine Z.only [6] rfl ?_; refine V858 ?_; refine V256 ?_; refine V2 ?_; refine V170 ?_; clear hs; intro ws hs; replace hs := U1 hs; refine V1 ?_; refine V337 ?_; refine Z.out2 J105 ?_; refine ⟨_, rfl, _, qs ++ [⟨26, B, 1, co, [m1.head]⟩], rfl, ?_, ?_⟩
    · rw [List.map_append, hqs]; unfold elP; rw [if_pos hpow, ← eh]; rfl
    rw [show elM m t room = { m1 with pow := false, fst := false, lastP := t, told := m1.head } by simp only [elM, if_pos hpow, ← hm1, eh]]; have h2 := (St.selT (L1 := [_, _, _, _, _]) hs [3, 2, 4] J12); have h3 : St w M _ ([_, _] ++ (qs.map PtV.row ++ [_])) := St.perm (show St w M _ ([_, _] ++ ([_] ++ qs.map PtV.row)) from h2) (List.Perm.append_left _ List.perm_append_comm); simp only [ptsL, List.length_append, List.length_singleton, List.flatMap_append, List.map_append, List.map_cons, List.map_nil, List.flatMap_cons, List.flatMap_nil, List.append_nil]; exact h3
  (try simp at hc10)
  have hpow : ¬ powB m room := by unfold powB; rw [← ep]; simp_all <;> omega
  refine V862 ?_; refine V256 ?_; refine V2 ?_; refine V170 ?_; clear hs; intro ws hs; replace hs := U1 hs; refine V1 ?_; refine V337 ?_; refine Z.out2 J105 ?_; refine ⟨_, rfl, _, qs, rfl, by rw [hqs]; unfold elP; rw [if_neg hpow, List.append_nil], by rw [show elM m t room = elM1 m t room from if_neg hpow, ← hm1]; exact St.selT (L1 := [_, _, _, _]) hs [3, 2] J12⟩

theorem rpr_first (a b c d : Int) (w : World) : Calls Tryz.prog 135 #[.agg #[.int .i64 a, .int .i64 b, .int .i64 c, .int .i64 d]] w (Ret fun v w' => v = .int .i64 (fstG a b c d) ∧ St w [] w' []) := by
  have hs := St.start w; refine Z.enter func135 rfl ntmps135 rfl rfl ?_; refine V91 ?_; clear hs; intro g1 w1 hs; refine V626 ?_; refine V214 ?_; refine V519 ?_; refine V861 ?_; refine Z.loopk (ι := Nat) [1] rfl (fun k => [(3, [], .int .i64 (k : Int))]) (fun k wr => (k ≤ 4 ∧ ∀ j : Nat, j < k → ¬ 0 < elt [a, b, c, d] (j : Int)) ∧ St w [] wr [Ent.blk g1 37 (ints .i64 [a, b, c, d]).toArray]) (fun k => 4 - k) 0 J6 ⟨⟨by omega, fun j hj => by omega⟩, hs⟩ ?_; clear hs; rintro k w1 ⟨⟨hk, hj⟩, hs⟩; refine V519 ?_; refine V283 ?_; refine Z.only [1, 3, 5] rfl ?_; refine V6 ?_; refine Z.cond rfl (fun hc2 => ?_) (fun hc2 => ?_)
  · (try simp at hc2)
    have hg : (ints .i64 [a, b, c, d])[k]? = some (.int .i64 (elt [a, b, c, d] (k : Int))) := by
      have h4 : k = 0 ∨ k = 1 ∨ k = 2 ∨ k = 3 := by omega
      rcases h4 with rfl | rfl | rfl | rfl <;> rfl
    refine V454 ?_; refine V342 ?_; refine V1 ?_; refine Z.only [1, 3, 11] rfl ?_; refine V6 ?_; refine Z.cond rfl (fun hc4 => ?_) (fun hc4 => ?_)
    · (try simp at hc4)
      refine V151 ?_; refine V43 ?_; refine V90 ?_
      repeat (first | refine Z.rthen ?_ | refine Z.rblock ?_ | refine Z.rscope ?_)
      refine V199 ?_; refine ⟨_, rfl, ?_, Jn hs⟩; have h4 : k = 0 ∨ k = 1 ∨ k = 2 ∨ k = 3 := by omega
      have hp : 0 < elt [a, b, c, d] (k : Int) := by assumption
      unfold fstG
      rcases h4 with rfl | rfl | rfl | rfl
      · rw [if_pos (show 0 < a from hp)]; rfl
      · rw [if_neg (show ¬ 0 < a from hj 0 J5), if_pos (show 0 < b from hp)]; rfl
      · rw [if_neg (show ¬ 0 < a from hj 0 J5), if_neg (show ¬ 0 < b from hj 1 J5), if_pos (show 0 < c from hp)]; rfl
      rw [if_neg (show ¬ 0 < a from hj 0 J5), if_neg (show ¬ 0 < b from hj 1 J5), if_neg (show ¬ 0 < c from hj 2 J5), if_pos (show 0 < d from hp)]; rfl
    (try simp at hc4)
    refine V331 ?_; refine V519 ?_; refine V6 ?_; refine Z.again (k + 1) J11 ⟨⟨by omega, fun j h1 => ?_⟩, hs⟩ J5
    rcases Nat.lt_or_ge j k with h | h
    · exact hj j h
    obtain rfl : j = k := by omega
    omega
  (try simp at hc2)
  refine V181 ?_; refine V186 ?_; obtain rfl : k = 4 := by omega
  have h0 : ¬ 0 < a := hj 0 J5; have h1 : ¬ 0 < b := hj 1 J5; have h2 : ¬ 0 < c := hj 2 J5; have h3 : ¬ 0 < d := hj 3 J5; exact ⟨_, rfl, by unfold fstG; rw [if_neg h0, if_neg h1, if_neg h2, if_neg h3], Jn hs⟩
theorem dueV_eq (t s n : Int) : dueV t s n = (decide (0 < t) && decide (t ≤ n - s)) := by unfold dueV; simp
theorem chgV_eq (c h k : Int) : chgV c h k = (decide (0 < c) && decide (c ≤ max (h - k) (k - h))) := by unfold chgV; simp
def zeroR : RpV := ⟨false, false, false, false, 0, 0, 0, 0, 0, 0, 0, 0, 0, 0, 0, 0, 0⟩
theorem rpr_new (a b c d : Int) (w : World) : Calls Tryz.prog 33 #[.agg #[.int .i64 a, .int .i64 b, .int .i64 c, .int .i64 d]] w (Ret fun v w' => v = .tuple #[.agg (if okC a b c d then newR a b c d else zeroR).ref.toArray, .int .i64 (if okC a b c d then 0 else 2)] ∧ St w [] w' []) := by
  have hs := St.start w; refine Z.enter func33 rfl ntmps33 rfl rfl ?_; refine V91 ?_; clear hs; intro g1 w1 hs; refine V2 ?_; refine V239 ?_; clear hs; intro g2 w2 hs; refine V155 ?_; refine V192 ?_; refine V320 ?_; refine V9 ?_; refine V50 ?_; refine V38 ?_; refine V9 ?_; refine V31 ?_; refine Z.only [1, 2, 41] rfl ?_; refine V6 ?_; refine Z.cond rfl (fun hc1 => ?_) (fun hc1 => ?_)
  · (try simp at hc1)
    have e : ¬ okC a b c d := by rw [okC_iff]; omega
    rw [if_neg e, if_neg e]; refine V0 ?_; refine V190 ?_; clear hs; intro ws hs; replace hs := U1 hs; replace hs := U2 hs; refine V484 ?_
    repeat (first | refine Z.rthen ?_ | refine Z.rblock ?_ | refine Z.rscope ?_)
    refine Z.out2 J71 ?_; exact ⟨_, rfl, rfl, Jn hs⟩
  (try simp at hc1)
  have e : okC a b c d := by rw [okC_iff]; omega
  rw [if_pos e, if_pos e]; refine V862 ?_; refine Z.l rfl rfl (by rfl) (Z.keepS hs) J124 ?_; refine V190 ?_; clear hs; intro ws hs; replace hs := U1 hs; replace hs := U2 hs; refine V484 ?_; refine Z.out2 J71 ?_; exact ⟨_, rfl, rfl, Jn hs⟩
theorem elt4 {a b c d : Int} {k : Nat} (hk : k < 4) : (ints .i64 [a, b, c, d])[k]? = some (.int .i64 (elt [a, b, c, d] (k : Int))) := by
  have h4 : k = 0 ∨ k = 1 ∨ k = 2 ∨ k = 3 := by omega
  rcases h4 with rfl | rfl | rfl | rfl <;> rfl
theorem rpr_update (m : RpV) (t a b c d h : Int) (w : World) (hm : m.ok) :
    Calls Tryz.prog 80 #[.agg m.ref.toArray, .int .i64 t, .agg #[.int .i64 a, .int .i64 b, .int .i64 c, .int .i64 d], .int .i64 h] w (Ret fun v w' => v = .tuple #[.agg (updV m t a b c d h).1.ref.toArray, .int .i64 (updV m t a b c d h).2] ∧ St w [] w' []) := by
  have hs := St.start w
  show Calls Tryz.prog 80 #[.agg #[.int .i64 (m).c0, .int .i64 (m).c1, .int .i64 (m).c2, .int .i64 (m).c3, .int .i64 (m).now, .int .i64 (m).b0, .int .i64 (m).b1, .int .i64 (m).b2, .int .i64 (m).b3, .int .i64 (m).head, .bool (m).reg, .bool (m).per, .bool (m).pow, .bool (m).fst, .int .i64 (m).last, .int .i64 (m).lastP, .int .i64 (m).told], _, _, _] w _
  obtain ⟨h1, h2, h3, h4, h5, h6, h7, h8, h9, h10, h11⟩ := hm; refine Z.enter func80 rfl ntmps80 rfl rfl ?_; refine V91 ?_; clear hs; intro g4 w4 hs; refine V616 ?_; clear hs; intro g6 w6 hs; refine V2 ?_; refine V239 ?_; clear hs; intro g8 w8 hs; refine V1 ?_; refine Z.only [1, 3, 4, 6, 8] rfl ?_; refine V125 ?_; refine V54 ?_; refine V9 ?_; refine Z.lb 13 rfl ?_; refine V857 ?_; refine Z.only [1, 3, 4, 6, 8, 29] rfl ?_; refine V6 ?_; refine Z.cond rfl (fun hc1 => ?_) (fun hc1 => ?_)
  · (try simp at hc1)
    have hno : ¬ okU m t a b c d h := by rw [okU_iff]; omega
    have eU : updV m t a b c d h = (m, 2) := if_neg hno; rw [eU]; refine V0 ?_; refine V319 ?_; refine V860 ?_; clear hs; intro ws hs; replace hs := U1 hs; replace hs := U2 hs; refine V1 ?_; refine V503 ?_
    repeat (first | refine Z.rthen ?_ | refine Z.rblock ?_ | refine Z.rscope ?_)
    refine Z.out2 J71 ?_; exact ⟨_, rfl, rfl, Jn hs⟩
  (try simp at hc1)
  refine V463 ?_; refine Z.only [1, 3, 4, 6, 8, 10] rfl ?_; refine V861 ?_; refine Z.loopk (ι := Nat) [1, 3, 4, 6, 8] rfl (fun k => [(10, [], .int .i64 (k : Int))]) (fun k wr => (k ≤ 4 ∧ ∀ j : Nat, j < k → 0 ≤ elt [a, b, c, d] (j : Int) ∧ elt [a, b, c, d] (j : Int) ≤ 1099511627776) ∧ St w [] wr [Ent.blk g8 39 zeroR.ref.toArray, Ent.blk g6 37 #[.int .i64 a, .int .i64 b, .int .i64 c, .int .i64 d], Ent.blk g4 39 #[.int .i64 (m).c0, .int .i64 (m).c1, .int .i64 (m).c2, .int .i64 (m).c3, .int .i64 (m).now, .int .i64 (m).b0, .int .i64 (m).b1, .int .i64 (m).b2, .int .i64 (m).b3, .int .i64 (m).head, .bool (m).reg, .bool (m).per, .bool (m).pow, .bool (m).fst, .int .i64 (m).last, .int .i64 (m).lastP, .int .i64 (m).told]]) (fun k => 4 - k) 0 J6 ⟨⟨by omega, fun j hj => by omega⟩, hs⟩ ?_; clear hs; rintro k w1 ⟨⟨hk, hj⟩, hs⟩; refine Z.only [1, 3, 4, 6, 8, 10] rfl ?_; refine V283 ?_; refine Z.only [1, 3, 4, 6, 8, 10, 32] rfl ?_; refine V6 ?_; refine Z.cond rfl (fun hc4 => ?_) (fun hc4 => ?_)
  · (try simp at hc4)
    have hg := elt4 (a := a) (b := b) (c := c) (d := d) (k := k) J5; refine V454 ?_; refine V342 ?_; refine V50 ?_; refine V342 ?_; refine V31 ?_; refine Z.only [1, 3, 4, 6, 8, 10, 44] rfl ?_; refine V6 ?_; refine Z.cond rfl (fun hc6 => ?_) (fun hc6 => ?_)
    · (try simp at hc6)
      have hno : ¬ okU m t a b c d h := by
        rw [okU_iff]; rintro ⟨-, ⟨k0, k1, k2, k3⟩, -⟩; have h4 : k = 0 ∨ k = 1 ∨ k = 2 ∨ k = 3 := by omega
        rcases h4 with rfl | rfl | rfl | rfl
        all_goals simp [elt] at *
        all_goals omega
      have eU : updV m t a b c d h = (m, 2) := if_neg hno; rw [eU]; refine V0 ?_; refine V319 ?_; refine V860 ?_; clear hs; intro ws hs; replace hs := U1 hs; replace hs := U2 hs; refine V1 ?_; refine V503 ?_
      repeat (first | refine Z.rthen ?_ | refine Z.rblock ?_ | refine Z.rscope ?_)
      refine Z.out2 J71 ?_; exact ⟨_, rfl, rfl, Jn hs⟩
    (try simp at hc6)
    refine V331 ?_; refine Z.only [1, 3, 4, 6, 8, 10] rfl ?_; refine V6 ?_; refine Z.again (k + 1) J21 ⟨⟨by omega, fun j h1 => ?_⟩, hs⟩ J5
    rcases Nat.lt_or_ge j k with h | h
    · exact hj j h
    obtain rfl : j = k := by omega
    omega
  (try simp at hc4)
  refine V10 ?_; refine V6 ?_; refine V96 ?_; clear hs; intro wd8 hs; obtain rfl : k = 4 := by omega
  have u0 : 0 ≤ a ∧ a ≤ 1099511627776 := hj 0 J5; have u1 : 0 ≤ b ∧ b ≤ 1099511627776 := hj 1 J5; have u2 : 0 ≤ c ∧ c ≤ 1099511627776 := hj 2 J5; have u3 : 0 ≤ d ∧ d ≤ 1099511627776 := hj 3 J5; have hok : okU m t a b c d h := by rw [okU_iff]; omega
  have eU : updV m t a b c d h = (updG m t a b c d h, 0) := if_pos hok; rw [eU]; clear hj; refine Z.t 0 rfl rfl rfl (by rfl) J3 (Jk hs) (Z.Yd.fieldA (m := 5) rfl J3) ?_; refine Z.t 1 rfl rfl rfl (by rfl) J3 (Jk hs) (Z.Yd.loadA _ rfl isAgg37 (fun _ => Z.cellsBo (cs := m.ref) [.int .i64 (m).b0, .int .i64 (m).b1, .int .i64 (m).b2, .int .i64 (m).b3] J0 ⟨m.ref.drop 9, rfl⟩) J100) ?_; refine Z.t 3 rfl rfl rfl (by rfl) J3 (Jk hs) J75 ?_; refine V172 ?_; refine Z.ZO.call rfl rfl (by rfl) rfl rfl call135 rfl (rpr_first m.b0 m.b1 m.b2 m.b3 _) ?_; rintro v8_2 w8_2 ⟨rfl, hy⟩; replace hs := U0 (hs.call hy); clear hy; refine V46 ?_; refine V260 ?_; refine Z.ZO.call rfl rfl (by rfl) rfl rfl call135 rfl (rpr_first a b c d _) ?_; rintro v8_4 w8_4 ⟨rfl, hy⟩; replace hs := U0 (hs.call hy); clear hy; refine V69 ?_; refine Z.tb [5, 6] J3 rfl (Jk hs) rfl ?_; refine V40 ?_; refine Z.only [1, 3, 4, 6, 8, 11, 12] rfl ?_; refine V210 ?_; refine Z.drawS (fun W => ∃ x0 x1 x2 x3 x4 x5 : Value, Keep w [] [Ent.blk g8 39 zeroR.ref.toArray, Ent.blk g6 37 #[.int .i64 a, .int .i64 b, .int .i64 c, .int .i64 d], Ent.blk g4 39 #[.int .i64 m.c0, .int .i64 m.c1, .int .i64 m.c2, .int .i64 m.c3, x0, x1, x2, x3, x4, x5, .bool m.reg, .bool m.per, .bool m.pow, .bool m.fst, .int .i64 m.last, .int .i64 m.lastP, .int .i64 m.told]] W) (fun j => j != 8) mixed hs ?_; clear hs; intro wd9 hs; refine Z.tb [0] J3 rfl ⟨_, _, _, _, _, _, _, hs, by first | exact fun e he => he | (simp; done)⟩ rfl ?_
  refine Z.t 1 rfl rfl rfl (by rfl) J3 ⟨_, _, _, _, _, _, _, hs, by first | exact fun e he => he | (simp; done)⟩ (Z.Yd.loadA _ rfl isAgg37 (fun _ W hS => by obtain ⟨x0, x1, x2, x3, x4, x5, hK⟩ := hS; exact Z.cellsB (cs := [.int .i64 a, .int .i64 b, .int .i64 c, .int .i64 d]) J0 W hK) J100) ?_; refine Z.tb [2] J3 rfl ⟨_, _, _, _, _, _, _, hs, by first | exact fun e he => he | (simp; done)⟩ rfl ?_; refine Z.t 3 rfl rfl rfl (by rfl) J3 ⟨_, _, _, _, _, _, _, hs, by first | exact fun e he => he | (simp; done)⟩ (Z.Yd.fieldA (m := 4) rfl J3) ?_; refine V260 ?_; refine V25 ?_; clear hs; intro ws hs; replace hs := U1 hs; refine Z.tk (Dn := fun j => j != 8) (i := 4) (fun _ => ⟨_, _, _, _, _, _, _, hs, by first | exact fun e he => he | (simp; done)⟩) ?_; refine Z.t 5 rfl rfl rfl (by rfl) J3 ⟨_, _, _, _, _, _, _, hs, by first | exact fun e he => he | (simp; done)⟩ (Z.Yd.fieldA (m := 5) rfl J3) ?_; refine V262 ?_; refine V284 ?_; clear hs; intro ws hs; replace hs := U1 hs; replace hs := U2 hs; refine Z.tk (Dn := fun j => j != 8) (i := 6) (fun _ => ⟨_, _, _, _, _, _, _, hs, by first | exact fun e he => he | (simp; done)⟩) ?_; refine Z.t 7 rfl rfl rfl (by rfl) J3 ⟨_, _, _, _, _, _, _, hs, by first | exact fun e he => he | (simp; done)⟩ (Z.Yd.fieldA (m := 9) rfl J3) ?_; refine V412 ?_; refine V25 ?_; clear hs; intro ws hs; replace hs := U1 hs; refine Z.tk (Dn := fun j => j != 8) (i := 8) (fun h => absurd h J12) ?_; refine V40 ?_; refine Z.only [1, 3, 4, 8, 11, 12] rfl ?_; refine V30 ?_
  obtain ⟨R, hR⟩ : ∃ R, R = (updG m t a b c d h).reg := ⟨_, rfl⟩; obtain ⟨Q, hQ⟩ : ∃ R, R = (updG m t a b c d h).per := ⟨_, rfl⟩; obtain ⟨X, hX⟩ : ∃ R, R = (updG m t a b c d h).pow := ⟨_, rfl⟩; have eA : updG m t a b c d h = { m with reg := R, per := Q, pow := X, now := t, b0 := a, b1 := b, b2 := c, b3 := d, head := h } := by rw [hR, hQ, hX]; rfl
  simp only [updG] at hR hQ hX; refine V18 ?_; refine V1 ?_; refine Z.only [1, 3, 4, 8, 11, 12, 58] rfl ?_; refine V6 ?_; refine Z.cutt (ι := Unit) [1, 3, 4, 8] rfl (fun _ => []) (fun _ wr => St w [] wr [Ent.blk g8 39 zeroR.ref.toArray, Ent.blk g4 39 ({ m with reg := R, per := Q, now := t, b0 := a, b1 := b, b2 := c, b3 := d, head := h } : RpV).ref.toArray]) ?_ ?_
  · skip
    refine Z.cond rfl (fun hc10 => ?_) (fun hc10 => ?_)
    · (try simp at hc10)
      rw [if_pos J72] at hR hQ; refine V42 ?_; refine V148 ?_; refine V393 ?_; clear hs; intro ws hs; replace hs := U1 hs; refine V281 ?_; refine V393 ?_; clear hs; intro ws hs; replace hs := U1 hs; refine V857 ?_; refine Z.only [1, 3, 4, 8] rfl ?_; refine V6 ?_; exact Z.meet () J10 (by rw [hR, hQ]; exact hs.sel [0, 2] J12)
    (try simp at hc10)
    rw [if_neg J72] at hR hQ; refine V0 ?_; refine V148 ?_; refine V107 ?_; refine V476 ?_; refine V3 ?_; refine V104 ?_; refine V50 ?_; refine V226 ?_; refine V9 ?_; refine V17 ?_; refine V3 ?_; refine V104 ?_; refine V50 ?_; refine V148 ?_; refine V393 ?_; clear hs; intro ws hs; replace hs := U1 hs; refine V857 ?_; refine Z.only [1, 3, 4, 8] rfl ?_; refine V300 ?_; refine V281 ?_; refine V107 ?_; refine V859 ?_; refine V3 ?_; refine V48 ?_; refine V50 ?_; refine V226 ?_; refine V9 ?_; refine V17 ?_; refine V3 ?_; refine V48 ?_; refine V50 ?_; refine V281 ?_; refine V393 ?_; clear hs; intro ws hs; replace hs := U1 hs; refine V857 ?_; refine Z.only [1, 3, 4, 8] rfl ?_; refine V6 ?_; exact Z.meet () J10 (by rw [hR, hQ, dueV_eq, dueV_eq]; exact hs.sel [0, 2] J12)
  clear hs; rintro _ w10 hs; refine Z.only [1, 3, 4, 8] rfl ?_
  replace hs : St w [] w10 [Ent.blk g8 39 zeroR.ref.toArray, Ent.blk g4 39 #[.int .i64 ({ m with reg := R, per := Q, now := t, b0 := a, b1 := b, b2 := c, b3 := d, head := h }).c0, .int .i64 ({ m with reg := R, per := Q, now := t, b0 := a, b1 := b, b2 := c, b3 := d, head := h }).c1, .int .i64 ({ m with reg := R, per := Q, now := t, b0 := a, b1 := b, b2 := c, b3 := d, head := h }).c2, .int .i64 ({ m with reg := R, per := Q, now := t, b0 := a, b1 := b, b2 := c, b3 := d, head := h }).c3, .int .i64 ({ m with reg := R, per := Q, now := t, b0 := a, b1 := b, b2 := c, b3 := d, head := h }).now, .int .i64 ({ m with reg := R, per := Q, now := t, b0 := a, b1 := b, b2 := c, b3 := d, head := h }).b0, .int .i64 ({ m with reg := R, per := Q, now := t, b0 := a, b1 := b, b2 := c, b3 := d, head := h }).b1, .int .i64 ({ m with reg := R, per := Q, now := t, b0 := a, b1 := b, b2 := c, b3 := d, head := h }).b2, .int .i64 ({ m with reg := R, per := Q, now := t, b0 := a, b1 := b, b2 := c, b3 := d, head := h }).b3, .int .i64 ({ m with reg := R, per := Q, now := t, b0 := a, b1 := b, b2 := c, b3 := d, head := h }).head, .bool ({ m with reg := R, per := Q, now := t, b0 := a, b1 := b, b2 := c, b3 := d, head := h }).reg, .bool ({ m with reg := R, per := Q, now := t, b0 := a, b1 := b, b2 := c, b3 := d, head := h }).per, .bool ({ m with reg := R, per := Q, now := t, b0 := a, b1 := b, b2 := c, b3 := d, head := h }).pow, .bool ({ m with reg := R, per := Q, now := t, b0 := a, b1 := b, b2 := c, b3 := d, head := h }).fst, .int .i64 ({ m with reg := R, per := Q, now := t, b0 := a, b1 := b, b2 := c, b3 := d, head := h }).last, .int .i64 ({ m with reg := R, per := Q, now := t, b0 := a, b1 := b, b2 := c, b3 := d, head := h }).lastP, .int .i64 ({ m with reg := R, per := Q, now := t, b0 := a, b1 := b, b2 := c, b3 := d, head := h }).told]] := hs
  dsimp only at hs; refine V363 ?_; refine V505 ?_; refine V9 ?_; refine V395 ?_; refine Z.only [1, 4, 8, 13] rfl ?_; refine V84 ?_; refine Z.only [1, 4, 8, 13, 109] rfl ?_; refine V6 ?_
  refine Z.cutt (ι := Unit) [1, 4, 8] rfl (fun _ => [(13, [], .int .i64 (max (h - m.told) (m.told - h)))]) (fun _ wr => St w [] wr [Ent.blk g8 39 zeroR.ref.toArray, Ent.blk g4 39 #[.int .i64 ({ m with reg := R, per := Q, now := t, b0 := a, b1 := b, b2 := c, b3 := d, head := h }).c0, .int .i64 ({ m with reg := R, per := Q, now := t, b0 := a, b1 := b, b2 := c, b3 := d, head := h }).c1, .int .i64 ({ m with reg := R, per := Q, now := t, b0 := a, b1 := b, b2 := c, b3 := d, head := h }).c2, .int .i64 ({ m with reg := R, per := Q, now := t, b0 := a, b1 := b, b2 := c, b3 := d, head := h }).c3, .int .i64 ({ m with reg := R, per := Q, now := t, b0 := a, b1 := b, b2 := c, b3 := d, head := h }).now, .int .i64 ({ m with reg := R, per := Q, now := t, b0 := a, b1 := b, b2 := c, b3 := d, head := h }).b0, .int .i64 ({ m with reg := R, per := Q, now := t, b0 := a, b1 := b, b2 := c, b3 := d, head := h }).b1, .int .i64 ({ m with reg := R, per := Q, now := t, b0 := a, b1 := b, b2 := c, b3 := d, head := h }).b2, .int .i64 ({ m with reg := R, per := Q, now := t, b0 := a, b1 := b, b2 := c, b3 := d, head := h }).b3, .int .i64 ({ m with reg := R, per := Q, now := t, b0 := a, b1 := b, b2 := c, b3 := d, head := h }).head, .bool ({ m with reg := R, per := Q, now := t, b0 := a, b1 := b, b2 := c, b3 := d, head := h }).reg, .bool ({ m with reg := R, per := Q, now := t, b0 := a, b1 := b, b2 := c, b3 := d, head := h }).per, .bool ({ m with reg := R, per := Q, now := t, b0 := a, b1 := b, b2 := c, b3 := d, head := h }).pow, .bool ({ m with reg := R, per := Q, now := t, b0 := a, b1 := b, b2 := c, b3 := d, head := h }).fst, .int .i64 ({ m with reg := R, per := Q, now := t, b0 := a, b1 := b, b2 := c, b3 := d, head := h }).last, .int .i64 ({ m with reg := R, per := Q, now := t, b0 := a, b1 := b, b2 := c, b3 := d, head := h }).lastP, .int .i64 ({ m with reg := R, per := Q, now := t, b0 := a, b1 := b, b2 := c, b3 := d, head := h }).told]]) ?_ ?_
  · skip
    refine Z.cond rfl (fun hc15 => ?_) (fun hc15 => ?_)
    · (try simp at hc15)
      refine V42 ?_; refine V859 ?_; refine Z.l rfl rfl (by rfl) (Z.keepS hs) (Z.Yd.neg rfl (fun hG => Z.wi64 J2)) ?_; refine V1 ?_; refine Z.only [1, 4, 8, 13] rfl ?_; refine V6 ?_; exact Z.meet () J118 hs
    (try simp at hc15)
    refine V361 ?_; exact Z.meet () J118 hs
  clear hs; rintro _ w15 hs; refine Z.only [1, 4, 8, 13] rfl ?_; dsimp only at hs; refine V0 ?_; refine V371 ?_; refine V107 ?_; refine V859 ?_; refine Z.l rfl rfl (by rfl) (Z.keepS hs) (Z.Yd.fieldA (m := 13) rfl J3) ?_; refine V107 ?_; refine V11 ?_; refine V3 ?_; refine V444 ?_; refine V50 ?_; refine V504 ?_; refine V9 ?_; refine V17 ?_; refine V3 ?_; refine V444 ?_; refine V259 ?_; refine V3 ?_; refine V38 ?_; refine V9 ?_; refine V50 ?_; refine V3 ?_; refine V38 ?_; refine V9 ?_; refine V50 ?_; refine V371 ?_; refine V393 ?_; clear hs; intro ws hs; replace hs := U1 hs; refine V857 ?_; refine Z.only [4, 8] rfl ?_; refine V858 ?_; refine V319 ?_; refine V860 ?_; clear hs; intro ws hs; replace hs := U1 hs; replace hs := U2 hs; refine V1 ?_; refine V503 ?_; refine Z.out2 J71 ?_
  (refine ⟨_, rfl, ?_, Jn hs⟩; rw [eA, hX, dueV_eq, chgV_eq]; rfl)

theorem statV_T {m : RpV} {room : Int} (h : 1 < (gps m.b0 m.b1 m.b2 m.b3).length ∧ 4 ≤ room) : statV m room = ⟨true, 0, lvl m.b0, lvl m.b1, lvl m.b2, lvl m.b3⟩ := if_pos h
theorem statV_F {m : RpV} {room : Int} (h : ¬ (1 < (gps m.b0 m.b1 m.b2 m.b3).length ∧ 4 ≤ room)) : statV m room = RepV.short (fstG m.b0 m.b1 m.b2 m.b3) (lvl (elt m.bs (fstG m.b0 m.b1 m.b2 m.b3))) := if_neg h
theorem elR1_T {m : RpV} {room : Int} (h : bufB m room) : elR1 m room = if 1 < (gps m.b0 m.b1 m.b2 m.b3).length ∧ 4 ≤ room then room - 4 else room - 2 := by
  unfold elR1; rw [if_pos h, encL_size]; unfold statV
  split <;> simp [RepV.short]
  all_goals omega
def cntG (l : List Int) (k : Nat) : Nat := ((List.range k).filter fun j : Nat => decide (0 < elt l (j : Int))).length
theorem cntG_T {l : List Int} {k : Nat} (h : 0 < elt l (k : Int)) : cntG l (k + 1) = cntG l k + 1 := by
  unfold cntG; rw [flt_take (by simpa using h)]; simp
theorem cntG_F {l : List Int} {k : Nat} (h : ¬ 0 < elt l (k : Int)) : cntG l (k + 1) = cntG l k := by
  unfold cntG; rw [flt_skip (by simpa using h)]
theorem cntG_le (l : List Int) (k : Nat) : cntG l k ≤ k := by
  have := List.length_filter_le (fun j : Nat => decide (0 < elt l (j : Int))) (List.range k)
  simpa [cntG] using this
theorem ref_get (m : RpV) (k : Nat) (hk : k < 4) : m.ref[0 + 5 + (k : Int).toNat * 1]? = some (.int .i64 (elt m.bs (k : Int))) := by
  have h4 : k = 0 ∨ k = 1 ∨ k = 2 ∨ k = 3 := by omega
  rcases h4 with rfl | rfl | rfl | rfl <;> rfl
def lvc (f : Bool) (m : RpV) : List Value := [.bool f, .int .i64 0, .int .i64 (lvl m.b0), .int .i64 (lvl m.b1), .int .i64 (lvl m.b2), .int .i64 (lvl m.b3)]
@[simp] theorem lvc_len (f : Bool) (m : RpV) : (lvc f m).length = 6 := rfl
theorem lvc_get (f : Bool) (m : RpV) (k : Nat) (hk : k < 4) : (lvc f m)[0 + 2 + (k : Int).toNat * 1]? = some (.int .i64 (lvl (elt m.bs (k : Int)))) := by
  have h4 : k = 0 ∨ k = 1 ∨ k = 2 ∨ k = 3 := by omega
  rcases h4 with rfl | rfl | rfl | rfl <;> rfl
theorem levV_pos {x : Int} (h : 0 ≤ x) : levV x = lvl x := by unfold levV; rw [if_neg J5]
theorem xcs_full (m : RpV) (hm : m.ok) : xcs false m.bs (List.range 4) = lvc false m := by
  have e : ∀ k : Nat, k < 4 → lvX m.bs (List.range 4) k = levV (elt m.bs (k : Int)) := fun k hk => by unfold lvX; rw [if_pos (by simpa using hk)]
  unfold xcs lvc; rw [e 0 J5, e 1 J5, e 2 J5, e 3 J5]; rw [show levV (elt m.bs ((0 : Nat) : Int)) = lvl m.b0 from levV_pos hm.by0.1, show levV (elt m.bs ((1 : Nat) : Int)) = lvl m.b1 from levV_pos hm.by1.1, show levV (elt m.bs ((2 : Nat) : Int)) = lvl m.b2 from levV_pos hm.by2.1, show levV (elt m.bs ((3 : Nat) : Int)) = lvl m.b3 from levV_pos hm.by3.1]
theorem elt_pos (m : RpV) (hm : m.ok) (k : Nat) (hk : k < 4) : 0 ≤ elt m.bs (k : Int) := by
  have h4 : k = 0 ∨ k = 1 ∨ k = 2 ∨ k = 3 := by omega
  rcases h4 with rfl | rfl | rfl | rfl
  · exact hm.by0.1
  · exact hm.by1.1
  · exact hm.by2.1
  exact hm.by3.1
theorem rpr_elements (m : RpV) (t room : Int) (w : World) (hm : m.ok) (hroom : room ≤ 9223372036854775807) :
    Calls Tryz.prog 81 #[.agg m.ref.toArray, .int .i64 t, .int .i64 room] w (Ret fun v w' => ∃ sv qs, v = .tuple #[.agg (elsV m t room).1.ref.toArray, sv, .int .i64 (elsV m t room).2.2] ∧ qs.map PtV.plain = (elsV m t room).2.1 ∧ St w [] w' (ptsL sv qs)) := by
  have hs := St.start w
  show Calls Tryz.prog 81 #[.agg #[.int .i64 (m).c0, .int .i64 (m).c1, .int .i64 (m).c2, .int .i64 (m).c3, .int .i64 (m).now, .int .i64 (m).b0, .int .i64 (m).b1, .int .i64 (m).b2, .int .i64 (m).b3, .int .i64 (m).head, .bool (m).reg, .bool (m).per, .bool (m).pow, .bool (m).fst, .int .i64 (m).last, .int .i64 (m).lastP, .int .i64 (m).told], _, _] w _
  have hall := lvX_all hm.by0.1 hm.by1.1 hm.by2.1 hm.by3.1; have hgl := gps_len m.b0 m.b1 m.b2 m.b3; have hfb := fstG_bd m.b0 m.b1 m.b2 m.b3; have hle := elR1_le m room; refine Z.enter func81 rfl ntmps81 rfl rfl ?_; refine V91 ?_; clear hs; intro g3 w3 hs; refine V2 ?_; refine V239 ?_; clear hs; intro g6 w6 hs; refine V31 ?_; refine V442 ?_; refine V125 ?_; refine V54 ?_; refine V9 ?_; refine Z.lb 9 rfl ?_; refine V857 ?_; refine Z.only [1, 2, 3, 6, 28] rfl ?_; refine V6 ?_; refine Z.cond rfl (fun hc1 => ?_) (fun hc1 => ?_)
  · (try simp at hc1)
    have hno : ¬ okE m t room := by unfold okE; omega
    have e : elsV m t room = (m, [], 2) := if_neg hno; rw [e]; refine V0 ?_; refine V319 ?_; refine V860 ?_; clear hs; intro ws hs; replace hs := U1 hs; replace hs := U2 hs; refine V31 ?_; refine V230 ?_
    repeat (first | refine Z.rthen ?_ | refine Z.rblock ?_ | refine Z.rscope ?_)
    refine Z.out3 J94 ?_; exact ⟨_, rfl, _, [], rfl, rfl, (hs.nil 77 2).sel [0] J12⟩
  (try simp at hc1)
  have hok : okE m t room := by unfold okE; omega
  have e : elsV m t room = (elM m t room, elP m room, 0) := if_pos hok; rw [e]; refine V862 ?_; refine V859 ?_; refine V54 ?_; refine V183 ?_; clear hs; intro ws hs; replace hs := U1 hs; refine V857 ?_; refine V442 ?_; refine V511 ?_; refine V446 ?_; refine V511 ?_; refine Z.only [1, 2, 3, 6, 9, 10] rfl ?_; refine V858 ?_; refine V481 ?_; clear hs; intro g11 w11 hs; refine V857 ?_; refine Z.only [1, 2, 3, 6, 9, 10, 11] rfl ?_; refine V214 ?_; refine V314 ?_; refine V861 ?_; refine Z.loopk (ι := Nat) [1, 2, 3, 6, 9, 11] rfl (fun k => [(10, [], .int .i64 (cntG m.bs k : Int)), (12, [], .int .i64 (k : Int))]) (fun k wr => k ≤ 4 ∧ St w [] wr [Ent.blk g11 86 (xcs false m.bs (List.range k)).toArray, Ent.blk g6 39 zeroR.ref.toArray, Ent.blk g3 39 #[.int .i64 (m).c0, .int .i64 (m).c1, .int .i64 (m).c2, .int .i64 (m).c3, .int .i64 t, .int .i64 (m).b0, .int .i64 (m).b1, .int .i64 (m).b2, .int .i64 (m).b3, .int .i64 (m).head, .bool (m).reg, .bool (m).per, .bool (m).pow, .bool (m).fst, .int .i64 (m).last, .int .i64 (m).lastP, .int .i64 (m).told]]) (fun k => 4 - k) 0 J11 ⟨by omega, hs⟩ ?_; clear hs; rintro k w1 ⟨hk, hs⟩; refine V314 ?_; refine V283 ?_; refine Z.only [1, 2, 3, 6, 9, 10, 11, 12, 33] rfl ?_; refine V6 ?_; refine Z.cond rfl (fun hc8 => ?_) (fun hc8 => ?_)
  · (try simp at hc8)
    have hcl := cntG_le m.bs k; refine V150 ?_; refine V514 ?_; refine V307 ?_; refine V1 ?_; refine Z.only [1, 2, 3, 6, 9, 10, 11, 12, 40] rfl ?_; refine V6 ?_; refine Z.cond rfl (fun hc10 => ?_) (fun hc10 => ?_)
    · (try simp at hc10)
      have hcs := cntG_T (l := m.bs) (k := k) J72; refine V93 ?_; refine V314 ?_; refine V300 ?_; refine V710 ?_; rintro v12_5 w12_5 ⟨rfl, hy⟩; replace hs := U0 (hs.call hy); clear hy; refine V402 ?_; clear hs; intro ws hs; replace hs := U1 hs; refine V857 ?_; refine V314 ?_; refine V302 ?_; refine V314 ?_; refine V6 ?_; rw [← levV_pos (elt_pos m hm k J5), xcs_set m.bs _ k J5, ← List.range_succ] at hs; refine Z.again (k + 1) J112 ⟨by omega, hs⟩ J5
    (try simp at hc10)
    have hcs := cntG_F (l := m.bs) (k := k) J5; refine V489 ?_; refine V710 ?_; rintro v12_5 w12_5 ⟨rfl, hy⟩; replace hs := U0 (hs.call hy); clear hy; refine V402 ?_; clear hs; intro ws hs; replace hs := U1 hs; refine V857 ?_; refine V314 ?_; refine V302 ?_; refine V314 ?_; refine V6 ?_; rw [← levV_pos (elt_pos m hm k J5), xcs_set m.bs _ k J5, ← List.range_succ] at hs; refine Z.again (k + 1) J112 ⟨by omega, hs⟩ J5
  (try simp at hc8)
  refine V403 ?_; obtain rfl : k = 4 := by omega
  have hcnt : cntG m.bs 4 = (gps m.b0 m.b1 m.b2 m.b3).length := rfl; rw [xcs_full m hm] at hs; refine V148 ?_; refine V107 ?_; refine V859 ?_; refine V281 ?_; refine V107 ?_; refine V126 ?_; refine Z.only [1, 2, 3, 6, 9, 10, 11, 60] rfl ?_; refine V6 ?_; refine Z.cutt (ι := Value × List PtV) [1, 3, 6] rfl (fun x => [(2, [], .int .i64 (elR1 m room)), (9, [], x.1)]) (fun x wr => x.2.map PtV.plain = elP1 m room ∧ St w [] wr (Ent.row x.1 77 2 x.2.length (x.2.flatMap PtV.cells) :: Ent.blk g6 39 zeroR.ref.toArray :: Ent.blk g3 39 (elM1 m t room).ref.toArray :: x.2.map PtV.row)) ?_ ?_
  · skip
    refine Z.cond rfl (fun hc13 => ?_) (fun hc13 => ?_)
    · (try simp at hc13)
      have hbuf : bufB m room := by unfold bufB; simp_all
      have hfull := hm.full hbuf.1; obtain ⟨g, hg⟩ := Int.eq_ofNat_of_zero_le hfb.1; have hg4 : g < 4 := by omega
      have eR := elR1_T hbuf; refine V182 ?_; refine V476 ?_; refine V857 ?_; refine Z.only [1, 2, 3, 6, 9, 11, 66] rfl ?_; refine V6 ?_; refine Z.cutt (ι := Unit) [1, 3, 6, 9, 11] rfl (fun _ => [(2, [], .int .i64 (elR1 m room))]) (fun _ wr => St w [] wr [Ent.blk g11 86 (statV m room).cells.toArray, Ent.blk g6 39 zeroR.ref.toArray, Ent.blk g3 39 #[.int .i64 (m).c0, .int .i64 (m).c1, .int .i64 (m).c2, .int .i64 (m).c3, .int .i64 t, .int .i64 (m).b0, .int .i64 (m).b1, .int .i64 (m).b2, .int .i64 (m).b3, .int .i64 (m).head, .bool (m).reg, .bool (m).per, .bool (m).pow, .bool (m).fst, .int .i64 (m).last, .int .i64 (m).lastP, .int .i64 (m).told]]) ?_ ?_
      · skip
        refine Z.cond rfl (fun hc14 => ?_) (fun hc14 => ?_)
        · (try simp at hc14)
          rw [if_pos J5] at eR; have eS := statV_T (m := m) (room := room) J5; refine V0 ?_; refine V3 ?_; refine V393 ?_; clear hs; intro ws hs; replace hs := U1 hs; refine V857 ?_; refine V563 ?_; refine V300 ?_; refine V859 ?_; refine V395 ?_; refine V563 ?_; refine V6 ?_; exact Z.meet () J117 (by rw [eS]; exact hs)
        (try simp at hc14)
        rw [if_neg J5] at eR; have eS := statV_F (m := m) (room := room) J5; refine V0 ?_; refine V78 ?_; refine Z.l rfl rfl (by rfl) (Z.keepS hs) (Z.Yd.loadA _ rfl isAgg37 (fun _ => Z.cellsBo (cs := ({ m with now := t } : RpV).ref) [.int .i64 (m).b0, .int .i64 (m).b1, .int .i64 (m).b2, .int .i64 (m).b3] J0 ⟨({ m with now := t } : RpV).ref.drop 9, rfl⟩) J100) ?_; refine V2 ?_; refine Z.ZO.call rfl rfl (by rfl) rfl rfl call135 rfl (rpr_first m.b0 m.b1 m.b2 m.b3 _) ?_; rintro v17_2 w17_2 ⟨rfl, hy⟩; replace hs := U0 (hs.call hy); clear hy; rw [hg]; refine V1 ?_; refine Z.only [1, 2, 3, 6, 9, 11, 13] rfl ?_; refine V303 ?_; refine V19 ?_; refine V22 ?_; refine Z.l rfl rfl (by rfl) (Z.keepS hs) (Z.Yd.load rfl isAgg3 (fun hG => Z.cellB J0 (by rw [Z.nth_eq]; exact lvc_get false m g hg4))) ?_; refine V1 ?_; refine Z.only [1, 2, 3, 6, 9, 11, 13, 14] rfl ?_; refine V303 ?_; refine V134 ?_; refine V860 ?_; clear hs; intro ws hs; replace hs := U1 hs; replace hs := U2 hs; refine V857 ?_; refine Z.only [1, 2, 3, 6, 9, 11, 13, 14] rfl ?_; refine V858 ?_; refine V11 ?_; refine V402 ?_; clear hs; intro ws hs; replace hs := U1 hs; refine V857 ?_; refine V563 ?_; refine V300 ?_; refine V859 ?_; refine V395 ?_; refine V563 ?_; refine V6 ?_; exact Z.meet () J117 (by rw [eS, hg, ← sh_set g _ hg4]; exact hs)
      clear hs; rintro _ w14 hs; refine V563 ?_; refine V0 ?_; refine V202 ?_; refine V2 ?_; refine Z.ZO.call rfl rfl (by rfl) rfl rfl call137 rfl (rencrep_ok (statV m room) _ (statV_ok m room hfull)) ?_; rintro v22_1 w22_1 ⟨u, rfl, ⟨B, co, rfl, hy⟩⟩; replace hs := U0 (hs.call hy); clear hy; refine V50 ?_; refine V274 ?_; clear hs; intro g15 w15 hs; refine V860 ?_; clear hs; intro ws hs; replace hs := U1 hs; replace hs := U2 hs; refine V1 ?_; refine Z.only [1, 2, 3, 6, 9, 15] rfl ?_; refine V303 ?_; refine V513 ?_; refine V58 ?_; clear hs; intro g92 w92 hs; replace hs := hs.nil 77 2; refine V2 ?_; refine V75 ?_; clear hs; intro g93 cap93 w93 hs; replace hs := U3 hs; refine V1 ?_; refine V446 ?_; refine V300 ?_; refine V859 ?_; refine V148 ?_; refine V393 ?_; clear hs; intro ws hs; replace hs := U1 hs; refine V281 ?_; refine V393 ?_; clear hs; intro ws hs; replace hs := U1 hs; refine V226 ?_; refine V183 ?_; clear hs; intro ws hs; replace hs := U1 hs; refine V857 ?_; refine V446 ?_; refine V6 ?_; exact Z.meet (_, [⟨_, B, _, co, _⟩]) J8 ⟨by rw [show elP1 m room = _ from if_pos hbuf]; rfl, by rw [show elM1 m t room = _ from if_pos hbuf]; exact hs.sel [0, 4, 5, 2] J12⟩
    (try simp at hc13)
    have hbuf : ¬ bufB m room := by unfold bufB; simp_all <;> omega
    refine V361 ?_; exact Z.meet (.slice none 0 0, []) (by refine ⟨?_, ?_, ?_, ?_, ?_, trivial⟩ <;> first | rfl | (refine Z.lookv rfl ?_; rw [show elR1 m room = room from if_neg hbuf])) ⟨by rw [show elP1 m room = [] from if_neg hbuf]; rfl, by rw [show elM1 m t room = _ from if_neg hbuf]; exact (hs.nil 77 2).sel [0, 2, 3] J12⟩
  clear hs; rintro ⟨sv, qs⟩ w13 ⟨hqs, hs⟩; refine V446 ?_
  (try dsimp only at hs)
  dsimp only at hqs hs; have hmo := hm.elM1 (room := room) hok.1; obtain ⟨en, eh, ep⟩ := elM1_now (m := m) (t := t) (room := room); have hql : qs.length ≤ 1 := by rw [← List.length_map (f := PtV.plain), hqs]; unfold elP1; split <;> simp
  obtain ⟨m1, hm1⟩ : ∃ m1, m1 = elM1 m t room := ⟨_, rfl⟩; rw [← hm1] at hs hmo en eh ep; have hmh := hmo.head; obtain ⟨A, cA, rfl, hcA, -, -⟩ := row_slv hs (j := 0) rfl; replace hs : St w [] w13 (Ent.row (.slice A qs.length cA) 77 2 qs.length (qs.flatMap PtV.cells) :: Ent.blk g6 39 zeroR.ref.toArray :: Ent.blk g3 39 #[.int .i64 (m1).c0, .int .i64 (m1).c1, .int .i64 (m1).c2, .int .i64 (m1).c3, .int .i64 (m1).now, .int .i64 (m1).b0, .int .i64 (m1).b1, .int .i64 (m1).b2, .int .i64 (m1).b3, .int .i64 (m1).head, .bool (m1).reg, .bool (m1).per, .bool (m1).pow, .bool (m1).fst, .int .i64 (m1).last, .int .i64 (m1).lastP, .int .i64 (m1).told] :: qs.map PtV.row) := hs; refine V182 ?_; refine V371 ?_; refine V107 ?_; refine V259 ?_; refine V857 ?_; refine Z.only [1, 3, 6, 9, 103] rfl ?_; refine V6 ?_; refine Z.cond rfl (fun hc25 => ?_) (fun hc25 => ?_)
  · (try simp at hc25)
    have hpow : powB m room := by unfold powB; rw [← ep]; simp_all
    refine V363 ?_; refine V231 ?_; refine V9 ?_; refine V99 ?_; refine V2 ?_; refine V132 ?_; clear hs; intro g108 w108 hs; refine V164 ?_; refine V2 ?_; refine V58 ?_; clear hs; intro g110 w110 hs; refine V2 ?_; refine V75 ?_; clear hs; intro g111 cap111 w111 hs; replace hs := U3 hs; refine V1 ?_; refine Z.only [1, 3, 6, 9] rfl ?_; refine V300 ?_; refine V859 ?_; refine V231 ?_; refine V9 ?_; refine V371 ?_; refine V393 ?_; clear hs; intro ws hs; replace hs := U1 hs; refine Z.l rfl rfl (by rfl) (Z.keepS hs) (Z.Yd.fieldA (m := 13) rfl J3) ?_; refine V393 ?_; clear hs; intro ws hs; replace hs := U1 hs; refine V504 ?_; refine V183 ?_; clear hs; intro ws hs; replace hs := U1 hs; refine V505 ?_; refine V183 ?_; clear hs; intro ws hs; replace hs := U1 hs; refine V857 ?_; refine Z.only [3, 6, 9] rfl ?_; refine V858 ?_; refine V319 ?_; refine V456 ?_; clear hs; intro ws hs; replace hs := U1 hs; replace hs := U2 hs; refine V31 ?_; refine V230 ?_; refine Z.out3 J94 ?_; have hE : elM m t room = { m1 with pow := false, fst := false, lastP := t, told := m1.head } := by simp only [elM, if_pos hpow, ← hm1, eh]
    have hs2 := St.asRow (k := 1) (size := 1) hs J16 J17; refine ⟨_, rfl, _, qs ++ [⟨26, some ⟨g108, 0, none⟩, 1, 1, [m1.head]⟩], by rw [hE]; rfl, ?_, ?_⟩
    · rw [List.map_append, hqs]; unfold elP; rw [if_pos hpow, ← eh]; rfl
    have h2 := (St.selT (L1 := [_, _, _, _]) hs2 [1, 0] J12); have h3 : St w [] _ ([_] ++ (qs.map PtV.row ++ [_])) := St.perm (show St w [] _ ([_] ++ ([_] ++ qs.map PtV.row)) from h2) (List.Perm.append_left _ List.perm_append_comm); simp only [ptsL, List.length_append, List.length_singleton, List.flatMap_append, List.map_append, List.map_cons, List.map_nil, List.flatMap_cons, List.flatMap_nil, List.append_nil]; exact h3
  (try simp at hc25)
  have hpow : ¬ powB m room := by unfold powB; rw [← ep]; simp_all <;> omega
  refine V862 ?_; refine V319 ?_; refine V456 ?_; clear hs; intro ws hs; replace hs := U1 hs; replace hs := U2 hs; refine V31 ?_; refine V230 ?_; refine Z.out3 J94 ?_; exact ⟨_, rfl, _, qs, by rw [show elM m t room = elM1 m t room from if_neg hpow, ← hm1]; rfl, by rw [hqs]; unfold elP; rw [if_neg hpow, List.append_nil], St.selT (L1 := [_, _, _]) hs [0] J12⟩









structure MpV where
  lc : Int
  B : Option Addr
  c : Nat
  l : List Int
def MpV.cells (q : MpV) : List Value := [.int .i64 q.lc, .slice q.B q.l.length q.c]
def MpV.plain (q : MpV) : Int × List Int := (q.lc, q.l)
theorem mp_len (q : MpV) : q.cells.length = 2 := rfl
theorem mp_one (q : MpV) : ∀ u ∈ q.cells, u.oneCell' = true := by simp [MpV.cells, Value.oneCell']
theorem fl_len {α β : Type} {enc : α → List β} {s : Nat} (hs : ∀ x, (enc x).length = s) (l : List α) : (l.flatMap enc).length = l.length * s := Z.flat_length hs
def ctlN (x : Int) : Int := if x = 26 ∨ x = 29 then 1 else if x = 27 then 2 else if x = 28 then 6 else if x = 30 then 3 else 0
theorem ctlN_bd (x : Int) : 0 ≤ ctlN x ∧ ctlN x ≤ 6 := by unfold ctlN; split <;> (try split) <;> (try split) <;> (try split) <;> omega
def sduB (x : Int) : Prop := 1 ≤ x ∧ x ≤ 10
instance (x : Int) : Decidable (sduB x) := by unfold sduB; infer_instance
theorem sdu_ctl {x : Int} (h : sduB x) : ctlN x = 0 := by unfold sduB at h; unfold ctlN; rw [if_neg J5, if_neg J5, if_neg J5, if_neg J5]
def ctlL : List (Int × Value) := [(26, .int .i64 1), (27, .int .i64 2), (28, .int .i64 6), (29, .int .i64 1), (30, .int .i64 3)]
theorem ctl_mlk (x : Int) : (mlk ctlL x).getD (.int .i64 0) = .int .i64 (ctlN x) ∧ (mlk ctlL x).isSome = decide (ctlN x ≠ 0) := by
  unfold mlk ctlL ctlN
  by_cases h1 : x = 26
  · subst h1; exact ⟨rfl, rfl⟩
  by_cases h2 : x = 27
  · subst h2; exact ⟨rfl, rfl⟩
  by_cases h3 : x = 28
  · subst h3; exact ⟨rfl, rfl⟩
  by_cases h4 : x = 29
  · subst h4; exact ⟨rfl, rfl⟩
  by_cases h5 : x = 30
  · subst h5; exact ⟨rfl, rfl⟩
  have e1 : ((26 : Int) == x) = false := by simp; omega
  have e2 : ((27 : Int) == x) = false := by simp; omega
  have e3 : ((28 : Int) == x) = false := by simp; omega
  have e4 : ((29 : Int) == x) = false := by simp; omega
  have e5 : ((30 : Int) == x) = false := by simp; omega
  simp [List.find?_cons, e1, e2, e3, e4, e5, h1, h2, h3, h4, h5]
theorem mc_controls (w : World) : Calls Tryz.prog 191 #[] w (Ret fun v w' => ∃ g, v = .map (some g) ∧ St w [] w' [Ent.mp g .i64 ctlL]) := by
  have hs := St.start w; refine Z.enter func191 rfl ntmps191 rfl rfl ?_; refine V121 ?_; refine Z.only [] rfl ?_; refine V858 ?_; refine V2 ?_; refine Z.ZO.mkMap rfl rfl (by rfl) hs .i64 ?_; clear hs; intro g1 w1 hs; refine V2 ?_; refine V221 ?_; clear hs; intro ws hs; replace hs := U7 hs; refine V2 ?_; refine V221 ?_; clear hs; intro ws hs; replace hs := U7 hs; refine V2 ?_; refine V221 ?_; clear hs; intro ws hs; replace hs := U7 hs; refine V2 ?_; refine V221 ?_; clear hs; intro ws hs; replace hs := U7 hs; refine V2 ?_; refine V221 ?_; clear hs; intro ws hs; replace hs := U7 hs; refine V31 ?_; refine V175 ?_; refine V422 ?_; exact ⟨_, rfl, _, rfl, hs⟩
theorem mc_Control (x : Int) (w : World) : Calls Tryz.prog 163 #[.int .i64 x] w (Ret fun v w' => v = .tuple #[.int .i64 (ctlN x), .bool (decide (ctlN x ≠ 0))] ∧ St w [] w' []) := by
  have hs := St.start w; obtain ⟨e1, e2⟩ := ctl_mlk x; refine Z.enter func163 rfl ntmps163 rfl rfl ?_; refine V538 ?_; refine V858 ?_; refine V2 ?_; refine Z.ZO.call rfl rfl (by rfl) rfl rfl call191 rfl (mc_controls _) ?_; rintro v1_0 w1_0 ⟨g, rfl, hy⟩; replace hs := U0 (hs.call hy); clear hy; refine V859 ?_; refine Z.l rfl rfl (by rfl) (Z.keepS hs) (Z.Yd.lookupT rfl rfl underlying264 underlying3 zeroValue3 J0) ?_; rw [e1, e2]; refine V18 ?_; refine V259 ?_; refine V857 ?_; refine V72 ?_; refine V858 ?_; refine V259 ?_; refine V857 ?_; refine V124 ?_; refine V162 ?_; exact ⟨_, rfl, rfl, Jn hs⟩
theorem mc_sdu (x : Int) (w : World) : Calls Tryz.prog 164 #[.int .i64 x] w (Ret fun v w' => v = .bool (decide (sduB x)) ∧ St w [] w' []) := by
  have hs := St.start w; refine Z.enter func164 rfl ntmps164 rfl rfl ?_; refine V242 ?_; refine Z.lb 7 rfl ?_; refine V857 ?_; refine V120 ?_; exact ⟨_, rfl, by congr 1; rw [Bool.eq_iff_iff]; simp only [decide_eq_true_eq]; unfold sduB; simp, hs⟩
theorem mr_sdu (x : Int) (w : World) : Calls Tryz.prog 115 #[.int .i64 x] w (Ret fun v w' => v = .bool (decide (sduB x)) ∧ St w [] w' []) := by
  have hs := St.start w; refine Z.enter func115 rfl ntmps115 rfl rfl ?_; refine V242 ?_; refine Z.lb 7 rfl ?_; refine V857 ?_; refine V120 ?_; exact ⟨_, rfl, by congr 1; rw [Bool.eq_iff_iff]; simp only [decide_eq_true_eq]; unfold sduB; simp, hs⟩
theorem mr_Control (x : Int) (w : World) : Calls Tryz.prog 116 #[.int .i64 x] w (Ret fun v w' => v = .int .i64 (ctlN x) ∧ St w [] w' []) := by
  have hs := St.start w; have e : ∀ z : Int, z = ctlN x → ∀ w', St w [] w' [] → ∃ v, Ending.returned (.int .i64 z) = .returned v ∧ v = .int .i64 (ctlN x) ∧ St w [] w' [] := fun z hz w' hw => ⟨_, rfl, by rw [hz], hw⟩
  refine Z.enter func116 rfl ntmps116 rfl rfl ?_; refine V336 ?_; refine V214 ?_; refine Z.only [3] rfl ?_; refine V861 ?_; refine V283 ?_; refine Z.only [3, 4] rfl ?_; refine V6 ?_; refine Z.cond rfl (fun hc2 => ?_) (fun hc2 => ?_)
  · (try simp at hc2)
    refine V361 ?_; refine Z.cond rfl (fun hc2 => ?_) (fun hc2 => ?_)
    · (try simp at hc2)
      refine V154 ?_
      repeat (first | refine Z.rthen ?_ | refine Z.rblock ?_ | refine Z.rscope ?_)
      refine V199 ?_; refine e _ ?_ _ hs; unfold ctlN
      simp_all
    (exfalso; simp at hc2 <;> omega)
  (try simp at hc2)
  refine V42 ?_; refine V31 ?_; refine Z.only [3, 4] rfl ?_; refine V6 ?_; refine Z.cond rfl (fun hc3 => ?_) (fun hc3 => ?_)
  · (try simp at hc3)
    refine V154 ?_
    repeat (first | refine Z.rthen ?_ | refine Z.rblock ?_ | refine Z.rscope ?_)
    refine V199 ?_; refine e _ ?_ _ hs; unfold ctlN
    simp_all
  (try simp at hc3)
  refine V151 ?_; refine Z.only [3, 7] rfl ?_; refine V6 ?_; refine Z.cond rfl (fun hc5 => ?_) (fun hc5 => ?_)
  · (try simp at hc5)
    refine V154 ?_
    repeat (first | refine Z.rthen ?_ | refine Z.rblock ?_ | refine Z.rscope ?_)
    refine V199 ?_; refine e _ ?_ _ hs; unfold ctlN
    simp_all
  (try simp at hc5)
  refine V151 ?_; refine Z.only [3, 9] rfl ?_; refine V6 ?_; refine Z.cond rfl (fun hc7 => ?_) (fun hc7 => ?_)
  · (try simp at hc7)
    refine V154 ?_
    repeat (first | refine Z.rthen ?_ | refine Z.rblock ?_ | refine Z.rscope ?_)
    refine V199 ?_; refine e _ ?_ _ hs; unfold ctlN
    simp_all
  (try simp at hc7)
  refine V151 ?_; refine Z.only [11] rfl ?_; refine V6 ?_; refine Z.cond rfl (fun hc9 => ?_) (fun hc9 => ?_)
  · (try simp at hc9)
    refine V154 ?_
    repeat (first | refine Z.rthen ?_ | refine Z.rblock ?_ | refine Z.rscope ?_)
    refine V199 ?_; refine e _ ?_ _ hs; unfold ctlN
    simp_all
  (try simp at hc9)
  refine V68 ?_; refine V858 ?_; refine V186 ?_; refine e _ ?_ _ hs; unfold ctlN
  simp_all

abbrev Prt := Int × List Int
def vldP : Bool → List Prt → Bool
  | _, [] => true
  | d, p :: r => if sduB p.1 then decide (1 ≤ p.2.length ∧ p.2.length ≤ 32767) && vldP true r else !d && decide (ctlN p.1 ≠ 0) && decide ((p.2.length : Int) = ctlN p.1) && vldP d r
theorem vldP_cons (d : Bool) (p : Prt) (r : List Prt) : vldP d (p :: r) = if sduB p.1 then decide (1 ≤ p.2.length ∧ p.2.length ≤ 32767) && vldP true r else !d && decide (ctlN p.1 ≠ 0) && decide ((p.2.length : Int) = ctlN p.1) && vldP d r := rfl
def extP (p : Prt) : Int := if sduB p.1 then (if 127 < p.2.length then 2 else 1) else 0
theorem extP_bd (p : Prt) : 0 ≤ extP p ∧ extP p ≤ 2 := by unfold extP; split <;> (try split) <;> omega
def totP (r : List Prt) : Int := (r.map fun p => 1 + extP p + (p.2.length : Int)).sum
theorem totP_snoc (r : List Prt) (p : Prt) : totP (r ++ [p]) = totP r + (1 + extP p + (p.2.length : Int)) := by simp [totP]
theorem totP_cons (p : Prt) (r : List Prt) : totP (p :: r) = (1 + extP p + (p.2.length : Int)) + totP r := by simp [totP]
theorem totP_app (r r' : List Prt) : totP (r ++ r') = totP r + totP r' := by simp [totP]
theorem totP_bd {ps : List MpV} (h : ∀ q ∈ ps, q.l.length ≤ 100000) : 0 ≤ totP (ps.map MpV.plain) ∧ totP (ps.map MpV.plain) ≤ ps.length * 100003 := by
  induction ps with
  | nil => simp [totP]
  | cons q r ih =>
    have h1 := ih fun x hx => h x (by simp [hx])
    have h2 := h q J16; have h3 := extP_bd q.plain; rw [List.map_cons, totP_cons]; have h4 : (q.plain.2.length : Int) = q.l.length := rfl; have h5 : (((q :: r).length : Nat) : Int) * 100003 = r.length * 100003 + 100003 := by rw [List.length_cons]; omega
    omega
theorem plain_at {ps : List MpV} {i : Nat} {q : MpV} (h : ps[i]? = some q) : (ps.map MpV.plain).drop i = q.plain :: (ps.map MpV.plain).drop (i + 1) := by
  obtain ⟨hi, hq⟩ := List.getElem?_eq_some_iff.1 h; rw [List.drop_eq_getElem_cons (by simpa using hi)]; simp [hq]
theorem plain_take {ps : List MpV} {i : Nat} {q : MpV} (h : ps[i]? = some q) : (ps.map MpV.plain).take (i + 1) = (ps.map MpV.plain).take i ++ [q.plain] := by
  rw [List.take_add_one, List.getElem?_map, h]
  rfl
theorem mc_valid (A : Option Addr) (n c : Nat) (ps : List MpV) (w : World) (hx : Sl w A (ps.flatMap MpV.cells)) (hl : ps.length = n) (hn : n ≤ 9223372036854775807) :
    Calls Tryz.prog 119 #[.slice A n c] w (Ret fun v w' => v = .bool (vldP false (ps.map MpV.plain)) ∧ St w [] w' []) := by
  have hs := St.start w; refine Z.enter func119 rfl ntmps119 rfl rfl ?_; refine V242 ?_; refine V1 ?_; refine V269 ?_; refine V539 ?_; refine Z.only [3, 8, 9, 10] rfl ?_; refine V861 ?_; refine Z.loopk (ι := Nat × Bool) [8, 9] rfl (fun x => [(3, [], .bool x.2), (10, [], .int .i64 (x.1 : Int))]) (fun x wr => (x.1 ≤ n ∧ vldP false (ps.map MpV.plain) = vldP x.2 ((ps.map MpV.plain).drop x.1)) ∧ St w [] wr []) (fun x => n - x.1) (0, false) J11 ⟨⟨Nat.zero_le _, rfl⟩, hs⟩ ?_; clear hs; rintro ⟨i, d⟩ w3 ⟨⟨hi, hV⟩, hs⟩; refine Z.only [3, 8, 9, 10] rfl ?_
  (try dsimp only at hs)
  dsimp only at hi hV; refine V121 ?_; refine Z.only [3, 8, 9, 10, 11] rfl ?_; refine V210 ?_; refine Z.cond rfl (fun hc3 => ?_) (fun hc3 => ?_)
  · (try simp at hc3)
    obtain ⟨b, off, rfl, hb0, hx2⟩ := Z.Sl.some hx J69; obtain ⟨q, hqi⟩ : ∃ q, ps[i]? = some q := ⟨_, List.getElem?_eq_getElem J5⟩; rw [plain_at hqi] at hV; have hone := mp_one q; have e1 : q.plain.1 = q.lc := rfl; have e2 : q.plain.2 = q.l := rfl; rw [vldP_cons, e1, e2] at hV; refine V583 ?_; clear hs; intro g5 w5 hs; refine V860 ?_; clear hs; intro ws hs; replace hs := U1 hs; replace hs := U2 hs; refine V857 ?_; refine Z.only [3, 5, 8, 9, 10] rfl ?_; refine V858 ?_; refine V544 ?_; refine Z.ZO.call rfl rfl (by rfl) rfl rfl call163 rfl (mc_Control q.lc _) ?_; rintro v5_2 w5_2 ⟨rfl, hy⟩; replace hs := U0 (hs.call hy); clear hy; refine V126 ?_; refine Z.only [3, 5, 6, 7, 8, 9, 10] rfl ?_; refine V861 ?_; refine V0 ?_; refine V544 ?_; refine Z.ZO.call rfl rfl (by rfl) rfl rfl call164 rfl (mc_sdu q.lc _) ?_; rintro v6_2 w6_2 ⟨rfl, hy⟩; replace hs := U0 (hs.call hy); clear hy; refine V1 ?_; refine Z.only [3, 5, 6, 7, 8, 9, 10, 20] rfl ?_; refine V6 ?_; refine Z.cond rfl (fun hc6 => ?_) (fun hc6 => ?_)
    · (try simp at hc6)
      have hsd : sduB q.lc := by assumption
      rw [if_pos hsd] at hV; refine V121 ?_; refine Z.only [3, 5, 8, 9, 10] rfl ?_; refine V858 ?_; refine V200 ?_; refine V11 ?_; refine V200 ?_; refine V31 ?_; refine Z.only [3, 8, 9, 10, 33] rfl ?_; refine V6 ?_; refine Z.cond rfl (fun hc8 => ?_) (fun hc8 => ?_)
      · (try simp at hc8)
        refine V154 ?_
        repeat (first | refine Z.rthen ?_ | refine Z.rblock ?_ | refine Z.rscope ?_)
        refine V199 ?_; exact ⟨_, rfl, by rw [hV, decide_eq_false J5, Bool.false_and], Jn hs⟩
      (try simp at hc8)
      refine V68 ?_; refine V332 ?_; refine Z.only [3, 8, 9, 10] rfl ?_; refine V6 ?_; exact Z.again (i + 1, true) J10 ⟨⟨by simp only; omega, by rw [hV, decide_eq_true J5, Bool.true_and]⟩, Jn hs⟩ J22
    (try simp at hc6)
    have hsd : ¬ sduB q.lc := by assumption
    rw [if_neg hsd] at hV; refine V0 ?_; refine V476 ?_; refine V200 ?_; refine V259 ?_; refine V857 ?_; refine Z.only [3, 8, 9, 10, 34] rfl ?_; refine V6 ?_; refine Z.cond rfl (fun hc10 => ?_) (fun hc10 => ?_)
    · (try simp at hc10)
      refine V154 ?_
      repeat (first | refine Z.rthen ?_ | refine Z.rblock ?_ | refine Z.rscope ?_)
      refine V199 ?_; exact ⟨_, rfl, by rw [hV]; rcases hc10 with (h | h) | h <;> simp [h], Jn hs⟩
    (try simp at hc10)
    refine V68 ?_; refine V332 ?_; refine Z.only [3, 8, 9, 10] rfl ?_; refine V6 ?_; exact Z.again (i + 1, d) J10 ⟨⟨by simp only; omega, by rw [hV]; simp_all⟩, Jn hs⟩ J22
  (try simp at hc3)
  refine V181 ?_; refine V186 ?_; obtain rfl : i = n := by omega
  rw [List.drop_of_length_le J45] at hV; exact ⟨_, rfl, by rw [hV]; rfl, hs⟩
theorem mc_formats (w : World) : Calls Tryz.prog 126 #[] w (Ret fun v w' => v = .agg #[.int .u64 0, .int .i64 7, .int .i64 127, .int .u64 1, .int .i64 15, .int .i64 32767] ∧ St w [] w' []) := by
  have hs := St.start w; refine Z.enter func126 rfl ntmps126 rfl rfl ?_; refine V304 ?_; refine Z.ZO.alloc rfl rfl (by rfl) zeroValue216 rfl hs ?_; clear hs; intro g0 w0 hs; refine V857 ?_; refine V175 ?_; refine V858 ?_; refine V507 ?_; refine V507 ?_; refine Z.l rfl rfl (by rfl) (Z.keepS hs) (Z.Yd.buildL [(0, 3), (3, 3)] [.int .u64 0, .int .i64 0, .int .i64 0, .int .u64 0, .int .i64 0, .int .i64 0] rfl rfl J18) ?_; refine V860 ?_; clear hs; intro ws hs; replace hs := U1 hs; replace hs := U2 hs; refine V857 ?_; refine V175 ?_; refine V90 ?_; refine Z.out1 (by exact ⟨⟨_, rfl, Z.rvcA hs isAgg216 J0 (by exact sizeOf216)⟩, trivial⟩) ?_; exact ⟨_, rfl, rfl, Jn hs⟩
theorem mc_extra (q : MpV) (w : World) : Calls Tryz.prog 125 #[.agg q.cells.toArray] w (Ret fun v w' => v = .int .i64 (extP q.plain) ∧ St w [] w' []) := by
  have hs := St.start w; have e1 : q.plain.1 = q.lc := rfl; have e2 : q.plain.2 = q.l := rfl
  show Calls Tryz.prog 125 #[.agg #[.int .i64 q.lc, .slice q.B q.l.length q.c]] w _
  unfold extP; rw [e1, e2]; refine Z.enter func125 rfl ntmps125 rfl rfl ?_; refine V91 ?_; clear hs; intro g1 w1 hs; refine V626 ?_; refine V192 ?_; refine V2 ?_; refine Z.ZO.call rfl rfl (by rfl) rfl rfl call164 rfl (mc_sdu q.lc _) ?_; rintro v1_2 w1_2 ⟨rfl, hy⟩; replace hs := U0 (hs.call hy); clear hy; refine V1 ?_; refine Z.only [1, 6] rfl ?_; refine V6 ?_; refine Z.cond rfl (fun hc1 => ?_) (fun hc1 => ?_)
  · (try simp at hc1)
    have hsd : ¬ sduB q.lc := by assumption
    rw [if_neg hsd]; refine V154 ?_
    repeat (first | refine Z.rthen ?_ | refine Z.rblock ?_ | refine Z.rscope ?_)
    refine V199 ?_; exact ⟨_, rfl, rfl, Jn hs⟩
  (try simp at hc1)
  have hsd : sduB q.lc := by assumption
  rw [if_pos hsd]; refine V47 ?_; refine V210 ?_; refine V141 ?_; refine Z.drawL [Ent.blk g1 77 #[.int .i64 q.lc, .slice q.B q.l.length q.c]] (fun _ => true) mixed hs ?_; clear hs; intro wd3 hs; refine V109 ?_; refine Z.t 1 rfl rfl rfl (by rfl) J3 (Jk hs) J26 ?_; refine Z.t 2 rfl rfl rfl (by rfl) J3 (Jk hs) (Z.Yd.lenS rfl underlying48) ?_; refine Z.tn 3 rfl rfl J3 rfl trivial ?_; refine V80 ?_; rintro v3_3 w3_3 ⟨rfl, hy⟩; replace hs := U0 (hs.call hy); clear hy; refine Z.tk (Dn := fun _ => true) (i := 3) (fun _ => (Jk hs)) ?_; refine Z.t 4 rfl rfl rfl (by rfl) J3 (Jk hs) (Z.Yd.index (v := .agg #[.int .u64 0, .int .i64 7, .int .i64 127]) rfl rfl J56) ?_; refine Z.t 5 rfl rfl rfl (by rfl) J3 (Jk hs) J114 ?_; refine Z.tb [6] J3 rfl (Jk hs) rfl ?_; refine V40 ?_; refine Z.only [13] rfl ?_; refine V6 ?_; refine Z.cond rfl (fun hc3 => ?_) (fun hc3 => ?_)
  · (try simp at hc3)
    refine V154 ?_
    repeat (first | refine Z.rthen ?_ | refine Z.rblock ?_ | refine Z.rscope ?_)
    refine V199 ?_; exact ⟨_, rfl, by rw [if_pos J5], Jn hs⟩
  (try simp at hc3)
  refine V862 ?_; refine V186 ?_; exact ⟨_, rfl, by rw [if_neg J5], Jn hs⟩
theorem mc_total (A : Option Addr) (n c : Nat) (ps : List MpV) (w : World) (hx : Sl w A (ps.flatMap MpV.cells)) (hl : ps.length = n) (hn : n ≤ 1000) (hf : ∀ q ∈ ps, q.l.length ≤ 100000) :
    Calls Tryz.prog 169 #[.slice A n c] w (Ret fun v w' => v = .int .i64 (totP (ps.map MpV.plain)) ∧ St w [] w' []) := by
  have hs := St.start w; refine Z.enter func169 rfl ntmps169 rfl rfl ?_; refine V121 ?_; refine Z.only [0, 2] rfl ?_; refine V539 ?_; refine V443 ?_; refine V861 ?_; refine Z.loopk (ι := Nat) [5, 6] rfl (fun i => [(2, [], .int .i64 (totP ((ps.map MpV.plain).take i))), (7, [], .int .i64 (i : Int))]) (fun i wr => i ≤ n ∧ St w [] wr []) (fun i => n - i) 0 J11 ⟨Nat.zero_le _, hs⟩ ?_; clear hs; rintro i w3 ⟨hi, hs⟩; refine V443 ?_; refine V121 ?_; refine Z.only [2, 5, 6, 7, 8] rfl ?_; refine V210 ?_; refine Z.cond rfl (fun hc2 => ?_) (fun hc2 => ?_)
  · (try simp at hc2)
    obtain ⟨b, off, rfl, hb0, hx2⟩ := Z.Sl.some hx J69; obtain ⟨q, hqi⟩ : ∃ q, ps[i]? = some q := ⟨_, List.getElem?_eq_getElem J5⟩; have htk := plain_take hqi; have hone := mp_one q; have hq1 := hf q (List.mem_of_getElem? hqi); have hq2 := extP_bd q.plain; have e2 : q.plain.2 = q.l := rfl; have hbd := totP_bd (ps := ps.take i) fun x hx => hf x (List.mem_of_mem_take hx)
    rw [List.map_take, List.length_take] at hbd; have hmn : (((min i ps.length : Nat)) : Int) ≤ 1000 := by omega
    refine V583 ?_; clear hs; intro g4 w4 hs; refine V860 ?_; clear hs; intro ws hs; replace hs := U1 hs; replace hs := U2 hs; refine V857 ?_; refine Z.only [2, 4, 5, 6, 7] rfl ?_; refine V6 ?_; refine Z.drawL [Ent.blk g4 77 q.cells.toArray] (fun _ => true) mixed hs ?_; clear hs; intro wd4 hs; refine V234 ?_; refine Z.t 1 rfl rfl rfl (by rfl) J3 (Jk hs) (Z.Yd.loadA _ rfl isAgg77 (fun _ => Z.cellsB (cs := MpV.cells q) J0) J20) ?_; refine V496 ?_; refine Z.t 5 rfl rfl rfl (by rfl) J3 (Jk hs) (Z.Yd.load rfl isAgg48 (fun _ => Z.cellB (cs := q.cells.toArray) J0 rfl)) ?_; refine Z.t 6 rfl rfl rfl (by rfl) J3 (Jk hs) (Z.Yd.lenS rfl underlying48) ?_; refine V172 ?_; refine V356 ?_; rintro v4_2 w4_2 ⟨rfl, hy⟩; replace hs := U0 (hs.call hy); clear hy; refine V46 ?_; refine Z.t 3 rfl rfl rfl (by rfl) J3 (Jk hs) (Z.Yd.add rfl rfl (fun hG => Z.wi64 J2)) ?_; refine Z.t 7 rfl rfl rfl (by rfl) J3 (Jk hs) (Z.Yd.add rfl rfl (fun hG => Z.wi64 J2)) ?_; refine V437 ?_; refine Z.tb [9] J3 rfl (Jk hs) rfl ?_; refine V40 ?_; refine V443 ?_; refine V332 ?_; refine V443 ?_; refine V6 ?_; exact Z.again (i + 1) (by refine ⟨?_, ?_, ?_, ?_, trivial⟩ <;> first | rfl | (rw [htk, totP_snoc, e2]; rfl)) ⟨by omega, Jn hs⟩ J5
  (try simp at hc2)
  refine V537 ?_; obtain rfl : i = n := by omega
  exact ⟨_, rfl, by rw [List.take_of_length_le J45], hs⟩

def lastP (r : List Prt) : Prt := r.getLastD (0, [])
def needP (r : List Prt) : Int := totP r - extP (lastP r)
def okN (r : List Prt) : Prop := r ≠ [] ∧ vldP false r = true
instance (r : List Prt) : Decidable (okN r) := by unfold okN; infer_instance
def needV (r : List Prt) : Int × Int := if okN r then (needP r, 0) else (0, 2)
theorem last_plain {ps : List MpV} {q : MpV} (h : ps[ps.length - 1]? = some q) : lastP (ps.map MpV.plain) = q.plain := by
  unfold lastP; rw [List.getLastD_eq_getLast?, List.getLast?_map, List.getLast?_eq_getElem?, h]
  rfl
theorem mc_need (A : Option Addr) (n c : Nat) (ps : List MpV) (w : World) (hx : Sl w A (ps.flatMap MpV.cells)) (hl : ps.length = n) (hn : 1 ≤ n ∧ n ≤ 1000) (hf : ∀ q ∈ ps, q.l.length ≤ 100000) :
    Calls Tryz.prog 120 #[.slice A n c] w (Ret fun v w' => v = .int .i64 (needP (ps.map MpV.plain)) ∧ St w [] w' []) := by
  have hs := St.start w; obtain ⟨b, off, rfl, hb0, hx2⟩ := Z.Sl.some hx J69; obtain ⟨q, hqi⟩ : ∃ q, ps[n - 1]? = some q := ⟨_, List.getElem?_eq_getElem J5⟩; have hlast := last_plain (ps := ps) (q := q) (by rw [hl]; exact hqi); have hbd := totP_bd hf; have hex := extP_bd q.plain; have e1 : ((n : Int) - 1) = ((n - 1 : Nat) : Int) := by omega
  refine Z.enter func120 rfl ntmps120 rfl rfl ?_; refine V336 ?_; refine V6 ?_; refine V96 ?_; clear hs; intro wd1 hs; refine Z.tb [0, 2, 3] J3 rfl (Jk hs) rfl ?_; refine Z.t 4 rfl rfl rfl (by rfl) J3 (Jk hs) (Z.Yd.lenS rfl underlying47) ?_; refine Z.t 5 rfl rfl rfl (by rfl) J3 (Jk hs) (Z.Yd.sub rfl rfl (fun hG => Z.wi64 J2)) ?_; refine Z.t 6 rfl rfl rfl (by rfl) J3 (Jk hs) (Z.Yd.elem rfl rfl underlying47 sizeOf77 (fun hG => ⟨J2, J2⟩)) ?_; refine Z.t 7 rfl rfl rfl (by rfl) J3 (Jk hs) (Z.Yd.loadA _ rfl isAgg77 (fun _ W hK j u hu => by rw [e1] ; exact Z.cellXq (enc := MpV.cells) hx2.sx mp_len hqi hu W hK) J20) ?_; refine Z.tn 1 rfl rfl J3 rfl trivial ?_; refine Z.ZO.call rfl rfl (by rfl) rfl rfl call169 rfl (mc_total _ n c ps _ (hx.st hs) hl J5 hf) ?_; rintro v1_1 w1_1 ⟨rfl, hy⟩; replace hs := U0 (hs.call hy); clear hy; refine Z.tk (Dn := fun _ => true) (i := 1) (fun _ => (Jk hs)) ?_; refine V412 ?_; refine V356 ?_; rintro v1_8 w1_8 ⟨rfl, hy⟩; replace hs := U0 (hs.call hy); clear hy; refine Z.tk (Dn := fun _ => true) (i := 8) (fun _ => (Jk hs)) ?_; refine Z.t 9 rfl rfl rfl (by rfl) J3 (Jk hs) (Z.Yd.sub rfl rfl (fun hG => Z.wi64 J2)) ?_; refine Z.tb [10] J3 rfl (Jk hs) rfl ?_; refine V40 ?_; refine V120 ?_; exact ⟨_, rfl, by unfold needP; rw [hlast], hs⟩
theorem mc_Need (A : Option Addr) (n c : Nat) (ps : List MpV) (w : World) (hx : Sl w A (ps.flatMap MpV.cells)) (hl : ps.length = n) (hn : n ≤ 1000) (hf : ∀ q ∈ ps, q.l.length ≤ 100000) :
    Calls Tryz.prog 66 #[.slice A n c] w (Ret fun v w' => v = .tuple #[.int .i64 (needV (ps.map MpV.plain)).1, .int .i64 (needV (ps.map MpV.plain)).2] ∧ St w [] w' []) := by
  have hs := St.start w; have hne : ps.map MpV.plain ≠ [] ↔ n ≠ 0 := by rw [← hl]; simp
  refine Z.enter func66 rfl ntmps66 rfl rfl ?_; refine V538 ?_; refine V125 ?_; refine V27 ?_; refine V11 ?_; refine Z.split (s := 7) rfl (fun hsp7 => ?_) (fun hsp7 => ?_)
  · refine Z.yes (s := 7) (b := true) rfl hsp7 rfl ?_
    (try simp at hsp7)
    refine V4 ?_; refine V20 ?_; refine V857 ?_; refine Z.only [0, 11] rfl ?_; refine V6 ?_; refine Z.cond rfl (fun hc1 => ?_) (fun hc1 => ?_)
    · (try simp at hc1)
      have hno : ¬ okN (ps.map MpV.plain) := by rintro ⟨h1, h2⟩; rw [hne] at h1; first | omega | simp_all
      rw [show needV (ps.map MpV.plain) = (0, 2) from if_neg hno]; refine V196 ?_
      repeat (first | refine Z.rthen ?_ | refine Z.rblock ?_ | refine Z.rscope ?_)
      refine V162 ?_; exact ⟨_, rfl, rfl, hs⟩
    (exfalso; simp at hc1 <;> omega)
  refine Z.yes (s := 7) (b := false) rfl hsp7 rfl ?_
  (try simp at hsp7)
  refine V859 ?_; refine V567 ?_; refine V160 ?_; refine Z.ZO.call rfl rfl (by rfl) rfl rfl call119 rfl (mc_valid A n c ps _ hx hl J5) ?_; rintro v1_5 w1_5 ⟨rfl, hy⟩; replace hs := U0 (hs.call hy); clear hy; refine V859 ?_; refine V567 ?_; refine V14 ?_; refine V857 ?_; refine Z.only [0, 11] rfl ?_; refine V6 ?_; refine Z.cond rfl (fun hc1 => ?_) (fun hc1 => ?_)
  · (try simp at hc1)
    have hno : ¬ okN (ps.map MpV.plain) := by rintro ⟨h1, h2⟩; rw [hne] at h1; first | omega | simp_all
    rw [show needV (ps.map MpV.plain) = (0, 2) from if_neg hno]; refine V196 ?_
    repeat (first | refine Z.rthen ?_ | refine Z.rblock ?_ | refine Z.rscope ?_)
    refine V162 ?_; exact ⟨_, rfl, rfl, hs⟩
  (try simp at hc1)
  have hok : okN (ps.map MpV.plain) := ⟨by rw [hne]; omega, by simp_all⟩; rw [show needV (ps.map MpV.plain) = (needP (ps.map MpV.plain), 0) from if_pos hok]; refine V862 ?_; refine V62 ?_; refine Z.ZO.call rfl rfl (by rfl) rfl rfl call120 rfl (mc_need A n c ps _ (hx.st hs) hl J5 hf) ?_; rintro v3_1 w3_1 ⟨rfl, hy⟩; replace hs := U0 (hs.call hy); clear hy; refine V468 ?_; exact ⟨_, rfl, rfl, hs⟩

theorem mr_valid (A : Option Addr) (n c : Nat) (ps : List MpV) (w : World) (hx : Sl w A (ps.flatMap MpV.cells)) (hl : ps.length = n) (hn : n ≤ 9223372036854775807) :
    Calls Tryz.prog 84 #[.slice A n c] w (Ret fun v w' => v = .bool (vldP false (ps.map MpV.plain)) ∧ St w [] w' []) := by
  have hs := St.start w; refine Z.enter func84 rfl ntmps84 rfl rfl ?_; refine V592 ?_; refine Z.loopk (ι := Nat × Bool) [0] rfl (fun x => [(3, [], .bool x.2), (4, [], .int .i64 (x.1 : Int))]) (fun x wr => (x.1 ≤ n ∧ vldP false (ps.map MpV.plain) = vldP x.2 ((ps.map MpV.plain).drop x.1)) ∧ St w [] wr []) (fun x => n - x.1) (0, false) J11 ⟨⟨Nat.zero_le _, rfl⟩, hs⟩ ?_; clear hs; rintro ⟨i, d⟩ w3 ⟨⟨hi, hV⟩, hs⟩; refine V261 ?_
  (try dsimp only at hs)
  dsimp only at hi hV; refine V217 ?_; refine V275 ?_; refine Z.only [0, 3, 4, 9] rfl ?_; refine V6 ?_; refine Z.cond rfl (fun hc3 => ?_) (fun hc3 => ?_)
  · (try simp at hc3)
    obtain ⟨b, off, rfl, hb0, hx2⟩ := Z.Sl.some hx J69; obtain ⟨q, hqi⟩ : ∃ q, ps[i]? = some q := ⟨_, List.getElem?_eq_getElem J5⟩; rw [plain_at hqi] at hV; have e1 : q.plain.1 = q.lc := rfl; have e2 : q.plain.2 = q.l := rfl; rw [vldP_cons, e1, e2] at hV; have hsc : sduB q.lc → ctlN q.lc = 0 := sdu_ctl; refine V445 ?_; refine V129 ?_; refine V29 ?_; refine V1 ?_; refine Z.only [0, 3, 4, 5] rfl ?_; refine V861 ?_; refine V0 ?_; refine V11 ?_; refine V158 ?_; refine V2 ?_; refine Z.ZO.call rfl rfl (by rfl) rfl rfl call115 rfl (mr_sdu q.lc _) ?_; rintro v6_5 w6_5 ⟨rfl, hy⟩; replace hs := U0 (hs.call hy); clear hy; refine Z.lb 9 rfl ?_; refine V857 ?_; refine Z.only [0, 3, 4, 5, 18] rfl ?_; refine V6 ?_; refine Z.cond rfl (fun hc6 => ?_) (fun hc6 => ?_)
    · (try simp at hc6)
      refine V42 ?_; refine V1 ?_; refine V261 ?_; refine V133 ?_; refine V641 ?_; exact Z.again (i + 1, true) J13 ⟨⟨by simp only; omega, by rw [hV, if_pos (by simp_all), decide_eq_true J5, Bool.true_and]⟩, hs⟩ J22
    (try simp at hc6)
    have hF : sduB q.lc → ¬ (1 ≤ q.l.length ∧ q.l.length ≤ 32767) := fun h1 h2 => by first | (simp_all; done) | (simp_all; omega)
    refine V0 ?_; refine V11 ?_; refine Z.split (s := 35) rfl (fun hsp35 => ?_) (fun hsp35 => ?_)
    · refine Z.yes (s := 35) (b := true) rfl hsp35 rfl ?_
      (try simp at hsp35)
      refine V4 ?_; refine V4 ?_; refine V36 ?_; refine V485 ?_; refine Z.split (s := 44) rfl (fun hsp44 => ?_) (fun hsp44 => ?_)
      · refine Z.yes (s := 44) (b := true) rfl hsp44 rfl ?_
        (try simp at hsp44)
        refine V658 ?_; refine Z.cond rfl (fun hc8 => ?_) (fun hc8 => ?_)
        · (try simp at hc8)
          refine V154 ?_
          repeat (first | refine Z.rthen ?_ | refine Z.rblock ?_ | refine Z.rscope ?_)
          refine V199 ?_; exact ⟨_, rfl, by rw [hV]; by_cases hsd : sduB q.lc; (rw [if_pos hsd, decide_eq_false (hF hsd), Bool.false_and]); (simp_all), hs⟩
        (exfalso; simp at hc8 <;> omega)
      (exfalso; simp at hsp44 <;> omega)
    refine Z.yes (s := 35) (b := false) rfl hsp35 rfl ?_
    (try simp at hsp35)
    refine V11 ?_; refine V158 ?_; refine Z.yes (s := 35) (b := false) rfl rfl rfl ?_; refine V160 ?_; refine Z.ZO.call rfl rfl (by rfl) rfl rfl call116 rfl (mr_Control q.lc _) ?_; rintro v8_7 w8_7 ⟨rfl, hy⟩; replace hs := U0 (hs.call hy); clear hy; refine V859 ?_; refine Z.yes (s := 35) (b := false) rfl rfl rfl ?_; refine V276 ?_; refine Z.split (s := 44) rfl (fun hsp44 => ?_) (fun hsp44 => ?_)
    · refine Z.yes (s := 44) (b := true) rfl hsp44 rfl ?_
      (try simp at hsp44)
      refine V658 ?_; refine Z.cond rfl (fun hc8 => ?_) (fun hc8 => ?_)
      · (try simp at hc8)
        refine V154 ?_
        repeat (first | refine Z.rthen ?_ | refine Z.rblock ?_ | refine Z.rscope ?_)
        refine V199 ?_; exact ⟨_, rfl, by rw [hV]; by_cases hsd : sduB q.lc; (rw [if_pos hsd, decide_eq_false (hF hsd), Bool.false_and]); (simp_all), hs⟩
      (exfalso; simp at hc8 <;> omega)
    refine Z.yes (s := 44) (b := false) rfl hsp44 rfl ?_
    (try simp at hsp44)
    refine V50 ?_; refine V158 ?_; refine Z.yes (s := 44) (b := false) rfl rfl rfl ?_; refine V160 ?_; refine Z.ZO.call rfl rfl (by rfl) rfl rfl call116 rfl (mr_Control q.lc _) ?_; rintro v8_17 w8_17 ⟨rfl, hy⟩; replace hs := U0 (hs.call hy); clear hy; refine V859 ?_; refine Z.yes (s := 44) (b := false) rfl rfl rfl ?_; refine V14 ?_; refine V1 ?_; refine Z.only [0, 3, 4, 33] rfl ?_; refine V6 ?_; refine Z.cond rfl (fun hc8 => ?_) (fun hc8 => ?_)
    · (try simp at hc8)
      refine V154 ?_
      repeat (first | refine Z.rthen ?_ | refine Z.rblock ?_ | refine Z.rscope ?_)
      refine V199 ?_; exact ⟨_, rfl, by rw [hV]; by_cases hsd : sduB q.lc; (rw [if_pos hsd, decide_eq_false (hF hsd), Bool.false_and]); (simp_all), hs⟩
    (try simp at hc8)
    refine V68 ?_; refine V641 ?_; exact Z.again (i + 1, d) J13 ⟨⟨by simp only; omega, by rw [hV]; by_cases hsd : sduB q.lc; (have := hsc hsd; simp_all); (simp_all)⟩, hs⟩ J22
  (try simp at hc3)
  refine V181 ?_; refine V186 ?_; obtain rfl : i = n := by omega
  rw [List.drop_of_length_le J45] at hV; exact ⟨_, rfl, by rw [hV]; rfl, hs⟩
def lenF (n : Nat) : List Int := if n ≤ 127 then [(n : Int)] else [128 + (n : Int) / 256, (n : Int) % 256]
theorem lenF_bd {n : Nat} (h : n ≤ 32767) : (∀ x ∈ lenF n, 0 ≤ x ∧ x < 256) ∧ (lenF n).length ≤ 2 := by
  unfold lenF
  split
  · refine ⟨fun x hx => ?_, by simp⟩
    obtain rfl : x = n := by simpa using hx
    omega
  refine ⟨fun x hx => ?_, by simp⟩; simp at hx
  rcases hx with rfl | rfl <;> omega
theorem mr_field (n : Nat) (w : World) (hn : n ≤ 32767) : Calls Tryz.prog 185 #[.int .i64 (n : Int)] w (Ret fun v w' => ∃ g, v = .slice (some ⟨g, 0, none⟩) (lenF n).length (lenF n).length ∧ St w [] w' [Ent.blk g 5 (ints .u8 (lenF n)).toArray]) := by
  have hs := St.start w; unfold lenF; refine Z.enter func185 rfl ntmps185 rfl rfl ?_; refine V336 ?_; refine V84 ?_; refine V631 ?_; refine Z.cond rfl (fun hc1 => ?_) (fun hc1 => ?_)
  · (try simp at hc1)
    refine V363 ?_; refine Z.l rfl rfl (by rfl) (Z.keepS hs) (Z.Yd.convI rfl ⟨_, underlying3⟩ underlying5 (fun _ => Z.wu8 J5)) ?_; refine V2 ?_; refine V132 ?_; clear hs; intro g7 w7 hs; refine V1 ?_; refine V43 ?_; refine V90 ?_
    repeat (first | refine Z.rthen ?_ | refine Z.rblock ?_ | refine Z.rscope ?_)
    refine V199 ?_
    (rw [if_pos J5]; exact ⟨_, rfl, _, rfl, hs⟩)
  (try simp at hc1)
  refine V862 ?_; refine V859 ?_; refine V117 ?_; refine V5 ?_; refine V99 ?_; refine V859 ?_; refine V137 ?_; refine V99 ?_; refine V2 ?_; refine Z.ZO.litL (T' := 5) [(0, 1), (1, 1)] [.int .u8 0, .int .u8 0] rfl rfl (by rfl) rfl rfl J19 hs ?_; clear hs; intro g15 w15 hs; refine V186 ?_
  (rw [if_neg J5]; exact ⟨_, rfl, _, rfl, hs⟩)
def hdsR : List Prt → Bool → List Int
  | [], _ => []
  | p :: r, a => (if r.isEmpty && !a then [p.1] else (p.1 + 32) :: (if sduB p.1 then lenF p.2.length else [])) ++ hdsR r a
def datR (r : List Prt) : List Int := r.flatMap (·.2)
def joinB (r : List Prt) (front : Nat) (after : Int) : List Int :=
  List.replicate front 63 ++ hdsR r (decide (0 ≤ after)) ++ (if 0 ≤ after then [31] else []) ++ (datR r ++ if 0 ≤ after then List.replicate after.toNat 0 else [])
theorem vldP_mem : ∀ {r : List Prt} {d : Bool}, vldP d r = true → ∀ p ∈ r, (1 ≤ p.1 ∧ p.1 ≤ 30) ∧ p.2.length ≤ 32767
  | [], _, _, p, hp => by cases hp
  | q :: r, d, h, p, hp => by
    rw [vldP_cons] at h
    rcases List.mem_cons.1 hp with rfl | hp
    · by_cases hs : sduB p.1
      · rw [if_pos hs] at h
        simp at h; unfold sduB at hs
        omega
      rw [if_neg hs] at h; simp at h; have h2 := h.1; have h3 := ctlN_bd p.1; refine ⟨?_, by omega⟩; unfold ctlN at h2
      split at h2
      · omega
      split at h2
      · omega
      split at h2
      · omega
      split at h2
      · omega
      simp at h2
    by_cases hs : sduB q.1
    · rw [if_pos hs] at h
      simp at h; exact vldP_mem h.2 p hp
    rw [if_neg hs] at h; simp at h; exact vldP_mem h.2 p hp

theorem ints_app (k : IntKind) (a b : List Int) : ints k (a ++ b) = ints k a ++ ints k b := by simp [ints]
theorem hdsR_cons (p : Prt) (r : List Prt) (a : Bool) : hdsR (p :: r) a = (if r.isEmpty && !a then [p.1] else (p.1 + 32) :: (if sduB p.1 then lenF p.2.length else [])) ++ hdsR r a := rfl
theorem datR_snoc (r : List Prt) (p : Prt) : datR (r ++ [p]) = datR r ++ p.2 := by simp [datR]
theorem datR_le {ps : List MpV} (hf : ∀ q ∈ ps, q.l.length ≤ 100000) : (datR (ps.map MpV.plain)).length ≤ ps.length * 100000 := by
  induction ps with
  | nil => simp [datR]
  | cons q r ih =>
    have h1 := ih fun x hx => hf x (by simp [hx])
    have h2 := hf q J16; have e : (datR ((q :: r).map MpV.plain)).length = q.l.length + (datR (r.map MpV.plain)).length := by simp [datR, MpV.plain]
    rw [e, List.length_cons]
    omega
theorem drop_empty {ps : List MpV} {i n : Nat} (hl : ps.length = n) (hi : i < n) : ((ps.map MpV.plain).drop (i + 1)).isEmpty = decide ((i : Int) = (n : Int) - 1) := by
  rw [Bool.eq_iff_iff]; simp [List.isEmpty_iff]
  omega
theorem mr_join (A : Option Addr) (n c front : Nat) (after : Int) (ps : List MpV) (w : World) (hx : Sl w A (ps.flatMap MpV.cells)) (hl : ps.length = n) (hn : n ≤ 100) (hf : ∀ q ∈ ps, q.l.length ≤ 100000) (hB : ∀ q ∈ ps, Sl w q.B (ints .u8 q.l))
    (hv : vldP false (ps.map MpV.plain) = true) (hfr : front ≤ 2) (haf : -1 ≤ after ∧ after ≤ 20000) :
    Calls Tryz.prog 139 #[.slice A n c, .int .i64 (front : Int), .int .i64 after] w (Ret fun v w' => St w [] w' [Ent.row v 5 1 (joinB (ps.map MpV.plain) front after).length (ints .u8 (joinB (ps.map MpV.plain) front after))]) := by
  have hs := St.start w; have hmem := vldP_mem hv; refine Z.enter func139 rfl ntmps139 rfl rfl ?_; refine V469 ?_; refine V423 ?_; refine Z.only [0, 1, 2, 7, 8] rfl ?_; refine V30 ?_; replace hs := (hs.nil 5 1).nil 5 1; refine V18 ?_; refine V857 ?_; refine Z.only [0, 1, 2, 7, 8, 9] rfl ?_; refine V861 ?_; refine Z.loopk (ι := Nat × Value) [0, 1, 2, 8] rfl (fun x => [(7, [], x.2), (9, [], .int .i64 (x.1 : Int))]) (fun x wr => x.1 ≤ front ∧ St w [] wr [Ent.row x.2 5 1 x.1 (ints .u8 (List.replicate x.1 63)), Ent.row (.slice none 0 0) 5 1 0 []]) (fun x => front - x.1) (0, .slice none 0 0) J11 ⟨Nat.zero_le _, hs⟩ ?_; clear hs; rintro ⟨i, hv1⟩ w3 ⟨hi, hs⟩; refine Z.only [0, 1, 2, 7, 8, 9] rfl ?_
  (try dsimp only at hs)
  dsimp only at hi hs; refine V182 ?_; refine V184 ?_; refine Z.only [0, 1, 2, 7, 8, 9, 15] rfl ?_; refine V6 ?_; refine Z.cond rfl (fun hc3 => ?_) (fun hc3 => ?_)
  · (try simp at hc3)
    refine V150 ?_; refine V42 ?_; refine V62 ?_; refine V132 ?_; clear hs; intro g19 w19 hs; refine V2 ?_; refine V86 ?_; clear hs; intro g20 cap20 w20 hs; replace hs := U3 hs; refine V1 ?_; refine Z.only [0, 1, 2, 7, 8, 9] rfl ?_; refine V302 ?_; refine Z.only [0, 1, 2, 7, 8, 9] rfl ?_; refine V6 ?_; have e : ints .u8 (List.replicate (i + 1) 63) = ints .u8 (List.replicate i 63) ++ [.int .u8 63] := by rw [List.replicate_succ']; simp [ints]
    exact Z.again (i + 1, _) J21 ⟨by simp only; omega, by simp only; rw [e]; exact hs⟩ J22
  (try simp at hc3)
  refine V403 ?_; obtain rfl : i = front := by omega
  refine V18 ?_; refine V857 ?_; refine V345 ?_; refine V861 ?_; refine Z.loopk (ι := Nat × Value × Value × List Int) [0, 2] rfl (fun x => [(7, [], x.2.1), (8, [], x.2.2.1), (10, [], .int .i64 (x.1 : Int))]) (fun x wr => (x.1 ≤ n ∧ x.2.2.2 ++ hdsR ((ps.map MpV.plain).drop x.1) (decide (0 ≤ after)) = List.replicate i 63 ++ hdsR (ps.map MpV.plain) (decide (0 ≤ after)) ∧ x.2.2.2.length ≤ 2 + 3 * x.1) ∧ St w [] wr [Ent.row x.2.1 5 1 x.2.2.2.length (ints .u8 x.2.2.2), Ent.row x.2.2.1 5 1 (datR ((ps.map MpV.plain).take x.1)).length (ints .u8 (datR ((ps.map MpV.plain).take x.1)))]) (fun x => n - x.1) (0, hv1, .slice none 0 0, List.replicate i 63) J13 ⟨⟨Nat.zero_le _, rfl, by simp only [List.length_replicate]; omega⟩, by simp only [List.length_replicate]; exact hs⟩ ?_; clear hs; rintro ⟨k, h1, d1, acc⟩ w7 ⟨⟨hk, hacc, hal⟩, hs⟩; refine V345 ?_
  (try dsimp only at hs)
  dsimp only at hk hacc hal hs; refine V217 ?_; refine V275 ?_; refine Z.only [0, 2, 7, 8, 10, 24] rfl ?_; refine V6 ?_; refine Z.cond rfl (fun hc7 => ?_) (fun hc7 => ?_)
  · (try simp at hc7)
    obtain ⟨b, off, rfl, hb0, hx2⟩ := Z.Sl.some hx J69; obtain ⟨q, hqi⟩ : ∃ q, ps[k]? = some q := ⟨_, List.getElem?_eq_getElem J5⟩; have hqm := List.mem_of_getElem? hqi; have hqf := hf q hqm; have hqB := hB q hqm; obtain ⟨⟨q1, q2⟩, q3⟩ := hmem q.plain (List.mem_map_of_mem hqm); have e1 : q.plain.1 = q.lc := rfl; have e2 : q.plain.2 = q.l := rfl; rw [e1] at q1 q2; rw [e2] at q3; rw [plain_at hqi, hdsR_cons, e1, e2, drop_empty hl J5] at hacc; have htk := plain_take hqi; have hdl := datR_le (ps := ps.take k) fun x hx => hf x (List.mem_of_mem_take hx)
    rw [List.map_take, List.length_take] at hdl; have hdl2 : (datR ((ps.map MpV.plain).take k)).length ≤ 10000000 := by
      have : min k ps.length * 100000 ≤ 100 * 100000 := Nat.mul_le_mul_right _ J5
      omega
    obtain ⟨lb1, lb2⟩ := lenF_bd q3; refine V445 ?_; refine V27 ?_; refine V17 ?_; refine V476 ?_; refine V857 ?_; refine Z.only [0, 2, 7, 8, 10, 11] rfl ?_; refine V858 ?_; refine V11 ?_; refine V158 ?_; refine V99 ?_; refine V1 ?_; refine Z.only [0, 2, 7, 8, 10, 11, 12] rfl ?_; refine V84 ?_; refine Z.only [0, 2, 7, 8, 10, 11, 12, 43] rfl ?_; refine V6 ?_; refine Z.cond rfl (fun hc11 => ?_) (fun hc11 => ?_)
    · (try simp at hc11)
      have hla : ¬ ((decide ((k : Int) = (n : Int) - 1) && !decide (0 ≤ after)) = true) := fun h => by simp at h hc11; omega
      rw [if_neg hla] at hacc; refine V42 ?_; refine V859 ?_; refine Z.l rfl rfl (by rfl) (Z.keepS hs) (Z.Yd.add rfl rfl (fun hG => Z.wu8 J2)) ?_; refine V1 ?_; refine Z.only [0, 2, 7, 8, 10, 11, 12] rfl ?_; refine V541 ?_; refine V132 ?_; clear hs; intro g48 w48 hs; refine V2 ?_; refine V86 ?_; clear hs; intro g49 cap49 w49 hs; replace hs := U3 hs; refine V1 ?_; refine Z.only [0, 2, 7, 8, 10, 11] rfl ?_; refine V30 ?_; refine V50 ?_; refine Z.split (s := 52) rfl (fun hsp52 => ?_) (fun hsp52 => ?_)
      · refine Z.yes (s := 52) (b := true) rfl hsp52 rfl ?_
        (try simp at hsp52)
        refine V11 ?_; refine V158 ?_; refine Z.yes (s := 52) (b := true) rfl rfl rfl ?_; refine V160 ?_; refine Z.ZO.call rfl rfl (by rfl) rfl rfl call115 rfl (mr_sdu q.lc _) ?_; rintro v14_8 w14_8 ⟨rfl, hy⟩; replace hs := U0 (hs.call hy); clear hy; refine V20 ?_; refine V857 ?_; refine Z.only [0, 2, 7, 8, 10, 59] rfl ?_; refine V6 ?_; refine Z.cond rfl (fun hc14 => ?_) (fun hc14 => ?_)
        · (try simp at hc14)
          have hsd : sduB q.lc := by simp_all
          rw [if_pos hsd] at hacc; refine V42 ?_; refine V50 ?_; refine V129 ?_; refine V29 ?_; refine V2 ?_; refine Z.ZO.call rfl rfl (by rfl) rfl rfl call185 rfl (mr_field q.l.length _ q3) ?_; rintro v15_7 w15_7 ⟨gf, rfl, hy⟩; replace hs := U0 (hs.call hy); clear hy; refine V2 ?_; refine Z.ZO.appendG (i0 := Tryz.t5) (size := 1) (bytes := 1) rfl rfl (by rfl) hs underlying48 J3 rfl rfl rfl rfl J12 rfl rfl J1 ((by have h0 := hs.blkSl (g := gf) (cs := (ints .u8 (lenF q.l.length)).toArray) List.mem_cons_self; simpa using h0)) J23 J36 J17 J5 ?_; clear hs; intro v68 w68 hs; replace hs := U5 hs; refine V1 ?_; refine V345 ?_; refine V300 ?_; refine V50 ?_; refine V129 ?_; refine V2 ?_; refine V223 ?_; clear hs; intro v75 w75 hs; replace hs := U5 hs; refine V649 ?_; have ed : ints .u8 (datR ((ps.map MpV.plain).take (k + 1))) = ints .u8 (datR ((ps.map MpV.plain).take k)) ++ ints .u8 q.l := by rw [htk, datR_snoc]; simp [ints, MpV.plain]
          have el : (datR ((ps.map MpV.plain).take (k + 1))).length = (datR ((ps.map MpV.plain).take k)).length + q.l.length := by rw [htk, datR_snoc]; simp [MpV.plain]
          exact Z.again (k + 1, _, _, acc ++ [q.lc + 32] ++ lenF q.l.length) J8 ⟨⟨by simp only; omega, by simp only [List.append_assoc, List.cons_append, List.nil_append] at hacc ⊢; exact hacc, by simp only [List.length_append, List.length_singleton]; omega⟩, by simp only [List.length_append, List.length_singleton]; rw [el, ed, ints_app, ints_app]; exact hs.sel [1, 2] J12⟩ J22
        (try simp at hc14)
        refine V489 ?_; refine V50 ?_; refine V129 ?_; refine V2 ?_; refine V223 ?_; clear hs; intro v75 w75 hs; replace hs := U5 hs; refine V649 ?_; have ed : ints .u8 (datR ((ps.map MpV.plain).take (k + 1))) = ints .u8 (datR ((ps.map MpV.plain).take k)) ++ ints .u8 q.l := by rw [htk, datR_snoc]; simp [ints, MpV.plain]
        have el : (datR ((ps.map MpV.plain).take (k + 1))).length = (datR ((ps.map MpV.plain).take k)).length + q.l.length := by rw [htk, datR_snoc]; simp [MpV.plain]
        exact Z.again (k + 1, _, _, acc ++ [q.lc + 32]) J8 ⟨⟨by simp only; omega, by rw [if_neg (by simp_all)] at hacc; simp only [List.append_assoc, List.cons_append, List.nil_append] at hacc ⊢; exact hacc, by simp only [List.length_append, List.length_singleton]; omega⟩, by simp only [List.length_append, List.length_singleton]; rw [el, ed, ints_app]; exact hs⟩ J22
      (exfalso; simp at hsp52 <;> omega)
    (try simp at hc11)
    have hla : (decide ((k : Int) = (n : Int) - 1) && !decide (0 ≤ after)) = true := by simp at hc11 ⊢; omega
    rw [if_pos hla] at hacc; refine V862 ?_; refine V527 ?_; refine V132 ?_; clear hs; intro g48 w48 hs; refine V2 ?_; refine V86 ?_; clear hs; intro g49 cap49 w49 hs; replace hs := U3 hs; refine V1 ?_; refine Z.only [0, 2, 7, 8, 10, 11] rfl ?_; refine V30 ?_; refine V50 ?_; refine Z.split (s := 52) rfl (fun hsp52 => ?_) (fun hsp52 => ?_)
    · (exfalso; simp at hsp52 <;> omega)
    refine Z.yes (s := 52) (b := false) rfl hsp52 rfl ?_
    (try simp at hsp52)
    refine V4 ?_; refine V4 ?_; refine V14 ?_; refine V857 ?_; refine Z.only [0, 2, 7, 8, 10, 59] rfl ?_; refine V6 ?_; refine Z.cond rfl (fun hc14 => ?_) (fun hc14 => ?_)
    · (exfalso; simp at hc14 <;> omega)
    (try simp at hc14)
    refine V489 ?_; refine V50 ?_; refine V129 ?_; refine V2 ?_; refine V223 ?_; clear hs; intro v75 w75 hs; replace hs := U5 hs; refine V649 ?_; have ed : ints .u8 (datR ((ps.map MpV.plain).take (k + 1))) = ints .u8 (datR ((ps.map MpV.plain).take k)) ++ ints .u8 q.l := by rw [htk, datR_snoc]; simp [ints, MpV.plain]
    have el : (datR ((ps.map MpV.plain).take (k + 1))).length = (datR ((ps.map MpV.plain).take k)).length + q.l.length := by rw [htk, datR_snoc]; simp [MpV.plain]
    exact Z.again (k + 1, _, _, acc ++ [q.lc]) J8 ⟨⟨by simp only; omega, by simp only [List.append_assoc, List.cons_append, List.nil_append] at hacc ⊢; exact hacc, by simp only [List.length_append, List.length_singleton]; omega⟩, by simp only [List.length_append, List.length_singleton]; rw [el, ed, ints_app]; exact hs⟩ J22
  (try simp at hc7)
  refine V403 ?_; obtain rfl : k = n := by omega
  rw [List.drop_of_length_le J45] at hacc; rw [List.take_of_length_le J45] at hs; simp only [hdsR, List.append_nil] at hacc; have hdl := datR_le hf; have hdl2 : (datR (ps.map MpV.plain)).length ≤ 10000000 := by
    have : ps.length * 100000 ≤ 100 * 100000 := Nat.mul_le_mul_right _ J5
    omega
  have hal2 : acc.length ≤ 400 := by omega
  have hj : joinB (ps.map MpV.plain) i after = acc ++ (if 0 ≤ after then [31] else []) ++ (datR (ps.map MpV.plain) ++ if 0 ≤ after then List.replicate after.toNat 0 else []) := by unfold joinB; rw [← hacc]
  refine V18 ?_; refine V1 ?_; refine Z.only [2, 7, 8, 77] rfl ?_; refine V6 ?_; refine Z.cond rfl (fun hc17 => ?_) (fun hc17 => ?_)
  · (try simp at hc17)
    have haf0 : 0 ≤ after := by assumption
    rw [if_pos haf0, if_pos haf0] at hj; obtain ⟨a, rfl⟩ : ∃ a : Nat, after = (a : Int) := ⟨after.toNat, by omega⟩; have hj1 : ints .u8 (joinB (ps.map MpV.plain) i a) = (ints .u8 acc ++ [.int .u8 31]) ++ (ints .u8 (datR (ps.map MpV.plain)) ++ List.replicate a (Value.int .u8 0)) := by rw [hj]; simp [ints]
    have hj2 : (joinB (ps.map MpV.plain) i a).length = acc.length + 1 + ((datR (ps.map MpV.plain)).length + a) := by rw [hj]; simp; omega
    have hj3 : (ints .u8 (datR (ps.map MpV.plain)) ++ List.replicate a (Value.int .u8 0)).length = ((datR (ps.map MpV.plain)).length + a) * 1 := by simp [ints]
    have hj4 : ∀ u ∈ ints .u8 (datR (ps.map MpV.plain)) ++ List.replicate a (Value.int .u8 0), u.oneCell' = true := by
      intro u hu
      rcases List.mem_append.1 hu with h | h
      · exact Z.ints_one u h
      rw [(List.mem_replicate.1 h).2]; rfl
    refine V0 ?_; refine V62 ?_; refine V132 ?_; clear hs; intro g79 w79 hs; refine V2 ?_; refine V86 ?_; clear hs; intro g80 cap80 w80 hs; replace hs := U3 hs; refine V1 ?_; refine Z.only [2, 7, 8] rfl ?_; refine V300 ?_; refine V527 ?_; refine Z.ZO.appendZ (m := a) (i0 := Tryz.t5) rfl rfl (by rfl) hs underlying48 underlying3 J3 rfl rfl rfl rfl rfl rfl rfl J1 J5 J5 ?_; clear hs; intro v83 w83 hs; replace hs := U5 hs; refine V1 ?_; refine Z.only [7, 8] rfl ?_; refine V303 ?_; obtain ⟨Ad, cd, rfl, -, -, -⟩ := row_slv hs (j := 1) rfl; refine V18 ?_; refine V2 ?_; refine V405 ?_; clear hs; intro v86 w86 hs; replace hs := U5 hs; refine V1 ?_; refine V462 ?_; exact ⟨_, rfl, by rw [hj1, hj2]; exact hs.sub ((List.nil_sublist _).cons_cons _)⟩
  (try simp at hc17)
  have haf0 : ¬ 0 ≤ after := by omega
  rw [if_neg haf0, if_neg haf0, List.append_nil, List.append_nil] at hj; have hj1 : ints .u8 (joinB (ps.map MpV.plain) i after) = ints .u8 acc ++ ints .u8 (datR (ps.map MpV.plain)) := by rw [hj]; simp [ints]
  have hj2 : (joinB (ps.map MpV.plain) i after).length = acc.length + (datR (ps.map MpV.plain)).length := by rw [hj]; simp
  refine V862 ?_; refine V859 ?_; obtain ⟨Ad, cd, rfl, -, -, -⟩ := row_slv hs (j := 1) rfl; refine V18 ?_; refine V2 ?_; refine V405 ?_; clear hs; intro v86 w86 hs; replace hs := U5 hs; refine V1 ?_; refine V462 ?_; exact ⟨_, rfl, by rw [hj1, hj2]; exact hs.sub ((List.nil_sublist _).cons_cons _)⟩

theorem elt_gt {l : List Int} {i : Nat} (h : i < l.length) : elt l (i : Int) = l[i] := by simp [elt, h]
theorem fld_app (v : Nat) : ∀ a b, fld v (a + b) = fld (v / 2 ^ b) a ++ fld v b
  | 0, b => by simp [fld]
  | a + 1, b => by
    rw [show a + 1 + b = (a + b) + 1 from by omega]; simp only [fld, List.cons_append]; rw [fld_app v a b, Nat.testBit_div_two_pow]
theorem fld_mod (v : Nat) : ∀ b c, b ≤ c → fld (v % 2 ^ c) b = fld v b
  | 0, c, _ => rfl
  | b + 1, c, h => by
    simp only [fld]; rw [fld_mod v b c J5, Nat.testBit_mod_two_pow]; simp [show b < c from by omega]
theorem byte_bits : ∀ x : Fin 256, 128 * (x.val.testBit 7).toNat + 64 * (x.val.testBit 6).toNat + 32 * (x.val.testBit 5).toNat + 16 * (x.val.testBit 4).toNat + 8 * (x.val.testBit 3).toNat + 4 * (x.val.testBit 2).toNat + 2 * (x.val.testBit 1).toNat + (x.val.testBit 0).toNat = x.val := by decide
theorem bn_unb {l : List Int} {j i : Nat} (hj : j < l.length) (hi : i < 8) : bn (unb l) (8 * j + i) = ((elt l (j : Int)).toNat.testBit (7 - i)).toNat := by
  have h := unb_get (l := l) (k := 8 * j + i) J5; unfold bn bt; rw [List.getD_eq_getElem?_getD, h]; rw [show (((8 * j + i : Nat) : Int) / 8) = (j : Int) from by omega, show (8 * j + i) % 8 = i from by omega]
  rfl
theorem pk_unb {l : List Int} (hb : ∀ x ∈ l, 0 ≤ x ∧ x < 256) : pk (unb l) = l := by
  have hl := unb_length l; refine List.ext_getElem (by rw [pk_length, hl]; omega) fun j h1 h2 => ?_
  have hj : j < l.length := h2; have e1 : elt (pk (unb l)) (j : Int) = (byt (unb l) j : Int) := by unfold pk; exact elt_pkn (by rw [hl]; omega)
  rw [← elt_gt h1, ← elt_gt h2, e1]; have hx := hb _ (List.getElem_mem hj); rw [← elt_gt hj] at hx; generalize hv : elt l (j : Int) = v at hx; have hbits := byte_bits ⟨v.toNat, by omega⟩; unfold byt; have e0 : bn (unb l) (8 * j) = ((elt l (j : Int)).toNat.testBit 7).toNat := bn_unb (i := 0) hj J5; rw [e0, bn_unb hj J5, bn_unb hj J5, bn_unb hj J5, bn_unb hj J5, bn_unb hj J5, bn_unb hj J5, bn_unb hj J5, hv]; simp only [Nat.sub_zero, Nat.reduceSub] at hbits ⊢
  omega
theorem len_short : ∀ x : Fin 128, fld 0 1 ++ fld x.val 7 = fld x.val 8 := by decide
theorem len_long {n : Nat} (h : n < 32768) : fld 1 1 ++ fld n 15 = fld (128 + n / 256) 8 ++ fld (n % 256) 8 := by
  have h1 : fld (32768 + n) (1 + 15) = fld ((32768 + n) / 2 ^ 15) 1 ++ fld (32768 + n) 15 := fld_app _ _ _; have h2 : fld (32768 + n) (8 + 8) = fld ((32768 + n) / 2 ^ 8) 8 ++ fld (32768 + n) 8 := fld_app _ _ _; have h3 : (32768 + n) / 2 ^ 15 = 1 := by omega
  have h4 : fld (32768 + n) 15 = fld n 15 := by rw [← fld_mod (32768 + n) 15 15 J5]; congr 1; omega
  have h5 : (32768 + n) / 2 ^ 8 = 128 + n / 256 := by omega
  have h6 : fld (32768 + n) 8 = fld (n % 256) 8 := by rw [← fld_mod (32768 + n) 8 8 J5]; congr 1; omega
  rw [h3, h4] at h1; rw [h5, h6] at h2; rw [← h1, ← h2]

theorem lenF_ext {p : Prt} (h : sduB p.1) : ((lenF p.2.length).length : Int) = extP p := by
  unfold lenF extP; rw [if_pos h]
  by_cases h1 : p.2.length ≤ 127
  · rw [if_pos h1, if_neg J5]; rfl
  rw [if_neg h1, if_pos J5]; rfl
theorem ext_no {p : Prt} (h : ¬ sduB p.1) : extP p = 0 := if_neg h
theorem datR_cons (p : Prt) (r : List Prt) : datR (p :: r) = p.2 ++ datR r := rfl
theorem hds_true : ∀ r : List Prt, ((hdsR r true).length : Int) + ((datR r).length : Int) = totP r
  | [] => rfl
  | p :: r => by
    have ih := hds_true r; rw [hdsR_cons, totP_cons, datR_cons, if_neg J16, List.length_append, List.length_append, List.length_cons]
    by_cases h : sduB p.1
    · have := lenF_ext h
      rw [if_pos h]
      omega
    rw [if_neg h, ext_no h, List.length_nil]
    omega
theorem lastP_cons {p : Prt} {r : List Prt} (h : r ≠ []) : lastP (p :: r) = lastP r := by
  unfold lastP
  cases r with
  | nil => exact absurd rfl h
  | cons a l => rfl
theorem hds_false : ∀ r : List Prt, r ≠ [] → ((hdsR r false).length : Int) + ((datR r).length : Int) = needP r
  | [], h => absurd rfl h
  | [p], _ => by
    unfold needP; rw [hdsR_cons, totP_cons, datR_cons, if_pos J16]; simp [hdsR, datR, totP, lastP]
    omega
  | p :: a :: r, _ => by
    have ih := hds_false (a :: r) J16; unfold needP at ih ⊢; rw [lastP_cons J16]; rw [hdsR_cons, totP_cons, datR_cons, if_neg J16, List.length_append, List.length_append, List.length_cons]
    by_cases h : sduB p.1
    · have := lenF_ext h
      rw [if_pos h]
      omega
    rw [if_neg h, ext_no h, List.length_nil]
    omega
theorem join_full (r : List Prt) : ((joinB r 0 0).length : Int) = totP r + 1 := by
  have h := hds_true r; unfold joinB; simp
  omega
theorem join_bare (r : List Prt) (f : Nat) (h : r ≠ []) : ((joinB r f (-1)).length : Int) = needP r + f := by
  have h := hds_false r h; unfold joinB; simp
  omega
def bldV (size : Int) (r : List Prt) : List Int × Int :=
  if ¬ ((1 ≤ size ∧ size ≤ 16384) ∧ okN r) then ([], 2)
  else if size - needP r < 0 then ([], 4)
  else if size - needP r ≤ 2 then (joinB r (size - needP r).toNat (-1), 0)
  else (joinB r 0 (size - (totP r + 1)), 0)
theorem bld_arg {size : Int} {r : List Prt} (h : ¬ ((1 ≤ size ∧ size ≤ 16384) ∧ okN r)) : bldV size r = ([], 2) := if_pos h
theorem bld_long {size : Int} {r : List Prt} (h : (1 ≤ size ∧ size ≤ 16384) ∧ okN r) (h2 : size - needP r < 0) : bldV size r = ([], 4) := by unfold bldV; rw [if_neg (fun hh => hh h), if_pos h2]
theorem bld_few {size : Int} {r : List Prt} {d : Nat} (h : (1 ≤ size ∧ size ≤ 16384) ∧ okN r) (h2 : size - needP r = (d : Int)) (h3 : d ≤ 2) : bldV size r = (joinB r d (-1), 0) := by
  unfold bldV; rw [if_neg (fun hh => hh h), if_neg J5, if_pos J5, h2, Int.toNat_natCast]
theorem bld_pad {size : Int} {r : List Prt} (h : (1 ≤ size ∧ size ≤ 16384) ∧ okN r) (h2 : 2 < size - needP r) : bldV size r = (joinB r 0 (size - (totP r + 1)), 0) := by
  unfold bldV; rw [if_neg (fun hh => hh h), if_neg J5, if_neg J5]
theorem need_tot (r : List Prt) : totP r - 2 ≤ needP r ∧ needP r ≤ totP r := by
  have := extP_bd (lastP r); unfold needP
  omega
theorem mr_Need (A : Option Addr) (n c : Nat) (ps : List MpV) (w : World) (hx : Sl w A (ps.flatMap MpV.cells)) (hl : ps.length = n) (hn : n ≤ 100) (hf : ∀ q ∈ ps, q.l.length ≤ 100000) (hB : ∀ q ∈ ps, Sl w q.B (ints .u8 q.l)) :
    Calls Tryz.prog 85 #[.slice A n c] w (Ret fun v w' => v = .tuple #[.int .i64 (needV (ps.map MpV.plain)).1, .int .i64 (needV (ps.map MpV.plain)).2] ∧ St w [] w' []) := by
  have hs := St.start w; have hne : ps.map MpV.plain ≠ [] ↔ n ≠ 0 := by rw [← hl]; simp
  refine Z.enter func85 rfl ntmps85 rfl rfl ?_; refine V538 ?_; refine V125 ?_; refine V27 ?_; refine V11 ?_; refine Z.split (s := 7) rfl (fun hsp7 => ?_) (fun hsp7 => ?_)
  · refine Z.yes (s := 7) (b := true) rfl hsp7 rfl ?_
    (try simp at hsp7)
    refine V4 ?_; refine V20 ?_; refine V857 ?_; refine Z.only [0, 11] rfl ?_; refine V6 ?_; refine Z.cond rfl (fun hc1 => ?_) (fun hc1 => ?_)
    · (try simp at hc1)
      have hno : ¬ okN (ps.map MpV.plain) := by rintro ⟨h1, h2⟩; rw [hne] at h1; first | omega | simp_all
      rw [show needV (ps.map MpV.plain) = (0, 2) from if_neg hno]; refine V196 ?_
      repeat (first | refine Z.rthen ?_ | refine Z.rblock ?_ | refine Z.rscope ?_)
      refine V162 ?_; exact ⟨_, rfl, rfl, Jn hs⟩
    (exfalso; simp at hc1 <;> omega)
  refine Z.yes (s := 7) (b := false) rfl hsp7 rfl ?_
  (try simp at hsp7)
  refine V859 ?_; refine V567 ?_; refine V160 ?_; refine Z.ZO.call rfl rfl (by rfl) rfl rfl call84 rfl (mr_valid A n c ps _ hx hl J5) ?_; rintro v1_5 w1_5 ⟨rfl, hy⟩; replace hs := U0 (hs.call hy); clear hy; refine V859 ?_; refine V567 ?_; refine V14 ?_; refine V857 ?_; refine Z.only [0, 11] rfl ?_; refine V6 ?_; refine Z.cond rfl (fun hc1 => ?_) (fun hc1 => ?_)
  · (try simp at hc1)
    have hno : ¬ okN (ps.map MpV.plain) := by rintro ⟨h1, h2⟩; rw [hne] at h1; first | omega | simp_all
    rw [show needV (ps.map MpV.plain) = (0, 2) from if_neg hno]; refine V196 ?_
    repeat (first | refine Z.rthen ?_ | refine Z.rblock ?_ | refine Z.rscope ?_)
    refine V162 ?_; exact ⟨_, rfl, rfl, Jn hs⟩
  (try simp at hc1)
  have hok : okN (ps.map MpV.plain) := ⟨by rw [hne]; omega, by simp_all⟩; rw [show needV (ps.map MpV.plain) = (needP (ps.map MpV.plain), 0) from if_pos hok]; have hjl := join_bare (ps.map MpV.plain) 0 hok.1; rw [show needP (ps.map MpV.plain) = ((joinB (ps.map MpV.plain) 0 (-1)).length : Int) from by omega]; refine V862 ?_; refine V62 ?_; refine Z.ZO.call rfl rfl (by rfl) rfl rfl call139 rfl (mr_join A n c 0 (-1) ps _ (hx.st hs) hl hn hf (fun q hq ↦ (hB q hq).st hs) hok.2 J5 J5) ?_; rintro v3_1 w3_1 hy; replace hs := U0 (hs.call hy); clear hy; obtain ⟨Aj, cj, rfl, -, -, -⟩ := row_slv hs (j := 0) rfl; refine V29 ?_; refine V468 ?_; exact ⟨_, rfl, rfl, Jn hs⟩
theorem mr_Build (size : Int) (A : Option Addr) (n c : Nat) (ps : List MpV) (w : World) (hx : Sl w A (ps.flatMap MpV.cells)) (hl : ps.length = n) (hn : n ≤ 100) (hf : ∀ q ∈ ps, q.l.length ≤ 100000) (hB : ∀ q ∈ ps, Sl w q.B (ints .u8 q.l)) :
    Calls Tryz.prog 86 #[.int .i64 size, .slice A n c] w (Ret fun v w' => ∃ sv, v = .tuple #[sv, .int .i64 (bldV size (ps.map MpV.plain)).2] ∧ St w [] w' [Ent.row sv 5 1 (bldV size (ps.map MpV.plain)).1.length (ints .u8 (bldV size (ps.map MpV.plain)).1)]) := by
  have hs := St.start w; have hbd := totP_bd hf; have hnt := need_tot (ps.map MpV.plain); have hneed : (needV (ps.map MpV.plain)).2 = 0 ↔ okN (ps.map MpV.plain) := by
    unfold needV
    by_cases h : okN (ps.map MpV.plain)
    · rw [if_pos h]; simp [h]
    rw [if_neg h]; simp [h]
  have hneed1 : okN (ps.map MpV.plain) → (needV (ps.map MpV.plain)).1 = needP (ps.map MpV.plain) := fun h => by unfold needV; rw [if_pos h]
  refine Z.enter func86 rfl ntmps86 rfl rfl ?_; refine V151 ?_; refine V378 ?_; refine V858 ?_; refine V62 ?_; refine Z.ZO.call rfl rfl (by rfl) rfl rfl call85 rfl (mr_Need A n c ps _ hx hl hn hf hB) ?_; rintro v1_1 w1_1 ⟨rfl, hy⟩; replace hs := U0 (hs.call hy); clear hy; refine V126 ?_; refine Z.only [0, 1, 6, 7] rfl ?_; refine V30 ?_; refine Z.lb 10 rfl ?_; refine V857 ?_; refine Z.only [0, 1, 6, 23] rfl ?_; refine V6 ?_; refine Z.cond rfl (fun hc2 => ?_) (fun hc2 => ?_)
  · (try simp at hc2)
    have hno : ¬ ((1 ≤ size ∧ size ≤ 16384) ∧ okN (ps.map MpV.plain)) := by rintro ⟨h1, h2⟩; have h3 := hneed.2 h2; first | omega | simp_all
    rw [bld_arg hno]; refine V0 ?_; refine V280 ?_
    repeat (first | refine Z.rthen ?_ | refine Z.rblock ?_ | refine Z.rscope ?_)
    refine V162 ?_; exact ⟨_, rfl, _, rfl, hs.nil 5 1⟩
  (try simp at hc2)
  have hok : (1 ≤ size ∧ size ≤ 16384) ∧ okN (ps.map MpV.plain) := ⟨by omega, hneed.1 J5⟩; rw [hneed1 hok.2]; obtain ⟨hok1, hok2⟩ := hok; refine V367 ?_; refine V395 ?_; refine Z.only [0, 1, 8] rfl ?_; refine V594 ?_; refine V184 ?_; refine Z.only [0, 1, 8, 27] rfl ?_; refine V6 ?_; refine Z.cond rfl (fun hc5 => ?_) (fun hc5 => ?_)
  · (try simp at hc5)
    rw [bld_long ⟨hok1, hok2⟩ J5]; refine V0 ?_; refine V280 ?_
    repeat (first | refine Z.rthen ?_ | refine Z.rblock ?_ | refine Z.rscope ?_)
    refine V162 ?_; exact ⟨_, rfl, _, rfl, hs.nil 5 1⟩
  (try simp at hc5)
  refine V0 ?_; refine V184 ?_; refine Z.only [0, 1, 8, 30] rfl ?_; refine V6 ?_; refine Z.cond rfl (fun hc7 => ?_) (fun hc7 => ?_)
  · (try simp at hc7)
    obtain ⟨d, hd⟩ : ∃ d : Nat, size - needP (ps.map MpV.plain) = (d : Int) := ⟨(size - needP (ps.map MpV.plain)).toNat, by omega⟩; rw [bld_few ⟨hok1, hok2⟩ hd J5, hd]; have hd2 : d ≤ 2 := by omega
    refine V0 ?_; refine V527 ?_; refine Z.ZO.call rfl rfl (by rfl) rfl rfl call139 rfl (mr_join A n c d (-1) ps _ (hx.st hs) hl hn hf (fun q hq ↦ (hB q hq).st hs) hok2.2 hd2 J5) ?_; rintro v8_2 w8_2 hy; replace hs := U0 (hs.call hy); clear hy; refine V280 ?_
    repeat (first | refine Z.rthen ?_ | refine Z.rblock ?_ | refine Z.rscope ?_)
    refine V162 ?_; exact ⟨_, rfl, _, rfl, hs⟩
  (try simp at hc7)
  rw [bld_pad ⟨hok1, hok2⟩ J5]; have hjl := join_full (ps.map MpV.plain); refine V68 ?_; refine V333 ?_; refine V2 ?_; refine Z.ZO.call rfl rfl (by rfl) rfl rfl call139 rfl (mr_join A n c 0 0 ps _ (hx.st hs) hl hn hf (fun q hq ↦ (hB q hq).st hs) hok2.2 J5 J5) ?_; rintro v9_3 w9_3 hy; replace hs := U0 (hs.call hy); clear hy; obtain ⟨Aj, cj, rfl, -, -, -⟩ := row_slv hs (j := 0) rfl; refine V29 ?_; refine V17 ?_; rw [hjl]; refine V2 ?_; refine Z.ZO.call rfl rfl (by rfl) rfl rfl call139 rfl (mr_join A n c 0 (size - (totP (ps.map MpV.plain) + 1)) ps _ (hx.st (Jn hs)) hl hn hf (fun q hq ↦ (hB q hq).st (Jn hs)) hok2.2 J5 J5) ?_; rintro v9_6 w9_6 hy; replace hs := U0 (hs.call hy); clear hy; refine V280 ?_; refine V162 ?_; exact ⟨_, rfl, _, rfl, hs.sub ((List.nil_sublist _).cons_cons _)⟩

def mperr (e : Int) : List PanicEntry := Z.pe (.iface 31 (.int .i64 e))
def MPan (e : Int) (Φ : World → Prop) : Ending → World → Prop := Z.Pan fun c w' => c = mperr e ∧ Φ w'
theorem mm_must_ok (b : Bool) (e : Int) (w : World) (hb : b = true) : Calls Tryz.prog 109 #[.bool b, .int .i64 e] w (Ret fun v w' => v = .tuple #[] ∧ St w [] w' []) := by
  have hs := St.start w; subst hb; refine Z.enter func109 rfl ntmps109 rfl rfl ?_; refine V413 ?_; refine V6 ?_; refine Z.cond rfl (fun h => absurd h J16) (fun hc0 => ?_); refine V323 ?_; exact ⟨_, rfl, rfl, hs⟩
theorem mm_must_bad (b : Bool) (e : Int) (w : World) (hb : b = false) : Calls Tryz.prog 109 #[.bool b, .int .i64 e] w (MPan e fun w' => St w [] w' []) := by
  have hs := St.start w; subst hb; refine Z.enter func109 rfl ntmps109 rfl rfl ?_; refine V413 ?_; refine V6 ?_; refine Z.cond rfl (fun hc0 => ?_) (fun h => absurd h J16); refine V421 ?_; exact ⟨_, rfl, rfl, hs⟩
theorem mm_goti_ok (x : Int) (w : World) : Calls Tryz.prog 122 #[.int .i64 x, .int .i64 0] w (Ret fun v w' => v = .int .i64 x ∧ St w [] w' []) := by
  have hs := St.start w; refine Z.enter func122 rfl ntmps122 rfl rfl ?_; refine V381 ?_; rintro v1_3 w1_3 ⟨rfl, hy⟩; replace hs := U0 (hs.call hy); clear hy; refine V857 ?_; refine V273 ?_; exact ⟨_, rfl, rfl, hs⟩
theorem mm_goti_bad (x e : Int) (w : World) (he : e ≠ 0) : Calls Tryz.prog 122 #[.int .i64 x, .int .i64 e] w (MPan e fun w' => St w [] w' []) := by
  have hs := St.start w; refine Z.enter func122 rfl ntmps122 rfl rfl ?_; refine V359 ?_; rintro c1_3 w1_3 ⟨rfl, hy⟩; replace hs := U0 (hs.call hy); clear hy
  repeat (first | refine Z.pthen ?_ | refine Z.pblock ?_ | refine Z.pscope ?_)
  refine V309 ?_; exact ⟨_, rfl, rfl, hs⟩
theorem mm_caught_pan (ge Te k : Nat) (cap : Array Value) (x : Value) (e : Int) (L L' : List Ent) (w : World) (hs : St w (idsOf (Ent.blk ge Te #[x] :: L)) w (Ent.blk ge Te #[x] :: L)) (hk : ∀ args w, (callFunc k args).run Tryz.prog w = .ok (.enter k args) w)
    (hcl : ∀ W, St W (idsOf L) W L → Calls Tryz.prog k cap W (Ret fun v w' => v = .tuple #[] ∧ St W (idsOf L) w' L')) :
    CallsDm Tryz.prog 107 #[.pointer (some ⟨ge, 0, none⟩), .func (.func k) #[] cap] (.panicking (mperr e)) (.panicking [{ v := .iface 31 (.int .i64 e), recovered := true }]) w
      (fun v w' => v = .tuple #[] ∧ St w (idsOf (Ent.blk ge Te #[x] :: L)) w' (Ent.blk ge Te #[.int .i64 e] :: L')) := by
  generalize hM : idsOf (Ent.blk ge Te #[x] :: L) = M at *; refine Z.enterRec (Z.rec_pan _) func107 rfl ntmps107 rfl rfl rfl rfl rfl rfl rfl rfl rfl rfl ?_; refine V363 ?_; refine V179 ?_; refine V857 ?_; refine V482 ?_; refine Z.cond rfl (fun hc1 => ?_) (fun h => absurd h J16); refine V363 ?_; refine V178 ?_; refine V6 ?_; refine Z.cond rfl (fun h => absurd h J16) (fun hc3 => ?_); refine V224 ?_; rintro v5 w5 ⟨rfl, hz⟩; replace hs := St.rot (L2 := [Ent.blk ge Te #[x]]) ((St.regain (L1 := L) (L2 := [Ent.blk ge Te #[x]]) (hs.rot (L1 := [_]))) hz); refine V857 ?_; refine V517 ?_; clear hs; intro ws hs; replace hs := U1 hs; refine V857 ?_; refine V77 ?_; exact ⟨_, rfl, rfl, hs⟩
theorem mm_caught_ret (ge k : Nat) (cap : Array Value) (w : World) :
    CallsDm Tryz.prog 107 #[.pointer (some ⟨ge, 0, none⟩), .func (.func k) #[] cap] .returning .returning w (fun v w' => v = .tuple #[] ∧ St w [] w' []) := by
  have hs := St.start w; refine Z.enterRec (Z.rec_ret) func107 rfl ntmps107 rfl rfl rfl rfl rfl rfl rfl rfl rfl rfl ?_; refine V363 ?_; refine V179 ?_; refine V857 ?_; refine V482 ?_; refine Z.cond rfl (fun h => absurd h J16) (fun hc1 => ?_); refine V323 ?_; exact ⟨_, rfl, rfl, hs⟩
theorem mm_clearB (gp T : Nat) (a : Value) (W : World) (hs : St W (idsOf [Ent.blk gp T #[a]]) W [Ent.blk gp T #[a]]) :
    Calls Tryz.prog 121 #[.pointer (some ⟨gp, 0, none⟩)] W (Ret fun v w' => v = .tuple #[] ∧ St W (idsOf [Ent.blk gp T #[a]]) w' [Ent.blk gp T #[.slice none 0 0]]) := by
  generalize idsOf [Ent.blk gp T #[a]] = M at *; refine Z.enter func121 rfl ntmps121 rfl rfl ?_; refine V42 ?_; refine V595 ?_; clear hs; intro ws hs; replace hs := U1 hs; refine V857 ?_; refine V77 ?_; exact ⟨_, rfl, rfl, hs⟩
def hdP (x : Nat) (b : Bool) : List (Int × Int) := [(0, 2), (if b then 1 else 0, 1), ((x : Int), 5)]
theorem hdP_ok : ∀ (x : Fin 32) (b : Bool), (∀ f ∈ hdP x.val b, GoodF f) ∧ chkA (hdP x.val b) = 0 ∧ (hdP x.val b).flatMap fldF = unb [(x.val : Int) + if b then 32 else 0] := by
  intro x b; have hg : ∀ f ∈ hdP x.val b, GoodF f := by
    intro f hf; have := x.isLt; simp only [hdP, List.mem_cons, List.mem_nil_iff, or_false] at hf; unfold GoodF
    rcases hf with rfl | rfl | rfl
    · decide
    · cases b <;> decide
    simp only; omega
  refine ⟨hg, ?_, ?_⟩
  · clear hg; revert x; cases b <;> decide
  clear hg; revert x; cases b <;> decide
theorem unb_appM (a b : List Int) : unb (a ++ b) = unb a ++ unb b := by simp [unb]
theorem mm_head (g T : Nat) (sv : Value) (acc : List Int) (x : Nat) (b : Bool) (w : World) (hs : St w (idsOf (WrL g T sv (unb acc))) w (WrL g T sv (unb acc))) (hx : x < 32) (ha : acc.length ≤ 100000) :
    Calls Tryz.prog 123 #[.int .i64 (x : Int), .bool b, .pointer (some ⟨g, 0, none⟩)] w (Ret fun v w' => ∃ sv', v = .tuple #[] ∧ St w (idsOf (WrL g T sv (unb acc))) w' (WrL g T sv' (unb (acc ++ [(x : Int) + if b then 32 else 0])))) := by
  generalize hM : idsOf (WrL g T sv (unb acc)) = M at *; obtain ⟨h1, h2, h3⟩ := hdP_ok ⟨x, hx⟩ b; simp only at h1 h2 h3; have hul := unb_length acc; have er : resA (unb acc) (hdP x b) = unb (acc ++ [(x : Int) + if b then 32 else 0]) := by
    unfold resA; rw [if_pos h2, h3, unb_appM]
  refine Z.enter func123 rfl ntmps123 rfl rfl ?_; refine V121 ?_; refine Z.only [0, 1, 2, 5] rfl ?_; refine V214 ?_; refine Z.only [0, 2, 5, 6] rfl ?_; refine V6 ?_; refine Z.cond rfl (fun hc1 => ?_) (fun hc1 => ?_)
  · (try simp at hc1)
    subst hc1; refine V42 ?_; refine V1 ?_; refine Z.only [0, 2, 5] rfl ?_; refine V300 ?_; refine V51 ?_; refine V859 ?_; refine V51 ?_; refine V859 ?_; refine V111 ?_; refine V51 ?_; refine V2 ?_; refine V433 ?_; clear hs; intro g13 w13 hs; replace hs := hs.rot (L1 := [_])
    change St _ _ _ (WrL g T sv _ ++ [_]) at hs
    refine V2 ?_; refine V479 ?_; rintro v3_7 w3_7 ⟨sv2, rfl, hz⟩; replace hs := hs.regain hz; refine V857 ?_; refine V77 ?_; rw [er] at hs; exact ⟨_, rfl, sv2, rfl, hs.sub (List.sublist_append_left _ _)⟩
  (try simp at hc1)
  subst hc1; refine V489 ?_; refine V51 ?_; refine V859 ?_; refine V51 ?_; refine V859 ?_; refine V111 ?_; refine V51 ?_; refine V2 ?_; refine V433 ?_; clear hs; intro g13 w13 hs; replace hs := hs.rot (L1 := [_])
  change St _ _ _ (WrL g T sv _ ++ [_]) at hs
  refine V2 ?_; refine V479 ?_; rintro v3_7 w3_7 ⟨sv2, rfl, hz⟩; replace hs := hs.regain hz; refine V857 ?_; refine V77 ?_; rw [er] at hs; exact ⟨_, rfl, sv2, rfl, hs.sub (List.sublist_append_left _ _)⟩

theorem unb_dropN {l : List Int} {p : Nat} (hp : p ≤ l.length) : (unb l).drop (8 * p) = unb (l.drop p) := by
  have e : unb l = unb (l.take p) ++ unb (l.drop p) := by rw [← unb_appM, List.take_append_drop]
  rw [e, List.drop_left' (by rw [unb_length, List.length_take]; omega)]
theorem unb_cons (x : Int) (l : List Int) : unb (x :: l) = fld x.toNat 8 ++ unb l := rfl
theorem drop_elt {l : List Int} {p : Nat} (hp : p < l.length) : l.drop p = elt l (p : Int) :: l.drop (p + 1) := by
  rw [List.drop_eq_getElem_cons hp, elt_gt hp]
theorem bits_in {l : List Int} {p i n : Nat} (hp : p < l.length) (h : i + n ≤ 8) : bitsAt l (8 * p + i) n = ((fld (elt l (p : Int)).toNat 8).drop i).take n := by
  unfold bitsAt; rw [← List.drop_drop, unb_dropN J5, drop_elt hp, unb_cons, List.drop_append_of_le_length (by rw [fld_length]; omega), List.take_append_of_le_length (by rw [List.length_drop, fld_length]; omega)]
theorem fbits : ∀ x : Fin 256, val (((fld x.val 8).drop 0).take 2) = x.val / 64 ∧ val (((fld x.val 8).drop 2).take 1) = x.val / 32 % 2 ∧ val (((fld x.val 8).drop 3).take 5) = x.val % 32 ∧ val (((fld x.val 8).drop 0).take 1) = x.val / 128 ∧ val (((fld x.val 8).drop 1).take 7) = x.val % 128 ∧ val (((fld x.val 8).drop 0).take 8) = x.val := by
  set_option maxRecDepth 100000 in decide
theorem getV_in {l : List Int} {a n : Nat} (h : a + n ≤ 8 * l.length) (h2 : n ≤ 64) : getV l a (n : Int) = (val (bitsAt l a n) : Int) ∧ getE l a (n : Int) = 0 ∧ getA l a (n : Int) = a + n := by
  have h1 := getE_ok h h2; refine ⟨?_, h1, ?_⟩
  · unfold getV; rw [if_pos h1]; rfl
  unfold getA; rw [if_pos h1]; rfl
theorem get_bad {l : List Int} {a n : Nat} (h : ¬ a + n ≤ 8 * l.length) (h2 : n ≤ 64) : getE l a (n : Int) = 5 := by
  unfold getE; rw [if_neg J5, if_pos J5]
def byB (l : List Int) (p : Nat) : Int := elt l (p : Int)
theorem byB_bd {l : List Int} (hb : ∀ x ∈ l, 0 ≤ x ∧ x < 256) {p : Nat} (hp : p < l.length) : 0 ≤ byB l p ∧ byB l p < 256 := by
  unfold byB; rw [elt_gt hp]; exact hb _ (List.getElem_mem hp)
theorem head_get {l : List Int} (hb : ∀ x ∈ l, 0 ≤ x ∧ x < 256) {p : Nat} (hp : p < l.length) :
    getV l (8 * p) 2 = byB l p / 64 ∧ getV l (8 * p + 2) 1 = byB l p / 32 % 2 ∧ getV l (8 * p + 3) 5 = byB l p % 32 ∧ getV l (8 * p) 1 = byB l p / 128 ∧ getV l (8 * p + 1) 7 = byB l p % 128 ∧ getV l (8 * p) 8 = byB l p := by
  have h0 := byB_bd hb hp; obtain ⟨x, hx⟩ := Int.eq_ofNat_of_zero_le h0.1; have hx' : elt l (p : Int) = (x : Int) := hx; obtain ⟨f1, f2, f3, f4, f5, f6⟩ := fbits ⟨x, by omega⟩; simp only at f1 f2 f3 f4 f5 f6; have g : ∀ i n : Nat, i + n ≤ 8 → getV l (8 * p + i) (n : Int) = (val (((fld x 8).drop i).take n) : Int) := fun i n h => by
    rw [(getV_in (l := l) (a := 8 * p + i) (n := n) J5 J5).1, bits_in hp h, hx', Int.toNat_natCast]
  rw [hx]; refine ⟨?_, ?_, ?_, ?_, ?_, ?_⟩
  · have := g 0 2 J5; rw [f1] at this; simpa using this
  · have := g 2 1 J5; rw [f2] at this; simpa using this
  · have := g 3 5 J5; rw [f3] at this; simpa using this
  · have := g 0 1 J5; rw [f4] at this; simpa using this
  · have := g 1 7 J5; rw [f5] at this; simpa using this
  have := g 0 8 J5; rw [f6] at this; simpa using this
theorem long_get {l : List Int} (hb : ∀ x ∈ l, 0 ≤ x ∧ x < 256) {p : Nat} (hp : p + 1 < l.length) : getV l (8 * p + 1) 15 = byB l p % 128 * 256 + byB l (p + 1) := by
  have h0 := byB_bd hb (show p < l.length by omega); have h1 := byB_bd hb hp; obtain ⟨x, hx⟩ := Int.eq_ofNat_of_zero_le h0.1; obtain ⟨y, hy⟩ := Int.eq_ofNat_of_zero_le h1.1; have hx' : elt l (p : Int) = (x : Int) := hx; have hy' : elt l ((p + 1 : Nat) : Int) = (y : Int) := hy; have e : bitsAt l (8 * p + 1) 15 = fld (x % 128 * 256 + y) 15 := by
    unfold bitsAt; rw [← List.drop_drop, unb_dropN J5, drop_elt (show p < l.length by omega), unb_cons, drop_elt hp, unb_cons, hx', hy', Int.toNat_natCast, Int.toNat_natCast]; have e1 : fld x 8 = x.testBit 7 :: fld x 7 := rfl; rw [e1, List.cons_append, List.drop_succ_cons, List.drop_zero, ← List.append_assoc, List.take_append_of_le_length (by rw [List.length_append, fld_length, fld_length]; omega), List.take_of_length_le (by rw [List.length_append, fld_length, fld_length]; omega)]; have h3 : fld (x % 128 * 256 + y) (7 + 8) = fld ((x % 128 * 256 + y) / 2 ^ 8) 7 ++ fld (x % 128 * 256 + y) 8 := fld_app _ _ _; have h4 : (x % 128 * 256 + y) / 2 ^ 8 = x % 2 ^ 7 := by omega
    have h5 : fld (x % 128 * 256 + y) 8 = fld y 8 := by rw [← fld_mod (x % 128 * 256 + y) 8 8 J5]; congr 1; omega
    rw [h4, h5, fld_mod x 7 7 J5] at h3; exact h3.symm
  have := (getV_in (l := l) (a := 8 * p + 1) (n := 15) J5 J5).1; rw [e, val_fld] at this; rw [hx, hy]; have h6 : (x % 128 * 256 + y) % 2 ^ 15 = x % 128 * 256 + y := by omega
  rw [h6] at this; exact this.trans J5
theorem gsV_byt {l : List Int} (hb : ∀ x ∈ l, 0 ≤ x ∧ x < 256) : ∀ (k p : Nat), p + k ≤ l.length → gsV l (8 * p) (List.replicate k (8 : Int)) = (l.drop p).take k
  | 0, p, _ => by simp [gsV]
  | k + 1, p, h => by
    have h1 := head_get hb (show p < l.length by omega); have h2 := (getV_in (l := l) (a := 8 * p) (n := 8) J5 J5).2.2; rw [List.replicate_succ, drop_elt (show p < l.length by omega), List.take_succ_cons, ← gsV_byt hb k (p + 1) J5]
    show getV l (8 * p) 8 :: gsV l (getA l (8 * p) 8) (List.replicate k 8) = _
    rw [h1.2.2.2.2.2]; have h3 : getA l (8 * p) (8 : Int) = 8 * p + 8 := h2; rw [h3]
    rfl
theorem gb_ok {l : List Int} (hb : ∀ x ∈ l, 0 ≤ x ∧ x < 256) {p k : Nat} (h : p + k ≤ l.length) : gbE l (8 * p) (k : Int) = 0 ∧ gbV l (8 * p) (k : Int) = (l.drop p).take k ∧ gbA l (8 * p) (k : Int) = 8 * (p + k) := by
  have h1 : gbE l (8 * p) (k : Int) = 0 := by unfold gbE; rw [if_neg J5, if_neg J5]
  refine ⟨h1, ?_, ?_⟩
  · unfold gbV; rw [if_pos h1, Int.toNat_natCast]; exact gsV_byt hb k p h
  unfold gbA; rw [if_pos h1, Int.toNat_natCast]; omega
theorem gb_bad {l : List Int} {p k : Nat} (hp : p ≤ l.length) (h : ¬ p + k ≤ l.length) : gbE l (8 * p) (k : Int) = 5 := by
  unfold gbE; rw [if_neg J5, if_pos J5]

theorem mm_must_any (b : Bool) (e : Int) (w : World) : Calls Tryz.prog 109 #[.bool b, .int .i64 e] w (Z.Bo (fun v w' => b = true ∧ v = .tuple #[] ∧ St w [] w' []) fun c w' => b = false ∧ c = mperr e ∧ St w [] w' []) := by
  cases b with
  | true => exact Z.Bo.ret ((mm_must_ok true e w rfl).mono fun e w' ⟨v, h1, h2⟩ => ⟨v, h1, rfl, h2⟩)
  | false => exact Z.Bo.pan ((mm_must_bad false e w rfl).mono fun e w' ⟨v, h1, h2⟩ => ⟨v, h1, rfl, h2⟩)
theorem mm_gotu_ok (x : Int) (w : World) : Calls Tryz.prog 190 #[.int .u64 x, .int .i64 0] w (Ret fun v w' => v = .int .u64 x ∧ St w [] w' []) := by
  have hs := St.start w; refine Z.enter func190 rfl ntmps190 rfl rfl ?_; refine V381 ?_; rintro v1_3 w1_3 ⟨rfl, hy⟩; replace hs := U0 (hs.call hy); clear hy; refine V857 ?_; refine V273 ?_; exact ⟨_, rfl, rfl, hs⟩
theorem mm_gotu_bad (x e : Int) (w : World) (he : e ≠ 0) : Calls Tryz.prog 190 #[.int .u64 x, .int .i64 e] w (MPan e fun w' => St w [] w' []) := by
  have hs := St.start w; refine Z.enter func190 rfl ntmps190 rfl rfl ?_; refine V359 ?_; rintro c1_3 w1_3 ⟨rfl, hy⟩; replace hs := U0 (hs.call hy); clear hy
  repeat (first | refine Z.pthen ?_ | refine Z.pblock ?_ | refine Z.pscope ?_)
  refine V309 ?_; exact ⟨_, rfl, rfl, hs⟩
theorem mm_gotb_ok (x : Value) (w : World) : Calls Tryz.prog 167 #[x, .int .i64 0] w (Ret fun v w' => v = x ∧ St w [] w' []) := by
  have hs := St.start w; refine Z.enter func167 rfl ntmps167 rfl rfl ?_; refine V381 ?_; rintro v1_3 w1_3 ⟨rfl, hy⟩; replace hs := U0 (hs.call hy); clear hy; refine V857 ?_; refine V273 ?_; exact ⟨_, rfl, rfl, hs⟩
theorem mm_gotb_bad (x : Value) (e : Int) (w : World) (he : e ≠ 0) : Calls Tryz.prog 167 #[x, .int .i64 e] w (MPan e fun w' => St w [] w' []) := by
  have hs := St.start w; refine Z.enter func167 rfl ntmps167 rfl rfl ?_; refine V359 ?_; rintro c1_3 w1_3 ⟨rfl, hy⟩; replace hs := U0 (hs.call hy); clear hy
  repeat (first | refine Z.pthen ?_ | refine Z.pblock ?_ | refine Z.pscope ?_)
  refine V309 ?_; exact ⟨_, rfl, rfl, hs⟩
theorem mm_bits_ok (g T : Nat) (sv : Value) (l : List Int) (a n : Nat) (w : World) (hs : St w (idsOf (RdL g T sv l a)) w (RdL g T sv l a)) (hl : l.length ≤ 1000000) (hb : ∀ x ∈ l, 0 ≤ x ∧ x < 256) (h : a + n ≤ 8 * l.length) (hn : n ≤ 32) :
    Calls Tryz.prog 162 #[.agg #[.pointer (some ⟨g, 0, none⟩)], .int .i64 (n : Int)] w (Ret fun v w' => v = .int .i64 (getV l a n) ∧ St w (idsOf (RdL g T sv l a)) w' (RdL g T sv l (a + n))) := by
  generalize hM : idsOf (RdL g T sv l a) = M at *; obtain ⟨h1, h2, h3⟩ := getV_in (l := l) (a := a) (n := n) h J5; have h4 : (bitsAt l a n).length ≤ 63 := by unfold bitsAt; rw [List.length_take]; omega
  have h5 := val_bd63 h4; obtain ⟨V, hV⟩ : ∃ V : Int, getV l a (n : Int) = V := ⟨_, rfl⟩; rw [hV] at h1 ⊢; have h6 : 0 ≤ V ∧ V < 9223372036854775808 := by omega
  refine Z.enter func162 rfl ntmps162 rfl rfl ?_; refine V91 ?_; clear hs; intro g2 w2 hs; refine V453 ?_; refine V397 ?_; replace hs : St w M _ (RdL g T sv l a ++ [_]) := hs.rot (L1 := [_]); refine V2 ?_; refine Z.ZO.call rfl rfl (by rfl) rfl rfl call159 rfl (rget_any g T sv l a n _ hs.lend hl J5 hb) ?_; rintro v1_3 w1_3 ⟨rfl, hz⟩; replace hs := hs.regain hz; rw [h2, hV]; rw [h3] at hs; refine V527 ?_; refine Z.ZO.call rfl rfl (by rfl) rfl rfl call190 rfl (mm_gotu_ok _ _) ?_; rintro v1_6 w1_6 ⟨rfl, hy⟩; replace hs := U0 (hs.call hy); clear hy; refine V536 ?_; refine V1 ?_; refine V240 ?_; exact ⟨_, rfl, rfl, hs.sub (List.sublist_append_left _ _)⟩
theorem mm_bits_bad (g T : Nat) (sv : Value) (l : List Int) (a n : Nat) (w : World) (hs : St w (idsOf (RdL g T sv l a)) w (RdL g T sv l a)) (hl : l.length ≤ 1000000) (hb : ∀ x ∈ l, 0 ≤ x ∧ x < 256) (ha : a ≤ 8 * l.length) (h : ¬ a + n ≤ 8 * l.length) (hn : n ≤ 32) :
    Calls Tryz.prog 162 #[.agg #[.pointer (some ⟨g, 0, none⟩)], .int .i64 (n : Int)] w (MPan 5 fun w' => ∃ a', St w (idsOf (RdL g T sv l a)) w' (RdL g T sv l a')) := by
  generalize hM : idsOf (RdL g T sv l a) = M at *; have h2 := get_bad (l := l) (a := a) (n := n) h J5; refine Z.enter func162 rfl ntmps162 rfl rfl ?_; refine V91 ?_; clear hs; intro g2 w2 hs; refine V453 ?_; refine V397 ?_; replace hs : St w M _ (RdL g T sv l a ++ [_]) := hs.rot (L1 := [_]); refine V2 ?_; refine Z.ZO.call rfl rfl (by rfl) rfl rfl call159 rfl (rget_any g T sv l a n _ hs.lend hl J5 hb) ?_; rintro v1_3 w1_3 ⟨rfl, hz⟩; replace hs := hs.regain hz; rw [h2]; refine V527 ?_; refine Z.ZO.callP rfl rfl rfl call190 rfl (mm_gotu_bad _ 5 _ J12) ?_; rintro c1_6 w1_6 ⟨rfl, hy⟩; replace hs := U0 (hs.call hy); clear hy
  repeat (first | refine Z.pthen ?_ | refine Z.pblock ?_ | refine Z.pscope ?_)
  refine V309 ?_; exact ⟨_, rfl, rfl, _, hs.sub (List.sublist_append_left _ _)⟩

def lnE (l : List Int) (p : Nat) : Int := if ¬ p < l.length then 5 else if byB l p < 128 then (if byB l p = 0 then 9 else 0) else if ¬ p + 1 < l.length then 5 else if 127 < byB l p % 128 * 256 + byB l (p + 1) then 0 else 9
def lnV (l : List Int) (p : Nat) : Int := if byB l p < 128 then byB l p else byB l p % 128 * 256 + byB l (p + 1)
def lnP (l : List Int) (p : Nat) : Nat := if byB l p < 128 then p + 1 else p + 2
abbrev LenR (g T : Nat) (sv : Value) (l : List Int) (p : Nat) (w : World) : Ending → World → Prop := Z.Bo (fun v w' => lnE l p = 0 ∧ v = .int .i64 (lnV l p) ∧ St w (idsOf (RdL g T sv l (8 * p))) w' (RdL g T sv l (8 * lnP l p))) fun c w' => lnE l p ≠ 0 ∧ c = mperr (lnE l p) ∧ ∃ a', St w (idsOf (RdL g T sv l (8 * p))) w' (RdL g T sv l a')
theorem ml_none (g T : Nat) (sv : Value) (l : List Int) (p : Nat) (w : World) (hs : St w (idsOf (RdL g T sv l (8 * p))) w (RdL g T sv l (8 * p))) (hl : l.length ≤ 1000000) (hb : ∀ x ∈ l, 0 ≤ x ∧ x < 256) (hp : p ≤ l.length) (h : ¬ p < l.length) :
    Calls Tryz.prog 165 #[.agg #[.pointer (some ⟨g, 0, none⟩)]] w (MPan 5 fun w' => ∃ a', St w (idsOf (RdL g T sv l (8 * p))) w' (RdL g T sv l a')) := by
  generalize hM : idsOf (RdL g T sv l (8 * p)) = M at *; refine V425 ?_; clear hs; intro g1 w1 hs; refine V626 ?_; refine V210 ?_; refine Z.drawP [Ent.blk g1 190 #[.pointer (some ⟨g, 0, none⟩)]] (fun _ => true) mixed hs ?_; clear hs; intro wd1 hs; refine Z.tXP 1 [1, 2, 3, 5] (fun _ _ _ _ _ h => h) rfl rfl rfl (by rfl) J3 (Jk hs) J28 ?_; refine Z.forkP [0, 4] rfl J3 rfl ⟨⟨_, _, rfl, rfl, trivial, ?_⟩, ⟨_, _, rfl, rfl, trivial, ?_⟩, trivial⟩
  · skip
    refine V80 ?_; rintro v1_0 w1_0 ⟨rfl, hy⟩; replace hs := U0 (hs.call hy); clear hy; refine Z.tkP (Dn := fun _ => true) (i := 0) (fun _ => (Jk hs)) ?_; refine Z.forkP [2, 4] rfl J3 rfl ⟨⟨_, _, rfl, rfl, trivial, ?_⟩, ⟨_, _, rfl, rfl, trivial, ?_⟩, trivial⟩
    · skip
      replace hs : St w M _ (RdL g T sv l (8 * p) ++ [_]) := hs.rot (L1 := [_]); refine V357 ?_; rintro c1_2 w1_2 ⟨rfl, a', hz⟩; replace hs := hs.regain hz
      repeat (first | refine Z.pthen ?_ | refine Z.pblock ?_ | refine Z.pscope ?_)
      refine V309 ?_; exact ⟨_, rfl, rfl, _, hs.sub (List.sublist_append_left _ _)⟩
    skip
    refine V106 ?_; clear hs; intro g3 w3 hs; refine Z.tkP (Dn := fun _ => true) (i := 4) (fun _ => (Jk hs)) ?_; replace hs : St w M _ (RdL g T sv l (8 * p) ++ [_, _]) := hs.rot (L1 := [_, _]); refine Z.tnP 2 rfl rfl J3 rfl trivial ?_; refine V357 ?_; rintro c1_2 w1_2 ⟨rfl, a', hz⟩; replace hs := hs.regain hz
    repeat (first | refine Z.pthen ?_ | refine Z.pblock ?_ | refine Z.pscope ?_)
    refine V309 ?_; exact ⟨_, rfl, rfl, _, hs.sub (List.sublist_append_left _ _)⟩
  skip
  refine V106 ?_; clear hs; intro g3 w3 hs; refine Z.tkP (Dn := fun _ => true) (i := 4) (fun _ => (Jk hs)) ?_; refine Z.tnP 0 rfl rfl J3 rfl trivial ?_; refine V80 ?_; rintro v1_0 w1_0 ⟨rfl, hy⟩; replace hs := U0 (hs.call hy); clear hy; refine Z.tkP (Dn := fun _ => true) (i := 0) (fun _ => (Jk hs)) ?_; replace hs : St w M _ (RdL g T sv l (8 * p) ++ [_, _]) := hs.rot (L1 := [_, _]); refine Z.tnP 2 rfl rfl J3 rfl trivial ?_; refine V357 ?_; rintro c1_2 w1_2 ⟨rfl, a', hz⟩; replace hs := hs.regain hz
  repeat (first | refine Z.pthen ?_ | refine Z.pblock ?_ | refine Z.pscope ?_)
  refine V309 ?_; exact ⟨_, rfl, rfl, _, hs.sub (List.sublist_append_left _ _)⟩
theorem ml_short (g T : Nat) (sv : Value) (l : List Int) (p : Nat) (w : World) (hs : St w (idsOf (RdL g T sv l (8 * p))) w (RdL g T sv l (8 * p))) (hl : l.length ≤ 1000000) (hb : ∀ x ∈ l, 0 ≤ x ∧ x < 256) (h : p < l.length) (h1 : byB l p < 128) :
    Calls Tryz.prog 165 #[.agg #[.pointer (some ⟨g, 0, none⟩)]] w (Z.Bo (fun v w' => byB l p ≠ 0 ∧ v = .int .i64 (byB l p) ∧ St w (idsOf (RdL g T sv l (8 * p))) w' (RdL g T sv l (8 * (p + 1)))) fun c w' => byB l p = 0 ∧ c = mperr 9 ∧ ∃ a', St w (idsOf (RdL g T sv l (8 * p))) w' (RdL g T sv l a')) := by
  generalize hM : idsOf (RdL g T sv l (8 * p)) = M at *; obtain ⟨-, -, -, f4, f5, -⟩ := head_get hb h; have h0 := byB_bd hb h; have e1 : getV l (8 * p) ((1 : Nat) : Int) = 0 := by
    have : getV l (8 * p) 1 = 0 := by rw [f4]; omega
    exact this
  have e2 : getV l (8 * p + 1) ((7 : Nat) : Int) = byB l p := by
    have : getV l (8 * p + 1) 7 = byB l p := by rw [f5]; omega
    exact this
  refine V425 ?_; clear hs; intro g1 w1 hs; refine V1 ?_; refine V287 ?_; clear hs; intro wd1 hs; refine Z.t 1 rfl rfl rfl (by rfl) J3 (Jk hs) J28 ?_; refine Z.fork2 0 4 rfl rfl rfl J3 rfl rfl trivial trivial ?_ ?_
  · skip
    refine V80 ?_; rintro v1_0 w1_0 ⟨rfl, hy⟩; replace hs := U0 (hs.call hy); clear hy; refine V193 ?_; refine Z.fork2 2 4 rfl rfl rfl J3 rfl rfl trivial trivial ?_ ?_
    · skip
      replace hs : St w M _ (RdL g T sv l (8 * p) ++ [_]) := hs.rot (L1 := [_]); refine V81 ?_; rintro v1_2 w1_2 ⟨rfl, hz⟩; replace hs := hs.regain hz; rw [e1]; replace hs := U4 hs; refine V266 ?_; refine V260 ?_; refine V106 ?_; clear hs; intro g3 w3 hs; refine V69 ?_; refine V434 ?_; clear hs; intro ws hs; replace hs := U1 hs; replace hs := U2 hs; refine V153 ?_; replace hs : St w M _ (RdL g T sv l (8 * p + 1) ++ [Ent.blk g3 _ _, Ent.blk g1 _ _]) := hs.sel [1, 2, 0, 3] J12; refine V2 ?_; refine V316 ?_; rintro v2_3 w2_3 ⟨rfl, hz⟩; replace hs := hs.regain hz; rw [e2]; replace hs := U4 hs; refine V424 ?_; refine Z.split (s := 15) rfl (fun hsp15 => ?_) (fun hsp15 => ?_)
      · refine Z.yes (s := 15) (b := true) rfl hsp15 rfl ?_
        (try simp at hsp15)
        refine V105 ?_; refine V2 ?_; refine Z.ZO.callB rfl rfl (by rfl) rfl rfl call109 rfl (mm_must_any _ 9 _) ?_ ?_
        · skip
          rintro v3_14 w3_14 ⟨hm, rfl, hy⟩; replace hs := U0 (hs.call hy); clear hy; refine V857 ?_; refine V391 ?_; exact .inl ⟨_, rfl, by first | omega | simp_all, rfl, hs.sel [0, 1] J12⟩
        skip
        rintro c3_14 w3_14 ⟨hm, rfl, hy⟩; replace hs := U0 (hs.call hy); clear hy
        repeat (first | refine Z.pthen ?_ | refine Z.pblock ?_ | refine Z.pscope ?_)
        refine V309 ?_; exact .inr ⟨_, rfl, by first | omega | simp_all, rfl, _, hs.sel [0, 1] J12⟩
      refine V346 ?_
      (try simp at hsp15)
      refine V88 ?_; refine V2 ?_; refine Z.ZO.callB rfl rfl (by rfl) rfl rfl call109 rfl (mm_must_any _ 9 _) ?_ ?_
      · skip
        rintro v3_14 w3_14 ⟨hm, rfl, hy⟩; replace hs := U0 (hs.call hy); clear hy; refine V857 ?_; refine V391 ?_; exact .inl ⟨_, rfl, by first | omega | simp_all, rfl, hs.sel [0, 1] J12⟩
      skip
      rintro c3_14 w3_14 ⟨hm, rfl, hy⟩; replace hs := U0 (hs.call hy); clear hy
      repeat (first | refine Z.pthen ?_ | refine Z.pblock ?_ | refine Z.pscope ?_)
      refine V309 ?_; exact .inr ⟨_, rfl, by first | omega | simp_all, rfl, _, hs.sel [0, 1] J12⟩
    skip
    refine V106 ?_; clear hs; intro g3 w3 hs; refine V69 ?_; replace hs : St w M _ (RdL g T sv l (8 * p) ++ [_, _]) := hs.rot (L1 := [_, _]); refine V172 ?_; refine V81 ?_; rintro v1_2 w1_2 ⟨rfl, hz⟩; replace hs := hs.regain hz; rw [e1]; replace hs := U4 hs; refine V266 ?_; refine V434 ?_; clear hs; intro ws hs; replace hs := U1 hs; replace hs := U2 hs; refine V153 ?_; replace hs : St w M _ (RdL g T sv l (8 * p + 1) ++ [Ent.blk g3 _ _, Ent.blk g1 _ _]) := hs.sel [0, 1, 2, 3] J12; refine V2 ?_; refine V316 ?_; rintro v2_3 w2_3 ⟨rfl, hz⟩; replace hs := hs.regain hz; rw [e2]; replace hs := U4 hs; refine V424 ?_; refine Z.split (s := 15) rfl (fun hsp15 => ?_) (fun hsp15 => ?_)
    · refine Z.yes (s := 15) (b := true) rfl hsp15 rfl ?_
      (try simp at hsp15)
      refine V105 ?_; refine V2 ?_; refine Z.ZO.callB rfl rfl (by rfl) rfl rfl call109 rfl (mm_must_any _ 9 _) ?_ ?_
      · skip
        rintro v3_14 w3_14 ⟨hm, rfl, hy⟩; replace hs := U0 (hs.call hy); clear hy; refine V857 ?_; refine V391 ?_; exact .inl ⟨_, rfl, by first | omega | simp_all, rfl, hs.sel [0, 1] J12⟩
      skip
      rintro c3_14 w3_14 ⟨hm, rfl, hy⟩; replace hs := U0 (hs.call hy); clear hy
      repeat (first | refine Z.pthen ?_ | refine Z.pblock ?_ | refine Z.pscope ?_)
      refine V309 ?_; exact .inr ⟨_, rfl, by first | omega | simp_all, rfl, _, hs.sel [0, 1] J12⟩
    refine V346 ?_
    (try simp at hsp15)
    refine V88 ?_; refine V2 ?_; refine Z.ZO.callB rfl rfl (by rfl) rfl rfl call109 rfl (mm_must_any _ 9 _) ?_ ?_
    · skip
      rintro v3_14 w3_14 ⟨hm, rfl, hy⟩; replace hs := U0 (hs.call hy); clear hy; refine V857 ?_; refine V391 ?_; exact .inl ⟨_, rfl, by first | omega | simp_all, rfl, hs.sel [0, 1] J12⟩
    skip
    rintro c3_14 w3_14 ⟨hm, rfl, hy⟩; replace hs := U0 (hs.call hy); clear hy
    repeat (first | refine Z.pthen ?_ | refine Z.pblock ?_ | refine Z.pscope ?_)
    refine V309 ?_; exact .inr ⟨_, rfl, by first | omega | simp_all, rfl, _, hs.sel [0, 1] J12⟩
  skip
  refine V106 ?_; clear hs; intro g3 w3 hs; refine V524 ?_; rintro v1_0 w1_0 ⟨rfl, hy⟩; replace hs := U0 (hs.call hy); clear hy; refine V193 ?_; replace hs : St w M _ (RdL g T sv l (8 * p) ++ [_, _]) := hs.rot (L1 := [_, _]); refine V172 ?_; refine V81 ?_; rintro v1_2 w1_2 ⟨rfl, hz⟩; replace hs := hs.regain hz; rw [e1]; replace hs := U4 hs; refine V266 ?_; refine V434 ?_; clear hs; intro ws hs; replace hs := U1 hs; replace hs := U2 hs; refine V153 ?_; replace hs : St w M _ (RdL g T sv l (8 * p + 1) ++ [Ent.blk g3 _ _, Ent.blk g1 _ _]) := hs.sel [0, 1, 2, 3] J12; refine V2 ?_; refine V316 ?_; rintro v2_3 w2_3 ⟨rfl, hz⟩; replace hs := hs.regain hz; rw [e2]; replace hs := U4 hs; refine V424 ?_; refine Z.split (s := 15) rfl (fun hsp15 => ?_) (fun hsp15 => ?_)
  · refine Z.yes (s := 15) (b := true) rfl hsp15 rfl ?_
    (try simp at hsp15)
    refine V105 ?_; refine V2 ?_; refine Z.ZO.callB rfl rfl (by rfl) rfl rfl call109 rfl (mm_must_any _ 9 _) ?_ ?_
    · skip
      rintro v3_14 w3_14 ⟨hm, rfl, hy⟩; replace hs := U0 (hs.call hy); clear hy; refine V857 ?_; refine V391 ?_; exact .inl ⟨_, rfl, by first | omega | simp_all, rfl, hs.sel [0, 1] J12⟩
    skip
    rintro c3_14 w3_14 ⟨hm, rfl, hy⟩; replace hs := U0 (hs.call hy); clear hy
    repeat (first | refine Z.pthen ?_ | refine Z.pblock ?_ | refine Z.pscope ?_)
    refine V309 ?_; exact .inr ⟨_, rfl, by first | omega | simp_all, rfl, _, hs.sel [0, 1] J12⟩
  refine V346 ?_
  (try simp at hsp15)
  refine V88 ?_; refine V2 ?_; refine Z.ZO.callB rfl rfl (by rfl) rfl rfl call109 rfl (mm_must_any _ 9 _) ?_ ?_
  · skip
    rintro v3_14 w3_14 ⟨hm, rfl, hy⟩; replace hs := U0 (hs.call hy); clear hy; refine V857 ?_; refine V391 ?_; exact .inl ⟨_, rfl, by first | omega | simp_all, rfl, hs.sel [0, 1] J12⟩
  skip
  rintro c3_14 w3_14 ⟨hm, rfl, hy⟩; replace hs := U0 (hs.call hy); clear hy
  repeat (first | refine Z.pthen ?_ | refine Z.pblock ?_ | refine Z.pscope ?_)
  refine V309 ?_; exact .inr ⟨_, rfl, by first | omega | simp_all, rfl, _, hs.sel [0, 1] J12⟩
theorem ml_cut (g T : Nat) (sv : Value) (l : List Int) (p : Nat) (w : World) (hs : St w (idsOf (RdL g T sv l (8 * p))) w (RdL g T sv l (8 * p))) (hl : l.length ≤ 1000000) (hb : ∀ x ∈ l, 0 ≤ x ∧ x < 256) (h : p < l.length) (h1 : ¬ byB l p < 128) (h2 : ¬ p + 1 < l.length) :
    Calls Tryz.prog 165 #[.agg #[.pointer (some ⟨g, 0, none⟩)]] w (MPan 5 fun w' => ∃ a', St w (idsOf (RdL g T sv l (8 * p))) w' (RdL g T sv l a')) := by
  generalize hM : idsOf (RdL g T sv l (8 * p)) = M at *; obtain ⟨-, -, -, f4, f5, -⟩ := head_get hb h; have h0 := byB_bd hb h; have e1 : getV l (8 * p) ((1 : Nat) : Int) = 1 := by
    have : getV l (8 * p) 1 = 1 := by rw [f4]; omega
    exact this
  refine V425 ?_; clear hs; intro g1 w1 hs; refine V1 ?_; refine V287 ?_; clear hs; intro wd1 hs; refine Z.t 1 rfl rfl rfl (by rfl) J3 (Jk hs) J28 ?_; refine Z.fork2 0 4 rfl rfl rfl J3 rfl rfl trivial trivial ?_ ?_
  · skip
    refine V80 ?_; rintro v1_0 w1_0 ⟨rfl, hy⟩; replace hs := U0 (hs.call hy); clear hy; refine V193 ?_; refine Z.fork2 2 4 rfl rfl rfl J3 rfl rfl trivial trivial ?_ ?_
    · skip
      replace hs : St w M _ (RdL g T sv l (8 * p) ++ [_]) := hs.rot (L1 := [_]); refine V81 ?_; rintro v1_2 w1_2 ⟨rfl, hz⟩; replace hs := hs.regain hz; rw [e1]; replace hs := U4 hs; refine V100 ?_; refine V260 ?_; refine V106 ?_; clear hs; intro g3 w3 hs; refine V69 ?_; refine V434 ?_; clear hs; intro ws hs; replace hs := U1 hs; replace hs := U2 hs; refine V153 ?_; replace hs : St w M _ (RdL g T sv l (8 * p + 1) ++ [Ent.blk g3 _ _, Ent.blk g1 _ _]) := hs.sel [1, 2, 0, 3] J12; refine V2 ?_; refine V347 ?_; rintro c2_3 w2_3 ⟨rfl, a', hz⟩; replace hs := hs.regain hz
      repeat (first | refine Z.pthen ?_ | refine Z.pblock ?_ | refine Z.pscope ?_)
      refine V309 ?_; exact ⟨_, rfl, rfl, _, hs.sub (List.sublist_append_left _ _)⟩
    skip
    refine V106 ?_; clear hs; intro g3 w3 hs; refine V69 ?_; replace hs : St w M _ (RdL g T sv l (8 * p) ++ [_, _]) := hs.rot (L1 := [_, _]); refine V172 ?_; refine V81 ?_; rintro v1_2 w1_2 ⟨rfl, hz⟩; replace hs := hs.regain hz; rw [e1]; replace hs := U4 hs; refine V100 ?_; refine V434 ?_; clear hs; intro ws hs; replace hs := U1 hs; replace hs := U2 hs; refine V153 ?_; replace hs : St w M _ (RdL g T sv l (8 * p + 1) ++ [Ent.blk g3 _ _, Ent.blk g1 _ _]) := hs.sel [0, 1, 2, 3] J12; refine V2 ?_; refine V347 ?_; rintro c2_3 w2_3 ⟨rfl, a', hz⟩; replace hs := hs.regain hz
    repeat (first | refine Z.pthen ?_ | refine Z.pblock ?_ | refine Z.pscope ?_)
    refine V309 ?_; exact ⟨_, rfl, rfl, _, hs.sub (List.sublist_append_left _ _)⟩
  skip
  refine V106 ?_; clear hs; intro g3 w3 hs; refine V524 ?_; rintro v1_0 w1_0 ⟨rfl, hy⟩; replace hs := U0 (hs.call hy); clear hy; refine V193 ?_; replace hs : St w M _ (RdL g T sv l (8 * p) ++ [_, _]) := hs.rot (L1 := [_, _]); refine V172 ?_; refine V81 ?_; rintro v1_2 w1_2 ⟨rfl, hz⟩; replace hs := hs.regain hz; rw [e1]; replace hs := U4 hs; refine V100 ?_; refine V434 ?_; clear hs; intro ws hs; replace hs := U1 hs; replace hs := U2 hs; refine V153 ?_; replace hs : St w M _ (RdL g T sv l (8 * p + 1) ++ [Ent.blk g3 _ _, Ent.blk g1 _ _]) := hs.sel [0, 1, 2, 3] J12; refine V2 ?_; refine V347 ?_; rintro c2_3 w2_3 ⟨rfl, a', hz⟩; replace hs := hs.regain hz
  repeat (first | refine Z.pthen ?_ | refine Z.pblock ?_ | refine Z.pscope ?_)
  refine V309 ?_; exact ⟨_, rfl, rfl, _, hs.sub (List.sublist_append_left _ _)⟩
theorem ml_long (g T : Nat) (sv : Value) (l : List Int) (p : Nat) (w : World) (hs : St w (idsOf (RdL g T sv l (8 * p))) w (RdL g T sv l (8 * p))) (hl : l.length ≤ 1000000) (hb : ∀ x ∈ l, 0 ≤ x ∧ x < 256) (h : p < l.length) (h1 : ¬ byB l p < 128) (h2 : p + 1 < l.length) (V : Int) (hV : byB l p % 128 * 256 + byB l (p + 1) = V) :
    Calls Tryz.prog 165 #[.agg #[.pointer (some ⟨g, 0, none⟩)]] w (Z.Bo (fun v w' => 127 < V ∧ v = .int .i64 V ∧ St w (idsOf (RdL g T sv l (8 * p))) w' (RdL g T sv l (8 * (p + 2)))) fun c w' => ¬ 127 < V ∧ c = mperr 9 ∧ ∃ a', St w (idsOf (RdL g T sv l (8 * p))) w' (RdL g T sv l a')) := by
  generalize hM : idsOf (RdL g T sv l (8 * p)) = M at *; obtain ⟨-, -, -, f4, f5, -⟩ := head_get hb h; have f6 := long_get hb h2; have h0 := byB_bd hb h; have h0' := byB_bd hb h2; have e1 : getV l (8 * p) ((1 : Nat) : Int) = 1 := by
    have : getV l (8 * p) 1 = 1 := by rw [f4]; omega
    exact this
  have e2 : getV l (8 * p + 1) ((15 : Nat) : Int) = V := by
    rw [← hV]; exact f6
  have hV0 : 0 ≤ V := by omega
  refine V425 ?_; clear hs; intro g1 w1 hs; refine V1 ?_; refine V287 ?_; clear hs; intro wd1 hs; refine Z.t 1 rfl rfl rfl (by rfl) J3 (Jk hs) J28 ?_; refine Z.fork2 0 4 rfl rfl rfl J3 rfl rfl trivial trivial ?_ ?_
  · skip
    refine V80 ?_; rintro v1_0 w1_0 ⟨rfl, hy⟩; replace hs := U0 (hs.call hy); clear hy; refine V193 ?_; refine Z.fork2 2 4 rfl rfl rfl J3 rfl rfl trivial trivial ?_ ?_
    · skip
      replace hs : St w M _ (RdL g T sv l (8 * p) ++ [_]) := hs.rot (L1 := [_]); refine V81 ?_; rintro v1_2 w1_2 ⟨rfl, hz⟩; replace hs := hs.regain hz; rw [e1]; replace hs := U4 hs; refine V100 ?_; refine V260 ?_; refine V106 ?_; clear hs; intro g3 w3 hs; refine V69 ?_; refine V434 ?_; clear hs; intro ws hs; replace hs := U1 hs; replace hs := U2 hs; refine V153 ?_; replace hs : St w M _ (RdL g T sv l (8 * p + 1) ++ [Ent.blk g3 _ _, Ent.blk g1 _ _]) := hs.sel [1, 2, 0, 3] J12; refine V2 ?_; refine V315 ?_; rintro v2_3 w2_3 ⟨rfl, hz⟩; replace hs := hs.regain hz; rw [e2]; replace hs := U4 hs; refine V424 ?_; refine Z.split (s := 15) rfl (fun hsp15 => ?_) (fun hsp15 => ?_)
      · refine Z.yes (s := 15) (b := true) rfl hsp15 rfl ?_
        (try simp at hsp15)
        refine V185 ?_; rintro v3_8 w3_8 ⟨rfl, hy⟩; replace hs := U0 (hs.call hy); clear hy; refine V156 ?_; refine V2 ?_; refine Z.ZO.callB rfl rfl (by rfl) rfl rfl call109 rfl (mm_must_any _ 9 _) ?_ ?_
        · skip
          rintro v3_14 w3_14 ⟨hm, rfl, hy⟩; replace hs := U0 (hs.call hy); clear hy; refine V857 ?_; refine V391 ?_; exact .inl ⟨_, rfl, by first | omega | (simp at hm <;> omega), rfl, hs.sel [0, 1] J12⟩
        skip
        rintro c3_14 w3_14 ⟨hm, rfl, hy⟩; replace hs := U0 (hs.call hy); clear hy
        repeat (first | refine Z.pthen ?_ | refine Z.pblock ?_ | refine Z.pscope ?_)
        refine V309 ?_; exact .inr ⟨_, rfl, by first | omega | (simp at hm <;> omega), rfl, _, hs.sel [0, 1] J12⟩
      refine V346 ?_
      (try simp at hsp15)
      refine V88 ?_; refine V2 ?_; refine Z.ZO.callB rfl rfl (by rfl) rfl rfl call109 rfl (mm_must_any _ 9 _) ?_ ?_
      · skip
        rintro v3_14 w3_14 ⟨hm, rfl, hy⟩; replace hs := U0 (hs.call hy); clear hy; refine V857 ?_; refine V391 ?_; exact .inl ⟨_, rfl, by first | omega | (simp at hm <;> omega), rfl, hs.sel [0, 1] J12⟩
      skip
      rintro c3_14 w3_14 ⟨hm, rfl, hy⟩; replace hs := U0 (hs.call hy); clear hy
      repeat (first | refine Z.pthen ?_ | refine Z.pblock ?_ | refine Z.pscope ?_)
      refine V309 ?_; exact .inr ⟨_, rfl, by first | omega | (simp at hm <;> omega), rfl, _, hs.sel [0, 1] J12⟩
    skip
    refine V106 ?_; clear hs; intro g3 w3 hs; refine V69 ?_; replace hs : St w M _ (RdL g T sv l (8 * p) ++ [_, _]) := hs.rot (L1 := [_, _]); refine V172 ?_; refine V81 ?_; rintro v1_2 w1_2 ⟨rfl, hz⟩; replace hs := hs.regain hz; rw [e1]; replace hs := U4 hs; refine V100 ?_; refine V434 ?_; clear hs; intro ws hs; replace hs := U1 hs; replace hs := U2 hs; refine V153 ?_; replace hs : St w M _ (RdL g T sv l (8 * p + 1) ++ [Ent.blk g3 _ _, Ent.blk g1 _ _]) := hs.sel [0, 1, 2, 3] J12; refine V2 ?_; refine V315 ?_; rintro v2_3 w2_3 ⟨rfl, hz⟩; replace hs := hs.regain hz; rw [e2]; replace hs := U4 hs; refine V424 ?_; refine Z.split (s := 15) rfl (fun hsp15 => ?_) (fun hsp15 => ?_)
    · refine Z.yes (s := 15) (b := true) rfl hsp15 rfl ?_
      (try simp at hsp15)
      refine V185 ?_; rintro v3_8 w3_8 ⟨rfl, hy⟩; replace hs := U0 (hs.call hy); clear hy; refine V156 ?_; refine V2 ?_; refine Z.ZO.callB rfl rfl (by rfl) rfl rfl call109 rfl (mm_must_any _ 9 _) ?_ ?_
      · skip
        rintro v3_14 w3_14 ⟨hm, rfl, hy⟩; replace hs := U0 (hs.call hy); clear hy; refine V857 ?_; refine V391 ?_; exact .inl ⟨_, rfl, by first | omega | (simp at hm <;> omega), rfl, hs.sel [0, 1] J12⟩
      skip
      rintro c3_14 w3_14 ⟨hm, rfl, hy⟩; replace hs := U0 (hs.call hy); clear hy
      repeat (first | refine Z.pthen ?_ | refine Z.pblock ?_ | refine Z.pscope ?_)
      refine V309 ?_; exact .inr ⟨_, rfl, by first | omega | (simp at hm <;> omega), rfl, _, hs.sel [0, 1] J12⟩
    refine V346 ?_
    (try simp at hsp15)
    refine V88 ?_; refine V2 ?_; refine Z.ZO.callB rfl rfl (by rfl) rfl rfl call109 rfl (mm_must_any _ 9 _) ?_ ?_
    · skip
      rintro v3_14 w3_14 ⟨hm, rfl, hy⟩; replace hs := U0 (hs.call hy); clear hy; refine V857 ?_; refine V391 ?_; exact .inl ⟨_, rfl, by first | omega | (simp at hm <;> omega), rfl, hs.sel [0, 1] J12⟩
    skip
    rintro c3_14 w3_14 ⟨hm, rfl, hy⟩; replace hs := U0 (hs.call hy); clear hy
    repeat (first | refine Z.pthen ?_ | refine Z.pblock ?_ | refine Z.pscope ?_)
    refine V309 ?_; exact .inr ⟨_, rfl, by first | omega | (simp at hm <;> omega), rfl, _, hs.sel [0, 1] J12⟩
  skip
  refine V106 ?_; clear hs; intro g3 w3 hs; refine V524 ?_; rintro v1_0 w1_0 ⟨rfl, hy⟩; replace hs := U0 (hs.call hy); clear hy; refine V193 ?_; replace hs : St w M _ (RdL g T sv l (8 * p) ++ [_, _]) := hs.rot (L1 := [_, _]); refine V172 ?_; refine V81 ?_; rintro v1_2 w1_2 ⟨rfl, hz⟩; replace hs := hs.regain hz; rw [e1]; replace hs := U4 hs; refine V100 ?_; refine V434 ?_; clear hs; intro ws hs; replace hs := U1 hs; replace hs := U2 hs; refine V153 ?_; replace hs : St w M _ (RdL g T sv l (8 * p + 1) ++ [Ent.blk g3 _ _, Ent.blk g1 _ _]) := hs.sel [0, 1, 2, 3] J12; refine V2 ?_; refine V315 ?_; rintro v2_3 w2_3 ⟨rfl, hz⟩; replace hs := hs.regain hz; rw [e2]; replace hs := U4 hs; refine V424 ?_; refine Z.split (s := 15) rfl (fun hsp15 => ?_) (fun hsp15 => ?_)
  · refine Z.yes (s := 15) (b := true) rfl hsp15 rfl ?_
    (try simp at hsp15)
    refine V185 ?_; rintro v3_8 w3_8 ⟨rfl, hy⟩; replace hs := U0 (hs.call hy); clear hy; refine V156 ?_; refine V2 ?_; refine Z.ZO.callB rfl rfl (by rfl) rfl rfl call109 rfl (mm_must_any _ 9 _) ?_ ?_
    · skip
      rintro v3_14 w3_14 ⟨hm, rfl, hy⟩; replace hs := U0 (hs.call hy); clear hy; refine V857 ?_; refine V391 ?_; exact .inl ⟨_, rfl, by first | omega | (simp at hm <;> omega), rfl, hs.sel [0, 1] J12⟩
    skip
    rintro c3_14 w3_14 ⟨hm, rfl, hy⟩; replace hs := U0 (hs.call hy); clear hy
    repeat (first | refine Z.pthen ?_ | refine Z.pblock ?_ | refine Z.pscope ?_)
    refine V309 ?_; exact .inr ⟨_, rfl, by first | omega | (simp at hm <;> omega), rfl, _, hs.sel [0, 1] J12⟩
  refine V346 ?_
  (try simp at hsp15)
  refine V88 ?_; refine V2 ?_; refine Z.ZO.callB rfl rfl (by rfl) rfl rfl call109 rfl (mm_must_any _ 9 _) ?_ ?_
  · skip
    rintro v3_14 w3_14 ⟨hm, rfl, hy⟩; replace hs := U0 (hs.call hy); clear hy; refine V857 ?_; refine V391 ?_; exact .inl ⟨_, rfl, by first | omega | (simp at hm <;> omega), rfl, hs.sel [0, 1] J12⟩
  skip
  rintro c3_14 w3_14 ⟨hm, rfl, hy⟩; replace hs := U0 (hs.call hy); clear hy
  repeat (first | refine Z.pthen ?_ | refine Z.pblock ?_ | refine Z.pscope ?_)
  refine V309 ?_; exact .inr ⟨_, rfl, by first | omega | (simp at hm <;> omega), rfl, _, hs.sel [0, 1] J12⟩
theorem mm_length (g T : Nat) (sv : Value) (l : List Int) (p : Nat) (w : World) (hs : St w (idsOf (RdL g T sv l (8 * p))) w (RdL g T sv l (8 * p))) (hl : l.length ≤ 1000000) (hb : ∀ x ∈ l, 0 ≤ x ∧ x < 256) (hp : p ≤ l.length) :
    Calls Tryz.prog 165 #[.agg #[.pointer (some ⟨g, 0, none⟩)]] w (LenR g T sv l p w) := by
  by_cases h : p < l.length
  · by_cases h1 : byB l p < 128
    · have eE : lnE l p = if byB l p = 0 then 9 else 0 := by unfold lnE; rw [if_neg (fun k => k h), if_pos h1]
      have eV : lnV l p = byB l p := by unfold lnV; rw [if_pos h1]
      have eP : lnP l p = p + 1 := by unfold lnP; rw [if_pos h1]
      unfold LenR; rw [eE, eV, eP]; refine (ml_short g T sv l p w hs hl hb h h1).mono ?_; rintro e w' (⟨v, rfl, q1, q2, q3⟩ | ⟨c, rfl, q1, q2, q3⟩)
      · exact .inl ⟨v, rfl, if_neg q1, q2, q3⟩
      rw [if_pos q1]; exact .inr ⟨c, rfl, by decide, q2, q3⟩
    by_cases h2 : p + 1 < l.length
    · have eE : lnE l p = if 127 < byB l p % 128 * 256 + byB l (p + 1) then 0 else 9 := by unfold lnE; rw [if_neg (fun k => k h), if_neg h1, if_neg (fun k => k h2)]
      have eV : lnV l p = byB l p % 128 * 256 + byB l (p + 1) := by unfold lnV; rw [if_neg h1]
      have eP : lnP l p = p + 2 := by unfold lnP; rw [if_neg h1]
      unfold LenR; rw [eE, eV, eP]; refine (ml_long g T sv l p w hs hl hb h h1 h2 _ rfl).mono ?_; rintro e w' (⟨v, rfl, q1, q2, q3⟩ | ⟨c, rfl, q1, q2, q3⟩)
      · exact .inl ⟨v, rfl, if_pos q1, q2, q3⟩
      rw [if_neg q1]; exact .inr ⟨c, rfl, by decide, q2, q3⟩
    have eE : lnE l p = 5 := by unfold lnE; rw [if_neg (fun k => k h), if_neg h1, if_pos h2]
    refine Z.Bo.pan ((ml_cut g T sv l p w hs hl hb h h1 h2).mono ?_); rintro e w' ⟨c, rfl, q1, q2⟩; exact ⟨c, rfl, by rw [eE]; decide, by rw [eE]; exact q1, q2⟩
  have eE : lnE l p = 5 := by unfold lnE; rw [if_pos h]
  refine Z.Bo.pan ((ml_none g T sv l p w hs hl hb hp h).mono ?_); rintro e w' ⟨c, rfl, q1, q2⟩; exact ⟨c, rfl, by rw [eE]; decide, by rw [eE]; exact q1, q2⟩

theorem mm_bits_any (g T : Nat) (sv : Value) (l : List Int) (a n : Nat) (w : World) (hs : St w (idsOf (RdL g T sv l a)) w (RdL g T sv l a)) (hl : l.length ≤ 1000000) (hb : ∀ x ∈ l, 0 ≤ x ∧ x < 256) (ha : a ≤ 8 * l.length) (hn : n ≤ 32) :
    Calls Tryz.prog 162 #[.agg #[.pointer (some ⟨g, 0, none⟩)], .int .i64 (n : Int)] w (Z.Bo (fun v w' => a + n ≤ 8 * l.length ∧ v = .int .i64 (getV l a n) ∧ St w (idsOf (RdL g T sv l a)) w' (RdL g T sv l (a + n))) fun c w' => ¬ a + n ≤ 8 * l.length ∧ c = mperr 5 ∧ ∃ a', St w (idsOf (RdL g T sv l a)) w' (RdL g T sv l a')) := by
  by_cases h : a + n ≤ 8 * l.length
  · exact Z.Bo.ret ((mm_bits_ok g T sv l a n w hs hl hb h hn).mono fun e w' ⟨v, h1, h2⟩ => ⟨v, h1, h, h2⟩)
  exact Z.Bo.pan ((mm_bits_bad g T sv l a n w hs hl hb ha h hn).mono fun e w' ⟨v, h1, h2⟩ => ⟨v, h1, h, h2⟩)
def hdBad (b : Int) (cnt : Nat) (data part : Bool) : Prop :=
  ¬ (b / 64 = 0 ∧ (sduB (b % 32) ∨ ctlN (b % 32) ≠ 0 ∨ b % 32 = 31)) ∨ (ctlN (b % 32) ≠ 0 ∧ data = true) ∨ (b % 32 = 31 ∧ b / 32 % 2 = 1 ∧ (part = true ∨ ¬ cnt < 2))
instance (b : Int) (cnt : Nat) (data part : Bool) : Decidable (hdBad b cnt data part) := by unfold hdBad; infer_instance
def hGo (l : List Int) : Nat → Nat → List (Int × Int) → Bool → Bool → Int × List (Int × Int) × Nat
  | 0, _, _, _, _ => (5, [], 0)
  | F + 1, p, acc, data, part =>
    if ¬ p < l.length then (5, [], 0)
    else if hdBad (byB l p) acc.length data part then (9, [], 0)
    else if byB l p / 32 % 2 = 1 then
      if sduB (byB l p % 32) then
        if lnE l (p + 1) ≠ 0 then (lnE l (p + 1), [], 0)
        else hGo l F (lnP l (p + 1)) (acc ++ [(byB l p % 32, lnV l (p + 1))]) (data || decide (sduB (byB l p % 32))) (part || decide (byB l p % 32 ≠ 31))
      else hGo l F (p + 1) (acc ++ [(byB l p % 32, -1)]) (data || decide (sduB (byB l p % 32))) (part || decide (byB l p % 32 ≠ 31))
    else (0, acc ++ [(byB l p % 32, -1)], p + 1)
def encH (h : Int × Int) : List Value := [.int .i64 h.1, .int .i64 h.2]
theorem encH_len (h : Int × Int) : (encH h).length = 2 := rfl
theorem lnP_le {l : List Int} {p : Nat} (h : lnE l p = 0) : p < lnP l p ∧ lnP l p ≤ l.length := by
  unfold lnE at h; unfold lnP
  by_cases h1 : p < l.length
  · rw [if_neg (fun k => k h1)] at h
    by_cases h2 : byB l p < 128
    · rw [if_pos h2]; omega
    rw [if_neg h2] at h ⊢
    by_cases h3 : p + 1 < l.length
    · omega
    rw [if_pos h3] at h; cases h
  rw [if_pos h1] at h; cases h
theorem bad7 {b : Int} {cnt : Nat} {data part : Bool} (h : (decide (sduB (b % 32)) || decide (ctlN (b % 32) ≠ 0) || b % 32 == 31) = false) : hdBad b cnt data part := by
  refine .inl fun hh => ?_
  simp at h
  rcases hh.2 with h1 | h1 | h1
  · exact h.1.1 h1
  · exact h1 h.1.2
  exact h.2 h1
theorem bad7n {b : Int} {cnt : Nat} {data part : Bool} (h : ¬ b / 64 = 0) : hdBad b cnt data part := .inl fun hh => h hh.1
theorem bad8 {b : Int} {cnt : Nat} {data part : Bool} (h : (!decide (ctlN (b % 32) ≠ 0) || !data) = false) : hdBad b cnt data part := by
  simp at h; exact .inr (.inl h)
theorem bad9 {b : Int} {cnt : Nat} {data part : Bool} (h : (b % 32 != 31 || !b / 32 % 2 == 1 || !part && decide ((cnt : Int) < 2)) = false) : hdBad b cnt data part := by
  simp at h; refine .inr (.inr ⟨h.1.1, h.1.2, ?_⟩); have h2 := h.2
  cases part
  · exact .inr (by have := h2 rfl; omega)
  exact .inl rfl
theorem good_hd {b : Int} {cnt : Nat} {data part : Bool} (h0 : b / 64 = 0) (h7 : (decide (sduB (b % 32)) || decide (ctlN (b % 32) ≠ 0) || b % 32 == 31) = true) (h8 : (!decide (ctlN (b % 32) ≠ 0) || !data) = true) (h9 : (b % 32 != 31 || !b / 32 % 2 == 1 || !part && decide ((cnt : Int) < 2)) = true) : ¬ hdBad b cnt data part := by
  simp at h7 h8 h9; rintro (h | h | ⟨h1, h2, h3⟩)
  · exact h ⟨h0, by simpa [or_assoc] using h7⟩
  · rcases h8 with h8 | h8
    · exact h.1 h8
    rw [h8] at h; cases h.2
  rcases h9 with (h9 | h9) | ⟨h9, h10⟩
  · exact h9 h1
  · exact h9 h2
  rcases h3 with h3 | h3
  · rw [h9] at h3; cases h3
  omega
theorem pan_hd {b : Int} {cnt : Nat} {data part : Bool} {X R : Int × List (Int × Int) × Nat} (hG : (if hdBad b cnt data part then (9, [], 0) else X) = R) (h : hdBad b cnt data part) : R.1 ≠ 0 ∧ mperr 9 = mperr R.1 := by
  rw [if_pos h] at hG; subst hG; exact ⟨by decide, rfl⟩
theorem pan_end {l : List Int} {F p : Nat} {acc : List (Int × Int)} {data part : Bool} {R : Int × List (Int × Int) × Nat} (hG : hGo l (F + 1) p acc data part = R) (h : ¬ p < l.length) : R.1 ≠ 0 ∧ mperr 5 = mperr R.1 := by
  rw [hGo, if_pos h] at hG; subst hG; exact ⟨by decide, rfl⟩
theorem pan_ln {b : Int} {l : List Int} {p : Nat} {X Y Z1 R : Int × List (Int × Int) × Nat} (hG : (if b / 32 % 2 = 1 then if sduB (b % 32) then if lnE l (p + 1) ≠ 0 then (lnE l (p + 1), [], 0) else X else Y else Z1) = R) (h12 : sduB (b % 32) ∧ b / 32 % 2 = 1) (h : lnE l (p + 1) ≠ 0) : R.1 ≠ 0 ∧ mperr (lnE l (p + 1)) = mperr R.1 := by
  rw [if_pos h12.2, if_pos h12.1, if_pos h] at hG; subst hG; exact ⟨h, rfl⟩
theorem not_at {p n : Nat} (h : ¬ 8 * p + 2 ≤ 8 * n) : ¬ p < n := by omega
theorem mm_heads (g T : Nat) (sv : Value) (l : List Int) (w : World) (hs : St w (idsOf (RdL g T sv l (8 * 0))) w (RdL g T sv l (8 * 0))) (hl : l.length ≤ 1000000) (hb : ∀ x ∈ l, 0 ≤ x ∧ x < 256) (R : Int × List (Int × Int) × Nat) (hR : hGo l (l.length + 1) 0 [] false false = R) :
    Calls Tryz.prog 111 #[.agg #[.pointer (some ⟨g, 0, none⟩)]] w (Z.Bo (fun v w' => R.1 = 0 ∧ R.2.2 ≤ l.length ∧ R.2.1.length ≤ l.length ∧ St w (idsOf (RdL g T sv l (8 * 0))) w' (RdL g T sv l (8 * R.2.2) ++ [Ent.row v 194 2 R.2.1.length (R.2.1.flatMap encH)])) fun c w' => R.1 ≠ 0 ∧ c = mperr R.1 ∧ ∃ a', St w (idsOf (RdL g T sv l (8 * 0))) w' (RdL g T sv l a')) := by
  generalize hM : idsOf (RdL g T sv l (8 * 0)) = M at *; refine Z.enter func111 rfl ntmps111 rfl rfl ?_; refine V91 ?_; clear hs; intro g1 w1 hs; refine V453 ?_; replace hs : St w M _ (RdL g T sv l (8 * 0) ++ [Ent.row (.slice none 0 0) 194 2 0 (([] : List (Int × Int)).flatMap encH), Ent.blk g1 190 #[.pointer (some ⟨g, 0, none⟩)]]) := St.rot (L1 := [_, _]) (hs.nil 194 2); refine V18 ?_; refine V607 ?_; refine V214 ?_; refine V447 ?_; refine V861 ?_; refine Z.loopk (ι := Nat × List (Int × Int) × Bool × Bool × Bool × Value) [1] rfl (fun x => [(2, [], x.2.2.2.2.2), (3, [], .bool x.2.2.1), (4, [], .bool x.2.2.2.1), (5, [], .bool x.2.2.2.2.1)]) (fun x wr => (x.1 ≤ l.length ∧ x.2.1.length ≤ x.1 ∧ (x.2.2.2.2.1 = true → ∃ F, l.length + 1 ≤ F + x.1 ∧ hGo l F x.1 x.2.1 x.2.2.1 x.2.2.2.1 = R) ∧ (x.2.2.2.2.1 = false → R = (0, x.2.1, x.1))) ∧ St w M wr (RdL g T sv l (8 * x.1) ++ [Ent.row x.2.2.2.2.2 194 2 x.2.1.length (x.2.1.flatMap encH), Ent.blk g1 190 #[.pointer (some ⟨g, 0, none⟩)]])) (fun x => l.length - x.1) (0, [], false, false, true, .slice none 0 0) J10 ⟨⟨Nat.zero_le _, Nat.zero_le _, fun _ => ⟨l.length + 1, by simp only; omega, hR⟩, fun h => by cases h⟩, hs⟩ ?_; clear hs; rintro ⟨p, acc, data, part, more, vo⟩ w3 ⟨⟨hp, hac, hmo, hno⟩, hs⟩; refine V447 ?_
  (try dsimp only at hs)
  dsimp only at hp hac hmo hno hs; obtain ⟨Av, cv, rfl, -, -, -⟩ := row_slv hs (j := 2) rfl; refine V141 ?_; refine V121 ?_; refine Z.only [1, 2, 3, 4, 12] rfl ?_; refine V6 ?_; refine Z.cond rfl (fun hc3 => ?_) (fun hc3 => ?_)
  · (try simp at hc3)
    obtain ⟨F, hF, hG⟩ := hmo J72; obtain ⟨F, rfl⟩ : ∃ F', F = F' + 1 := ⟨F - 1, by omega⟩; refine V47 ?_; refine V861 ?_; refine V141 ?_; refine Z.drawP [Ent.blk g1 190 #[.pointer (some ⟨g, 0, none⟩)]] (fun _ => true) mixed hs ?_; clear hs; intro wd4 hs; refine Z.tXP 0 [0, 1, 3, 5, 6, 7, 8] (fun _ _ _ _ _ h => h) rfl rfl rfl (by rfl) J3 (Jk hs) J28 ?_; refine Z.tXP 2 [2, 3, 5, 6, 7, 8] (fun _ _ _ _ _ h => h) rfl rfl rfl (by rfl) J3 (Jk hs) J28 ?_; refine Z.tXP 4 [4, 5, 6, 7, 8] (fun _ _ _ _ _ h => h) rfl rfl rfl (by rfl) J3 (Jk hs) J28 ?_; refine Z.tnP 1 rfl rfl J3 rfl trivial ?_; refine Z.ZO.callB rfl rfl (by rfl) rfl rfl call162 rfl (mm_bits_any g T sv l (8 * p) 2 _ hs.lend hl hb J5 J5) ?_ ?_
    · skip
      rintro v4_1 w4_1 ⟨hq, rfl, hz⟩; replace hs := hs.regain hz; have hpl : p < l.length := by omega
      rw [hGo, if_neg (fun k => k hpl)] at hG; obtain ⟨f1, f2, f3, -, -, -⟩ := head_get hb hpl; have hbd := byB_bd hb hpl; obtain ⟨b, hbe⟩ : ∃ b, byB l p = b := ⟨_, rfl⟩; rw [hbe] at f1 f2 f3 hG hbd; have k1 : getV l (8 * p) ((2 : Nat) : Int) = b / 64 := f1; have k2 : getV l (8 * p + 2) ((1 : Nat) : Int) = b / 32 % 2 := f2; have k3 : getV l (8 * p + 2 + 1) ((5 : Nat) : Int) = b % 32 := f3; rw [k1]; refine Z.tkP (Dn := fun _ => true) (i := 1) (fun _ => (Jk hs)) ?_; refine Z.tnP 3 rfl rfl J3 rfl trivial ?_; refine Z.ZO.call rfl rfl (by rfl) rfl rfl call162 rfl (mm_bits_ok g T sv l (8 * p + 2) 1 _ hs.lend hl hb J5 J5) ?_; rintro v4_3 w4_3 ⟨rfl, hz⟩; replace hs := hs.regain hz; rw [k2]; refine Z.tkP (Dn := fun _ => true) (i := 3) (fun _ => (Jk hs)) ?_; refine Z.tnP 5 rfl rfl J3 rfl trivial ?_; refine Z.ZO.call rfl rfl (by rfl) rfl rfl call162 rfl (mm_bits_ok g T sv l (8 * p + 2 + 1) 5 _ hs.lend hl hb J5 J5) ?_; rintro v4_5 w4_5 ⟨rfl, hz⟩; replace hs := hs.regain hz; rw [k3]; refine Z.tkP (Dn := fun _ => true) (i := 5) (fun _ => (Jk hs)) ?_; refine Z.tXP 6 [6, 7, 8] (fun _ _ _ _ _ h => h) rfl rfl rfl (by rfl) J3 (Jk hs) (Z.Yd.pure rfl) ?_; refine Z.tXP 7 [7, 8] (fun _ _ _ _ _ h => h) rfl rfl rfl (by rfl) J3 (Jk hs) (Z.Yd.pure rfl) ?_; refine Z.tXP 8 [8] (fun _ _ _ _ _ h => h) rfl rfl rfl (by rfl) J3 (Jk hs) (Z.Yd.pure rfl) ?_; refine Z.tdP (by rfl) J3 ?_; refine Z.only [1, 2, 3, 4, 6, 7, 8] rfl ?_; refine V858 ?_; refine V184 ?_
      refine Z.only [1, 2, 3, 4, 5, 6, 8] rfl ?_; refine V858 ?_; refine V62 ?_; refine V491 ?_; rintro v6_1 w6_1 ⟨rfl, hy⟩; replace hs := U0 (hs.call hy); clear hy; refine V126 ?_; refine Z.only [1, 2, 3, 4, 5, 6, 8, 10] rfl ?_; refine V858 ?_; refine V259 ?_; refine Z.split (s := 28) rfl (fun hsp28 => ?_) (fun hsp28 => ?_)
      · refine Z.yes (s := 28) (b := true) rfl hsp28 rfl ?_
        (try simp at hsp28)
        refine V160 ?_; refine V372 ?_; rintro v7_4 w7_4 ⟨rfl, hy⟩; replace hs := U0 (hs.call hy); clear hy; refine Z.lb 7 rfl ?_; refine Z.yes (s := 28) (b := true) rfl rfl rfl ?_; refine V20 ?_; refine V2 ?_; refine Z.ZO.callB rfl rfl (by rfl) rfl rfl call109 rfl (mm_must_any _ 9 _) ?_ ?_
        · skip
          rintro v7_13 w7_13 ⟨hm7, rfl, hy⟩; replace hs := U0 (hs.call hy); clear hy; refine V857 ?_; refine Z.only [1, 2, 3, 4, 5, 8, 10] rfl ?_; refine V858 ?_; refine V18 ?_; refine Z.lb 5 rfl ?_; refine V2 ?_; refine Z.ZO.callB rfl rfl (by rfl) rfl rfl call109 rfl (mm_must_any _ 9 _) ?_ ?_
          · skip
            rintro v8_6 w8_6 ⟨hm8, rfl, hy⟩; replace hs := U0 (hs.call hy); clear hy; refine V857 ?_; refine Z.only [1, 2, 3, 4, 5, 8] rfl ?_; refine V858 ?_; refine Z.lb 11 rfl ?_; refine Z.l rfl rfl (by rfl) (Z.keepS hs) (Z.Yd.lenS rfl underlying191) ?_; refine V625 ?_; refine Z.ZO.callB rfl rfl (by rfl) rfl rfl call109 rfl (mm_must_any _ 9 _) ?_ ?_
            · skip
              rintro v9_15 w9_15 ⟨hm9, rfl, hy⟩; replace hs := U0 (hs.call hy); clear hy; refine V857 ?_; refine Z.only [1, 2, 3, 4, 5, 8] rfl ?_; refine V858 ?_; have hnb : ¬ hdBad b acc.length data part := good_hd hsp28 hm7 hm8 hm9; rw [if_neg hnb] at hG; rw [show 8 * p + 2 + 1 + 5 = 8 * (p + 1) from by omega] at hs; refine V18 ?_; refine V703 ?_; refine Z.ZO.alloc rfl rfl (by rfl) zeroValue194 rfl hs ?_; clear hs; intro g11 w11 hs; refine V860 ?_; clear hs; intro ws hs; replace hs := U1 hs; replace hs := U2 hs; refine V857 ?_; refine Z.only [1, 2, 3, 4, 5, 8, 11] rfl ?_; refine V333 ?_; refine Z.split (s := 66) rfl (fun hsp66 => ?_) (fun hsp66 => ?_)
              · refine Z.yes (s := 66) (b := true) rfl hsp66 rfl ?_
                (try simp at hsp66)
                have e3 : (data || decide (sduB (b % 32))) = true := by rw [hsp66]; rfl
                refine V36 ?_; refine V20 ?_; refine Z.lb 7 rfl ?_; refine V857 ?_; refine Z.only [1, 2, 3, 4, 5, 8, 11] rfl ?_; refine V268 ?_; refine V372 ?_; rintro v12_1 w12_1 ⟨rfl, hy⟩; replace hs := U0 (hs.call hy); clear hy; refine V184 ?_; refine Z.only [1, 2, 3, 4, 5, 11, 79] rfl ?_; refine V6 ?_; refine Z.cond rfl (fun hc12 => ?_) (fun hc12 => ?_)
                · (try simp at hc12)
                  refine V42 ?_; refine Z.l rfl rfl (by rfl) (Z.keepS hs) J28 ?_; replace hs : St w M _ (RdL g T sv l (8 * (p + 1)) ++ [_, _, _]) := hs.rot (L1 := [_]); refine V2 ?_; refine Z.ZO.callB rfl rfl (by rfl) rfl rfl call165 rfl (mm_length g T sv l (p + 1) _ hs.lend hl hb J5) ?_ ?_
                  · skip
                    rintro v13_1 w13_1 ⟨hln, rfl, hz⟩; replace hs := hs.regain hz; replace hs := U4 hs; refine V522 ?_; clear hs; intro ws hs; replace hs := U1 hs; refine V857 ?_; refine Z.only [1, 2, 3, 4, 5, 11] rfl ?_; refine V300 ?_; replace hs := U8 hs; refine V243 ?_; clear hs; intro g85 w85 hs; refine V2 ?_; refine V143 ?_; clear hs; intro g86 cap86 w86 hs; replace hs := U3 hs; refine V1 ?_; refine V447 ?_; refine V270 ?_; have hpa : (part || decide (b % 32 ≠ 31)) = (part || b % 32 != 31) := congrArg (part || ·) J125; have eL : ∀ n : Int, (acc ++ [(b % 32, n)]).length = acc.length + 1 := fun n => by simp
                    have eF : ∀ n : Int, acc.flatMap encH ++ [Value.int .i64 (b % 32), Value.int .i64 n] = (acc ++ [(b % 32, n)]).flatMap encH := fun n => by simp [encH]
                    rw [eF, ← eL] at hs; rw [hpa, e3] at hG
                    by_cases hm : b / 32 % 2 = 1
                    · rw [if_pos hm] at hG
                      rw [if_pos hc12.1, if_neg (fun k => k hln)] at hG; have hle := lnP_le hln; exact Z.again (lnP l (p + 1), acc ++ [(b % 32, lnV l (p + 1))], _, (part || b % 32 != 31), (b / 32 % 2 == 1), _) J8 ⟨⟨hle.2, by simp only [eL]; omega, fun _ => ⟨F, by simp only; omega, hG⟩, fun h => by simp [hm] at h⟩, hs.sel [0, 1, 2, 3] J12⟩ J22
                    rw [if_neg hm] at hG; exact absurd hc12.2 hm
                  skip
                  rintro c13_1 w13_1 ⟨hln, rfl, a', hz⟩
                  repeat (first | refine Z.pthen ?_ | refine Z.pblock ?_ | refine Z.pscope ?_)
                  refine V309 ?_; exact .inr ⟨_, rfl, (pan_ln hG hc12 hln).1, (pan_ln hG hc12 hln).2, _, (hs.regain hz).sub (List.sublist_append_left _ _)⟩
                (try simp at hc12)
                refine V489 ?_; replace hs := U8 hs; refine V243 ?_; clear hs; intro g85 w85 hs; refine V2 ?_; refine V143 ?_; clear hs; intro g86 cap86 w86 hs; replace hs := U3 hs; refine V1 ?_; refine V447 ?_; refine V270 ?_; have hpa : (part || decide (b % 32 ≠ 31)) = (part || b % 32 != 31) := congrArg (part || ·) J125; have eL : ∀ n : Int, (acc ++ [(b % 32, n)]).length = acc.length + 1 := fun n => by simp
                have eF : ∀ n : Int, acc.flatMap encH ++ [Value.int .i64 (b % 32), Value.int .i64 n] = (acc ++ [(b % 32, n)]).flatMap encH := fun n => by simp [encH]
                rw [eF, ← eL] at hs; rw [hpa, e3] at hG
                by_cases hm : b / 32 % 2 = 1
                · rw [if_pos hm] at hG
                  rw [if_neg (fun k => hc12 k hm)] at hG; exact Z.again (p + 1, acc ++ [(b % 32, -1)], _, (part || b % 32 != 31), (b / 32 % 2 == 1), _) J8 ⟨⟨by simp only; omega, by simp only [eL]; omega, fun _ => ⟨F, by simp only; omega, hG⟩, fun h => by simp [hm] at h⟩, hs.sel [1, 2, 3, 4] J12⟩ J22
                rw [if_neg hm] at hG; exact Z.again (p + 1, acc ++ [(b % 32, -1)], _, (part || b % 32 != 31), (b / 32 % 2 == 1), _) J8 ⟨⟨by simp only; omega, by simp only [eL]; omega, fun h => by simp [hm] at h, fun _ => hG.symm⟩, hs.sel [1, 2, 3, 4] J12⟩ J22
              refine Z.yes (s := 66) (b := false) rfl hsp66 rfl ?_
              (try simp at hsp66)
              have e3 : (data || decide (sduB (b % 32))) = decide (sduB (b % 32)) := by rw [hsp66]; rfl
              refine V160 ?_; refine V372 ?_; rintro v11_3 w11_3 ⟨rfl, hy⟩; replace hs := U0 (hs.call hy); clear hy; refine V14 ?_; refine Z.lb 7 rfl ?_; refine V857 ?_; refine Z.only [1, 2, 3, 4, 5, 8, 11] rfl ?_; refine V268 ?_; refine V372 ?_; rintro v12_1 w12_1 ⟨rfl, hy⟩; replace hs := U0 (hs.call hy); clear hy; refine V184 ?_; refine Z.only [1, 2, 3, 4, 5, 11, 79] rfl ?_; refine V6 ?_; refine Z.cond rfl (fun hc12 => ?_) (fun hc12 => ?_)
              · (try simp at hc12)
                refine V42 ?_; refine Z.l rfl rfl (by rfl) (Z.keepS hs) J28 ?_; replace hs : St w M _ (RdL g T sv l (8 * (p + 1)) ++ [_, _, _]) := hs.rot (L1 := [_]); refine V2 ?_; refine Z.ZO.callB rfl rfl (by rfl) rfl rfl call165 rfl (mm_length g T sv l (p + 1) _ hs.lend hl hb J5) ?_ ?_
                · skip
                  rintro v13_1 w13_1 ⟨hln, rfl, hz⟩; replace hs := hs.regain hz; replace hs := U4 hs; refine V522 ?_; clear hs; intro ws hs; replace hs := U1 hs; refine V857 ?_; refine Z.only [1, 2, 3, 4, 5, 11] rfl ?_; refine V300 ?_; replace hs := U8 hs; refine V243 ?_; clear hs; intro g85 w85 hs; refine V2 ?_; refine V143 ?_; clear hs; intro g86 cap86 w86 hs; replace hs := U3 hs; refine V1 ?_; refine V447 ?_; refine V270 ?_; have hpa : (part || decide (b % 32 ≠ 31)) = (part || b % 32 != 31) := congrArg (part || ·) J125; have eL : ∀ n : Int, (acc ++ [(b % 32, n)]).length = acc.length + 1 := fun n => by simp
                  have eF : ∀ n : Int, acc.flatMap encH ++ [Value.int .i64 (b % 32), Value.int .i64 n] = (acc ++ [(b % 32, n)]).flatMap encH := fun n => by simp [encH]
                  rw [eF, ← eL] at hs; rw [hpa, e3] at hG
                  by_cases hm : b / 32 % 2 = 1
                  · rw [if_pos hm] at hG
                    rw [if_pos hc12.1, if_neg (fun k => k hln)] at hG; have hle := lnP_le hln; exact Z.again (lnP l (p + 1), acc ++ [(b % 32, lnV l (p + 1))], _, (part || b % 32 != 31), (b / 32 % 2 == 1), _) J8 ⟨⟨hle.2, by simp only [eL]; omega, fun _ => ⟨F, by simp only; omega, hG⟩, fun h => by simp [hm] at h⟩, hs.sel [0, 1, 2, 3] J12⟩ J22
                  rw [if_neg hm] at hG; exact absurd hc12.2 hm
                skip
                rintro c13_1 w13_1 ⟨hln, rfl, a', hz⟩
                repeat (first | refine Z.pthen ?_ | refine Z.pblock ?_ | refine Z.pscope ?_)
                refine V309 ?_; exact .inr ⟨_, rfl, (pan_ln hG hc12 hln).1, (pan_ln hG hc12 hln).2, _, (hs.regain hz).sub (List.sublist_append_left _ _)⟩
              (try simp at hc12)
              refine V489 ?_; replace hs := U8 hs; refine V243 ?_; clear hs; intro g85 w85 hs; refine V2 ?_; refine V143 ?_; clear hs; intro g86 cap86 w86 hs; replace hs := U3 hs; refine V1 ?_; refine V447 ?_; refine V270 ?_; have hpa : (part || decide (b % 32 ≠ 31)) = (part || b % 32 != 31) := congrArg (part || ·) J125; have eL : ∀ n : Int, (acc ++ [(b % 32, n)]).length = acc.length + 1 := fun n => by simp
              have eF : ∀ n : Int, acc.flatMap encH ++ [Value.int .i64 (b % 32), Value.int .i64 n] = (acc ++ [(b % 32, n)]).flatMap encH := fun n => by simp [encH]
              rw [eF, ← eL] at hs; rw [hpa, e3] at hG
              by_cases hm : b / 32 % 2 = 1
              · rw [if_pos hm] at hG
                rw [if_neg (fun k => hc12 k hm)] at hG; exact Z.again (p + 1, acc ++ [(b % 32, -1)], _, (part || b % 32 != 31), (b / 32 % 2 == 1), _) J8 ⟨⟨by simp only; omega, by simp only [eL]; omega, fun _ => ⟨F, by simp only; omega, hG⟩, fun h => by simp [hm] at h⟩, hs.sel [1, 2, 3, 4] J12⟩ J22
              rw [if_neg hm] at hG; exact Z.again (p + 1, acc ++ [(b % 32, -1)], _, (part || b % 32 != 31), (b / 32 % 2 == 1), _) J8 ⟨⟨by simp only; omega, by simp only [eL]; omega, fun h => by simp [hm] at h, fun _ => hG.symm⟩, hs.sel [1, 2, 3, 4] J12⟩ J22
            skip
            rintro c9_15 w9_15 ⟨hm9, rfl, hy⟩; replace hs := U0 (hs.call hy); clear hy
            repeat (first | refine Z.pthen ?_ | refine Z.pblock ?_ | refine Z.pscope ?_)
            refine V309 ?_; exact .inr ⟨_, rfl, (pan_hd hG (bad9 hm9)).1, (pan_hd hG (bad9 hm9)).2, _, hs.sub (List.sublist_append_left _ _)⟩
          skip
          rintro c8_6 w8_6 ⟨hm8, rfl, hy⟩; replace hs := U0 (hs.call hy); clear hy
          repeat (first | refine Z.pthen ?_ | refine Z.pblock ?_ | refine Z.pscope ?_)
          refine V309 ?_; exact .inr ⟨_, rfl, (pan_hd hG (bad8 hm8)).1, (pan_hd hG (bad8 hm8)).2, _, hs.sub (List.sublist_append_left _ _)⟩
        skip
        rintro c7_13 w7_13 ⟨hm7, rfl, hy⟩; replace hs := U0 (hs.call hy); clear hy
        repeat (first | refine Z.pthen ?_ | refine Z.pblock ?_ | refine Z.pscope ?_)
        refine V309 ?_; exact .inr ⟨_, rfl, (pan_hd hG (bad7 hm7)).1, (pan_hd hG (bad7 hm7)).2, _, hs.sub (List.sublist_append_left _ _)⟩
      refine Z.yes (s := 28) (b := false) rfl hsp28 rfl ?_
      (try simp at hsp28)
      refine V299 ?_; refine V220 ?_; refine V36 ?_; refine Z.lsU rfl rfl rfl (by rfl) ?_; refine V220 ?_; refine V14 ?_; refine V2 ?_; refine Z.ZO.callB rfl rfl (by rfl) rfl rfl call109 rfl (mm_must_any _ 9 _) ?_ ?_
      · skip
        rintro v7_13 w7_13 ⟨hm7, rfl, hy⟩; replace hs := U0 (hs.call hy); clear hy; refine V857 ?_; refine Z.only [1, 2, 3, 4, 5, 8, 10] rfl ?_; refine V858 ?_; exact absurd hm7 J16
      skip
      rintro c7_13 w7_13 ⟨hm7, rfl, hy⟩; replace hs := U0 (hs.call hy); clear hy
      repeat (first | refine Z.pthen ?_ | refine Z.pblock ?_ | refine Z.pscope ?_)
      refine V309 ?_; exact .inr ⟨_, rfl, (pan_hd hG (bad7n hsp28)).1, (pan_hd hG (bad7n hsp28)).2, _, hs.sub (List.sublist_append_left _ _)⟩
    skip
    rintro c4_1 w4_1 ⟨hq, rfl, a', hz⟩
    repeat (first | refine Z.pthen ?_ | refine Z.pblock ?_ | refine Z.pscope ?_)
    refine V309 ?_; exact .inr ⟨_, rfl, (pan_end hG (not_at hq)).1, (pan_end hG (not_at hq)).2, _, (hs.regain hz).sub (List.sublist_append_left _ _)⟩
  (try simp at hc3)
  refine V537 ?_; have hRR := hno (by simp_all); subst hRR; exact .inl ⟨_, rfl, rfl, hp, by simp only; omega, hs.sub J16⟩

theorem mm_headI (g T : Nat) (sv : Value) (acc : List Int) (x : Int) (b : Bool) (w : World) (hs : St w (idsOf (WrL g T sv (unb acc))) w (WrL g T sv (unb acc))) (hx : 0 ≤ x ∧ x < 32) (ha : acc.length ≤ 100000) :
    Calls Tryz.prog 123 #[.int .i64 x, .bool b, .pointer (some ⟨g, 0, none⟩)] w (Ret fun v w' => ∃ sv', v = .tuple #[] ∧ St w (idsOf (WrL g T sv (unb acc))) w' (WrL g T sv' (unb (acc ++ [x + if b then 32 else 0])))) := by
  obtain ⟨n, rfl⟩ := Int.eq_ofNat_of_zero_le hx.1; exact mm_head g T sv acc n b w hs J5 ha
def fmOf (n : Nat) : Int × Int × Int := if n ≤ 127 then (0, 7, 127) else (1, 15, 32767)
def lnF (n : Nat) : List (Int × Int) := [((fmOf n).1, 1), ((n : Int), (fmOf n).2.1)]
theorem lnF_ok {n : Nat} (h : n ≤ 32767) : (∀ f ∈ lnF n, GoodF f) ∧ chkA (lnF n) = 0 ∧ (lnF n).flatMap fldF = unb (lenF n) := by
  unfold lnF fmOf lenF
  by_cases h1 : n ≤ 127
  · rw [if_pos h1, if_pos h1]
    refine ⟨?_, ?_, ?_⟩
    · intro f hf
      simp only [List.mem_cons, List.mem_nil_iff, or_false] at hf; unfold GoodF
      rcases hf with rfl | rfl
      · decide
      simp only; omega
    · have e1 : chkF (0, 1) = 0 := by decide
      have e2 : chkF ((n : Int), 7) = 0 := by
        unfold chkF quoF; simp only [Int.toNat_natCast]; rw [if_neg J5, if_pos J45]
      simp only [chkA, e1, e2, if_true]
    have := len_short ⟨n, by omega⟩
    simpa [fldF, unb] using this
  rw [if_neg h1, if_neg h1]; refine ⟨?_, ?_, ?_⟩
  · intro f hf
    simp only [List.mem_cons, List.mem_nil_iff, or_false] at hf; unfold GoodF
    rcases hf with rfl | rfl
    · decide
    simp only; omega
  · have e1 : chkF (1, 1) = 0 := by decide
    have e2 : chkF ((n : Int), 15) = 0 := by
      unfold chkF quoF; simp only [Int.toNat_natCast]; rw [if_neg J5, if_pos J45]
    simp only [chkA, e1, e2, if_true]
  have h2 := len_long (n := n) J5; have e1 : (128 + (n : Int) / 256).toNat = 128 + n / 256 := by omega
  have e2 : ((n : Int) % 256).toNat = n % 256 := by omega
  simpa [fldF, unb, e1, e2] using h2
theorem fm_ext {q : MpV} (h : sduB q.lc) : extP q.plain = if q.l.length ≤ 127 then 1 else 2 := by
  have e1 : q.plain.1 = q.lc := rfl; have e2 : q.plain.2 = q.l := rfl; unfold extP; rw [e1, e2, if_pos h]
  by_cases h1 : q.l.length ≤ 127
  · rw [if_pos h1, if_neg J5]
  rw [if_neg h1, if_pos J5]
theorem ext_pos {q : MpV} : 0 < extP q.plain ↔ sduB q.lc := by
  constructor
  · intro h
    by_cases h1 : sduB q.lc
    · exact h1
    have := ext_no (p := q.plain) h1
    omega
  intro h; rw [fm_ext h]
  split <;> omega
theorem hdsR_bd {a : Bool} : ∀ {r : List Prt}, (∀ p ∈ r, (1 ≤ p.1 ∧ p.1 ≤ 30) ∧ p.2.length ≤ 32767) → ∀ x ∈ hdsR r a, 0 ≤ x ∧ x < 256
  | [], _, x, hx => by cases hx
  | p :: r, h, x, hx => by
    rw [hdsR_cons] at hx; have hp := h p J16
    rcases List.mem_append.1 hx with h1 | h1
    · split at h1
      · obtain rfl : x = p.1 := by simpa using h1
        omega
      rcases List.mem_cons.1 h1 with rfl | h2
      · omega
      split at h2
      · exact (lenF_bd hp.2).1 x h2
      cases h2
    exact hdsR_bd (fun q hq => h q (by simp [hq])) x h1
def headB (r : List Prt) (f : Nat) (tr : Bool) : List Int := List.replicate f 63 ++ hdsR r tr ++ if tr then [31] else []
theorem headB_bd {r : List Prt} {f : Nat} {tr : Bool} (h : ∀ p ∈ r, (1 ≤ p.1 ∧ p.1 ≤ 30) ∧ p.2.length ≤ 32767) : ∀ x ∈ headB r f tr, 0 ≤ x ∧ x < 256 := by
  intro x hx; unfold headB at hx
  rcases List.mem_append.1 hx with hx | hx
  · rcases List.mem_append.1 hx with hx | hx
    · have := (List.mem_replicate.1 hx).2; omega
    exact hdsR_bd h x hx
  split at hx
  · have : x = 31 := by simpa using hx
    omega
  cases hx
theorem join_few (r : List Prt) (d : Nat) : joinB r d (-1) = headB r d false ++ datR r := by simp [joinB, headB]
theorem join_tr (r : List Prt) (a : Nat) : joinB r 0 (a : Int) = headB r 0 true ++ datR r ++ List.replicate a 0 := by simp [joinB, headB]
theorem headB_len_t (r : List Prt) : ((headB r 0 true ++ datR r).length : Int) = totP r + 1 := by
  have := hds_true r; simp [headB]
  omega
theorem headB_len_f (r : List Prt) (d : Nat) (h : r ≠ []) : ((headB r d false ++ datR r).length : Int) = needP r + d := by
  have := hds_false r h; simp [headB]
  omega

def ptN (l : List Int) (p : Nat) (x n : Int) (last : Bool) : Int := if ctlN x ≠ 0 then ctlN x else if last then (l.length : Int) - p else n
def ptGo (l : List Int) : List (Int × Int) → Nat → List Prt → Int × List Prt
  | [], _, acc => if acc = [] then (9, []) else (0, acc)
  | h :: hs, p, acc => if h.1 = 31 then ptGo l hs p acc
    else if ¬ p + (ptN l p h.1 h.2 hs.isEmpty).toNat ≤ l.length then (5, [])
    else if hs.isEmpty = true ∧ ¬ (0 < (ptN l p h.1 h.2 hs.isEmpty).toNat ∧ p + (ptN l p h.1 h.2 hs.isEmpty).toNat = l.length) then (9, [])
    else ptGo l hs (p + (ptN l p h.1 h.2 hs.isEmpty).toNat) (acc ++ [(h.1, (l.drop p).take (ptN l p h.1 h.2 hs.isEmpty).toNat)])
def hdV (l : List Int) : Int × List (Int × Int) × Nat := hGo l (l.length + 1) 0 [] false false
def parV (l : List Int) : Int × List Prt := if 16384 < l.length then (4, []) else if (hdV l).1 ≠ 0 then ((hdV l).1, []) else ptGo l (hdV l).2.1 (hdV l).2.2 []
def hdT (h : Int × Int) : Prop := sduB h.1 ∨ ctlN h.1 ≠ 0 ∨ h.1 = 31
def hdG (h : Int × Int) : Prop := hdT h ∧ (sduB h.1 → 1 ≤ h.2 ∧ h.2 ≤ 32767)
theorem lnV_bd {l : List Int} (hb : ∀ x ∈ l, 0 ≤ x ∧ x < 256) {p : Nat} (h : lnE l p = 0) : 1 ≤ lnV l p ∧ lnV l p ≤ 32767 := by
  unfold lnE at h; unfold lnV
  by_cases h1 : p < l.length
  · have b1 := byB_bd hb h1
    rw [if_neg (fun k => k h1)] at h
    by_cases h2 : byB l p < 128
    · rw [if_pos h2] at h ⊢
      by_cases h3 : byB l p = 0
      · rw [if_pos h3] at h; cases h
      omega
    rw [if_neg h2] at h ⊢
    by_cases h3 : p + 1 < l.length
    · have b2 := byB_bd hb h3
      rw [if_neg (fun k => k h3)] at h
      by_cases h4 : 127 < byB l p % 128 * 256 + byB l (p + 1)
      · omega
      rw [if_neg h4] at h; cases h
    rw [if_pos h3] at h; cases h
  rw [if_pos h1] at h; cases h
theorem hGo_good {l : List Int} (hb : ∀ x ∈ l, 0 ≤ x ∧ x < 256) : ∀ (F p : Nat) (acc : List (Int × Int)) (d pt : Bool), (∀ h ∈ acc, hdG h) → (hGo l F p acc d pt).1 = 0 → ∃ a h, (hGo l F p acc d pt).2.1 = a ++ [h] ∧ (∀ x ∈ a, hdG x) ∧ hdT h
  | 0, _, _, _, _ => by intro _ h; cases h
  | F + 1, p, acc, d, pt => by
    intro ha; rw [hGo]
    by_cases h1 : p < l.length
    · rw [if_neg (fun k => k h1)]
      by_cases h2 : hdBad (byB l p) acc.length d pt
      · rw [if_pos h2]; intro h; exact absurd h J12
      rw [if_neg h2]; have hT : sduB (byB l p % 32) ∨ ctlN (byB l p % 32) ≠ 0 ∨ byB l p % 32 = 31 := by
        unfold hdBad at h2; exact (Classical.not_not.1 (fun k => h2 (.inl k))).2
      by_cases h3 : byB l p / 32 % 2 = 1
      · rw [if_pos h3]
        by_cases h4 : sduB (byB l p % 32)
        · rw [if_pos h4]
          by_cases h5 : lnE l (p + 1) = 0
          · rw [if_neg (fun k => k h5)]
            refine hGo_good hb F _ _ _ _ ?_; intro x hx
            rcases List.mem_append.1 hx with h | h
            · exact ha x h
            obtain rfl : x = _ := by simpa using h
            exact ⟨.inl h4, fun _ => lnV_bd hb h5⟩
          rw [if_pos h5]; intro h; exact absurd h h5
        rw [if_neg h4]; refine hGo_good hb F _ _ _ _ ?_; intro x hx
        rcases List.mem_append.1 hx with h | h
        · exact ha x h
        obtain rfl : x = _ := by simpa using h
        exact ⟨hT, fun h => absurd h h4⟩
      rw [if_neg h3]; intro _; exact ⟨acc, _, rfl, ha, hT⟩
    rw [if_pos h1]; intro h; exact absurd h J12

abbrev PtR (g T : Nat) (sv : Value) (l : List Int) (p : Nat) (x : Int) (last : Bool) (k : Nat) (w : World) : Ending → World → Prop := Z.Bo (fun v w' => (p + k ≤ l.length ∧ (last = true → 0 < k ∧ p + k = l.length)) ∧ ∃ B co, v = .agg #[.int .i64 x, .slice B k k] ∧ St w (idsOf (RdL g T sv l (8 * p))) w' (RdL g T sv l (8 * (p + k)) ++ [Ent.row (.slice B k co) 5 1 k (ints .u8 ((l.drop p).take k))])) fun c w' => (¬ p + k ≤ l.length ∨ last = true ∧ ¬ (0 < k ∧ p + k = l.length)) ∧ c = mperr (if p + k ≤ l.length then 9 else 5) ∧ ∃ a', St w (idsOf (RdL g T sv l (8 * p))) w' (RdL g T sv l a')
theorem mm_gotb_any (x : Value) (e : Int) (w : World) : Calls Tryz.prog 167 #[x, .int .i64 e] w (Z.Bo (fun v w' => e = 0 ∧ v = x ∧ St w [] w' []) fun c w' => e ≠ 0 ∧ c = mperr e ∧ St w [] w' []) := by
  by_cases h : e = 0
  · subst h; exact Z.Bo.ret ((mm_gotb_ok x w).mono fun e w' ⟨v, h1, h2⟩ => ⟨v, h1, rfl, h2⟩)
  exact Z.Bo.pan ((mm_gotb_bad x e w h).mono fun e w' ⟨v, h1, h2⟩ => ⟨v, h1, h, h2⟩)
theorem mm_part_mid (g T : Nat) (sv : Value) (l : List Int) (p : Nat) (x n : Int) (k : Nat) (w : World) (hs : St w (idsOf (RdL g T sv l (8 * p))) w (RdL g T sv l (8 * p))) (hl : l.length ≤ 1000000) (hb : ∀ x ∈ l, 0 ≤ x ∧ x < 256) (hp : p ≤ l.length) (hk : ptN l p x n false = k) :
    Calls Tryz.prog 112 #[.agg #[.pointer (some ⟨g, 0, none⟩)], .agg #[.int .i64 x, .int .i64 n], .bool false] w (PtR g T sv l p x false k w) := by
  unfold PtR; generalize hM : idsOf (RdL g T sv l (8 * p)) = M at *; obtain ⟨c, hc⟩ : ∃ c : Bool, decide (ctlN x ≠ 0) = c := ⟨_, rfl⟩; have hkT : c = true → ctlN x = (k : Int) := fun h => by rw [← hk]; unfold ptN; rw [if_pos J133]
  have hkF : c = false → n = (k : Int) := fun h => by rw [← hk]; unfold ptN; rw [if_neg J133]; rfl
  have hgb : gbE l (8 * p) (k : Int) = 0 → p + k ≤ l.length := fun h => by
    rcases Nat.lt_or_ge l.length (p + k) with h1 | h1
    · rw [gb_bad hp J5] at h; cases h
    exact h1
  have hgc : gbE l (8 * p) (k : Int) ≠ 0 → ¬ p + k ≤ l.length := fun h h1 => h (gb_ok hb h1).1
  refine Z.enter func112 rfl ntmps112 rfl rfl ?_; refine V91 ?_; clear hs; intro g3 w3 hs; refine V616 ?_; clear hs; intro g4 w4 hs; refine V274 ?_; clear hs; intro g6 w6 hs; refine V857 ?_; refine Z.only [2, 3, 4, 6] rfl ?_; refine V858 ?_; refine V544 ?_; refine V491 ?_; rintro v1_2 w1_2 ⟨rfl, hy⟩; replace hs := U0 (hs.call hy); clear hy; rw [hc]; refine V126 ?_; refine Z.only [2, 3, 4, 6, 7, 8] rfl ?_; refine V594 ?_; refine V476 ?_; refine V857 ?_; refine Z.only [2, 3, 4, 6, 7, 8, 16] rfl ?_; refine V6 ?_; refine Z.cond rfl (fun h => absurd h (by cases c <;> simp)) (fun hc2 => ?_); refine V0 ?_; refine V184 ?_; refine Z.only [2, 3, 4, 6, 7, 26] rfl ?_; refine V6 ?_; refine Z.cond rfl (fun hc4 => ?_) (fun hc4 => ?_)
  · (try simp at hc4)
    obtain rfl : c = false := by simpa using hc4
    obtain rfl := hkF rfl; refine V42 ?_; refine V104 ?_; refine V1 ?_; refine Z.only [2, 3, 4, 6, 7] rfl ?_; refine V133 ?_; refine V858 ?_; refine V397 ?_; replace hs : St w M _ (RdL g T sv l (8 * p) ++ [_, _, _]) := hs.rot (L1 := [_, _, _]); refine V2 ?_; refine V227 ?_; rintro v6_3 w6_3 ⟨so, rfl, hz⟩; replace hs := hs.regain hz; refine V527 ?_; refine Z.ZO.callB rfl rfl (by rfl) rfl rfl call167 rfl (mm_gotb_any _ _ _) ?_ ?_
    · skip
      rintro v6_6 w6_6 ⟨hE, rfl, hy⟩; replace hs := U0 (hs.call hy); clear hy; have hpk := hgb hE; obtain ⟨-, gv, ga⟩ := gb_ok hb hpk; rw [gv, ga] at hs; have hlk : ((l.drop p).take k).length = k := by rw [List.length_take, List.length_drop]; omega
      rw [hlk] at hs; obtain ⟨B, co, rfl, hco, -, -⟩ := row_slv hs (j := 2) rfl; refine V665 ?_; rintro v7_12 w7_12 ⟨rfl, hy⟩; replace hs := U0 (hs.call hy); clear hy; replace hs := U8 hs; refine V857 ?_; refine V244 ?_; clear hs; intro wd8 hs; refine V24 ?_; refine V7 ?_; clear hs; intro ws hs; replace hs := U1 hs; replace hs := U2 hs; refine V365 ?_; exact .inl ⟨_, rfl, ⟨hpk, fun h => by cases h⟩, B, co, by rw [slA_zero]; rfl, hs.sel [0, 1, 2] J12⟩
    skip
    rintro c6_6 w6_6 ⟨hE, rfl, hy⟩; replace hs := U0 (hs.call hy); clear hy
    repeat (first | refine Z.pthen ?_ | refine Z.pblock ?_ | refine Z.pscope ?_)
    refine V309 ?_; exact .inr ⟨_, rfl, .inl (hgc hE), by rw [if_neg (hgc hE), gb_bad hp (hgc hE)], _, hs.sub ((List.sublist_append_left _ _).trans (List.sublist_append_left _ _))⟩
  (try simp at hc4)
  obtain rfl : c = true := by simpa using hc4
  rw [hkT rfl]; refine V68 ?_; refine V858 ?_; refine V397 ?_; replace hs : St w M _ (RdL g T sv l (8 * p) ++ [_, _, _]) := hs.rot (L1 := [_, _, _]); refine V2 ?_; refine V227 ?_; rintro v6_3 w6_3 ⟨so, rfl, hz⟩; replace hs := hs.regain hz; refine V527 ?_; refine Z.ZO.callB rfl rfl (by rfl) rfl rfl call167 rfl (mm_gotb_any _ _ _) ?_ ?_
  · skip
    rintro v6_6 w6_6 ⟨hE, rfl, hy⟩; replace hs := U0 (hs.call hy); clear hy; have hpk := hgb hE; obtain ⟨-, gv, ga⟩ := gb_ok hb hpk; rw [gv, ga] at hs; have hlk : ((l.drop p).take k).length = k := by rw [List.length_take, List.length_drop]; omega
    rw [hlk] at hs; obtain ⟨B, co, rfl, hco, -, -⟩ := row_slv hs (j := 2) rfl; refine V665 ?_; rintro v7_12 w7_12 ⟨rfl, hy⟩; replace hs := U0 (hs.call hy); clear hy; replace hs := U8 hs; refine V857 ?_; refine V244 ?_; clear hs; intro wd8 hs; refine V24 ?_; refine V7 ?_; clear hs; intro ws hs; replace hs := U1 hs; replace hs := U2 hs; refine V365 ?_; exact .inl ⟨_, rfl, ⟨hpk, fun h => by cases h⟩, B, co, by rw [slA_zero]; rfl, hs.sel [0, 1, 2] J12⟩
  skip
  rintro c6_6 w6_6 ⟨hE, rfl, hy⟩; replace hs := U0 (hs.call hy); clear hy
  repeat (first | refine Z.pthen ?_ | refine Z.pblock ?_ | refine Z.pscope ?_)
  refine V309 ?_; exact .inr ⟨_, rfl, .inl (hgc hE), by rw [if_neg (hgc hE), gb_bad hp (hgc hE)], _, hs.sub ((List.sublist_append_left _ _).trans (List.sublist_append_left _ _))⟩
theorem mm_part_last (g T : Nat) (sv : Value) (l : List Int) (p : Nat) (x n : Int) (k : Nat) (w : World) (hs : St w (idsOf (RdL g T sv l (8 * p))) w (RdL g T sv l (8 * p))) (hl : l.length ≤ 1000000) (hb : ∀ x ∈ l, 0 ≤ x ∧ x < 256) (hp : p ≤ l.length) (hk : ptN l p x n true = k) :
    Calls Tryz.prog 112 #[.agg #[.pointer (some ⟨g, 0, none⟩)], .agg #[.int .i64 x, .int .i64 n], .bool true] w (PtR g T sv l p x true k w) := by
  unfold PtR; generalize hM : idsOf (RdL g T sv l (8 * p)) = M at *; obtain ⟨c, hc⟩ : ∃ c : Bool, decide (ctlN x ≠ 0) = c := ⟨_, rfl⟩; have hkT : c = true → ctlN x = (k : Int) := fun h => by rw [← hk]; unfold ptN; rw [if_pos J133]
  have hkF : c = false → (l.length : Int) - p = (k : Int) := fun h => by rw [← hk]; unfold ptN; rw [if_neg J133]; rfl
  have hgb : gbE l (8 * p) (k : Int) = 0 → p + k ≤ l.length := fun h => by
    rcases Nat.lt_or_ge l.length (p + k) with h1 | h1
    · rw [gb_bad hp J5] at h; cases h
    exact h1
  have hgc : gbE l (8 * p) (k : Int) ≠ 0 → ¬ p + k ≤ l.length := fun h h1 => h (gb_ok hb h1).1
  refine Z.enter func112 rfl ntmps112 rfl rfl ?_; refine V91 ?_; clear hs; intro g3 w3 hs; refine V616 ?_; clear hs; intro g4 w4 hs; refine V274 ?_; clear hs; intro g6 w6 hs; refine V857 ?_; refine Z.only [2, 3, 4, 6] rfl ?_; refine V858 ?_; refine V544 ?_; refine V491 ?_; rintro v1_2 w1_2 ⟨rfl, hy⟩; replace hs := U0 (hs.call hy); clear hy; rw [hc]; refine V126 ?_; refine Z.only [2, 3, 4, 6, 7, 8] rfl ?_; refine V594 ?_; refine V476 ?_; refine V857 ?_; refine Z.only [2, 3, 4, 6, 7, 8, 16] rfl ?_; refine V6 ?_; refine Z.cond rfl (fun hc2 => ?_) (fun hc2 => ?_)
  · (try simp at hc2)
    obtain rfl : c = false := by simpa using hc2
    refine V42 ?_; refine V3 ?_; refine V165 ?_; replace hs : St w M _ (RdL g T sv l (8 * p) ++ [_, _, _]) := hs.rot (L1 := [_, _, _]); refine V2 ?_; refine Z.ZO.call rfl rfl (by rfl) rfl rfl call166 rfl (rleft_any g T sv l (8 * p) _ hs.lend hl J5) ?_; rintro v3_2 w3_2 ⟨rfl, hz⟩; replace hs := hs.regain hz; have e8 : (8 * l.length : Int) - ((8 * p : Nat) : Int) = ((8 * k : Nat) : Int) := by have := hkF rfl; omega
    rw [e8]; refine V117 ?_; refine V1 ?_; refine Z.only [2, 3, 4, 6, 7] rfl ?_; refine V133 ?_; refine V858 ?_; rw [show ((8 * k : Nat) : Int) / 8 = (k : Int) from by omega]; refine V397 ?_; replace hs : St w M _ (RdL g T sv l (8 * p) ++ [_, _, _]) := hs; refine V2 ?_; refine V227 ?_; rintro v6_3 w6_3 ⟨so, rfl, hz⟩; replace hs := hs.regain hz; refine V527 ?_; refine Z.ZO.callB rfl rfl (by rfl) rfl rfl call167 rfl (mm_gotb_any _ _ _) ?_ ?_
    · skip
      rintro v6_6 w6_6 ⟨hE, rfl, hy⟩; replace hs := U0 (hs.call hy); clear hy; have hpk := hgb hE; obtain ⟨-, gv, ga⟩ := gb_ok hb hpk; rw [gv, ga] at hs; have hlk : ((l.drop p).take k).length = k := by rw [List.length_take, List.length_drop]; omega
      rw [hlk] at hs; obtain ⟨B, co, rfl, hco, -, -⟩ := row_slv hs (j := 2) rfl; refine V1 ?_; refine V461 ?_; replace hs := U4 hs; refine V358 ?_; refine Z.split (s := 43) rfl (fun hsp43 => ?_) (fun hsp43 => ?_)
      · refine Z.yes (s := 43) (b := true) rfl hsp43 rfl ?_
        (try simp at hsp43)
        refine V529 ?_; rintro v7_8 w7_8 ⟨rfl, hz⟩; replace hs := hs.regain hz; refine V859 ?_; refine Z.yes (s := 43) (b := true) rfl rfl rfl ?_; refine V20 ?_; refine V358 ?_; refine V14 ?_; refine V2 ?_; refine Z.ZO.callB rfl rfl (by rfl) rfl rfl call109 rfl (mm_must_any _ 9 _) ?_ ?_
        · skip
          rintro v7_12 w7_12 ⟨hm, rfl, hy⟩; replace hs := U0 (hs.call hy); clear hy; replace hs := U8 hs; refine V857 ?_; refine V244 ?_; clear hs; intro wd8 hs; refine V24 ?_; refine V7 ?_; clear hs; intro ws hs; replace hs := U1 hs; replace hs := U2 hs; refine V365 ?_; exact .inl ⟨_, rfl, ⟨hpk, fun _ => ⟨hsp43, by simp at hm; omega⟩⟩, B, co, by rw [slA_zero]; rfl, hs.sel [0, 1, 2] J12⟩
        skip
        rintro c7_12 w7_12 ⟨hm, rfl, hy⟩; replace hs := U0 (hs.call hy); clear hy
        repeat (first | refine Z.pthen ?_ | refine Z.pblock ?_ | refine Z.pscope ?_)
        refine V309 ?_; exact .inr ⟨_, rfl, .inr ⟨rfl, by first | omega | (simp at hm <;> omega)⟩, by rw [if_pos hpk], _, hs.sub (List.sublist_append_left _ _)⟩
      refine Z.yes (s := 43) (b := false) rfl hsp43 rfl ?_
      (try simp at hsp43)
      refine V299 ?_; refine V14 ?_; refine V358 ?_; refine V14 ?_; refine V2 ?_; refine Z.ZO.callB rfl rfl (by rfl) rfl rfl call109 rfl (mm_must_any _ 9 _) ?_ ?_
      · skip
        rintro v7_12 w7_12 ⟨hm, rfl, hy⟩; replace hs := U0 (hs.call hy); clear hy; replace hs := U8 hs; refine V857 ?_; refine V244 ?_; clear hs; intro wd8 hs; refine V24 ?_; refine V7 ?_; clear hs; intro ws hs; replace hs := U1 hs; replace hs := U2 hs; refine V365 ?_
        (simp at hm; done)
      skip
      rintro c7_12 w7_12 ⟨hm, rfl, hy⟩; replace hs := U0 (hs.call hy); clear hy
      repeat (first | refine Z.pthen ?_ | refine Z.pblock ?_ | refine Z.pscope ?_)
      refine V309 ?_; exact .inr ⟨_, rfl, .inr ⟨rfl, by first | omega | (simp at hm <;> omega)⟩, by rw [if_pos hpk], _, hs.sub (List.sublist_append_left _ _)⟩
    skip
    rintro c6_6 w6_6 ⟨hE, rfl, hy⟩; replace hs := U0 (hs.call hy); clear hy
    repeat (first | refine Z.pthen ?_ | refine Z.pblock ?_ | refine Z.pscope ?_)
    refine V309 ?_; exact .inr ⟨_, rfl, .inl (hgc hE), by rw [if_neg (hgc hE), gb_bad hp (hgc hE)], _, hs.sub ((List.sublist_append_left _ _).trans (List.sublist_append_left _ _))⟩
  (try simp at hc2)
  obtain rfl : c = true := by simpa using hc2
  refine V0 ?_; refine V184 ?_; refine Z.only [2, 3, 4, 6, 7, 26] rfl ?_; refine V6 ?_; refine Z.cond rfl (fun h => absurd h J16) (fun hc4 => ?_); refine V68 ?_; refine V858 ?_; rw [hkT rfl]; refine V397 ?_; replace hs : St w M _ (RdL g T sv l (8 * p) ++ [_, _, _]) := hs.rot (L1 := [_, _, _]); refine V2 ?_; refine V227 ?_; rintro v6_3 w6_3 ⟨so, rfl, hz⟩; replace hs := hs.regain hz; refine V527 ?_; refine Z.ZO.callB rfl rfl (by rfl) rfl rfl call167 rfl (mm_gotb_any _ _ _) ?_ ?_
  · skip
    rintro v6_6 w6_6 ⟨hE, rfl, hy⟩; replace hs := U0 (hs.call hy); clear hy; have hpk := hgb hE; obtain ⟨-, gv, ga⟩ := gb_ok hb hpk; rw [gv, ga] at hs; have hlk : ((l.drop p).take k).length = k := by rw [List.length_take, List.length_drop]; omega
    rw [hlk] at hs; obtain ⟨B, co, rfl, hco, -, -⟩ := row_slv hs (j := 2) rfl; refine V1 ?_; refine V461 ?_; replace hs := U4 hs; refine V358 ?_; refine Z.split (s := 43) rfl (fun hsp43 => ?_) (fun hsp43 => ?_)
    · refine Z.yes (s := 43) (b := true) rfl hsp43 rfl ?_
      (try simp at hsp43)
      refine V529 ?_; rintro v7_8 w7_8 ⟨rfl, hz⟩; replace hs := hs.regain hz; refine V859 ?_; refine Z.yes (s := 43) (b := true) rfl rfl rfl ?_; refine V20 ?_; refine V358 ?_; refine V14 ?_; refine V2 ?_; refine Z.ZO.callB rfl rfl (by rfl) rfl rfl call109 rfl (mm_must_any _ 9 _) ?_ ?_
      · skip
        rintro v7_12 w7_12 ⟨hm, rfl, hy⟩; replace hs := U0 (hs.call hy); clear hy; replace hs := U8 hs; refine V857 ?_; refine V244 ?_; clear hs; intro wd8 hs; refine V24 ?_; refine V7 ?_; clear hs; intro ws hs; replace hs := U1 hs; replace hs := U2 hs; refine V365 ?_; exact .inl ⟨_, rfl, ⟨hpk, fun _ => ⟨hsp43, by simp at hm; omega⟩⟩, B, co, by rw [slA_zero]; rfl, hs.sel [0, 1, 2] J12⟩
      skip
      rintro c7_12 w7_12 ⟨hm, rfl, hy⟩; replace hs := U0 (hs.call hy); clear hy
      repeat (first | refine Z.pthen ?_ | refine Z.pblock ?_ | refine Z.pscope ?_)
      refine V309 ?_; exact .inr ⟨_, rfl, .inr ⟨rfl, by first | omega | (simp at hm <;> omega)⟩, by rw [if_pos hpk], _, hs.sub (List.sublist_append_left _ _)⟩
    refine Z.yes (s := 43) (b := false) rfl hsp43 rfl ?_
    (try simp at hsp43)
    refine V299 ?_; refine V14 ?_; refine V358 ?_; refine V14 ?_; refine V2 ?_; refine Z.ZO.callB rfl rfl (by rfl) rfl rfl call109 rfl (mm_must_any _ 9 _) ?_ ?_
    · skip
      rintro v7_12 w7_12 ⟨hm, rfl, hy⟩; replace hs := U0 (hs.call hy); clear hy; replace hs := U8 hs; refine V857 ?_; refine V244 ?_; clear hs; intro wd8 hs; refine V24 ?_; refine V7 ?_; clear hs; intro ws hs; replace hs := U1 hs; replace hs := U2 hs; refine V365 ?_
      (simp at hm; done)
    skip
    rintro c7_12 w7_12 ⟨hm, rfl, hy⟩; replace hs := U0 (hs.call hy); clear hy
    repeat (first | refine Z.pthen ?_ | refine Z.pblock ?_ | refine Z.pscope ?_)
    refine V309 ?_; exact .inr ⟨_, rfl, .inr ⟨rfl, by first | omega | (simp at hm <;> omega)⟩, by rw [if_pos hpk], _, hs.sub (List.sublist_append_left _ _)⟩
  skip
  rintro c6_6 w6_6 ⟨hE, rfl, hy⟩; replace hs := U0 (hs.call hy); clear hy
  repeat (first | refine Z.pthen ?_ | refine Z.pblock ?_ | refine Z.pscope ?_)
  refine V309 ?_; exact .inr ⟨_, rfl, .inl (hgc hE), by rw [if_neg (hgc hE), gb_bad hp (hgc hE)], _, hs.sub ((List.sublist_append_left _ _).trans (List.sublist_append_left _ _))⟩

def rowsQ (qs : List (MpV × Nat)) : List Ent := qs.map fun x => Ent.row (.slice x.1.B x.1.l.length x.2) 5 1 x.1.l.length (ints .u8 x.1.l)
def cellsQ (qs : List (MpV × Nat)) : List Value := qs.flatMap fun x => x.1.cells
def plainQ (qs : List (MpV × Nat)) : List Prt := qs.map fun x => x.1.plain
def ParR (R : Int × List Prt) (v : Value) (w w' : World) : Prop := ∃ qs sv, v = .tuple #[sv, .int .i64 R.1] ∧ plainQ qs = R.2 ∧ St w [] w' (Ent.row sv 77 2 qs.length (cellsQ qs) :: rowsQ qs)
theorem ParR.fail {e : Int} {w w' : World} (hs : St w [] w' []) : ParR (e, []) (.tuple #[.slice none 0 0, .int .i64 e]) w w' := ⟨[], _, rfl, rfl, hs.nil _ 2⟩
theorem mm_clearP (gp T : Nat) (a : Value) (W : World) (hs : St W (idsOf [Ent.blk gp T #[a]]) W [Ent.blk gp T #[a]]) :
    Calls Tryz.prog 108 #[.pointer (some ⟨gp, 0, none⟩)] W (Ret fun v w' => v = .tuple #[] ∧ St W (idsOf [Ent.blk gp T #[a]]) w' [Ent.blk gp T #[.slice none 0 0]]) := by
  generalize idsOf [Ent.blk gp T #[a]] = M at *; refine Z.enter func108 rfl ntmps108 rfl rfl ?_; refine V42 ?_; refine V2 ?_; refine V170 ?_; clear hs; intro ws hs; replace hs := U1 hs; refine V857 ?_; refine V77 ?_; exact ⟨_, rfl, rfl, hs⟩
theorem mm_part (g T : Nat) (sv : Value) (l : List Int) (p : Nat) (x n : Int) (la : Bool) (k : Nat) (w : World) (hs : St w (idsOf (RdL g T sv l (8 * p))) w (RdL g T sv l (8 * p))) (hl : l.length ≤ 1000000) (hb : ∀ x ∈ l, 0 ≤ x ∧ x < 256) (hp : p ≤ l.length) (hk : ptN l p x n la = k) :
    Calls Tryz.prog 112 #[.agg #[.pointer (some ⟨g, 0, none⟩)], .agg #[.int .i64 x, .int .i64 n], .bool la] w (PtR g T sv l p x la k w) := by
  cases la
  · exact mm_part_mid g T sv l p x n k w hs hl hb hp hk
  exact mm_part_last g T sv l p x n k w hs hl hb hp hk
theorem ptN_nat {l : List Int} {p : Nat} {a : List (Int × Int)} {z : Int × Int} {i : Nat} {h : Int × Int} (hp : p ≤ l.length) (ha : ∀ x ∈ a, hdG x) (hz : hdT z) (hh : (a ++ [z])[i]? = some h) (h31 : h.1 ≠ 31) {la : Bool} (hla : la = decide (i + 1 = (a ++ [z]).length)) : ∃ k : Nat, ptN l p h.1 h.2 la = k := by
  have hn : 0 ≤ ptN l p h.1 h.2 la := by
    unfold ptN
    by_cases hc : ctlN h.1 ≠ 0
    · rw [if_pos hc]; exact (ctlN_bd h.1).1
    rw [if_neg hc]
    by_cases hl : la = true
    · rw [if_pos hl]; omega
    rw [if_neg hl]; have hi : i < (a ++ [z]).length := (List.getElem?_eq_some_iff.1 hh).1; have hne : i + 1 ≠ (a ++ [z]).length := fun e => hl (by rw [hla, decide_eq_true e])
    rw [List.length_append, List.length_singleton] at hi hne; rw [List.getElem?_append_left J5] at hh; obtain ⟨hT, hG⟩ := ha h (List.mem_of_getElem? hh)
    rcases hT with h1 | h1 | h1
    · have := hG h1; omega
    · exact absurd h1 hc
    exact absurd h1 h31
  exact ⟨_, (Int.toNat_of_nonneg hn).symm⟩
theorem _root_.Go.Proofs.YtbojkoiopkaciaaGreat.SX.St.tailU {w0 w : World} {M : List Nat} {A Q : List Ent} {r : Ent} (h : St w0 M w (A ++ [r] ++ Q)) : St w0 M w (A ++ (Q ++ [r])) := h.perm (by rw [List.append_assoc]; exact (List.perm_append_comm).append_left _)
theorem drop_emp {α : Type} {H : List α} {i : Nat} (hi : i < H.length) : (H.drop (i + 1)).isEmpty = decide (i + 1 = H.length) := by
  rw [Bool.eq_iff_iff]; simp
  omega
theorem drop_at {α : Type} {H : List α} {i : Nat} {h : α} (hh : H[i]? = some h) : H.drop i = h :: H.drop (i + 1) := by
  obtain ⟨hi, hq⟩ := List.getElem?_eq_some_iff.1 hh; rw [List.drop_eq_getElem_cons hi, hq]
theorem mc_Parse (A : Option Addr) (n c : Nat) (l : List Int) (w : World) (hx : Sl w A (ints .u8 l)) (hl : l.length = n) (hn : n ≤ 100000) (hb : ∀ x ∈ l, 0 ≤ x ∧ x < 256) :
    Calls Tryz.prog 54 #[.slice A n c] w (Ret fun v w' => ParR (parV l) v w w') := by
  have hs := St.start w; obtain ⟨R, hR⟩ : ∃ R, parV l = R := ⟨_, rfl⟩; rw [hR]; obtain ⟨⟨E0, H, P0⟩, hV⟩ : ∃ V, hdV l = V := ⟨_, rfl⟩; have hgd : E0 = 0 → ∃ a z, H = a ++ [z] ∧ (∀ x ∈ a, hdG x) ∧ hdT z := fun h => by
    have := hGo_good hb (l.length + 1) 0 [] false false J16; rw [show hGo l (l.length + 1) 0 [] false false = _ from hV] at this; exact this h
  unfold parV at hR; rw [hV] at hR; simp only at hR; have hz0 : A = none → n = 0 := fun hA => by
    subst hA
    rcases Nat.eq_zero_or_pos n with h0 | h0
    · exact h0
    obtain ⟨b, off, e, -⟩ := hx J92
    cases e
  refine Z.enterD func54 rfl ntmps54 rfl rfl ?_; refine V304 ?_; refine Z.ZO.alloc rfl rfl (by rfl) zeroValue47 rfl hs ?_; clear hs; intro g2 w2 hs; refine V35 ?_; clear hs; intro g3 w3 hs; refine V857 ?_; refine Z.only [0, 2, 3] rfl ?_; refine V858 ?_; refine V145 ?_; refine V857 ?_; refine Z.only [0, 2, 3] rfl ?_; refine V303 ?_; refine V29 ?_; refine V62 ?_; refine Z.ZO.callB rfl rfl (by rfl) rfl rfl call109 rfl (mm_must_any _ 4 _) ?_ ?_
  · skip
    rintro v2_3 w2_3 ⟨hm2, rfl, hy⟩; replace hs := U0 (hs.call hy); clear hy; rw [if_neg (by simp at hm2; omega)] at hR; refine V857 ?_; refine Z.only [0, 2, 3] rfl ?_; refine V858 ?_; refine V62 ?_; refine Z.ZO.call rfl rfl (by rfl) rfl rfl call110 rfl (newreader_any A n c l _ ((hx.st (Jn hs)).sx) hl J5 hz0) ?_; rintro v3_1 w3_1 ⟨gr, sv, rfl, hy⟩; replace hs := U0 (hs.call hy); clear hy; refine Z.l rfl rfl (by rfl) (Z.keepS hs) (Z.Yd.buildL [(0, 1)] [.pointer none] rfl rfl J18) ?_; refine V2 ?_; refine Z.ZO.alloc rfl rfl (by rfl) zeroValue190 rfl hs ?_; clear hs; intro g4 w4 hs; refine V860 ?_; clear hs; intro ws hs; replace hs := U1 hs; replace hs := U2 hs; refine V857 ?_; refine V588 ?_; refine V858 ?_; refine Z.l rfl rfl (by rfl) (Z.keepS hs) J28 ?_; replace hs : St w [] _ (RdL gr 242 sv l (8 * 0) ++ [_, _, _]) := hs.rot (L1 := [_]); refine V2 ?_; refine Z.ZO.callB rfl rfl (by rfl) rfl rfl call111 rfl (mm_heads gr _ sv l _ hs.lend J5 hb _ hV) ?_ ?_
    · skip
      rintro v4_1 w4_1 ⟨hE, hP, hHl, hz⟩; replace hs := hs.regain hz; simp only [RdL, List.cons_append, List.nil_append] at hE hP hHl hs; obtain ⟨Ah, ch, rfl, -, -, -⟩ := row_slv hs (j := 2) rfl; rw [if_neg (fun h => h hE)] at hR; obtain ⟨a0, z0, rfl, hga, hgz⟩ := hgd hE; obtain ⟨H, hH⟩ : ∃ H, a0 ++ [z0] = H := ⟨_, rfl⟩; rw [hH] at hR hHl hs; rw [hH]; replace hs := hs.nil 77 2; refine V1 ?_; refine Z.only [2, 3, 4, 5] rfl ?_; refine V125 ?_; refine Z.l rfl rfl (by rfl) (Z.keepS hs) (Z.Yd.lenS rfl underlying191) ?_; refine V1 ?_; refine V492 ?_; refine V861 ?_; refine Z.loopk (ι := Nat × Nat × List (MpV × Nat) × Value) [2, 3, 4, 5, 18, 19] rfl (fun x => [(20, [], .int .i64 (x.1 : Int))]) (fun x wr => (x.1 ≤ H.length ∧ x.2.1 ≤ l.length ∧ x.2.2.1.length ≤ x.1 ∧ ptGo l (H.drop x.1) x.2.1 (plainQ x.2.2.1) = R) ∧ St w [] wr ((RdL gr 242 sv l (8 * x.2.1) ++ [Ent.row (.slice Ah H.length ch) 194 2 H.length (H.flatMap encH), Ent.row x.2.2.2 77 2 x.2.2.1.length (cellsQ x.2.2.1), Ent.blk g4 190 #[.pointer (some ⟨gr, 0, none⟩)], Ent.blk g3 31 #[.int .i64 0], Ent.blk g2 47 #[x.2.2.2]]) ++ rowsQ x.2.2.1)) (fun x => H.length - x.1) (0, P0, [], .slice none 0 0) J6 ⟨⟨Nat.zero_le _, hP, Nat.zero_le _, by simpa [plainQ] using hR⟩, (hs.sel [1, 2, 3, 0, 6, 4, 5] J12)⟩ ?_; clear hs; rintro ⟨i, p, qs, svo⟩ w6 ⟨⟨hi, hp, hqi, hgo⟩, hs⟩; refine V492 ?_
      (try dsimp only at hs)
      dsimp only at hi hp hqi hgo; replace hs := U4 hs; obtain ⟨Ao, co, rfl, -, -, -⟩ := row_slv hs (j := 3) rfl; refine V121 ?_; refine Z.only [2, 3, 4, 5, 18, 19, 20, 21] rfl ?_; refine V210 ?_; refine Z.cond rfl (fun hc6 => ?_) (fun hc6 => ?_)
      · (try simp at hc6)
        obtain ⟨h, hh⟩ : ∃ h, H[i]? = some h := ⟨_, List.getElem?_eq_getElem J5⟩; have hdr := drop_at hh; rw [hdr, ptGo] at hgo; obtain ⟨gh, ch', e9, -, -⟩ := row_form (j := 2) hs rfl J5
        cases e9
        have hone : ∀ u ∈ encH h, u.oneCell' = true := by simp [encH, Value.oneCell']
        refine V454 ?_; refine Z.l rfl rfl (by rfl) (Z.keepS hs) (Z.Yd.elem rfl rfl underlying191 sizeOf194 (fun hG => ⟨J2, J2⟩)) ?_; refine Z.l rfl rfl (by rfl) (Z.keepS hs) (Z.Yd.loadA _ rfl isAgg194 (fun _ => Z.cellsRf J0 encH_len hh rfl) (by exact sizeOf194)) ?_; refine V2 ?_; refine Z.ZO.alloc rfl rfl (by rfl) zeroValue194 rfl hs ?_; clear hs; intro g7 w7 hs; refine V456 ?_; clear hs; intro ws hs; replace hs := U1 hs; replace hs := U2 hs; refine V857 ?_; refine Z.only [2, 3, 4, 5, 6, 7, 18, 19, 20] rfl ?_; refine V858 ?_; refine V48 ?_; refine V1 ?_; refine Z.only [2, 3, 4, 5, 6, 7, 18, 19, 20, 27] rfl ?_; refine V6 ?_; refine Z.cond rfl (fun hc8 => ?_) (fun hc8 => ?_)
        · (try simp at hc8)
          refine Z.drawP [Ent.blk g4 190 #[.pointer (some ⟨gr, 0, none⟩)], Ent.blk g2 47 #[.slice Ao qs.length co], Ent.blk g7 194 (encH h).toArray] (fun j => j != 11) mixed hs ?_; clear hs; intro wd9 hs; refine Z.tXD 0 [0, 10, 11] (fun _ _ _ _ h => Z.leaves_put J3 h) rfl rfl rfl (by rfl) J3 (Jk hs) J47 ?_; refine Z.tXD 1 [1, 8, 9, 10, 11] (fun _ _ _ _ h => Z.leaves_put J3 h) rfl rfl rfl (by rfl) J3 (Jk hs) J28 ?_; refine Z.tXD 2 [2, 8, 9, 10, 11] (fun _ _ _ _ h => Z.leaves_put J3 h) rfl rfl rfl (by rfl) J3 (Jk hs) (Z.Yd.loadA _ rfl isAgg194 (fun _ => Z.cellsB (cs := encH h) J0) (by exact sizeOf194)) ?_; refine Z.tXD 3 [3, 7, 8, 9, 10, 11] (fun _ _ _ _ h => Z.leaves_put J3 h) rfl rfl rfl (by rfl) J3 (Jk hs) (Z.Yd.pure rfl) ?_; refine Z.tXD 4 [4, 5, 6, 7, 8, 9, 10, 11] (fun _ _ _ _ h => Z.leaves_put J3 h) rfl rfl rfl (by rfl) J3 (Jk hs) (Z.Yd.pure rfl) ?_; refine Z.tXD 5 [5, 6, 7, 8, 9, 10, 11] (fun _ _ _ _ h => Z.leaves_put J3 h) rfl rfl rfl (by rfl) J3 (Jk hs) (Z.Yd.lenS rfl underlying191) ?_; refine Z.tXD 6 [6, 7, 8, 9, 10, 11] (fun _ _ _ _ h => Z.leaves_put J3 h) rfl rfl rfl (by rfl) J3 (Jk hs) (Z.Yd.sub rfl rfl (fun hG => Z.wi64 J2)) ?_; refine Z.tXD 7 [7, 8, 9, 10, 11] (fun _ _ _ _ h => Z.leaves_put J3 h) rfl rfl rfl (by rfl) J3 (Jk hs) (Z.Yd.pure rfl) ?_; have ela : ((i : Int) == (H.length : Int) - 1) = decide (i + 1 = H.length) := by rw [Bool.eq_iff_iff]; simp; omega
          obtain ⟨k, hk⟩ := ptN_nat hp hga hgz (by rw [hH]; exact hh) hc8 (la := ((i : Int) == (H.length : Int) - 1)) (by rw [ela, hH]); rw [if_neg hc8, drop_emp J5, ← ela, hk, Int.toNat_natCast] at hgo; replace hs : St w [] _ (RdL gr 242 sv l (8 * p) ++ (_ :: _ :: _ :: _ :: _ :: _ :: rowsQ qs)) := hs.selT (L1 := [_, _, _, _, _, _, _, _]) [1, 2, 3, 4, 5, 6, 7, 0] J12; refine Z.tnP 8 rfl rfl J3 rfl trivial ?_; refine Z.ZO.callB rfl rfl (by rfl) rfl rfl call112 rfl (mm_part gr _ sv l p h.1 h.2 _ k _ hs.lend J5 hb hp hk) ?_ ?_
          · skip
            rintro v9_8 w9_8 ⟨⟨hpk, hpl⟩, B, cB, rfl, hz⟩; replace hs := hs.regain hz; replace hs := U4 hs; rw [if_neg (fun hh => hh hpk), if_neg (fun hh => hh.2 (hpl hh.1))] at hgo; obtain ⟨D, hD⟩ : ∃ D, (l.drop p).take k = D := ⟨_, rfl⟩; have hlk : D.length = k := by rw [← hD, List.length_take, List.length_drop]; omega
            rw [hD] at hgo hs; subst hlk; refine Z.tkP (Dn := fun j => j != 11) (i := 8) (fun _ => (Jk hs)) ?_; refine Z.tnP 9 rfl rfl J3 rfl trivial ?_; refine V58 ?_; clear hs; intro g37 w37 hs; refine Z.tkP (Dn := fun j => j != 11) (i := 9) (fun _ => (Jk hs)) ?_; refine Z.tnP 10 rfl rfl J3 rfl trivial ?_; refine V75 ?_; clear hs; intro g38 cap38 w38 hs; replace hs := U3 hs; refine Z.tkP (Dn := fun j => j != 11) (i := 10) (fun _ => (Jk hs)) ?_; refine Z.tnP 11 rfl rfl J3 rfl trivial ?_; refine V170 ?_; clear hs; intro ws hs; replace hs := U1 hs; refine Z.tkP (Dn := fun j => j != 11) (i := 11) (fun h => absurd h J12) ?_; refine Z.tdP (by rfl) J3 ?_; refine V492 ?_; refine V332 ?_; refine V492 ?_; refine V6 ?_; have e1 : (qs ++ [((⟨h.1, B, D.length, D⟩ : MpV), cB)]).length = qs.length + 1 := by simp
            have e2 : cellsQ (qs ++ [((⟨h.1, B, D.length, D⟩ : MpV), cB)]) = cellsQ qs ++ [.int .i64 h.1, .slice B D.length D.length] := by simp [cellsQ, MpV.cells]
            have e3 : rowsQ (qs ++ [((⟨h.1, B, D.length, D⟩ : MpV), cB)]) = rowsQ qs ++ [Ent.row (.slice B D.length cB) 5 1 D.length (ints .u8 D)] := by simp [rowsQ]
            have e4 : plainQ (qs ++ [((⟨h.1, B, D.length, D⟩ : MpV), cB)]) = plainQ qs ++ [(h.1, D)] := by simp [plainQ, MpV.plain]
            have hs2 := St.tailU (A := [_, _, _, _, _, _, _]) (Q := rowsQ qs) (hs.selT (L1 := [_, _, _, _, _, _, _, _, _]) [0, 1, 3, 4, 5, 6, 7, 2] J12); rw [← e4] at hgo; rw [← e1, ← e2, ← e3] at hs2; exact Z.again (i + 1, p + D.length, qs ++ [((⟨h.1, B, D.length, D⟩ : MpV), cB)], _) J14 ⟨⟨by simp only; omega, hpk, by simp only [e1]; omega, hgo⟩, hs2⟩ J22
          skip
          rintro c9_8 w9_8 ⟨hbad, rfl, a', hz⟩; replace hs := (hs.regain hz).sel [5, 6] J12; have hgo' : R = (if p + k ≤ l.length then 9 else 5, []) := by
            rw [← hgo]
            by_cases hpk : p + k ≤ l.length
            · rw [if_neg (fun hh => hh hpk), if_pos (hbad.resolve_left (fun hh => hh hpk)), if_pos hpk]
            rw [if_pos hpk, if_neg hpk]
          subst hgo'
          repeat (first | refine Z.pthen ?_ | refine Z.pblock ?_ | refine Z.pscope ?_)
          refine V161 ?_; rintro vD wD ⟨rfl, hz⟩; replace hs := hs.regain (L2 := []) hz; refine ⟨[_, _], J61, ?_⟩; exact ⟨_, rfl, ParR.fail (Jn hs)⟩
        (try simp at hc8)
        refine V392 ?_; refine V492 ?_; refine V6 ?_; rw [if_pos hc8] at hgo; exact Z.again (i + 1, p, qs, .slice Ao qs.length co) J14 ⟨⟨by simp only; omega, hp, by simp only; omega, hgo⟩, hs.tl⟩ J22
      (try simp at hc6)
      refine V181 ?_; refine V256 ?_; refine V27 ?_; refine V62 ?_; refine Z.ZO.callB rfl rfl (by rfl) rfl rfl call109 rfl (mm_must_any _ 9 _) ?_ ?_
      · skip
        rintro v11_3 w11_3 ⟨hm11, rfl, hy⟩; replace hs := U0 (hs.call hy); clear hy; have hqp : 0 < qs.length := by simp at hm11; omega
        rw [List.drop_of_length_le J5, ptGo, if_neg (by intro hh; rw [plainQ, List.map_eq_nil_iff] at hh; subst hh; simp at hqp)] at hgo; subst hgo; refine V857 ?_; refine V72 ?_; refine V858 ?_; refine V256 ?_; refine V2 ?_; refine V170 ?_; clear hs; intro ws hs; replace hs := U1 hs; refine V451 ?_; clear hs; intro ws hs; replace hs := U1 hs; refine V857 ?_; refine V124 ?_; refine Z.outDr call107 (mm_caught_ret g3 _ _ _) ?_; rintro vD wD ⟨rfl, hy⟩; replace hs := hs.call hy; refine ⟨[_, _], J61, ?_⟩; exact ⟨_, rfl, qs, _, rfl, rfl, hs.selT (L1 := [_, _, _, _, _, _, _]) [3] J12⟩
      skip
      rintro c11_3 w11_3 ⟨hm11, rfl, hy⟩; replace hs := U0 (hs.call hy); clear hy; rw [List.drop_of_length_le J5, ptGo, if_pos (by rw [plainQ, List.map_eq_nil_iff]; simpa using hm11)] at hgo; subst hgo; replace hs := hs.sel [5, 6] J12
      repeat (first | refine Z.pthen ?_ | refine Z.pblock ?_ | refine Z.pscope ?_)
      refine V161 ?_; rintro vD wD ⟨rfl, hz⟩; replace hs := hs.regain (L2 := []) hz; refine ⟨[_, _], J61, ?_⟩; exact ⟨_, rfl, ParR.fail (Jn hs)⟩
    skip
    rintro c4_1 w4_1 ⟨hE, rfl, a', hz⟩; simp only at hE; rw [if_pos hE] at hR; subst hR; replace hs := (hs.regain hz).sel [2, 3] J12
    repeat (first | refine Z.pthen ?_ | refine Z.pblock ?_ | refine Z.pscope ?_)
    refine V161 ?_; rintro vD wD ⟨rfl, hz⟩; replace hs := hs.regain (L2 := []) hz; refine ⟨[_, _], J61, ?_⟩; exact ⟨_, rfl, ParR.fail (Jn hs)⟩
  skip
  rintro c2_3 w2_3 ⟨hm2, rfl, hy⟩; replace hs := U0 (hs.call hy); clear hy; rw [if_pos (by simp at hm2; omega)] at hR; subst hR; replace hs := hs.sel [0, 1] J12
  repeat (first | refine Z.pthen ?_ | refine Z.pblock ?_ | refine Z.pscope ?_)
  refine V161 ?_; rintro vD wD ⟨rfl, hz⟩; replace hs := hs.regain (L2 := []) hz; refine ⟨[_, _], J61, ?_⟩; exact ⟨_, rfl, ParR.fail (Jn hs)⟩

theorem mp_at {ps : List MpV} {i : Nat} {q : MpV} (h : ps[i]? = some q) : (ps.map MpV.plain)[i]? = some q.plain := by rw [List.getElem?_map, h]; rfl
theorem mp_ne {l k : List Prt} {i : Nat} {x y : Prt} (hx : l[i]? = some x) (hy : k[i]? = some y) (h : x ≠ y) : l ≠ k := fun e => by
  subst e; rw [hx] at hy; exact h (Option.some.inj hy)
theorem mr_Same (A B : Option Addr) (n c m d : Nat) (ps ks : List MpV) (w : World) (hx : Sl w A (ps.flatMap MpV.cells)) (hy : Sl w B (ks.flatMap MpV.cells)) (hl : ps.length = n) (hk : ks.length = m) (hn : n ≤ 9223372036854775807)
    (hB : ∀ q ∈ ps, Sl w q.B (ints .u8 q.l)) (hC : ∀ q ∈ ks, Sl w q.B (ints .u8 q.l)) (hb : ∀ q ∈ ps, ∀ x ∈ q.l, 0 ≤ x ∧ x < 256) (hc : ∀ q ∈ ks, ∀ x ∈ q.l, 0 ≤ x ∧ x < 256) :
    Calls Tryz.prog 24 #[.slice A n c, .slice B m d] w (Ret fun v w' => v = .bool (decide (ps.map MpV.plain = ks.map MpV.plain)) ∧ St w [] w' []) := by
  have hs := St.start w; refine Z.enter func24 rfl ntmps24 rfl rfl ?_; refine V394 ?_; refine V125 ?_; refine V27 ?_; refine V859 ?_; refine V275 ?_; refine Z.only [0, 1, 10] rfl ?_; refine V6 ?_; refine Z.cond rfl (fun hc1 => ?_) (fun hc1 => ?_)
  · (try simp at hc1)
    refine V189 ?_
    repeat (first | refine Z.rthen ?_ | refine Z.rblock ?_ | refine Z.rscope ?_)
    refine V199 ?_; refine ⟨_, rfl, ?_, Jn hs⟩; exact congrArg Value.bool (decide_eq_false (fun h => by have hlk := congrArg List.length h; simp at hlk; omega)).symm
  (try simp at hc1)
  refine V463 ?_; refine Z.only [0, 1, 5] rfl ?_; refine V861 ?_; refine Z.loopk (ι := Nat) [0, 1] rfl (fun i => [(5, [], .int .i64 (i : Int))]) (fun i wr => (i ≤ n ∧ n = m ∧ (ps.map MpV.plain).take i = (ks.map MpV.plain).take i) ∧ St w [] wr []) (fun i => n - i) 0 J6 ⟨⟨by omega, by first | omega | simp_all, rfl⟩, hs⟩ ?_; clear hs; rintro i w4 ⟨⟨hi, hnm, ht⟩, hs⟩; refine Z.only [0, 1, 5] rfl ?_; refine V217 ?_; refine V275 ?_; refine Z.only [0, 1, 5, 14] rfl ?_; refine V6 ?_; refine Z.cond rfl (fun hc4 => ?_) (fun hc4 => ?_)
  · (try simp at hc4)
    obtain ⟨b, off, rfl, hb0, hx2⟩ := Z.Sl.some hx J69; obtain ⟨b', off', rfl, hb0', hy2⟩ := Z.Sl.some hy J69; obtain ⟨x, hxi⟩ : ∃ f, ps[i]? = some f := ⟨_, List.getElem?_eq_getElem J5⟩; obtain ⟨y, hyi⟩ : ∃ f, ks[i]? = some f := ⟨_, List.getElem?_eq_getElem J5⟩; have hxm := List.mem_of_getElem? hxi; have hym := List.mem_of_getElem? hyi; have hse := Z.str_eq (hb x hxm) (hc y hym); refine V499 ?_; clear hs; intro wd6 hs; refine V557 ?_; refine Z.t 2 rfl rfl rfl (by rfl) J3 (Jk hs) (Z.Yd.elem rfl rfl underlying47 sizeOf77 (fun hG => ⟨J2, J2⟩)) ?_; refine V495 ?_; refine Z.t 4 rfl rfl rfl (by rfl) J3 (Jk hs) (Z.Yd.load rfl isAgg3 (fun _ => Z.cellXf hx2.sx mp_len hxi rfl)) ?_; refine Z.tb [5, 6] J3 rfl (Jk hs) rfl ?_; refine Z.t 7 rfl rfl rfl (by rfl) J3 (Jk hs) (Z.Yd.elem rfl rfl underlying47 sizeOf77 (fun hG => ⟨J2, J2⟩)) ?_; refine Z.t 8 rfl rfl rfl (by rfl) J3 (Jk hs) (Z.Yd.fieldA (m := 0) rfl J3) ?_; refine Z.t 9 rfl rfl rfl (by rfl) J3 (Jk hs) (Z.Yd.load rfl isAgg3 (fun _ => Z.cellXf hy2.sx mp_len hyi rfl)) ?_; refine Z.tb [10, 11, 12, 13] J3 rfl (Jk hs) rfl ?_; refine Z.t 14 rfl rfl rfl (by rfl) J3 (Jk hs) (Z.Yd.elem rfl rfl underlying47 sizeOf77 (fun hG => ⟨J2, J2⟩)) ?_; refine Z.t 15 rfl rfl rfl (by rfl) J3 (Jk hs) (Z.Yd.fieldA (m := 1) rfl J3) ?_; refine Z.t 16 rfl rfl rfl (by rfl) J3 (Jk hs) (Z.Yd.load rfl isAgg48 (fun _ => Z.cellXf hx2.sx mp_len hxi rfl)) ?_
    refine Z.t 17 rfl rfl rfl (by rfl) J3 (Jk hs) (Z.Yd.b2s rfl underlying48 underlying5 underlying9 rfl (fun W hW => by obtain ⟨R, hR, _⟩ := hW; exact (hB x hxm).st hR)) ?_; refine Z.tb [18, 19] J3 rfl (Jk hs) rfl ?_; refine Z.t 20 rfl rfl rfl (by rfl) J3 (Jk hs) (Z.Yd.elem rfl rfl underlying47 sizeOf77 (fun hG => ⟨J2, J2⟩)) ?_; refine Z.t 21 rfl rfl rfl (by rfl) J3 (Jk hs) (Z.Yd.fieldA (m := 1) rfl J3) ?_; refine Z.t 22 rfl rfl rfl (by rfl) J3 (Jk hs) (Z.Yd.load rfl isAgg48 (fun _ => Z.cellXf hy2.sx mp_len hyi rfl)) ?_; refine Z.t 23 rfl rfl rfl (by rfl) J3 (Jk hs) (Z.Yd.b2s rfl underlying48 underlying5 underlying9 rfl (fun W hW => by obtain ⟨R, hR, _⟩ := hW; exact (hC y hym).st hR)) ?_; refine Z.t 24 rfl rfl rfl (by rfl) J3 (Jk hs) (Z.Yd.bin rfl rfl J79) ?_; refine Z.tb [25] J3 rfl (Jk hs) rfl ?_; refine V40 ?_; refine Z.only [0, 1, 5, 42] rfl ?_; refine V6 ?_; refine Z.cond rfl (fun hc6 => ?_) (fun hc6 => ?_)
    · (try simp at hc6)
      refine V189 ?_
      repeat (first | refine Z.rthen ?_ | refine Z.rblock ?_ | refine Z.rscope ?_)
      refine V199 ?_; refine ⟨_, rfl, ?_, Jn hs⟩; exact congrArg Value.bool (decide_eq_false (fun h => mp_ne (mp_at hxi) (mp_at hyi) (fun e => hc6.elim (fun k => k (congrArg Prod.fst e)) (fun k => k (congrArg Prod.snd e))) h)).symm
    (try simp at hc6)
    refine V331 ?_; refine Z.only [0, 1, 5] rfl ?_; refine V6 ?_; exact Z.again (i + 1) J13 ⟨⟨by omega, hnm, by rw [plain_take hxi, plain_take hyi, ht, show x.plain = y.plain from Prod.ext hc6.1 hc6.2]⟩, hs⟩ J5
  (try simp at hc4)
  refine V305 ?_; refine ⟨_, rfl, ?_, Jn hs⟩; exact congrArg Value.bool (decide_eq_true (by rwa [List.take_of_length_le J45, List.take_of_length_le J45] at ht)).symm

theorem mb_size (size : Int) (A : Option Addr) (n c : Nat) (w : World) (h : ¬ (1 ≤ size ∧ size ≤ 16384)) :
    Calls Tryz.prog 68 #[.int .i64 size, .slice A n c] w (Ret fun v w' => v = .tuple #[.slice none 0 0, .int .i64 2] ∧ St w [] w' []) := by
  have hs := St.start w; refine V338 ?_; clear hs; intro g4 w4 hs; refine V35 ?_; clear hs; intro g5 w5 hs; refine V157 ?_; refine V858 ?_; refine V145 ?_; refine V157 ?_; refine V858 ?_; refine V689 ?_; refine Z.ZO.callP rfl rfl rfl call109 rfl (mm_must_bad _ 2 _ J45) ?_; rintro c2_6 w2_6 ⟨rfl, hy⟩; replace hs := U0 (hs.call hy); clear hy; replace hs := hs.sel [0, 1] J12
  repeat (first | refine Z.pthen ?_ | refine Z.pblock ?_ | refine Z.pscope ?_)
  refine V255 ?_; rintro vD wD ⟨rfl, hz⟩; replace hs := hs.regain (L2 := []) hz; refine ⟨[_, _], J27, ?_⟩; exact ⟨_, rfl, rfl, Jn hs⟩
theorem mb_need (size : Int) (A : Option Addr) (n c : Nat) (ps : List MpV) (w : World) (hx : Sl w A (ps.flatMap MpV.cells)) (hl : ps.length = n) (hn : n ≤ 100) (hf : ∀ q ∈ ps, q.l.length ≤ 100000) (h : 1 ≤ size ∧ size ≤ 16384) (hno : ¬ okN (ps.map MpV.plain)) :
    Calls Tryz.prog 68 #[.int .i64 size, .slice A n c] w (Ret fun v w' => v = .tuple #[.slice none 0 0, .int .i64 2] ∧ St w [] w' []) := by
  have hs := St.start w; have hnv : needV (ps.map MpV.plain) = (0, 2) := if_neg hno; refine V338 ?_; clear hs; intro g4 w4 hs; refine V35 ?_; clear hs; intro g5 w5 hs; refine V362 ?_; rintro v2_6 w2_6 ⟨rfl, hy⟩; replace hs := U0 (hs.call hy); clear hy; refine V157 ?_; refine V858 ?_; refine V298 ?_; rintro v3_2 w3_2 ⟨rfl, hy⟩; replace hs := U0 (hs.call hy); clear hy; rw [hnv]; refine V527 ?_; refine Z.ZO.callP rfl rfl rfl call122 rfl (mm_goti_bad _ 2 _ J12) ?_; rintro c3_5 w3_5 ⟨rfl, hy⟩; replace hs := U0 (hs.call hy); clear hy; replace hs := hs.sel [0, 1] J12
  repeat (first | refine Z.pthen ?_ | refine Z.pblock ?_ | refine Z.pscope ?_)
  refine V255 ?_; rintro vD wD ⟨rfl, hz⟩; replace hs := hs.regain (L2 := []) hz; refine ⟨[_, _], J27, ?_⟩; exact ⟨_, rfl, rfl, Jn hs⟩
theorem mb_long (size : Int) (A : Option Addr) (n c : Nat) (ps : List MpV) (w : World) (hx : Sl w A (ps.flatMap MpV.cells)) (hl : ps.length = n) (hn : n ≤ 100) (hf : ∀ q ∈ ps, q.l.length ≤ 100000) (h : 1 ≤ size ∧ size ≤ 16384) (hno : okN (ps.map MpV.plain)) (hd : size - needP (ps.map MpV.plain) < 0) :
    Calls Tryz.prog 68 #[.int .i64 size, .slice A n c] w (Ret fun v w' => v = .tuple #[.slice none 0 0, .int .i64 4] ∧ St w [] w' []) := by
  have hs := St.start w; have hbd := totP_bd hf; have hnt := need_tot (ps.map MpV.plain); have hnv : needV (ps.map MpV.plain) = (needP (ps.map MpV.plain), 0) := if_pos hno; refine V338 ?_; clear hs; intro g4 w4 hs; refine V35 ?_; clear hs; intro g5 w5 hs; refine V362 ?_; rintro v2_6 w2_6 ⟨rfl, hy⟩; replace hs := U0 (hs.call hy); clear hy; refine V157 ?_; refine V858 ?_; refine V298 ?_; rintro v3_2 w3_2 ⟨rfl, hy⟩; replace hs := U0 (hs.call hy); clear hy; rw [hnv]; refine V527 ?_; refine Z.ZO.call rfl rfl (by rfl) rfl rfl call122 rfl (mm_goti_ok _ _) ?_; rintro v3_5 w3_5 ⟨rfl, hy⟩; replace hs := U0 (hs.call hy); clear hy; refine V395 ?_; refine Z.only [0, 1, 4, 5, 6] rfl ?_; refine V541 ?_; refine Z.ZO.callP rfl rfl rfl call109 rfl (mm_must_bad _ 4 _ J45) ?_; rintro c4_2 w4_2 ⟨rfl, hy⟩; replace hs := U0 (hs.call hy); clear hy; replace hs := hs.sel [0, 1] J12
  repeat (first | refine Z.pthen ?_ | refine Z.pblock ?_ | refine Z.pscope ?_)
  refine V255 ?_; rintro vD wD ⟨rfl, hz⟩; replace hs := hs.regain (L2 := []) hz; refine ⟨[_, _], J27, ?_⟩; exact ⟨_, rfl, rfl, Jn hs⟩

theorem datR_mem {ps : List MpV} (h : ∀ q ∈ ps, ∀ x ∈ q.l, 0 ≤ x ∧ x < 256) : ∀ x ∈ datR (ps.map MpV.plain), 0 ≤ x ∧ x < 256 := by
  intro x hx; obtain ⟨p, hp, hx⟩ := List.mem_flatMap.1 hx; obtain ⟨q, hq, rfl⟩ := List.mem_map.1 hp; exact h q hq x hx
theorem datR_take (r : List Prt) (i : Nat) : (datR (r.take i)).length ≤ (datR r).length := by
  have e : datR r = datR (r.take i) ++ datR (r.drop i) := by unfold datR; rw [← List.flatMap_append, List.take_append_drop]
  rw [e, List.length_append]
  omega
theorem mb_main (size : Int) (A : Option Addr) (n c : Nat) (ps : List MpV) (w : World) (hx : Sl w A (ps.flatMap MpV.cells)) (hl : ps.length = n) (hn : n ≤ 100) (hf : ∀ q ∈ ps, q.l.length ≤ 100000) (hB : ∀ q ∈ ps, Sl w q.B (ints .u8 q.l)) (hby : ∀ q ∈ ps, ∀ x ∈ q.l, 0 ≤ x ∧ x < 256)
    (h : 1 ≤ size ∧ size ≤ 16384) (hno : okN (ps.map MpV.plain)) (d f M : Nat) (tr : Bool) (hd : size - needP (ps.map MpV.plain) = (d : Int)) (htr : decide ((2 : Int) < (d : Int)) = tr) (hf0 : tr = true → f = 0) (hf1 : tr = false → f = d)
    (hM : (M : Int) = size - ((headB (ps.map MpV.plain) f tr ++ datR (ps.map MpV.plain)).length : Int)) :
    Calls Tryz.prog 68 #[.int .i64 size, .slice A n c] w (Ret fun v w' => ∃ sv, v = .tuple #[sv, .int .i64 0] ∧ St w [] w' [Ent.row sv 5 1 ((headB (ps.map MpV.plain) f tr ++ datR (ps.map MpV.plain)).length + M) (ints .u8 (headB (ps.map MpV.plain) f tr ++ datR (ps.map MpV.plain)) ++ List.replicate M (Value.int .u8 0))]) := by
  have hs := St.start w; have hbd := totP_bd hf; have hnt := need_tot (ps.map MpV.plain); have hnv : needV (ps.map MpV.plain) = (needP (ps.map MpV.plain), 0) := if_pos hno; have hmem := vldP_mem hno.2; obtain ⟨H, hH⟩ : ∃ H, headB (ps.map MpV.plain) f tr = H := ⟨_, rfl⟩; rw [hH] at hM ⊢; have hHb : ∀ x ∈ H ++ datR (ps.map MpV.plain), 0 ≤ x ∧ x < 256 := by
    intro x hx
    rcases List.mem_append.1 hx with h1 | h1
    · rw [← hH] at h1; exact headB_bd hmem x h1
    exact datR_mem hby x h1
  have hHl : (H ++ datR (ps.map MpV.plain)).length ≤ 16384 := by omega
  rw [List.length_append] at hHl; have hfd : f ≤ d := by cases tr <;> simp_all
  refine V338 ?_; clear hs; intro g4 w4 hs; refine V35 ?_; clear hs; intro g5 w5 hs; refine V362 ?_; rintro v2_6 w2_6 ⟨rfl, hy⟩; replace hs := U0 (hs.call hy); clear hy; refine V157 ?_; refine V858 ?_; refine V298 ?_; rintro v3_2 w3_2 ⟨rfl, hy⟩; replace hs := U0 (hs.call hy); clear hy; rw [hnv]; refine V527 ?_; refine Z.ZO.call rfl rfl (by rfl) rfl rfl call122 rfl (mm_goti_ok _ _) ?_; rintro v3_5 w3_5 ⟨rfl, hy⟩; replace hs := U0 (hs.call hy); clear hy; refine V17 ?_; rw [hd]; refine V18 ?_; refine V857 ?_; refine Z.only [0, 1, 4, 5, 6] rfl ?_; refine V541 ?_; refine Z.ZO.call rfl rfl (by rfl) rfl rfl call109 rfl (mm_must_ok _ 4 _ J16) ?_; rintro v4_2 w4_2 ⟨rfl, hy⟩; replace hs := U0 (hs.call hy); clear hy; refine V857 ?_; refine Z.only [0, 1, 4, 5, 6] rfl ?_; refine V858 ?_; refine V2 ?_; refine Z.ZO.alloc rfl rfl (by rfl) zeroValue208 rfl hs ?_; clear hs; intro g7 w7 hs; refine V857 ?_; refine Z.only [0, 1, 4, 5, 6, 7] rfl ?_; refine V858 ?_; replace hs : St w [] _ (WrL g7 208 (.slice none 0 0) (unb []) ++ [Ent.blk g5 31 #[.int .i64 0], Ent.blk g4 48 #[.slice none 0 0]]) := WrL_start hs; refine V18 ?_; refine V1 ?_; refine Z.only [0, 1, 4, 5, 6, 7, 8] rfl ?_; refine V858 ?_; refine V11 ?_; rw [htr]; refine V18 ?_; refine V857 ?_; refine Z.only [0, 1, 4, 5, 6, 7, 8, 9] rfl ?_; refine V84 ?_; refine Z.only [0, 1, 4, 5, 6, 7, 8, 9, 39] rfl ?_; refine V6 ?_
  refine Z.cutt (ι := Value) [0, 1, 4, 5, 7, 8, 9] rfl (fun _ => []) (fun sv wr => St w [] wr (WrL g7 208 sv (unb (List.replicate f 63)) ++ [Ent.blk g5 31 #[.int .i64 0], Ent.blk g4 48 #[.slice none 0 0]])) ?_ ?_
  · skip
    refine Z.cond rfl (fun hc8 => ?_) (fun hc8 => ?_)
    · (try simp at hc8)
      obtain rfl : f = d := hf1 J72; refine V151 ?_; refine V552 ?_; refine V861 ?_; refine Z.loopk (ι := Nat × Value) [0, 1, 4, 5, 7, 8, 9, 40] rfl (fun x => [(41, [], .int .i64 (x.1 : Int))]) (fun x wr => x.1 ≤ f ∧ St w [] wr (WrL g7 208 x.2 (unb (List.replicate x.1 63)) ++ [Ent.blk g5 31 #[.int .i64 0], Ent.blk g4 48 #[.slice none 0 0]])) (fun x => f - x.1) (0, .slice none 0 0) J6 ⟨Nat.zero_le _, hs⟩ ?_; clear hs; rintro ⟨i, sv⟩ w9 ⟨hi, hs⟩; refine V552 ?_
      (try dsimp only at hs)
      dsimp only at hi hs; refine V121 ?_; refine Z.only [0, 1, 4, 5, 7, 8, 9, 40, 41, 42] rfl ?_; refine V210 ?_; refine Z.cond rfl (fun hc10 => ?_) (fun hc10 => ?_)
      · (try simp at hc10)
        refine V150 ?_; refine V42 ?_; refine V62 ?_; refine Z.ZO.call rfl rfl (by rfl) rfl rfl call123 rfl (mm_headI g7 _ sv (List.replicate i 63) 31 true _ (hs.lend (L1 := WrL _ _ _ _)) J5 J45) ?_; rintro v11_1 w11_1 ⟨sv1, rfl, hz⟩; replace hs := hs.regain hz; refine V857 ?_; refine V552 ?_; refine V332 ?_; refine V552 ?_; refine V6 ?_; exact Z.again (i + 1, sv1) J77 ⟨by simp only; omega, by simp only; rw [List.replicate_succ']; exact hs⟩ J22
      (try simp at hc10)
      refine V10 ?_; refine V6 ?_
      first | exact Z.meet _ J14 hs | (obtain rfl : i = f := J5; exact Z.meet _ J14 hs)
    (try simp at hc8)
    obtain rfl : f = 0 := hf0 J72; refine V361 ?_
    first | exact Z.meet _ J14 hs | (obtain rfl : i = f := J5; exact Z.meet _ J14 hs)
  clear hs; rintro sv w8 hs; refine Z.only [0, 1, 4, 5, 7, 8, 9] rfl ?_; refine V514 ?_; refine V275 ?_; refine V249 ?_; refine V861 ?_; refine Z.loopk (ι := Nat × Value × List Int) [0, 1, 4, 5, 7, 8, 9, 46, 47] rfl (fun x => [(48, [], .int .i64 (x.1 : Int))]) (fun x wr => (x.1 ≤ n ∧ x.2.2 ++ (hdsR ((ps.map MpV.plain).drop x.1) tr ++ if tr then [31] else []) = H) ∧ St w [] wr (WrL g7 208 x.2.1 (unb x.2.2) ++ [Ent.blk g5 31 #[.int .i64 0], Ent.blk g4 48 #[.slice none 0 0]])) (fun x => n - x.1) (0, sv, List.replicate f 63) J6 ⟨⟨Nat.zero_le _, by rw [← hH]; simp [headB]⟩, hs⟩ ?_; clear hs; rintro ⟨k, sv, acc⟩ w14 ⟨⟨hk, hacc⟩, hs⟩; refine V249 ?_
  (try dsimp only at hs)
  dsimp only at hk hacc hs; have hal : acc.length ≤ 16384 := by
    have := congrArg List.length hacc; rw [List.length_append] at this
    omega
  refine V121 ?_; refine Z.only [0, 1, 4, 5, 7, 8, 9, 46, 47, 48, 49] rfl ?_; refine V210 ?_; refine Z.cond rfl (fun hc14 => ?_) (fun hc14 => ?_)
  · (try simp at hc14)
    obtain ⟨b, off, rfl, hb0, hx2⟩ := Z.Sl.some hx J69; obtain ⟨q, hqi⟩ : ∃ q, ps[k]? = some q := ⟨_, List.getElem?_eq_getElem J5⟩; have hqm := List.mem_of_getElem? hqi; have hone := mp_one q; obtain ⟨⟨q1, q2⟩, q3⟩ := hmem q.plain (List.mem_map_of_mem hqm); have e1 : q.plain.1 = q.lc := rfl; have e2 : q.plain.2 = q.l := rfl; rw [e1] at q1 q2; rw [e2] at q3; rw [plain_at hqi, hdsR_cons, e1, e2, drop_empty hl J5] at hacc; obtain ⟨lb1, lb2⟩ := lenF_bd q3; have hlnF := lnF_ok q3; have er2 : ∀ X, resA (unb X) (lnF q.l.length) = unb (X ++ lenF q.l.length) := fun X => by
      unfold resA; rw [if_pos hlnF.2.1, hlnF.2.2, unb_appM]
    have hrest1 : ∀ mo : Bool, mo = !(decide ((k : Int) = (n : Int) - 1) && !tr) → (mo = true ∧ sduB q.lc) → acc ++ [q.lc + if mo = true then 32 else 0] ++ lenF q.l.length ++ (hdsR ((ps.map MpV.plain).drop (k + 1)) tr ++ if tr then [31] else []) = H := by
      intro mo hm hh; rw [← hacc]
      cases hb : (decide ((k : Int) = (n : Int) - 1) && !tr) with
      | true => rw [hb, hh.1] at hm; cases hm
      | false => rw [hh.1]; simp [hh.2]
    have hrest2 : ∀ mo : Bool, mo = !(decide ((k : Int) = (n : Int) - 1) && !tr) → ¬ (mo = true ∧ sduB q.lc) → acc ++ [q.lc + if mo = true then 32 else 0] ++ (hdsR ((ps.map MpV.plain).drop (k + 1)) tr ++ if tr then [31] else []) = H := by
      intro mo hm hh; rw [← hacc]
      cases hb : (decide ((k : Int) = (n : Int) - 1) && !tr) with
      | true =>
        rw [hb] at hm; subst hm; simp
      | false =>
        rw [hb] at hm; subst hm; have hns : ¬ sduB q.lc := fun h => hh ⟨rfl, h⟩
        simp [hns]
    have hmT : tr = true → true = !(decide ((k : Int) = (n : Int) - 1) && !tr) := fun h => by rw [h]; simp
    have hmF : tr = false → decide ((k : Int) < (n : Int) - 1) = !(decide ((k : Int) = (n : Int) - 1) && !tr) := fun h => by
      rw [h, Bool.eq_iff_iff]; simp
      omega
    refine V454 ?_; refine V103 ?_; refine V274 ?_; clear hs; intro g11 w11 hs; refine V456 ?_; clear hs; intro ws hs; replace hs := U1 hs; replace hs := U2 hs; refine V857 ?_; refine Z.only [0, 1, 4, 5, 7, 8, 9, 10, 11, 46, 47, 48] rfl ?_; refine V858 ?_; refine V11 ?_; refine Z.split (s := 54) rfl (fun hsp54 => ?_) (fun hsp54 => ?_)
    · refine Z.yes (s := 54) (b := true) rfl hsp54 rfl ?_
      (try simp at hsp54)
      refine V4 ?_; refine V299 ?_; refine V20 ?_; refine V1 ?_; refine V440 ?_; refine V303 ?_; refine V3 ?_; refine V207 ?_; refine V859 ?_; replace hs : St w [] _ (WrL g7 208 sv (unb acc) ++ [_, _, _]) := hs.rot (L1 := [_]); refine V2 ?_; refine V530 ?_; rintro v17_4 w17_4 ⟨sv1, rfl, hz⟩; replace hs := hs.regain hz; refine V857 ?_; refine V440 ?_; refine V858 ?_; replace hs := U11 hs; refine V582 ?_; refine V2 ?_; refine V356 ?_; rintro v18_1 w18_1 ⟨rfl, hy⟩; replace hs := U0 (hs.call hy); clear hy; refine V571 ?_; refine Z.cond rfl (fun hc19 => ?_) (fun hc19 => ?_)
      · (try simp at hc19)
        have hsd : sduB q.lc := ext_pos.1 (by first | exact hc19 | exact hc19.2); have hfm := fm_ext hsd; obtain ⟨fv, hfv⟩ : ∃ fv, fmOf q.l.length = fv := ⟨_, rfl⟩; refine V304 ?_; refine V80 ?_; rintro v20_0 w20_0 ⟨rfl, hy⟩; replace hs := U0 (hs.call hy); clear hy; refine V859 ?_; refine V471 ?_; refine V2 ?_; refine V106 ?_; clear hs; intro g14 w14 hs; refine V860 ?_; clear hs; intro ws hs; replace hs := U1 hs; replace hs := U2 hs; refine V857 ?_; refine V634 ?_; clear hs; intro g87 w87 hs; subst hfv; replace hs : St w [] _ (WrL g7 208 sv1 _ ++ [_, _, _]) := hs.sel [2, 3, 0, 4, 5] J12; refine V2 ?_; refine V321 ?_; rintro v21_11 w21_11 ⟨sv2, rfl, hz⟩; replace hs := hs.regain hz; rw [er2] at hs; refine V857 ?_; refine V249 ?_; refine V332 ?_; refine V249 ?_; refine V6 ?_; exact Z.again (k + 1, sv2, _) J40 ⟨⟨by simp only; omega, hrest1 _ (hmT hsp54) ⟨rfl, hsd⟩⟩, hs.sel [0, 1, 3, 4] J12⟩ J22
      (try simp at hc19)
      refine V392 ?_; refine V249 ?_; refine V6 ?_; exact Z.again (k + 1, sv1, _) J40 ⟨⟨by simp only; omega, hrest2 _ (hmT hsp54) (fun h => by have h9 := ext_pos.2 h.2; omega)⟩, hs.sel [0, 1, 2, 3] J12⟩ J22
    refine Z.yes (s := 54) (b := false) rfl hsp54 rfl ?_
    (try simp at hsp54)
    refine V11 ?_; refine V27 ?_; refine V17 ?_; refine V859 ?_; refine V553 ?_; refine V14 ?_; refine V1 ?_; refine V440 ?_; refine V303 ?_; refine V3 ?_; refine V207 ?_; refine V859 ?_; replace hs : St w [] _ (WrL g7 208 sv (unb acc) ++ [_, _, _]) := hs.rot (L1 := [_]); refine V2 ?_; refine V530 ?_; rintro v17_4 w17_4 ⟨sv1, rfl, hz⟩; replace hs := hs.regain hz; refine V857 ?_; refine V440 ?_; refine V858 ?_; replace hs := U11 hs; refine V582 ?_; refine V2 ?_; refine V356 ?_; rintro v18_1 w18_1 ⟨rfl, hy⟩; replace hs := U0 (hs.call hy); clear hy; refine V571 ?_; refine Z.cond rfl (fun hc19 => ?_) (fun hc19 => ?_)
    · (try simp at hc19)
      have hsd : sduB q.lc := ext_pos.1 (by first | exact hc19 | exact hc19.2); have hfm := fm_ext hsd; obtain ⟨fv, hfv⟩ : ∃ fv, fmOf q.l.length = fv := ⟨_, rfl⟩; refine V304 ?_; refine V80 ?_; rintro v20_0 w20_0 ⟨rfl, hy⟩; replace hs := U0 (hs.call hy); clear hy; refine V859 ?_; refine V471 ?_; refine V2 ?_; refine V106 ?_; clear hs; intro g14 w14 hs; refine V860 ?_; clear hs; intro ws hs; replace hs := U1 hs; replace hs := U2 hs; refine V857 ?_; refine V634 ?_; clear hs; intro g87 w87 hs; subst hfv; replace hs : St w [] _ (WrL g7 208 sv1 _ ++ [_, _, _]) := hs.sel [2, 3, 0, 4, 5] J12; refine V2 ?_; refine V321 ?_; rintro v21_11 w21_11 ⟨sv2, rfl, hz⟩; replace hs := hs.regain hz; rw [er2] at hs; refine V857 ?_; refine V249 ?_; refine V332 ?_; refine V249 ?_; refine V6 ?_; exact Z.again (k + 1, sv2, _) J40 ⟨⟨by simp only; omega, hrest1 _ (hmF hsp54) ⟨decide_eq_true hc19.1, hsd⟩⟩, hs.sel [0, 1, 3, 4] J12⟩ J22
    (try simp at hc19)
    refine V392 ?_; refine V249 ?_; refine V6 ?_; exact Z.again (k + 1, sv1, _) J40 ⟨⟨by simp only; omega, hrest2 _ (hmF hsp54) (fun h => by have h9 := ext_pos.2 h.2; have h8 := of_decide_eq_true h.1; first | omega | (have h7 := hc19 h8; omega))⟩, hs.sel [0, 1, 2, 3] J12⟩ J22
  (try simp at hc14)
  refine V403 ?_; obtain rfl : k = n := by omega
  rw [List.drop_of_length_le J45] at hacc; simp only [hdsR, List.nil_append] at hacc; refine V18 ?_; refine V857 ?_; refine Z.only [0, 1, 4, 5, 7, 8, 90] rfl ?_; refine V6 ?_; refine Z.cutt (ι := Value) [0, 1, 4, 5, 7] rfl (fun _ => []) (fun sv wr => St w [] wr (WrL g7 208 sv (unb H) ++ [Ent.blk g5 31 #[.int .i64 0], Ent.blk g4 48 #[.slice none 0 0]])) ?_ ?_
  · skip
    refine Z.cond rfl (fun hc23 => ?_) (fun hc23 => ?_)
    · (try simp at hc23)
      rw [if_pos J72] at hacc; refine V42 ?_; refine V62 ?_; refine Z.ZO.call rfl rfl (by rfl) rfl rfl call123 rfl (mm_headI g7 _ sv acc 31 false _ (hs.lend (L1 := WrL _ _ _ _)) J5 J5) ?_; rintro v24_1 w24_1 ⟨sv1, rfl, hz⟩; replace hs := hs.regain hz; refine V857 ?_; refine Z.only [0, 1, 4, 5, 7] rfl ?_; refine V6 ?_; exact Z.meet _ J8 (by rw [← hacc]; simpa using hs)
    (try simp at hc23)
    rw [if_neg (by simp_all)] at hacc; refine V361 ?_; exact Z.meet _ J8 (by rw [← hacc]; simpa using hs)
  clear hs; rintro sv w23 hs; refine Z.only [0, 1, 4, 5, 7] rfl ?_; refine V514 ?_; refine V275 ?_; refine Z.only [0, 4, 5, 7, 93, 94, 95] rfl ?_; refine V861 ?_; refine Z.loopk (ι := Nat × Value) [0, 4, 5, 7, 93, 94] rfl (fun x => [(95, [], .int .i64 (x.1 : Int))]) (fun x wr => x.1 ≤ k ∧ St w [] wr (WrL g7 208 x.2 (unb (H ++ datR ((ps.map MpV.plain).take x.1))) ++ [Ent.blk g5 31 #[.int .i64 0], Ent.blk g4 48 #[.slice none 0 0]])) (fun x => k - x.1) (0, sv) J6 ⟨Nat.zero_le _, by simpa [datR] using hs⟩ ?_; clear hs; rintro ⟨i, sv⟩ w26 ⟨hi, hs⟩; refine Z.only [0, 4, 5, 7, 93, 94, 95] rfl ?_
  (try dsimp only at hs)
  dsimp only at hi hs; refine V121 ?_; refine Z.only [0, 4, 5, 7, 93, 94, 95, 96] rfl ?_; refine V210 ?_; refine Z.cond rfl (fun hc26 => ?_) (fun hc26 => ?_)
  · (try simp at hc26)
    obtain ⟨b, off, rfl, hb0, hx2⟩ := Z.Sl.some hx J69; obtain ⟨q, hqi⟩ : ∃ q, ps[i]? = some q := ⟨_, List.getElem?_eq_getElem J5⟩; have hqm := List.mem_of_getElem? hqi; have hone := mp_one q; have hql := (hmem q.plain (List.mem_map_of_mem hqm)).2; rw [show q.plain.2 = q.l from rfl] at hql; have htl := datR_take (ps.map MpV.plain) i; refine V583 ?_; clear hs; intro g16 w16 hs; refine V860 ?_; clear hs; intro ws hs; replace hs := U1 hs; replace hs := U2 hs; refine V857 ?_; refine Z.only [0, 4, 5, 7, 16, 93, 94, 95] rfl ?_; refine V300 ?_; refine V500 ?_; replace hs : St w [] _ (WrL g7 208 sv _ ++ [_, _, _]) := hs.rot (L1 := [_]); refine V2 ?_; refine Z.ZO.call rfl rfl (by rfl) rfl rfl call127 rfl (wputbytes_any g7 _ sv _ q.B _ q.c q.l _ (hs.lend (L1 := WrL _ _ _ _)) ((hB q hqm).sx.lent (L1 := WrL _ _ _ _) hs) rfl J5 (by rw [unb_length, List.length_append]; omega) (hby q hqm)) ?_; rintro v28_2 w28_2 ⟨sv1, rfl, hz⟩; replace hs := hs.regain hz; refine V857 ?_; refine Z.only [0, 4, 5, 7, 93, 94, 95] rfl ?_; refine V332 ?_; refine Z.only [0, 4, 5, 7, 93, 94, 95] rfl ?_; refine V6 ?_; have ed : unb (H ++ datR ((ps.map MpV.plain).take i)) ++ unb q.l = unb (H ++ datR ((ps.map MpV.plain).take (i + 1))) := by
      rw [plain_take hqi, datR_snoc, ← unb_appM, List.append_assoc]
      rfl
    rw [ed] at hs; exact Z.again (i + 1, sv1) J14 ⟨by simp only; omega, hs.sel [0, 1, 2, 3] J12⟩ J22
  (try simp at hc26)
  refine V181 ?_; obtain rfl : i = k := by omega
  rw [List.take_of_length_le J45] at hs; refine V2 ?_; refine Z.ZO.call rfl rfl (by rfl) rfl rfl call128 rfl (wbytes_any g7 _ sv _ _ (hs.lend (L1 := WrL _ _ _ _)) (by rw [unb_length, List.length_append]; omega)) ?_; rintro v30_0 w30_0 hz; replace hs := hs.regain hz; rw [pk_unb hHb] at hs; obtain ⟨Ao, co, rfl, hco, -, -⟩ := row_slv hs (j := 0) rfl; replace hs := U11 hs; refine V595 ?_; clear hs; intro ws hs; replace hs := U1 hs; refine V857 ?_; refine Z.only [0, 4, 5] rfl ?_; refine V858 ?_; refine V73 ?_; refine V859 ?_; refine V73 ?_; refine V29 ?_; refine V17 ?_; refine V2 ?_; refine Z.ZO.appendZ (m := M) (i0 := Tryz.t5) rfl rfl (by rfl) hs underlying48 underlying3 J3 rfl rfl rfl rfl rfl rfl rfl J1 J5 J5 ?_; clear hs; intro v109 w109 hs; replace hs := U5 hs; obtain ⟨Av, cv, rfl, -, -, -⟩ := row_slv hs (j := 0) rfl; refine V595 ?_; clear hs; intro ws hs; replace hs := U1 hs; refine V451 ?_; clear hs; intro ws hs; replace hs := U1 hs; refine V857 ?_; refine V257 ?_; refine Z.outDr call107 (mm_caught_ret g5 _ _ _) ?_; rintro vD wD ⟨rfl, hy⟩; replace hs := hs.call hy; refine ⟨[_, _], J27, ?_⟩; exact ⟨_, rfl, _, rfl, hs.sub ((List.nil_sublist _).cons_cons _)⟩
theorem mc_Build (size : Int) (A : Option Addr) (n c : Nat) (ps : List MpV) (w : World) (hx : Sl w A (ps.flatMap MpV.cells)) (hl : ps.length = n) (hn : n ≤ 100) (hf : ∀ q ∈ ps, q.l.length ≤ 100000) (hB : ∀ q ∈ ps, Sl w q.B (ints .u8 q.l)) (hby : ∀ q ∈ ps, ∀ x ∈ q.l, 0 ≤ x ∧ x < 256) :
    Calls Tryz.prog 68 #[.int .i64 size, .slice A n c] w (Ret fun v w' => ∃ sv, v = .tuple #[sv, .int .i64 (bldV size (ps.map MpV.plain)).2] ∧ St w [] w' [Ent.row sv 5 1 (bldV size (ps.map MpV.plain)).1.length (ints .u8 (bldV size (ps.map MpV.plain)).1)]) := by
  have nilr : ∀ (e : Int) (w' : World), St w [] w' [] → ∃ sv, (Value.tuple #[.slice none 0 0, .int .i64 e]) = .tuple #[sv, .int .i64 (([], e) : List Int × Int).2] ∧ St w [] w' [Ent.row sv 5 1 (([], e) : List Int × Int).1.length (ints .u8 (([], e) : List Int × Int).1)] := fun e w' h => ⟨_, rfl, h.nil _ 1⟩
  by_cases h : 1 ≤ size ∧ size ≤ 16384
  · by_cases hno : okN (ps.map MpV.plain)
    · by_cases hd : size - needP (ps.map MpV.plain) < 0
      · rw [bld_long ⟨h, hno⟩ hd]
        refine (mb_long size A n c ps w hx hl hn hf h hno hd).mono ?_; rintro e w' ⟨v, rfl, rfl, hs⟩; exact ⟨_, rfl, nilr 4 w' hs⟩
      obtain ⟨d, hd1⟩ : ∃ d : Nat, size - needP (ps.map MpV.plain) = (d : Int) := ⟨(size - needP (ps.map MpV.plain)).toNat, by omega⟩
      by_cases h2 : d ≤ 2
      · rw [bld_few ⟨h, hno⟩ hd1 h2]
        have hlen := headB_len_f (ps.map MpV.plain) d hno.1; refine (mb_main size A n c ps w hx hl hn hf hB hby h hno d d 0 false hd1 J45 (fun h => by cases h) (fun _ => rfl) J5).mono ?_; rintro e w' ⟨v, rfl, sv, rfl, hs⟩; refine ⟨_, rfl, sv, rfl, ?_⟩; rw [List.replicate_zero, List.append_nil, Nat.add_zero] at hs; simp only [join_few]; exact hs
      have hlen := headB_len_t (ps.map MpV.plain); have hnt := need_tot (ps.map MpV.plain); rw [bld_pad ⟨h, hno⟩ J5]; obtain ⟨a, ha⟩ : ∃ a : Nat, size - (totP (ps.map MpV.plain) + 1) = (a : Int) := ⟨(size - (totP (ps.map MpV.plain) + 1)).toNat, by omega⟩; rw [ha]; refine (mb_main size A n c ps w hx hl hn hf hB hby h hno d 0 a true hd1 J45 (fun _ => rfl) (fun h => by cases h) J5).mono ?_; rintro e w' ⟨v, rfl, sv, rfl, hs⟩; refine ⟨_, rfl, sv, rfl, ?_⟩; simp only [join_tr]; have e1 : (headB (ps.map MpV.plain) 0 true ++ datR (ps.map MpV.plain) ++ List.replicate a (0 : Int)).length = (headB (ps.map MpV.plain) 0 true ++ datR (ps.map MpV.plain)).length + a := by rw [List.length_append, List.length_replicate]
      have e2 : ints .u8 (headB (ps.map MpV.plain) 0 true ++ datR (ps.map MpV.plain) ++ List.replicate a (0 : Int)) = ints .u8 (headB (ps.map MpV.plain) 0 true ++ datR (ps.map MpV.plain)) ++ List.replicate a (Value.int .u8 0) := by simp [ints]
      rw [e1, e2]; exact hs
    rw [bld_arg (fun h => hno h.2)]; refine (mb_need size A n c ps w hx hl hn hf h hno).mono ?_; rintro e w' ⟨v, rfl, rfl, hs⟩; exact ⟨_, rfl, nilr 2 w' hs⟩
  rw [bld_arg (fun hh => h hh.1)]; refine (mb_size size A n c w h).mono ?_; rintro e w' ⟨v, rfl, rfl, hs⟩; exact ⟨_, rfl, nilr 2 w' hs⟩

def exS (B : Option Addr) : MpV := ⟨3, B, 2, [1, 2]⟩
theorem sl_nil23 {w : World} {A : Option Addr} : Sl w A [] := fun h => absurd h J12
theorem rowsQ_sl {w0 w : World} {M : List Nat} {L : List Ent} {qs : List (MpV × Nat)} (hs : St w0 M w L) (h : ∀ e ∈ rowsQ qs, e ∈ L) : ∀ q ∈ qs.map Prod.fst, Sl w q.B (ints .u8 q.l) := by
  intro q hq; obtain ⟨x, hx, rfl⟩ := List.mem_map.1 hq; exact hs.slm (h _ (List.mem_map_of_mem hx))

namespace Rb
theorem sliceV {P : Program} {W : World} {t e : TypeId} {cs : List Value} (ht : P.underlying t = some (.slice e)) (h : Rd P W t cs) : ∃ A n c, cs = [.slice A n c] := by
  rcases Rd.slice ht h with h1 | ⟨a, len, cap, rows, h1, -⟩
  · exact ⟨none, 0, 0, h1⟩
  exact ⟨some a, len, cap, h1⟩
theorem flat_ints (k : IntKind) (l : List Int) : l.flatMap (fun x => [Value.int k x]) = ints k l := by
  induction l with
  | nil => rfl
  | cons x l ih => rw [List.flatMap_cons, ih]; rfl
theorem rd_bytes {W : World} {A : Option Addr} {n c : Nat} (z : Rd Tryz.prog W 48 [.slice A n c]) : ∃ l : List Int, l.length = n ∧ n ≤ c ∧ c ≤ maxLen ∧ (∀ x ∈ l, 0 ≤ x ∧ x < 256) ∧ Sl W A (ints .u8 l) := by
  have c1 : Tryz.prog.cellsOf 5 = 1 := by kernel_rfl
  obtain ⟨xs, h1, h2, h3, h4, h5⟩ := Rd.rows (fun x : Int => [Value.int .u8 x]) (fun x => 0 ≤ x ∧ x < 256) underlying48 (by rw [c1]; decide)
    (fun r hr => by
      obtain ⟨x, hx, wx⟩ := Rd.int underlying5 hr; have := wf_u8 wx
      exact ⟨x, hx, this.1, by omega⟩) (fun x => c1.symm) z
  rw [flat_ints] at h5; exact ⟨xs, h1, h2, h3, h4, h5⟩
end Rb

theorem rd_part23 {W : World} {cs : List Value} (z : Rd Tryz.prog W 77 cs) : ∃ x : MpV, cs = x.cells ∧ (Sl W x.B (ints .u8 x.l) ∧ ∀ y ∈ x.l, 0 ≤ y ∧ y < 256) := by
  obtain ⟨hl, hf⟩ := Rd.field underlying77 z; have c2 : Tryz.prog.cellsOf 77 = 2 := by kernel_rfl
  have c1 : Tryz.prog.cellsOf 3 = 1 := by kernel_rfl
  have c0 : Tryz.prog.cellsOf 48 = 1 := by kernel_rfl
  rw [c2] at hl; obtain ⟨x0, x1, rfl⟩ := list2 hl; obtain ⟨lc, hlc, -⟩ := Rd.int underlying3 (hf 0 _ rfl); have zb := hf 1 _ rfl; obtain ⟨A, n, c, hb⟩ := Rb.sliceV underlying48 zb; rw [hb] at zb; simp [c1, c0] at hlc hb; subst hlc hb; obtain ⟨l, h1, -, -, h4, h5⟩ := Rb.rd_bytes zb; subst h1; exact ⟨⟨lc, A, c, l⟩, rfl, h5, h4⟩
theorem rd_parts23 {W : World} {A : Option Addr} {n c : Nat} (z : Rd Tryz.prog W 47 [.slice A n c]) : ∃ l : List MpV, l.length = n ∧ n ≤ maxLen ∧ (∀ q ∈ l, Sl W q.B (ints .u8 q.l)) ∧ (∀ q ∈ l, ∀ y ∈ q.l, 0 ≤ y ∧ y < 256) ∧ Sl W A (l.flatMap MpV.cells) := by
  have c8 : Tryz.prog.cellsOf 77 = 2 := by kernel_rfl
  obtain ⟨xs, h1, h2, h3, h4, h5⟩ := Rd.rows MpV.cells (fun x => Sl W x.B (ints .u8 x.l) ∧ ∀ y ∈ x.l, 0 ≤ y ∧ y < 256) underlying47 (by rw [c8]; decide) (fun r hr => rd_part23 hr) (fun x => c8.symm) z; exact ⟨xs, h1, Nat.le_trans h2 h3, fun q hq => (h4 q hq).1, fun q hq => (h4 q hq).2, h5⟩


theorem bld_zero {size : Int} {r : List Prt} (h : 1 ≤ size ∧ size ≤ 16384) (ho : okN r) (hn : needP r ≤ size) : (bldV size r).2 = 0 := by
  unfold bldV; rw [if_neg (fun k => k ⟨h, ho⟩), if_neg J5]
  split <;> rfl


theorem ptGo_len {l : List Int} : ∀ (hs : List (Int × Int)) (p : Nat) (acc : List Prt), (∀ x ∈ acc, x.2.length ≤ l.length) → ∀ x ∈ (ptGo l hs p acc).2, x.2.length ≤ l.length
  | [], p, acc, h => by
    unfold ptGo
    split
    · intro x hx; cases hx
    exact h
  | z :: hs, p, acc, h => by
    rw [ptGo]
    split
    · exact ptGo_len hs p acc h
    split
    · intro x hx; cases hx
    split
    · intro x hx; cases hx
    refine ptGo_len hs _ _ ?_; intro x hx
    rcases List.mem_append.1 hx with h1 | h1
    · exact h x h1
    obtain rfl : x = _ := by simpa using h1
    simp only [List.length_take, List.length_drop]
    omega
theorem par_len (l : List Int) : ∀ x ∈ (parV l).2, x.2.length ≤ l.length := by
  unfold parV
  split
  · intro x hx; cases hx
  split
  · intro x hx; cases hx
  exact ptGo_len _ _ _ J16

end Go.Proofs.YtbojkoiopkaciaaGreat
