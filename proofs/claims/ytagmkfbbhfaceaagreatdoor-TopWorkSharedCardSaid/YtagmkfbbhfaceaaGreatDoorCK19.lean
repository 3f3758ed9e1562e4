/-
  Part 19 of the proof: contracts and plain laws. Conditions: none.
-/
import Derived.Test.YtagmkfbbhfaceaaGreatDoorCK18
namespace Go.Proofs.YtagmkfbbhfaceaaGreatDoor
open Go Go.RowKit Go.Proofs.Tryz
set_option maxRecDepth 10000
instance : DecidableEq Msg := fun a b => if h : a.c = b.c ∧ a.n = b.n ∧ a.r = b.r ∧ a.k = b.k ∧ a.m = b.m ∧ a.v = b.v then isTrue (Msg.eq6 h) else isFalse (fun e => h (by rw [e]; simp))

def kC : Chr := ⟨1, 2, 3, 850, 1200, 1440, 360, 144000, 72000, 5⟩
def kM : List Msg := [⟨0, 1, 0, 1, 0, 0⟩, ⟨0, 2, 0, 4, 1800, 0⟩, ⟨0, 3, 0, 5, 0, 1000⟩]
def kF : List Msg := [⟨0, 1, 0, 1, 0, 0⟩, ⟨0, 3, 0, 5, 0, 1000⟩, ⟨0, 2, 0, 4, 1800, 0⟩]
theorem k_rdE : rdE kM = 0 := by kernel_rfl
theorem k_noEd : NoEd kM := by unfold NoEd edK kM; decide
theorem k_mem (x : Msg) : x ∈ kF ↔ LastIn kM x := by
  constructor
  · intro h
    have : ∀ x ∈ kF, x ∈ kM ∧ x.k ≠ 7 ∧ ∀ m ∈ kM, m.c = x.c → m.n = x.n → m.r ≤ x.r := by decide
    exact this x h
  · rintro ⟨h1, h2, h3⟩
    have : ∀ x ∈ kM, (∀ m ∈ kM, m.c = x.c → m.n = x.n → m.r ≤ x.r) → x ∈ kF := by decide
    exact this x h1 h3
theorem k_facts {out : List Msg} (h : RdR kM out 0) : out = kF :=
  sorted_ext FLt.asym h.spec.2.2.1 (by decide) (fun x => by rw [h.spec.2.2.2, k_mem])
theorem k_op : opEB [] kF = 0 := by kernel_rfl
theorem k_lc : lcM 1440 1800 360 (exc (opS 1800 [] kF kF.length).ex) = ⟨360, 1440, 0, 0⟩ := by
  have e : (opS 1800 [] kF kF.length).ex = [] := by kernel_rfl
  have ha : AscC cmpFr [] := fun i j hij hj => absurd hj (Nat.not_lt_zero _)
  rw [e]
  exact (cntP_mn (L := 1440) (en := 1800) (b := 360) (by decide) ha).symm.trans (by kernel_rfl)
theorem k_lt {lc : Lc} {e : Int} (h : LtR kC [] [] kM lc e) : lc = ⟨360, 1440, 0, 0⟩ ∧ e = 0 := by
  obtain ⟨out, hR, he, h⟩ := h.ok (by kernel_rfl) (by kernel_rfl) k_rdE k_noEd (by kernel_rfl)
  obtain rfl := k_facts hR
  rw [k_op] at he
  rcases h with ⟨q, _⟩ | ⟨_, n1, en, g1, g4, hl⟩
  · exact absurd he q
  · have e1 : gtG (onS kF kF.length) 1 = some ⟨0, 1, 0, 1, 0, 0⟩ := by kernel_rfl
    have e4 : gtG (onS kF kF.length) 4 = some ⟨0, 2, 0, 4, 1800, 0⟩ := by kernel_rfl
    rw [e1] at g1
    rw [e4] at g4
    simp only [Option.some.injEq] at g1 g4
    subst g1 g4
    exact ⟨hl.trans k_lc, he⟩
theorem k_sp : spA 100 (preS ([1, 1, 1] : List Int) ([1, 1, 1] : List Int).length) [1, 1, 1] ([1, 1, 1] : List Int).length = [33, 33, 34] := by kernel_rfl
theorem kSplit_c (b : Nat) (w0 : World) (hB : Blk w0 b 3 [.int .i64 1, .int .i64 1, .int .i64 1]) : CallsV Tryz.prog 26 [.int .i64 100, .slice (some ⟨b, 0, none⟩) 3 3] w0 fun v w' => (∃ ao g cp, v = .tuple #[.slice ao 3 cp, .int .i64 0] ∧ Sl encI 1 w' ao g 0 [33, 33, 34]) ∧ Ext w0 w' := by
  have h := Split_c 100 [1, 1, 1] (some ⟨b, 0, none⟩) b 0 3 w0 (SlI.own (xs := [1, 1, 1]) hB) (by decide) (by decide) (by decide) (by decide) (by decide)
  rw [k_sp] at h
  exact CallsV.mono h (fun v w' ⟨⟨ao, g, cp, e, hs, _⟩, u⟩ => ⟨⟨ao, g, cp, e, hs⟩, u⟩)
theorem eqIn162 (n : Nat) (a0 : Int) (a1 : Int) (a2 : Int) (a3 : Int) (b0 : Int) (b1 : Int) (b2 : Int) (b3 : Int) (w : World) : (Op.equalIn (n + 2) 162 (.agg #[.int .i64 a0, .int .i64 a1, .int .i64 a2, .int .i64 a3]) (.agg #[.int .i64 b0, .int .i64 b1, .int .i64 b2, .int .i64 b3])).run Tryz.prog w = .ok (decide (a0 = b0) && decide (a1 = b1) && decide (a2 = b2) && decide (a3 = b3)) w := by
  have hS : Tryz.prog.underlying 162 = some (.struct (Tryz.prog.fieldsOf 162)) := by kernel_rfl
  have hp : Tryz.prog.stoodInHeld 162 = false := by kernel_rfl
  have p0 : ∀ (a0 : Int) (a1 : Int) (a2 : Int) (a3 : Int), (part 3 #[.int .i64 a0, .int .i64 a1, .int .i64 a2, .int .i64 a3] 0).run Tryz.prog w = .ok (.int .i64 a0) w := fun _ _ _ _ => by simp [part, isAgg3]
  have p1 : ∀ (a0 : Int) (a1 : Int) (a2 : Int) (a3 : Int), (part 3 #[.int .i64 a0, .int .i64 a1, .int .i64 a2, .int .i64 a3] 1).run Tryz.prog w = .ok (.int .i64 a1) w := fun _ _ _ _ => by simp [part, isAgg3]
  have p2 : ∀ (a0 : Int) (a1 : Int) (a2 : Int) (a3 : Int), (part 3 #[.int .i64 a0, .int .i64 a1, .int .i64 a2, .int .i64 a3] 2).run Tryz.prog w = .ok (.int .i64 a2) w := fun _ _ _ _ => by simp [part, isAgg3]
  have p3 : ∀ (a0 : Int) (a1 : Int) (a2 : Int) (a3 : Int), (part 3 #[.int .i64 a0, .int .i64 a1, .int .i64 a2, .int .i64 a3] 3).run Tryz.prog w = .ok (.int .i64 a3) w := fun _ _ _ _ => by simp [part, isAgg3]
  have e3 := fun a b w => equal_i64 underlying3 (n + 0) a b w
  rw [run_equalIn_struct w (n + 1) 162 _ _ hS hp]
  simp only [Program.fieldsOf, underlying162]
  simp only [Op.eqFields, Sem.run_bind, Sem.run_ite, p0, p1, p2, p3, e3, Result.andThen_ok]
  by_cases h0 : a0 = b0 <;> by_cases h1 : a1 = b1 <;> by_cases h2 : a2 = b2 <;> by_cases h3 : a3 = b3 <;> simp [h0, h1, h2, h3]

theorem haulCharter_c  (w0 : World) :
    CallsV Tryz.prog 67 [.int .i64 850, .int .i64 1200] w0 (fun v w' => v = .agg #[.int .i64 1, .int .i64 2, .int .i64 3, .int .i64 850, .int .i64 1200, .int .i64 1440, .int .i64 360, .int .i64 144000, .int .i64 72000, .int .i64 5, .slice none 0 0] ∧ Ext w0 w') := by
 refine f_n func67 ?_
 refine go ?_
 refine x_n fun bk2 w3 ebk2 sbk2 B4 u5 => ?_
 refine go ?_
 refine x_s fun w8 sw8 B10 u9 => ?_
 refine go ?_
 refine f_ret1 (v := .agg #[.int .i64 1, .int .i64 2, .int .i64 3, .int .i64 850, .int .i64 1200, .int .i64 1440, .int .i64 360, .int .i64 144000, .int .i64 72000, .int .i64 5, .slice none 0 0]) results67 ⟨_, _, rfl, run_loadVarN (vs := [.int .i64 1, .int .i64 2, .int .i64 3, .int .i64 850, .int .i64 1200, .int .i64 1440, .int .i64 360, .int .i64 144000, .int .i64 72000, .int .i64 5, .slice none 0 0]) isAgg167 sizeOf167 rfl (B10.at.sub 0 11)⟩ ?_
 exact ⟨rfl, u_d⟩

theorem haulCall_c  (w0 : World) :
    CallsV Tryz.prog 68 [.int .i64 1000, .int .i64 1800] w0 (fun v w' => (∃ g, v = .slice (some ⟨g, 0, none⟩) kM.length 3 ∧ w0.heap.size ≤ g ∧ Sl encMsg 6 w' (some ⟨g, 0, none⟩) g 0 kM) ∧ Ext w0 w') := by
 refine f_n func68 ?_
 refine go ?_
 refine x_l fun bk3 w4 ebk3 sbk3 B5 u6 => ?_
 refine go ?_
 refine f_1 results68 ?_
 exact ⟨⟨bk3, rfl, by omega, Sl.ofBlk (enc := encMsg) (xs := kM) (fun _ => rfl) B5⟩, u_d⟩

theorem knownShares_c  (w0 : World) :
    CallsV Tryz.prog 27 [] w0 (fun v w' => v = .bool true ∧ Ext w0 w') := by
 refine f_n func27 ?_
 refine go ?_
 refine x_l fun bk3 w4 ebk3 sbk3 B5 u6 => ?_
 refine x_c func26 rfl rfl (kSplit_c bk3 _ B5) ?_
 rintro _ w9 ⟨⟨aS, gS, cS, rfl, hsk⟩, u10⟩ zu10
 have hskl := hsk.lt (by decide)
 refine go ?_
 refine x_c func67 rfl rfl (haulCharter_c _) ?_
 rintro _ w15 ⟨rfl, u16⟩ zu16
 refine x_c func68 rfl rfl (haulCall_c _) ?_
 rintro _ w20 ⟨⟨gm, rfl, hgm, hmk⟩, u21⟩ zu21
 refine x_c func66 rfl rfl (Laytime_c kC [] none 0 0 0 [] none 0 0 0 kM (some ⟨gm, 0, none⟩) gm 0 3 _ (Sl.nil _ _ _ _ _ _) (by decide) (Sl.nil _ _ _ _ _ _) (by decide) hmk (by decide) (by omega)) ?_
 rintro _ w25 ⟨⟨lc9, e9, rfl, hL9⟩, u26⟩ zu26
 obtain ⟨rfl, rfl⟩ := k_lt hL9
 refine go ?_
 refine x_n fun bk29 w30 ebk29 sbk29 B31 u32 => ?_
 refine x_s fun w34 sw34 B36 u35 => ?_
 refine go ?_
 have D39 := (((((hsk.keep u16 (fun _ h => h)).keep u21 (fun _ h => h)).keep u26 (fun _ h => h)).keep u32 (fun _ h => h)).keep u35 (fun h9 => show ¬ (gS = bk29) by have := hskl; omega))
 have i40 : 0 < ([33, 33, 34] : List Int).length := (by decide)
 refine g_i 0 D39 (fun _ => ?_)
 refine st1 ?_
 refine t_same 30 (v := .int .i64 33) rfl rfl ?_
 refine go ?_
 have i41 : 1 < ([33, 33, 34] : List Int).length := (by decide)
 refine g_i 1 D39 (fun _ => ?_)
 refine st1 ?_
 refine t_same 36 (v := .int .i64 33) rfl rfl ?_
 refine go ?_
 have i42 : 2 < ([33, 33, 34] : List Int).length := (by decide)
 refine g_i 2 D39 (fun _ => ?_)
 refine st1 ?_
 refine t_same 42 (v := .int .i64 34) rfl rfl ?_
 refine go ?_
 refine t_eqS (xs := [.int .i64 360, .int .i64 1440, .int .i64 0, .int .i64 0]) (ys := [.int .i64 360, .int .i64 1440, .int .i64 0, .int .i64 0]) (by kernel_rfl) (eqIn162 9998 360 1440 0 0 360 1440 0 0) rfl rfl rfl rfl (t_samehd (v := .bool true) rfl ?_)
 refine go ?_
 refine f_1 results27 ?_
 exact ⟨rfl, u_d⟩

end Go.Proofs.YtagmkfbbhfaceaaGreatDoor
namespace Go.Proofs.YtagmkfbbhfaceaaGreatDoor
open Go Go.RowKit
set_option maxRecDepth 10000
/-! ### what each bill has cost -/
def ownE (b : Int) (x : Ent) : Bool := decide (x.k = 1 ∨ x.k = 3 ∨ x.b = b)
def prjC (b : Int) (l : List Crg) : List Crg := l.filter (fun c => decide (c.b = b))
def prjH (b : Int) (h : Hul) : Hul := ⟨h.n, h.p, prjC b h.c⟩
/-- A state with the cargo of one bill alone. -/
structure Prj (b : Int) (S S' : Sea) : Prop where
  hs : S'.hs = S.hs.map (prjH b)
  ld : S'.ld = prjC b S.ld
  m : S'.m ≤ S.m
theorem prjC_cons (b : Int) (x : Crg) (l : List Crg) : prjC b (x :: l) = if x.b = b then x :: prjC b l else prjC b l := by
  unfold prjC
  rw [List.filter_cons]
  by_cases h : x.b = b <;> simp [h]
theorem tonP_prj {b : Int} (hb : b ≠ 0) : ∀ l : List Crg, tonP 0 (prjC b l) = tonP b l ∧ tonP b (prjC b l) = tonP b l
  | [] => ⟨rfl, rfl⟩
  | x :: l => by
    obtain ⟨h1, h2⟩ := tonP_prj hb l
    rw [prjC_cons]
    by_cases h : x.b = b
    · rw [if_pos h]; simp only [tonP]; rw [h1, h2]; simp [h]
    · rw [if_neg h]; simp only [tonP]; rw [h1, h2]; simp [h, hb]
theorem prjC_none {b : Int} : ∀ {l : List Crg}, (∀ y ∈ l, y.b ≠ b) → prjC b l = []
  | [], _ => rfl
  | x :: l, h => by
    rw [prjC_cons, if_neg (h x (List.mem_cons_self ..))]
    exact prjC_none fun y hy => h y (List.mem_cons_of_mem _ hy)
theorem prjC_book_ne {b bill t : Int} (h : bill ≠ b) : ∀ l : List Crg, prjC b (bookP bill t l) = prjC b l
  | [] => by
    unfold bookP
    split
    · rfl
    · rw [prjC_cons, if_neg h]
  | x :: l => by
    unfold bookP
    split
    · rw [prjC_cons, prjC_cons, prjC_book_ne h l]
    · split
      · rename_i hx
        have hn : ¬ x.b = b := by omega
        split
        · rw [prjC_cons, if_neg hn]
        · rw [prjC_cons, prjC_cons, if_neg hn, if_neg h]
      · split
        · rfl
        · rw [prjC_cons, if_neg h]
theorem prjC_book {T b t : Int} : ∀ {l : List Crg}, CgOk T l → prjC b (bookP b t l) = bookP b t (prjC b l)
  | [], _ => by
    show prjC b (if t = 0 then [] else [⟨b, t⟩]) = if t = 0 then [] else [⟨b, t⟩]
    split
    · rfl
    · rw [prjC_cons, if_pos rfl]; rfl
  | x :: l, h => by
    obtain ⟨q1, _, q3⟩ := cg_cons.1 h
    have ih := prjC_book (b := b) (t := t) q3
    have e : bookP b t (x :: l) = if x.b < b then x :: bookP b t l else if x.b = b then (if x.t + t = 0 then l else ⟨b, x.t + t⟩ :: l) else if t = 0 then x :: l else ⟨b, t⟩ :: x :: l := rfl
    rw [prjC_cons, e]
    by_cases h1 : x.b < b
    · rw [if_pos h1, prjC_cons, if_neg (by omega), if_neg (by omega), ih]
    · rw [if_neg h1]
      by_cases h2 : x.b = b
      · have e2 : bookP b t (x :: prjC b l) = if x.t + t = 0 then prjC b l else ⟨b, x.t + t⟩ :: prjC b l := by
          show (if x.b < b then _ else if x.b = b then _ else _) = _
          rw [if_neg h1, if_pos h2]
        rw [if_pos h2, if_pos h2, e2]
        split
        · rfl
        · rw [prjC_cons, if_pos rfl]
      · have hn : prjC b l = [] := prjC_none fun y hy => by have := q1 y hy; omega
        have e3 : bookP b t [] = if t = 0 then [] else [⟨b, t⟩] := rfl
        rw [if_neg h2, if_neg h2, hn, e3]
        split
        · rw [prjC_cons, if_neg h2, hn]
        · rw [prjC_cons, if_pos rfl, prjC_cons, if_neg h2, hn]
theorem prjC_one {T : Int} : ∀ {l : List Crg}, CgOk T l → ∀ {c : Crg}, c ∈ l → prjC c.b l = [c]
  | x :: l, h, c, hc => by
    obtain ⟨q1, _, q3⟩ := cg_cons.1 h
    rw [prjC_cons]
    rcases List.mem_cons.1 hc with rfl | hc
    · rw [if_pos rfl, prjC_none fun y hy => by have := q1 y hy; omega]
    · have := q1 c hc
      rw [if_neg (by omega), prjC_one q3 hc]
theorem tonP_leq {T b : Int} {l : List Crg} (h : CgOk T l) : 0 ≤ tonP b l ∧ tonP b l ≤ tonP 0 l := by
  have h1 := h.one
  clear h
  induction l with
  | nil => simp [tonP]
  | cons x l ih =>
    have h2 := ih fun y hy => h1 y (List.mem_cons_of_mem _ hy)
    have h3 := h1 x (List.mem_cons_self ..)
    simp only [tonP]
    split <;> simp <;> omega
/-- the work that an entry adds for one bill, or for all -/
def dWk (b : Int) (S : Sea) (x : Ent) : Int := if x.k = 3 then tonP b (nth S.hs (posK (fun h : Hul => h.n) x.h S.hs)).c * max (x.p - (nth S.hs (posK (fun h : Hul => h.n) x.h S.hs)).p) (-(x.p - (nth S.hs (posK (fun h : Hul => h.n) x.h S.hs)).p)) else 0
theorem step_wk {S : Sea} {x : Ent} (he : (stepP S x).1 = 0) : (stepP S x).2.wk = S.wk + dWk 0 S x := by
  unfold stepP at he ⊢
  unfold dWk
  by_cases e1 : okEnt x = false
  · rw [if_pos e1] at he; simp at he
  rw [if_neg e1] at he ⊢
  by_cases e2 : x.m < S.m
  · rw [if_pos e2] at he; simp at he
  rw [if_neg e2] at he ⊢
  by_cases e3 : x.k = 1
  · rw [if_pos e3] at he ⊢
    rw [if_neg (by omega)]
    unfold buildP at he ⊢
    split <;> simp
  rw [if_neg e3] at he ⊢
  by_cases e4 : isK (fun h : Hul => h.n) x.h S.hs = true
  · rw [if_pos e4] at he ⊢
    by_cases e5 : x.k = 2
    · rw [if_pos e5, if_neg (by omega)]
      unfold loadP
      split <;> simp
    · rw [if_neg e5] at he ⊢
      by_cases e6 : x.k = 3
      · rw [if_pos e6] at he ⊢
        rw [if_pos e6]
        unfold sailP at he ⊢
        by_cases e7 : x.p - (nth S.hs (posK (fun h : Hul => h.n) x.h S.hs)).p = 0
        · rw [if_pos e7] at he; simp at he
        · rw [if_neg e7]
      · rw [if_neg e6, if_neg e6]
        unfold unloadP
        split <;> simp
  · rw [if_neg e4] at he; simp at he
theorem Prj.pos {b n : Int} {S S' : Sea} (h : Prj b S S') : posK (fun h : Hul => h.n) n S'.hs = posK (fun h : Hul => h.n) n S.hs ∧ isK (fun h : Hul => h.n) n S'.hs = isK (fun h : Hul => h.n) n S.hs := by
  rw [h.hs, posK_map, isK_map]
  exact ⟨rfl, rfl⟩
theorem Prj.at_ {b : Int} {S S' : Sea} (h : Prj b S S') {k : Nat} (hk : k < S.hs.length) : nth S'.hs k = prjH b (nth S.hs k) := by rw [h.hs, nth_mapG hk]
theorem Prj.step {b T : Int} {S S' : Sea} {x : Ent} (h : Prj b S S') (hs : SeaOk T S) (hb : 1 ≤ b) (he : (stepP S x).1 = 0) (ho : ownE b x = true) :
    (stepP S' x).1 = 0 ∧ Prj b { (stepP S x).2 with m := x.m } { (stepP S' x).2 with m := x.m } ∧ dWk 0 S' x = dWk b S x := by
  obtain ⟨p1, p2⟩ := h.pos (n := x.h)
  have hat := fun k hk => h.at_ (k := k) hk
  obtain ⟨h1, h2, h3⟩ := h
  unfold dWk
  unfold stepP at he ⊢
  rw [p1, p2]
  by_cases e1 : okEnt x = false
  · rw [if_pos e1] at he; simp at he
  rw [if_neg e1] at he
  simp only [if_neg e1]
  by_cases e2 : x.m < S.m
  · rw [if_pos e2] at he; simp at he
  rw [if_neg e2] at he
  simp only [if_neg e2, if_neg (show ¬ x.m < S'.m by omega)]
  by_cases e3 : x.k = 1
  · have e3' : ¬ x.k = 3 := by omega
    simp only [if_pos e3, if_neg e3'] at he ⊢
    unfold buildP at he ⊢
    rw [p1, p2]
    by_cases e4 : isK (fun h : Hul => h.n) x.h S.hs = true
    · rw [if_pos e4] at he; simp at he
    simp only [if_neg e4]
    refine ⟨trivial, ⟨?_, h2, Int.le_refl _⟩, trivial⟩
    show S'.hs.take _ ++ _ :: S'.hs.drop _ = List.map (prjH b) (S.hs.take _ ++ _ :: S.hs.drop _)
    rw [h1]; simp [prjH, prjC]
  simp only [if_neg e3] at he ⊢
  by_cases e4 : isK (fun h : Hul => h.n) x.h S.hs = true
  · simp only [if_pos e4] at he ⊢
    have hk := (isK_iff.1 e4).1
    generalize posK (fun h : Hul => h.n) x.h S.hs = k at hk he
    have hn := hat k hk
    have hh := hs.hul _ (nth_mem hk)
    have ht := tonP_prj (b := b) (by omega) (nth S.hs k).c
    have hle := tonP_leq (b := b) hh.2.2.1
    have hset : ∀ q : Hul, S'.hs.set k (prjH b q) = List.map (prjH b) (S.hs.set k q) := fun q => by rw [h1, List.map_set]
    unfold ownE at ho
    rw [decide_eq_true_eq] at ho
    by_cases e5 : x.k = 2
    · have e6 : ¬ x.k = 3 := by omega
      have hxb : x.b = b := by omega
      simp only [if_pos e5, if_neg e6] at he ⊢
      unfold loadP at he ⊢
      by_cases e7 : 100000 < tonP 0 (nth S.hs k).c + x.t
      · rw [if_pos e7] at he; simp at he
      rw [if_neg e7, hn]
      rw [if_neg (show ¬ 100000 < tonP 0 (prjH b (nth S.hs k)).c + x.t by show ¬ 100000 < tonP 0 (prjC b (nth S.hs k).c) + x.t; omega)]
      refine ⟨rfl, ⟨?_, ?_, Int.le_refl _⟩, trivial⟩
      · show S'.hs.set k ⟨(nth S.hs k).n, (nth S.hs k).p, bookP x.b x.t (prjC b (nth S.hs k).c)⟩ = List.map (prjH b) (S.hs.set k _)
        rw [hxb, ← prjC_book hh.2.2.1]
        exact hset ⟨(nth S.hs k).n, (nth S.hs k).p, bookP b x.t (nth S.hs k).c⟩
      · show bookP x.b x.t S'.ld = prjC b (bookP x.b x.t S.ld)
        rw [hxb, h2, prjC_book hs.ld]
    · simp only [if_neg e5] at he ⊢
      by_cases e6 : x.k = 3
      · simp only [if_pos e6] at he ⊢
        unfold sailP at he ⊢
        by_cases e7 : x.p - (nth S.hs k).p = 0
        · rw [if_pos e7] at he; simp at he
        rw [if_neg e7, hn]
        rw [if_neg (show ¬ x.p - (prjH b (nth S.hs k)).p = 0 from e7)]
        refine ⟨rfl, ⟨hset ⟨(nth S.hs k).n, x.p, (nth S.hs k).c⟩, h2, Int.le_refl _⟩, ?_⟩
        show tonP 0 (prjC b (nth S.hs k).c) * _ = tonP b (nth S.hs k).c * _
        rw [ht.1]; rfl
      · have hxb : x.b = b := by omega
        simp only [if_neg e6] at he ⊢
        unfold unloadP at he ⊢
        by_cases e7 : tonP x.b (nth S.hs k).c < x.t
        · rw [if_pos e7] at he; simp at he
        rw [if_neg e7, hn]
        rw [if_neg (show ¬ tonP x.b (prjH b (nth S.hs k)).c < x.t by show ¬ tonP x.b (prjC b (nth S.hs k).c) < x.t; rw [hxb, ht.2, ← hxb]; exact e7)]
        refine ⟨rfl, ⟨?_, h2, Int.le_refl _⟩, trivial⟩
        show S'.hs.set k ⟨(nth S.hs k).n, (nth S.hs k).p, bookP x.b (-x.t) (prjC b (nth S.hs k).c)⟩ = List.map (prjH b) (S.hs.set k _)
        rw [hxb, ← prjC_book hh.2.2.1]
        exact hset ⟨(nth S.hs k).n, (nth S.hs k).p, bookP b (-x.t) (nth S.hs k).c⟩
  · rw [if_neg e4] at he; simp at he
theorem Prj.skip {b : Int} {S S' : Sea} {x : Ent} (h : Prj b S S') (he : (stepP S x).1 = 0) (ho : ownE b x = false) : Prj b { (stepP S x).2 with m := x.m } S' ∧ dWk b S x = 0 := by
  obtain ⟨h1, h2, h3⟩ := h
  unfold ownE at ho
  rw [decide_eq_false_iff_not] at ho
  have hxb : x.b ≠ b := by omega
  unfold dWk
  rw [if_neg (by omega)]
  unfold stepP at he ⊢
  by_cases e1 : okEnt x = false
  · rw [if_pos e1] at he; simp at he
  rw [if_neg e1] at he
  simp only [if_neg e1]
  by_cases e2 : x.m < S.m
  · rw [if_pos e2] at he; simp at he
  have e3 : ¬ x.k = 1 := by omega
  have e6 : ¬ x.k = 3 := by omega
  simp only [if_neg e2, if_neg e3, if_neg e6] at he ⊢
  by_cases e4 : isK (fun h : Hul => h.n) x.h S.hs = true
  · simp only [if_pos e4] at he ⊢
    have hk := (isK_iff.1 e4).1
    generalize posK (fun h : Hul => h.n) x.h S.hs = k at hk he
    have hset : ∀ t, List.map (prjH b) (S.hs.set k ⟨(nth S.hs k).n, (nth S.hs k).p, bookP x.b t (nth S.hs k).c⟩) = S'.hs := fun t => by
      rw [h1, List.map_set]
      have e : prjH b ⟨(nth S.hs k).n, (nth S.hs k).p, bookP x.b t (nth S.hs k).c⟩ = prjH b (nth S.hs k) := by
        show (⟨_, _, prjC b (bookP x.b t (nth S.hs k).c)⟩ : Hul) = _
        rw [prjC_book_ne hxb]; rfl
      rw [e]
      refine set_same ?_
      rw [List.getElem?_eq_getElem (by rw [List.length_map]; exact hk), List.getElem_map, nth_eq hk]
    by_cases e5 : x.k = 2
    · simp only [if_pos e5] at he ⊢
      unfold loadP at he ⊢
      by_cases e7 : 100000 < tonP 0 (nth S.hs k).c + x.t
      · rw [if_pos e7] at he; simp at he
      rw [if_neg e7]
      refine ⟨⟨(hset x.t).symm, ?_, by show S'.m ≤ x.m; omega⟩, trivial⟩
      show S'.ld = prjC b (bookP x.b x.t S.ld)
      rw [prjC_book_ne hxb, h2]
    · simp only [if_neg e5] at he ⊢
      unfold unloadP at he ⊢
      by_cases e7 : tonP x.b (nth S.hs k).c < x.t
      · rw [if_pos e7] at he; simp at he
      rw [if_neg e7]
      exact ⟨⟨(hset (-x.t)).symm, h2, by show S'.m ≤ x.m; omega⟩, trivial⟩
  · rw [if_neg e4] at he; simp at he
/-! ### the work of all bills -/
def sumW (f : Int → Int) : List Crg → Int
  | [] => 0
  | c :: l => f c.b + sumW f l
theorem sumW_add (f g : Int → Int) : ∀ l, sumW (fun b => f b + g b) l = sumW f l + sumW g l
  | [] => rfl
  | c :: l => by simp only [sumW, sumW_add f g l]; omega
theorem sumW_ext {f g : Int → Int} : ∀ {l : List Crg}, (∀ c ∈ l, f c.b = g c.b) → sumW f l = sumW g l
  | [], _ => rfl
  | c :: l, h => by
    simp only [sumW]
    rw [h c (List.mem_cons_self ..), sumW_ext (l := l) fun d hd => h d (List.mem_cons_of_mem _ hd)]
theorem sumW_mul (f : Int → Int) (d : Int) : ∀ l, sumW (fun b => f b * d) l = sumW f l * d
  | [] => by simp [sumW]
  | c :: l => by simp only [sumW, sumW_mul f d l, Int.add_mul]
theorem sumW_zero : ∀ l, sumW (fun _ => 0) l = 0
  | [] => rfl
  | c :: l => by simp only [sumW, sumW_zero l]; omega
theorem sumW_app (f : Int → Int) : ∀ l m, sumW f (l ++ m) = sumW f l + sumW f m
  | [], m => by simp [sumW]
  | c :: l, m => by simp only [List.cons_append, sumW, sumW_app f l m]; omega
theorem sumW_book {f : Int → Int} {T b t : Int} (ht : 1 ≤ t) : ∀ {l : List Crg}, CgOk T l → ((∀ d ∈ l, d.b ≠ b) → f b = 0) → sumW f (bookP b t l) = sumW f l
  | [], _, h => by
    show sumW f (if t = 0 then [] else [⟨b, t⟩]) = 0
    rw [if_neg (by omega)]
    have := h fun d hd => by cases hd
    simp only [sumW]; omega
  | x :: l, h, hf => by
    obtain ⟨q1, q2, q3⟩ := cg_cons.1 h
    have e : bookP b t (x :: l) = if x.b < b then x :: bookP b t l else if x.b = b then (if x.t + t = 0 then l else ⟨b, x.t + t⟩ :: l) else if t = 0 then x :: l else ⟨b, t⟩ :: x :: l := rfl
    rw [e]
    by_cases h1 : x.b < b
    · rw [if_pos h1]
      have ih := sumW_book (f := f) (b := b) ht q3 fun hn => hf fun d hd => by
        rcases List.mem_cons.1 hd with rfl | hd
        · omega
        · exact hn d hd
      simp only [sumW, ih]
    · rw [if_neg h1]
      by_cases h2 : x.b = b
      · rw [if_pos h2, if_neg (by omega)]
        simp only [sumW, h2]
      · rw [if_neg h2, if_neg (by omega)]
        have := hf fun d hd => by
          rcases List.mem_cons.1 hd with rfl | hd
          · exact h2
          · have := q1 d hd; omega
        simp only [sumW]; omega
theorem book_len (b t : Int) : ∀ l : List Crg, (bookP b t l).length ≤ l.length + 1
  | [] => by
    show (if t = 0 then [] else [(⟨b, t⟩ : Crg)]).length ≤ 1
    split <;> simp
  | x :: l => by
    have ih := book_len b t l
    have e : bookP b t (x :: l) = if x.b < b then x :: bookP b t l else if x.b = b then (if x.t + t = 0 then l else ⟨b, x.t + t⟩ :: l) else if t = 0 then x :: l else ⟨b, t⟩ :: x :: l := rfl
    rw [e]
    split
    · simp only [List.length_cons]; omega
    · split
      · split <;> simp only [List.length_cons] <;> omega
      · split <;> simp only [List.length_cons] <;> omega
theorem book_keep {T b t : Int} (ht : 1 ≤ t) : ∀ {l : List Crg}, CgOk T l → (∀ c ∈ l, ∃ d ∈ bookP b t l, d.b = c.b) ∧ ∃ d ∈ bookP b t l, d.b = b
  | [], _ => by
    refine ⟨fun c hc => (by cases hc), (⟨b, t⟩ : Crg), ?_, rfl⟩
    show (⟨b, t⟩ : Crg) ∈ (if t = 0 then [] else [(⟨b, t⟩ : Crg)])
    rw [if_neg (by omega)]; exact List.mem_cons_self ..
  | x :: l, h => by
    obtain ⟨q1, q2, q3⟩ := cg_cons.1 h
    have e : bookP b t (x :: l) = if x.b < b then x :: bookP b t l else if x.b = b then (if x.t + t = 0 then l else ⟨b, x.t + t⟩ :: l) else if t = 0 then x :: l else ⟨b, t⟩ :: x :: l := rfl
    rw [e]
    by_cases h1 : x.b < b
    · rw [if_pos h1]
      obtain ⟨i1, d, i2, i3⟩ := book_keep (b := b) ht q3
      refine ⟨fun c hc => ?_, d, List.mem_cons_of_mem _ i2, i3⟩
      rcases List.mem_cons.1 hc with rfl | hc
      · exact ⟨_, List.mem_cons_self .., rfl⟩
      · obtain ⟨d, h1, h2⟩ := i1 c hc
        exact ⟨d, List.mem_cons_of_mem _ h1, h2⟩
    · rw [if_neg h1]
      by_cases h2 : x.b = b
      · rw [if_pos h2, if_neg (by omega)]
        refine ⟨fun c hc => ?_, _, List.mem_cons_self .., rfl⟩
        rcases List.mem_cons.1 hc with rfl | hc
        · exact ⟨_, List.mem_cons_self .., h2.symm⟩
        · exact ⟨c, List.mem_cons_of_mem _ hc, rfl⟩
      · rw [if_neg h2, if_neg (by omega)]
        exact ⟨fun c hc => ⟨c, List.mem_cons_of_mem _ hc, rfl⟩, _, List.mem_cons_self .., rfl⟩
theorem one_of {T : Int} (v t : Int) (hv : v ≠ 0) : ∀ {l : List Crg}, CgOk T l → (∃ d ∈ l, d.b = v) → sumW (fun b => if b = 0 ∨ v = b then t else 0) l = t
  | [], _, h => by obtain ⟨d, hd, _⟩ := h; cases hd
  | x :: l, h, hd => by
    obtain ⟨q1, q2, q3⟩ := cg_cons.1 h
    simp only [sumW]
    by_cases e : x.b = v
    · have hz : sumW (fun b => if b = 0 ∨ v = b then t else 0) l = sumW (fun _ => 0) l := sumW_ext fun c hc => by
        have := q1 c hc
        rw [if_neg (by omega)]
      rw [hz, sumW_zero, if_pos (by omega)]; omega
    · rw [if_neg (by omega), one_of v t hv q3 (by
        obtain ⟨d, hd, he⟩ := hd
        rcases List.mem_cons.1 hd with rfl | hd
        · exact absurd he e
        · exact ⟨d, hd, he⟩)]
      omega
theorem ton_split {T : Int} {ld : List Crg} (h : CgOk T ld) : ∀ {c : List Crg}, (∀ y ∈ c, y.b ≠ 0 ∧ ∃ d ∈ ld, d.b = y.b) → sumW (fun b => tonP b c) ld = tonP 0 c
  | [], _ => sumW_zero ld
  | y :: c, hy => by
    have h1 := hy y (List.mem_cons_self ..)
    have ih := ton_split h (c := c) fun z hz => hy z (List.mem_cons_of_mem _ hz)
    show sumW (fun b => (if b = 0 ∨ y.b = b then y.t else 0) + tonP b c) ld = (if (0 : Int) = 0 ∨ y.b = 0 then y.t else 0) + tonP 0 c
    rw [sumW_add, ih, one_of y.b y.t h1.1 h h1.2]
    simp
/-- the state after entries -/
def stt (l : List Ent) : Sea := (runP zSea 0 l).2.2
def okR (l : List Ent) : Prop := (runP zSea 0 l).1 = 0
theorem runP_one (S : Sea) (i : Nat) (x : Ent) : runP S i [x] = if (stepP S x).1 = 0 then (0, 0, { (stepP S x).2 with m := x.m }) else ((stepP S x).1, i, S) := rfl
theorem okR_snoc {l : List Ent} {x : Ent} (h : okR l) : (okR (l ++ [x]) ↔ (stepP (stt l) x).1 = 0) ∧ ((stepP (stt l) x).1 = 0 → stt (l ++ [x]) = { (stepP (stt l) x).2 with m := x.m }) := by
  have e : runP zSea 0 (l ++ [x]) = _ := (runP_app [x] h).trans (runP_one _ _ _)
  unfold okR stt
  rw [e]
  by_cases hx : (stepP (runP zSea 0 l).2.2 x).1 = 0
  · rw [if_pos hx]; exact ⟨⟨fun _ => hx, fun _ => rfl⟩, fun _ => rfl⟩
  · rw [if_neg hx]; exact ⟨⟨fun q => q, fun q => absurd q hx⟩, fun q => absurd q hx⟩
/-- what holds of entries that were all accepted -/
structure WInv (l : List Ent) : Prop where
  ok : okR l
  sea : SeaOk (100000 * (l.length : Int)) (stt l)
  own : ∀ b : Int, 1 ≤ b → okR (l.filter (ownE b)) ∧ Prj b (stt l) (stt (l.filter (ownE b))) ∧ SeaOk (100000 * (l.length : Int)) (stt (l.filter (ownE b)))
  sub : ∀ h ∈ (stt l).hs, ∀ c ∈ h.c, ∃ d ∈ (stt l).ld, d.b = c.b
  non : ∀ b : Int, 1 ≤ b → (∀ d ∈ (stt l).ld, d.b ≠ b) → (stt (l.filter (ownE b))).wk = 0
  sum : (stt l).wk = sumW (fun b => (stt (l.filter (ownE b))).wk) (stt l).ld
  few : (stt l).ld.length ≤ l.length
theorem SeaOk.zero9 : SeaOk 0 zSea := ⟨asc_nil, fun h hh => (by cases hh), CgOk.nil _, CgOk.nil _, ⟨Int.le_refl _, by decide⟩, ⟨Int.le_refl _, by decide⟩, ⟨Int.le_refl _, by decide⟩⟩
theorem WInv.zero : WInv [] := ⟨rfl, SeaOk.zero9, fun _ _ => ⟨rfl, ⟨rfl, rfl, Int.le_refl _⟩, SeaOk.zero9⟩, fun h hh => (by cases hh), fun _ _ _ => rfl, rfl, Nat.le_refl _⟩
/-- which bills a step knows -/
theorem step_ld {S : Sea} {x : Ent} (he : (stepP S x).1 = 0) :
    (stepP S x).2.ld = S.ld ∧ (x.k = 3 ∨ x.k ≠ 3) ∨ x.k = 2 ∧ 1 ≤ x.t ∧ 1 ≤ x.b ∧ (stepP S x).2.ld = bookP x.b x.t S.ld := by
  unfold stepP at he ⊢
  by_cases e1 : okEnt x = false
  · rw [if_pos e1] at he; simp at he
  rw [if_neg e1] at he ⊢
  have hx := okEnt_iff (show okEnt x = true by simpa using e1)
  by_cases e2 : x.m < S.m
  · rw [if_pos e2] at he; simp at he
  rw [if_neg e2] at he ⊢
  by_cases e3 : x.k = 1
  · rw [if_pos e3] at he ⊢
    unfold buildP at he ⊢
    split <;> exact .inl ⟨rfl, by omega⟩
  rw [if_neg e3] at he ⊢
  by_cases e4 : isK (fun h : Hul => h.n) x.h S.hs = true
  · rw [if_pos e4] at he ⊢
    by_cases e5 : x.k = 2
    · rw [if_pos e5] at he ⊢
      unfold loadP at he ⊢
      split
      · exact .inl ⟨rfl, by omega⟩
      · exact .inr ⟨e5, by omega, by omega, rfl⟩
    · rw [if_neg e5]
      by_cases e6 : x.k = 3
      · rw [if_pos e6]
        unfold sailP
        split <;> exact .inl ⟨rfl, by omega⟩
      · rw [if_neg e6]
        unfold unloadP
        split <;> exact .inl ⟨rfl, by omega⟩
  · rw [if_neg e4] at he; simp at he
theorem mem_setH {α : Type} {l : List α} {k : Nat} {a x : α} (h : x ∈ l.set k a) : x = a ∨ x ∈ l := by
  rcases List.mem_or_eq_of_mem_set h with h | h
  · exact .inr h
  · exact .inl h
theorem sub_step {T : Int} {S : Sea} {x : Ent} (hs : SeaOk T S) (h : ∀ h ∈ S.hs, ∀ c ∈ h.c, ∃ d ∈ S.ld, d.b = c.b) (he : (stepP S x).1 = 0) : ∀ h ∈ (stepP S x).2.hs, ∀ c ∈ h.c, ∃ d ∈ (stepP S x).2.ld, d.b = c.b := by
  unfold stepP at he ⊢
  by_cases e1 : okEnt x = false
  · rw [if_pos e1] at he; simp at he
  rw [if_neg e1] at he ⊢
  have hx := okEnt_iff (show okEnt x = true by simpa using e1)
  by_cases e2 : x.m < S.m
  · rw [if_pos e2] at he; simp at he
  rw [if_neg e2] at he ⊢
  by_cases e3 : x.k = 1
  · rw [if_pos e3] at he ⊢
    unfold buildP at he ⊢
    by_cases e4 : isK (fun h : Hul => h.n) x.h S.hs = true
    · rw [if_pos e4] at he; simp at he
    rw [if_neg e4]
    intro q hq
    rcases List.mem_append.1 hq with hq | hq
    · exact h q (List.mem_of_mem_take hq)
    · rcases List.mem_cons.1 hq with rfl | hq
      · intro c hc; cases hc
      · exact h q (List.mem_of_mem_drop hq)
  rw [if_neg e3] at he ⊢
  by_cases e4 : isK (fun h : Hul => h.n) x.h S.hs = true
  · rw [if_pos e4] at he ⊢
    have hk := (isK_iff.1 e4).1
    generalize posK (fun h : Hul => h.n) x.h S.hs = k at hk he
    have hm := h _ (nth_mem hk)
    by_cases e5 : x.k = 2
    · rw [if_pos e5] at he ⊢
      unfold loadP at he ⊢
      by_cases e6 : 100000 < tonP 0 (nth S.hs k).c + x.t
      · rw [if_pos e6] at he; simp at he
      rw [if_neg e6]
      have hbk := book_keep (b := x.b) (t := x.t) (by omega) hs.ld
      have hall : ∀ q ∈ S.hs, ∀ c ∈ q.c, ∃ d ∈ bookP x.b x.t S.ld, d.b = c.b := fun q hq c hc => by
        obtain ⟨d, hd, e⟩ := h q hq c hc
        obtain ⟨d2, hd2, e2⟩ := hbk.1 d hd
        exact ⟨d2, hd2, by omega⟩
      intro q hq c hc
      rcases mem_setH hq with rfl | hq
      · rcases bookP_mem hc with hc | hc
        · exact hall _ (nth_mem hk) c hc
        · obtain ⟨d, hd, e⟩ := hbk.2
          exact ⟨d, hd, by omega⟩
      · exact hall q hq c hc
    · rw [if_neg e5] at he ⊢
      by_cases e6 : x.k = 3
      · rw [if_pos e6] at he ⊢
        unfold sailP at he ⊢
        by_cases e7 : x.p - (nth S.hs k).p = 0
        · rw [if_pos e7] at he; simp at he
        rw [if_neg e7]
        intro q hq
        rcases mem_setH hq with rfl | hq
        · exact hm
        · exact h q hq
      · rw [if_neg e6] at he ⊢
        unfold unloadP at he ⊢
        by_cases e7 : tonP x.b (nth S.hs k).c < x.t
        · rw [if_pos e7] at he; simp at he
        rw [if_neg e7]
        have hh := hs.hul _ (nth_mem hk)
        intro q hq c hc
        rcases mem_setH hq with rfl | hq
        · rcases bookP_mem hc with hc | hc
          · exact hm c hc
          · -- of this bill there was something aboard
            apply Classical.byContradiction
            intro hno
            have hno : ∀ d ∈ (nth S.hs k).c, d.b ≠ x.b := fun d hd e => hno (by
              obtain ⟨d2, h2, e2⟩ := hm d hd
              exact ⟨d2, h2, by omega⟩)
            have := tonP_none (by omega) hno
            omega
        · exact h q hq c hc
  · rw [if_neg e4] at he; simp at he
theorem WInv.next {l : List Ent} {x : Ent} (h : WInv l) (he : (stepP (stt l) x).1 = 0) (hl : l.length ≤ 2000) : WInv (l ++ [x]) := by
  obtain ⟨hok, hsea, hown, hsub, hnon, hsum, hfew⟩ := h
  obtain ⟨s1, s2⟩ := okR_snoc (x := x) hok
  have s2 := s2 he
  have hlen : 100000 * ((l ++ [x]).length : Int) = 100000 * (l.length : Int) + 100000 := by rw [List.length_append]; simp; omega
  -- for each bill
  have key : ∀ b : Int, 1 ≤ b → okR ((l ++ [x]).filter (ownE b)) ∧ Prj b (stt (l ++ [x])) (stt ((l ++ [x]).filter (ownE b))) ∧ SeaOk (100000 * ((l ++ [x]).length : Int)) (stt ((l ++ [x]).filter (ownE b))) ∧ (stt ((l ++ [x]).filter (ownE b))).wk = (stt (l.filter (ownE b))).wk + dWk b (stt l) x := by
    intro b hb
    obtain ⟨o1, o2, o3⟩ := hown b hb
    rw [hlen]
    cases hox : ownE b x with
    | true =>
      have e : (l ++ [x]).filter (ownE b) = l.filter (ownE b) ++ [x] := by rw [List.filter_append, List.filter_cons, if_pos hox, List.filter_nil]
      obtain ⟨t1, t2⟩ := okR_snoc (x := x) o1
      obtain ⟨p1, p2, p3⟩ := o2.step hsea hb he hox
      have t2 := t2 p1
      rw [e]
      refine ⟨t1.2 p1, by rw [s2, t2]; exact p2, by rw [t2]; exact o3.step (by omega) p1, ?_⟩
      rw [t2]
      show (stepP (stt (l.filter (ownE b))) x).2.wk = _
      rw [step_wk p1, p3]
    | false =>
      have e : (l ++ [x]).filter (ownE b) = l.filter (ownE b) := by rw [List.filter_append, List.filter_cons, if_neg (by rw [hox]; simp), List.filter_nil, List.append_nil]
      obtain ⟨p1, p2⟩ := o2.skip he hox
      rw [e, p2, Int.add_zero]
      exact ⟨o1, by rw [s2]; exact p1, o3.mono (by omega) (by omega), rfl⟩
  have hld := step_ld he
  have hst : (stt (l ++ [x])).ld = (stepP (stt l) x).2.ld := by rw [s2]
  have hsub2 := sub_step hsea hsub he
  have hbill : ∀ b : Int, (∀ d ∈ (stt (l ++ [x])).ld, d.b ≠ b) → ∀ d ∈ (stt l).ld, d.b ≠ b := by
    intro b hn d hd e
    rcases hld with ⟨e1, _⟩ | ⟨_, e2, _, e1⟩
    · exact hn d (by rw [hst, e1]; exact hd) e
    · obtain ⟨d2, h2, e3⟩ := (book_keep (b := x.b) (t := x.t) e2 hsea.ld).1 d hd
      exact hn d2 (by rw [hst, e1]; exact h2) (by omega)
  have hd0 : x.k ≠ 3 → ∀ b, dWk b (stt l) x = 0 := fun hk b => by unfold dWk; rw [if_neg hk]
  -- what is aboard the hull that sails
  have hat : x.k = 3 → posK (fun h : Hul => h.n) x.h (stt l).hs < (stt l).hs.length := fun hk => by
    apply Classical.byContradiction
    intro hno
    have e4 : ¬ isK (fun h : Hul => h.n) x.h (stt l).hs = true := fun q => hno (isK_iff.1 q).1
    unfold stepP at he
    rw [if_neg (show ¬ x.k = 1 by omega), if_neg e4] at he
    split at he
    · simp at he
    · split at he <;> simp at he
  refine ⟨s1.2 he, by rw [s2, hlen]; exact hsea.step (by omega) he, fun b hb => ?_, by rw [s2]; exact hsub2, fun b hb hn => ?_, ?_, ?_⟩
  · obtain ⟨k1, k2, k3, _⟩ := key b hb
    exact ⟨k1, k2, k3⟩
  · rw [(key b hb).2.2.2, hnon b hb (hbill b hn), Int.zero_add]
    by_cases hk : x.k = 3
    · unfold dWk
      rw [if_pos hk]
      have hno : ∀ y ∈ (nth (stt l).hs (posK (fun h : Hul => h.n) x.h (stt l).hs)).c, y.b ≠ b := fun y hy e => by
        obtain ⟨d, hd, e2⟩ := hsub _ (nth_mem (hat hk)) y hy
        exact hbill b hn d hd (by omega)
      rw [tonP_none (by omega) hno, Int.zero_mul]
    · exact hd0 hk b
  · have hb1 : ∀ c ∈ (stt (l ++ [x])).ld, 1 ≤ c.b := fun c hc => by
      have h9 := hsea.step (by omega) he
      rw [← s2] at h9
      exact ((h9.ld.2 c hc).1).1
    have e1 : sumW (fun b => (stt ((l ++ [x]).filter (ownE b))).wk) (stt (l ++ [x])).ld = sumW (fun b => (stt (l.filter (ownE b))).wk + dWk b (stt l) x) (stt (l ++ [x])).ld := sumW_ext fun c hc => (key c.b (hb1 c hc)).2.2.2
    rw [e1, sumW_add]
    have e2 : sumW (fun b => (stt (l.filter (ownE b))).wk) (stt (l ++ [x])).ld = (stt l).wk := by
      rw [hst, hsum]
      rcases hld with ⟨e1, _⟩ | ⟨_, e2, e3, e1⟩
      · rw [e1]
      · rw [e1, sumW_book e2 hsea.ld (fun hn => hnon x.b e3 hn)]
    have e3 : sumW (fun b => dWk b (stt l) x) (stt (l ++ [x])).ld = dWk 0 (stt l) x := by
      by_cases hk : x.k = 3
      · have e4 : (stt (l ++ [x])).ld = (stt l).ld := by
          rcases hld with ⟨e1, _⟩ | ⟨q, _⟩
          · rw [hst, e1]
          · omega
        rw [e4]
        have e5 : ∀ b, dWk b (stt l) x = tonP b (nth (stt l).hs (posK (fun h : Hul => h.n) x.h (stt l).hs)).c * max (x.p - (nth (stt l).hs (posK (fun h : Hul => h.n) x.h (stt l).hs)).p) (-(x.p - (nth (stt l).hs (posK (fun h : Hul => h.n) x.h (stt l).hs)).p)) := fun b => by unfold dWk; rw [if_pos hk]
        rw [sumW_ext (g := fun b => tonP b (nth (stt l).hs (posK (fun h : Hul => h.n) x.h (stt l).hs)).c * max (x.p - (nth (stt l).hs (posK (fun h : Hul => h.n) x.h (stt l).hs)).p) (-(x.p - (nth (stt l).hs (posK (fun h : Hul => h.n) x.h (stt l).hs)).p))) (fun c _ => e5 c.b), sumW_mul, e5 0]
        rw [ton_split hsea.ld fun y hy => ⟨by have := ((hsea.hul _ (nth_mem (hat hk))).2.2.1.2 y hy).1; omega, hsub _ (nth_mem (hat hk)) y hy⟩]
      · rw [sumW_ext (g := fun _ => 0) (fun c _ => hd0 hk c.b), sumW_zero, hd0 hk 0]
    rw [e2, e3, s2]
    exact step_wk he
  · rw [hst, List.length_append]
    rcases hld with ⟨e1, _⟩ | ⟨_, _, _, e1⟩
    · rw [e1]; simp only [List.length_cons, List.length_nil]; omega
    · rw [e1]
      have := book_len x.b x.t (stt l).ld
      simp only [List.length_cons, List.length_nil]; omega
theorem WInv.no {l : List Ent} {x : Ent} (h : WInv l) (he : (runP zSea 0 (l ++ [x])).1 = 0) : (stepP (stt l) x).1 = 0 := (okR_snoc h.ok).1.1 he
theorem WInv.one {l : List Ent} (h : WInv l) {c : Crg} (hc : c ∈ (stt l).ld) : okR (l.filter (ownE c.b)) ∧ (stt (l.filter (ownE c.b))).ld = [c] ∧ 0 ≤ (stt (l.filter (ownE c.b))).wk := by
  have hb := (h.sea.ld.2 c hc).1
  obtain ⟨o1, o2, o3⟩ := h.own c.b hb.1
  exact ⟨o1, by rw [o2.ld, prjC_one h.sea.ld hc], o3.wk.1⟩
theorem sumW_take (f : Int → Int) {l : List Crg} {i : Nat} (hi : i < l.length) : sumW f (l.take (i + 1)) = sumW f (l.take i) + f (nth l i).b := by
  rw [take_nth hi, sumW_app]; simp [sumW]
theorem sumW_nonneg {f : Int → Int} : ∀ {l : List Crg}, (∀ c ∈ l, 0 ≤ f c.b) → 0 ≤ sumW f l
  | [], _ => Int.le_refl _
  | c :: l, h => by
    have h1 := h c (List.mem_cons_self ..)
    have h2 := sumW_nonneg (l := l) fun d hd => h d (List.mem_cons_of_mem _ hd)
    simp only [sumW]; omega
/-! ### what the law asks of the works -/
def fW (gs : List Ent) (b : Int) : Int := (stt (gs.filter (ownE b))).wk
def wkL (gs : List Ent) (l : List Crg) : List Int := l.map fun c => fW gs c.b
theorem wkL_len (gs : List Ent) (l : List Crg) : (wkL gs l).length = l.length := List.length_map ..
theorem wkL_next {gs : List Ent} {l : List Crg} {i : Nat} (h : i < l.length) : wkL gs (l.take (i + 1)) = wkL gs (l.take i) ++ [fW gs (nth l i).b] := by
  unfold wkL
  rw [take_nth h, List.map_append]; rfl
theorem rep_run {l : List Ent} {S : Sea} (hl : l.length ≤ 2000) : (repP S l).1 = (runP S 0 l).1 := by
  unfold repP
  rw [if_neg (by omega)]
  split
  · rename_i h; exact h.symm
  · rfl
theorem rep_okR {l : List Ent} (hl : l.length ≤ 2000) (h : okR l) : repP zSea l = (0, 0, stt l) := by
  unfold repP
  rw [if_neg (by omega), if_pos (show (runP zSea 0 l).1 = 0 from h)]; rfl
theorem WInv.more {gs : List Ent} {x : Ent} (h : WInv gs) (hl : gs.length ≤ 30) (he : (repP zSea (gs ++ [x])).1 = 0) : WInv (gs ++ [x]) := by
  rw [rep_run (by rw [List.length_append]; simp only [List.length_cons, List.length_nil]; omega)] at he
  exact h.next (h.no he) (by omega)
theorem filter_len {gs : List Ent} {p : Ent → Bool} : (gs.filter p).length ≤ gs.length := List.length_filter_le ..
theorem WInv.each {gs : List Ent} (h : WInv gs) (hl : gs.length ≤ 30) {c : Crg} (hc : c ∈ (stt gs).ld) : repP zSea (gs.filter (ownE c.b)) = (0, 0, stt (gs.filter (ownE c.b))) ∧ (stt (gs.filter (ownE c.b))).ld = [c] ∧ 0 ≤ fW gs c.b := by
  obtain ⟨h1, h2, h3⟩ := h.one hc
  have := filter_len (gs := gs) (p := ownE c.b)
  exact ⟨rep_okR (by omega) h1, h2, h3⟩
theorem filt_take {gs : List Ent} {k : Nat} (p : Ent → Bool) (h : k < gs.length) : (gs.take (k + 1)).filter p = (gs.take k).filter p ++ if p (nth gs k) = true then [nth gs k] else [] := by
  rw [take_nth h, List.filter_append, List.filter_cons, List.filter_nil]
theorem sumW_part {f : Int → Int} {l : List Crg} (h : ∀ c ∈ l, 0 ≤ f c.b) (i : Nat) : 0 ≤ sumW f (l.take i) ∧ sumW f (l.take i) ≤ sumW f l := by
  have h1 := sumW_nonneg (f := f) (l := l.take i) fun c hc => h c (List.mem_of_mem_take hc)
  have h2 := sumW_nonneg (f := f) (l := l.drop i) fun c hc => h c (List.mem_of_mem_drop hc)
  have e : sumW f l = sumW f (l.take i) + sumW f (l.drop i) := by rw [← sumW_app, List.take_append_drop]
  omega
theorem preS_wkL {gs : List Ent} {l : List Crg} : ∀ {k : Nat}, k ≤ l.length → preS (wkL gs l) k = sumW (fW gs) (l.take k)
  | 0, _ => rfl
  | k + 1, h => by
    have e : nth (wkL gs l) k = fW gs (nth l k).b := by
      unfold wkL
      rw [nth_eq (by rw [List.length_map]; omega), List.getElem_map, nth_eq (show k < l.length by omega)]
    rw [preS, preS_wkL (by omega), sumW_take _ (by omega), e]
/-- all that the law needs of a log's works -/
theorem WInv.all {gs : List Ent} (h : WInv gs) (hl : gs.length ≤ 30) : (0 ≤ (stt gs).wk ∧ (stt gs).wk ≤ 300000000000) ∧ (stt gs).ld.length ≤ 30 ∧ sumW (fW gs) (stt gs).ld = (stt gs).wk ∧ ∀ c ∈ (stt gs).ld, 0 ≤ fW gs c.b := by
  have h1 := h.sea.wk
  have h2 := h.few
  exact ⟨by omega, by omega, h.sum.symm, fun c hc => (h.each hl hc).2.2⟩
theorem preS_spA {n a : Int} {ws : List Int} {k : Nat} : ∀ {m : Nat}, m ≤ k → preS (spA n a ws k) m = n * preS ws m / a
  | 0, _ => by unfold preS; simp
  | m + 1, h => by
    rw [preS, preS_spA (by omega), spA_nth (by omega)]
    unfold spK
    omega
/-- the shares, one by one -/
theorem share_at {n a : Int} {ws : List Int} (hn : 0 ≤ n) (ha : 0 < a) (hw : ∀ x ∈ ws, 0 ≤ x) (he : preS ws ws.length = a) {m : Nat} (hm : m < ws.length) :
    0 ≤ nth (spA n a ws ws.length) m ∧ (nth ws m = 0 → nth (spA n a ws ws.length) m = 0) ∧ (0 ≤ preS (spA n a ws ws.length) m ∧ preS (spA n a ws ws.length) m + nth (spA n a ws ws.length) m ≤ n) := by
  have h1 := preS_up hw (j := m) (k := m + 1) (by omega) (by omega)
  have h2 := preS_up hw (j := m + 1) (k := ws.length) (by omega) (Nat.le_refl _)
  rw [he] at h2
  have h3 := sp_bd hn ha h1.1 h1.2 h2.2
  have e1 := preS_spA (n := n) (a := a) (ws := ws) (k := ws.length) (m := m) (by omega)
  have e2 := preS_spA (n := n) (a := a) (ws := ws) (k := ws.length) (m := m + 1) (by omega)
  rw [preS] at e2
  refine ⟨by omega, fun h0 => ?_, by omega, by omega⟩
  have e3 : preS ws (m + 1) = preS ws m := by rw [preS, h0, Int.add_zero]
  rw [e3] at e2
  omega
theorem share_all {n a : Int} {ws : List Int} (ha : 0 < a) (he : preS ws ws.length = a) : preS (spA n a ws ws.length) ws.length = n := by
  rw [preS_spA (Nat.le_refl _), he, Int.mul_ediv_cancel _ (by omega)]

theorem SIn.keepH {w w' : World} {V : SG} (h : SIn w V 0 0 0) (u : Upd (fun i => w.heap.size ≤ i) w w') : SIn w' V 0 0 0 :=
  ⟨h.hs.keep u (fun hp hs => by have := h.hs.lt hp; omega), fun r hr => (h.cs r hr).keep u (fun hp hs => by have := (h.cs r hr).lt hp; omega), h.ls.keep u (fun hp hs => by have := h.ls.lt hp; omega), h.us.keep u (fun hp hs => by have := h.us.lt hp; omega)⟩

end Go.Proofs.YtagmkfbbhfaceaaGreatDoor
