/-
  Part 16 of the proof: contracts and plain laws. Conditions: none.
-/
import Derived.Test.YtagmodjadmecdaaGreatJK15
namespace Go.Proofs.YtagmodjadmecdaaGreat
open Go Go.RowKit Tryz
theorem nth_snE' {α : Type} [Inhabited α] {xs : List α} {x : α} {j : Nat} (h : j = xs.length) : nth (xs ++ [x]) j = x := by subst h; simp [nth, List.getD_eq_getElem?_getD]

def SlrF (fb : Nat) (w : World) (h : HS) : Prop := SlrM w h ∧ (0 < h.ps.length → h.bp ≠ fb) ∧ (0 < h.ds.length → h.bd ≠ fb)
theorem SlrF.keep {fb : Nat} {w w' : World} {S : Nat → Prop} {h : HS} (m : SlrF fb w h) (u : Upd S w w') (hS : ∀ i, S i → i = fb) : SlrF fb w' h :=
  ⟨⟨m.1.hp.keep u (fun q z => m.2.1 q (hS _ z)), m.1.hpl, m.1.hd.keep u (fun q z => m.2.2 q (hS _ z)), m.1.hdl⟩, m.2⟩
def LstF (fb : Nat) (w : World) (h : HL) : Prop := (Sl encI 1 w h.ao h.b h.o h.xs ∧ h.xs.length ≤ 1000000) ∧ (0 < h.xs.length → fb < h.b)
theorem LstF.keep {fb : Nat} {w w' : World} {S : Nat → Prop} {h : HL} (m : LstF fb w h) (u : Upd S w w') (hS : ∀ i, S i → i = fb) : LstF fb w' h :=
  ⟨⟨m.1.1.keep u (fun q z => by have := m.2 q; have := hS _ z; omega), m.1.2⟩, m.2⟩
def addD (s : Slr) (d : Dty) : Slr := ⟨s.f, s.u, s.ps, s.ds ++ [d]⟩
def setHS (hs : List HS) (i : Nat) (d : Dty) (ad : Option Addr) (gd cd : Nat) : List HS := hs.set i ⟨(nth hs i).f, (nth hs i).u, (nth hs i).ps, (nth hs i).ap, (nth hs i).bp, (nth hs i).op, (nth hs i).cp, (nth hs i).ds ++ [d], ad, gd, 0, cd⟩
theorem setHS_map {hs : List HS} {i : Nat} {d : Dty} {ad : Option Addr} {gd cd : Nat} (hi : i < hs.length) : (setHS hs i d ad gd cd).map HS.slr = (hs.map HS.slr).set i (addD (nth (hs.map HS.slr) i) d) := by unfold setHS; rw [List.map_set, nth_map2 _ hi]; rfl
theorem Acc.same {α : Type} {enc : α → List Value} {k : Nat} {e : TypeId} {base base' : Nat} {w : World} {ao : Option Addr} {g cap : Nat} {xs : List α} (h : Acc enc k e base w ao g cap xs) (hb : base' ≤ g ∧ base ≤ g) : Acc enc k e base' w ao g cap xs := by
  refine ⟨h.lt, ?_⟩
  rcases h.at_ with ⟨_, _, _, h4⟩ | ⟨h1, _, h3⟩
  · omega
  · exact .inr ⟨h1, hb.1, h3⟩
def blkM (o : Bool) (m : Mb) : Mb := if o = true then ⟨m.f, -1, m.ps, m.ts⟩ else m
def mbO (os : List Bool) (ss : List Slr) : List Mb := List.zipWith (fun o s => blkM o (boardP s)) os ss
theorem mbO_len {os : List Bool} {ss : List Slr} (h : os.length = ss.length) : (mbO os ss).length = ss.length := by unfold mbO; rw [List.length_zipWith, h, Nat.min_self]
theorem mbO_at {os : List Bool} {ss : List Slr} {i : Nat} (h : os.length = ss.length) (hi : i < ss.length) : nth (mbO os ss) i = blkM (nth os i) (boardP (nth ss i)) := by
  rw [nth_eq (by rw [mbO_len h]; exact hi), nth_eq (by omega), nth_eq hi]
  simp [mbO]
theorem mbO_no : ∀ {os : List Bool} {ss : List Slr}, os.length = ss.length → (∀ o ∈ os, o = false) → mbO os ss = ss.map boardP
  | [], [], _, _ => rfl
  | o :: os, s :: ss, h, ho => by
    have h1 := ho o (by simp)
    subst h1
    have h2 := mbO_no (os := os) (ss := ss) (by simpa using h) (fun o h => ho o (by simp [h]))
    unfold mbO at h2 ⊢
    rw [List.zipWith_cons_cons, h2]; rfl
theorem can_out {r : Rul} {x : Leg} {m : Mb} (hx : okLeg x = true) : canM r x (blkM true m) = false := by
  have h1 := (okLeg_ok hx).1
  unfold okDty at h1
  rw [decide_eq_true_eq] at h1
  unfold canM canB blkM winM
  rw [if_pos rfl, decide_eq_false (by simp only []; omega), Bool.false_and]
theorem can_in {r : Rul} {x : Leg} {s : Slr} : canM r x (blkM false (boardP s)) = MayR r s x := rfl
theorem mbO_add {r : Rul} {x : Leg} {os : List Bool} {ss : List Slr} {i : Nat} (h : os.length = ss.length) (hi : i < ss.length) (ho : nth os i = false) (hc : MayR r (nth ss i) x = true) : mbO os (ss.set i (addD (nth ss i) x.t)) = (mbO os ss).set i (aftM x (nth (mbO os ss) i)) := by
  refine ext_nth (by rw [mbO_len (by rw [List.length_set]; exact h), List.length_set, List.length_set, mbO_len h]) fun j hj => ?_
  rw [mbO_len (by rw [List.length_set]; exact h), List.length_set] at hj
  rw [mbO_at (by rw [List.length_set]; exact h) (by rw [List.length_set]; exact hj), nth_set' hi, nth_set' (by rw [mbO_len h]; exact hi)]
  by_cases e : j = i
  · subst e
    rw [if_pos rfl, if_pos rfl, mbO_at h hj, ho]
    have hw : winM (nth ss j).f (nth ss j).u x = true := canB_win hc
    unfold aftM blkM canT addD boardP
    simp only [Bool.false_eq_true, if_false]
    rw [if_pos hw, lng_snoc]
  · rw [if_neg e, if_neg e, mbO_at h hj]
def tmP (r : Rul) (ms : List Mb) (xs : List Leg) (k : Nat) (ns : List Int) (i0 : Nat) (pl : Int) (up : Nat) : Option (List (List Int)) × Nat :=
  if k = xs.length then (some [], max up k) else tryF (fun t u => asgP r (xs.drop (k + 1)) t.ms (k + 1) u) (teamsP r (nth xs k) ((nth xs k).h.toNat - ns.length) i0 ns pl ms) (max up k)
theorem tm_start {r : Rul} {ms : List Mb} {xs : List Leg} {k up : Nat} (hk : k ≤ xs.length) : tmP r ms xs k [] 0 0 up = asgP r (xs.drop k) ms k up := by
  unfold tmP
  by_cases e : k = xs.length
  · rw [if_pos e, e, List.drop_length]; rfl
  · rw [if_neg e, drop_nth (show k < xs.length by omega), asgP]; rfl
theorem tryF_app {f : Tm → Nat → Option (List (List Int)) × Nat} {b : List Tm} : ∀ {a : List Tm} {u : Nat}, tryF f (a ++ b) u = match tryF f a u with | (some p, u') => (some p, u') | (none, u') => tryF f b u'
  | [], u => rfl
  | t :: a, u => by
    rw [List.cons_append, tryF, tryF]
    cases hq : f t u with
    | mk q u' =>
      cases q with
      | none => exact tryF_app
      | some p => rfl
def FoundR (fb : Nat) (pre : List (List Int)) (R : Option (List (List Int)) × Nat) (w : World) : Prop :=
  (R.1 = none ∧ Blk w fb 72 [.bool false, .slice none 0 0, .int .i64 (R.2 : Int)]) ∨
  (∃ q ao g c rows, R.1 = some q ∧ Blk w fb 72 [.bool true, .slice ao (List.length rows) c, .int .i64 (R.2 : Int)] ∧ Sl encHL 1 w ao g 0 rows ∧ (0 < rows.length → fb < g) ∧ (∀ h ∈ rows, LstF fb w h) ∧ rows.map HL.xs = pre ++ q)
theorem FoundR.ext {fb : Nat} {pre : List (List Int)} {R : Option (List (List Int)) × Nat} {w w' : World} (h : FoundR fb pre R w) (u : Ext w w') : FoundR fb pre R w' := by
  rcases h with ⟨h1, h2⟩ | ⟨q, ao, g, c, rows, h1, h2, h3, h4, h5, h6⟩
  · exact .inl ⟨h1, h2.kx u⟩
  · exact .inr ⟨q, ao, g, c, rows, h1, h2.kx u, h3.keep u (fun _ z => z), h4, fun h hh => (h5 h hh).keep u (fun _ z => z.elim), h6⟩
structure TryP (r : Rul) (fb : Nat) (hs : List HS) (al : Option Addr) (bl ol cl : Nat) (ss : List Slr) (xs : List Leg) (ax : Option Addr) (bx ox cx : Nat) (os : List Bool) (ab : Option Addr) (bb ob cb : Nat) (rows : List HL) (ar : Option Addr) (br cr : Nat) (ns : List Int) (an : Option Addr) (bn on cn : Nat) (i0 : Nat) (pl : Int) (up n : Nat) (w : World) : Prop where
  hr : okRul r = true
  f : Blk w fb 72 [.bool false, .slice none 0 0, .int .i64 (up : Int)]
  hl : Sl encHS 4 w al bl ol hs
  hb : 0 < hs.length → bl ≠ fb
  hm : ∀ h ∈ hs, SlrF fb w h
  hss : hs.map HS.slr = ss
  h6 : hs.length ≤ 6
  hds : ∀ s ∈ ss, s.ds.length + n ≤ 400
  hod : ∀ s ∈ ss, ∀ d ∈ s.ds, okDty d = true
  hxs : Sl encLeg 7 w ax bx ox xs
  hxb : 0 < xs.length → bx ≠ fb
  hxl : xs.length ≤ 8
  hox : ∀ x ∈ xs, okLeg x = true
  ho : Sl encB 1 w ab bb ob os
  hob : 0 < os.length → bb ≠ fb
  hol : os.length = hs.length
  hrw : Sl encHL 1 w ar br 0 rows
  hrb : 0 < rows.length → fb < br
  hrm : ∀ h ∈ rows, LstF fb w h
  hk : rows.length ≤ xs.length
  hn : Sl encI 1 w an bn on ns
  hnb : 0 < ns.length → fb < bn
  hnl : rows.length < xs.length → (ns.length : Int) ≤ (nth xs rows.length).h
  hn3 : ns.length ≤ 3
  hi : (ns.length = 0 ∧ i0 = 0) ∨ (0 < ns.length ∧ nth ns (ns.length - 1) + 1 = (i0 : Int))
  hi6 : i0 ≤ 6
  hpl : 0 ≤ pl ∧ pl ≤ ns.length
  hmu : 4 * (xs.length - rows.length) ≤ n + ns.length
def TryQ (n : Nat) : Prop := ∀ r fb hs al bl ol cl ss xs ax bx ox cx os ab bb ob cb rows ar br cr ns an bn on cn i0 pl up w, TryP r fb hs al bl ol cl ss xs ax bx ox cx os ab bb ob cb rows ar br cr ns an bn on cn i0 pl up n w →
  CallsV Tryz.prog 62 [.agg #[.int .i64 r.rest, .int .i64 r.span, .int .i64 r.work, .int .i64 r.week, .int .i64 r.ww], .slice al hs.length cl, .slice ax xs.length cx, .slice ab os.length cb, .slice ar rows.length cr, .slice an ns.length cn, .int .i64 pl, .pointer (some ⟨fb, 0, none⟩)] w
    (fun v w' => v = .tuple #[] ∧ FoundR fb (rows.map HL.xs) (tmP r (mbO os ss) xs rows.length ns i0 pl up) w' ∧ Upd (fun i => i = fb) w w')
theorem TryQ.two {n : Nat} (h : TryQ n) {r fb hs al bl ol cl ss xs ax bx ox cx os ab bb ob cb rows ar br cr ns an bn on cn i0 pl up w} (hp : TryP r fb hs al bl ol cl ss xs ax bx ox cx os ab bb ob cb rows ar br cr ns an bn on cn i0 pl up n w) (pre : List (List Int)) (R : Option (List (List Int)) × Nat) (hpre : rows.map HL.xs = pre) (hR : tmP r (mbO os ss) xs rows.length ns i0 pl up = R) :
  CallsV Tryz.prog 62 [.agg #[.int .i64 r.rest, .int .i64 r.span, .int .i64 r.work, .int .i64 r.week, .int .i64 r.ww], .slice al hs.length cl, .slice ax xs.length cx, .slice ab os.length cb, .slice ar rows.length cr, .slice an ns.length cn, .int .i64 pl, .pointer (some ⟨fb, 0, none⟩)] w
    (fun v w' => (v = .tuple #[] ∧ R.1 = none ∧ Blk w' fb 72 [.bool false, .slice none 0 0, .int .i64 (R.2 : Int)] ∧ Upd (fun i => i = fb) w w') ∨
      (∃ q ao g c rows', v = .tuple #[] ∧ R.1 = some q ∧ Blk w' fb 72 [.bool true, .slice ao (List.length rows') c, .int .i64 (R.2 : Int)] ∧ (Sl encHL 1 w' ao g 0 rows' ∧ (0 < rows'.length → fb < g) ∧ (∀ h ∈ rows', LstF fb w' h) ∧ rows'.map HL.xs = pre ++ q) ∧ Upd (fun i => i = fb) w w')) := by
  subst hpre hR
  refine (h r fb hs al bl ol cl ss xs ax bx ox cx os ab bb ob cb rows ar br cr ns an bn on cn i0 pl up w hp).mono fun v w' ⟨h1, h2, h3⟩ => ?_
  rcases h2 with ⟨h4, h5⟩ | ⟨q, ao, g, c, rows', h4, h5, h6⟩
  · exact .inl ⟨h1, h4, h5, h3⟩
  · exact .inr ⟨q, ao, g, c, rows', h1, h4, h5, h6, h3⟩
theorem mt_none {R0 T R2 : Option (List (List Int)) × Nat} {F : Nat → Option (List (List Int)) × Nat} (hR : R0 = T) (hT : T = match R2 with | (some p, u') => (some p, u') | (none, u') => F u') (hn : R2.1 = none) : R0 = F R2.2 := by
  rw [hR, hT]; rcases R2 with ⟨a, b⟩; simp only at hn; subst hn; rfl
theorem mt_some {R0 T R2 : Option (List (List Int)) × Nat} {F : Nat → Option (List (List Int)) × Nat} {q : List (List Int)} (hR : R0 = T) (hT : T = match R2 with | (some p, u') => (some p, u') | (none, u') => F u') (hn : R2.1 = some q) : R0 = (some q, R2.2) := by
  rw [hR, hT]; rcases R2 with ⟨a, b⟩; simp only at hn; subst hn; rfl
theorem tryF_ge {f : Tm → Nat → Option (List (List Int)) × Nat} (hf : ∀ t u, u ≤ (f t u).2) : ∀ {ts : List Tm} {u : Nat}, u ≤ (tryF f ts u).2
  | [], u => Nat.le_refl _
  | t :: ts, u => by
    have h1 := hf t u
    rw [tryF]
    split
    · rename_i h; rw [h] at h1; exact h1
    · rename_i h; rw [h] at h1; exact Nat.le_trans h1 (tryF_ge hf)
theorem asg_ge {r : Rul} : ∀ {xs : List Leg} {ms : List Mb} {k u : Nat}, u ≤ (asgP r xs ms k u).2
  | [], _, k, u => by rw [asgP]; exact Nat.le_max_left _ _
  | x :: xs, ms, k, u => by rw [asgP]; exact Nat.le_trans (Nat.le_max_left u k) (tryF_ge (fun t u => asg_ge))
theorem tm_ge {r : Rul} {ms : List Mb} {xs : List Leg} {k : Nat} {ns : List Int} {i0 : Nat} {pl : Int} {up : Nat} : up ≤ (tmP r ms xs k ns i0 pl up).2 := by
  unfold tmP
  split
  · exact Nat.le_max_left _ _
  · exact Nat.le_trans (Nat.le_max_left up k) (tryF_ge (fun t u => asg_ge))
theorem mb_can {r : Rul} {x : Leg} {os : List Bool} {ss : List Slr} {i : Nat} (h : os.length = ss.length) (hi : i < ss.length) (hx : okLeg x = true) : canM r x (nth (mbO os ss) i) = (MayR r (nth ss i) x && !(nth os i)) := by
  rw [mbO_at h hi]
  cases nth os i with
  | false => rw [can_in]; simp
  | true => rw [can_out hx]; simp
theorem mb_plt {x : Leg} {os : List Bool} {ss : List Slr} {i : Nat} (h : os.length = ss.length) (hi : i < ss.length) : pltI (nth (mbO os ss) i) x = if pltP (nth ss i).ps x = true then 1 else 0 := by
  rw [mbO_at h hi]
  cases nth os i <;> rfl
theorem tm_full {r : Rul} {ms : List Mb} {xs : List Leg} {k : Nat} {ns : List Int} {i0 : Nat} {pl : Int} {up u1 : Nat} (hk : k < xs.length) (hn : (ns.length : Int) = (nth xs k).h) (hu : u1 = max up k) :
    tmP r ms xs k ns i0 pl up = if (nth xs k).p ≤ pl then (match tmP r ms xs (k + 1) [] 0 0 u1 with | (some p, u') => (some (ns :: p), u') | (none, u') => (none, u')) else (none, u1) := by
  rw [tm_start (by omega)]
  unfold tmP
  rw [if_neg (by omega), show (nth xs k).h.toNat - ns.length = 0 by omega, teamsP, ← hu]
  by_cases e : (nth xs k).p ≤ pl
  · rw [if_pos e, if_pos e, tryF]
    simp only [tryF]
    split <;> simp_all
  · rw [if_neg e, if_neg e, tryF]
abbrev fT (r : Rul) (xs : List Leg) (k : Nat) : Tm → Nat → Option (List (List Int)) × Nat := fun t u => asgP r (xs.drop (k + 1)) t.ms (k + 1) u
abbrev tmT (r : Rul) (ms : List Mb) (xs : List Leg) (k : Nat) (ns : List Int) (pl : Int) (i : Nat) : List Tm := teamsP r (nth xs k) ((nth xs k).h.toNat - ns.length) i ns pl ms
theorem tm_loop {r : Rul} {ms : List Mb} {xs : List Leg} {k : Nat} {ns : List Int} {i0 : Nat} {pl : Int} {up u1 : Nat} (hk : k < xs.length) (hu : u1 = max up k) : tmP r ms xs k ns i0 pl up = tryF (fT r xs k) (tmT r ms xs k ns pl i0) u1 := by
  unfold tmP; rw [if_neg (by omega), ← hu]
theorem tm_end {r : Rul} {ms : List Mb} {xs : List Leg} {k : Nat} {ns : List Int} {pl : Int} {i u : Nat} (hn : (ns.length : Int) < (nth xs k).h) (hi : ms.length ≤ i) : tryF (fT r xs k) (tmT r ms xs k ns pl i) u = (none, u) := by
  unfold tmT; rw [teams_end' (by omega) hi]; rfl
theorem tm_skip {r : Rul} {ms : List Mb} {xs : List Leg} {k : Nat} {ns : List Int} {pl : Int} {i u : Nat} (hn : (ns.length : Int) < (nth xs k).h) (hi : i < ms.length) (hc : canM r (nth xs k) (nth ms i) = false) : tryF (fT r xs k) (tmT r ms xs k ns pl i) u = tryF (fT r xs k) (tmT r ms xs k ns pl (i + 1)) u := by
  unfold tmT; rw [teams_step' (by omega) hi, if_neg (by rw [hc]; simp), List.nil_append]
theorem tm_take {r : Rul} {ms ms' : List Mb} {xs : List Leg} {k : Nat} {ns : List Int} {pl pl' : Int} {i u : Nat} (hk : k < xs.length) (hn : (ns.length : Int) < (nth xs k).h) (hi : i < ms.length) (hc : canM r (nth xs k) (nth ms i) = true) (hm : ms' = ms.set i (aftM (nth xs k) (nth ms i))) (hp : pl' = pl + pltI (nth ms i) (nth xs k)) (hu : k ≤ u) :
    tryF (fT r xs k) (tmT r ms xs k ns pl i) u = match tmP r ms' xs k (ns ++ [(i : Int)]) (i + 1) pl' u with | (some p, u') => (some p, u') | (none, u') => tryF (fT r xs k) (tmT r ms xs k ns pl (i + 1)) u' := by
  subst hm hp
  unfold tmT
  rw [teams_step' (by omega) hi, if_pos hc, tryF_app, tm_loop hk (show u = max u k by omega), tmT, List.length_append, List.length_singleton, show (nth xs k).h.toNat - (ns.length + 1) = (nth xs k).h.toNat - ns.length - 1 by omega]
theorem TryP.whole {r fb hs al bl ol cl ss xs ax bx ox cx os ab bb ob cb rows ar br cr ns an bn on cn i0 pl up n} {w w' : World} (hp : TryP r fb hs al bl ol cl ss xs ax bx ox cx os ab bb ob cb rows ar br cr ns an bn on cn i0 pl up n w) (u : Upd (fun i => i = fb) w w') {u1 : Nat} (hB : Blk w' fb 72 [.bool false, .slice none 0 0, .int .i64 (u1 : Int)]) (hk : rows.length < xs.length) (hn : (ns.length : Int) = (nth xs rows.length).h)
    {e base g c : Nat} {ao : Option Addr} (hA : Acc encHL 1 e base w' ao g c (rows ++ [(⟨ns, an, bn, on, cn⟩ : HL)])) (hb : fb < base) :
    TryP r fb hs al bl ol cl ss xs ax bx ox cx os ab bb ob cb (rows ++ [(⟨ns, an, bn, on, cn⟩ : HL)]) ao g c [] none 0 0 0 0 0 u1 (n - 1) w' := by
  have h3 := (okLeg_ok (hp.hox _ (nth_mem hk))).2.1
  have hmu := hp.hmu
  have hl1 : (rows ++ [(⟨ns, an, bn, on, cn⟩ : HL)]).length = rows.length + 1 := by rw [List.length_append, List.length_singleton]
  exact { hr := hp.hr, f := hB, hl := hp.hl.keep u hp.hb, hb := hp.hb, hm := fun h hh => (hp.hm h hh).keep u (fun _ z => z), hss := hp.hss, h6 := hp.h6, hds := fun s h => by have := hp.hds s h; omega, hod := hp.hod, hxs := hp.hxs.keep u hp.hxb, hxb := hp.hxb, hxl := hp.hxl, hox := hp.hox, ho := hp.ho.keep u hp.hob, hob := hp.hob, hol := hp.hol, hrw := hA.sl (fun _ => rfl), hrb := fun _ => by have := hA.geN (by simp); omega, hrm := fun h hh => (List.mem_append.1 hh).elim (fun q => (hp.hrm h q).keep u (fun _ z => z)) (fun q => by rw [List.mem_singleton.1 q]; exact ⟨⟨hp.hn.keep u (fun h => Nat.ne_of_gt (hp.hnb h)), by have := hp.hn3; show ns.length ≤ 1000000; omega⟩, hp.hnb⟩), hk := by omega, hn := Sl.nil _ _ _ _ _ _, hnb := fun h => absurd h (Nat.lt_irrefl _), hnl := fun h => by have := (okLeg_ok (hp.hox _ (nth_mem h))).2.1; show ((0 : Nat) : Int) ≤ _; omega, hn3 := Nat.zero_le _, hi := .inl ⟨rfl, rfl⟩, hi6 := Nat.zero_le _, hpl := ⟨Int.le_refl _, Int.le_refl _⟩, hmu := by rw [hl1]; show _ ≤ n - 1 + 0; omega }
theorem TryP.more {r fb hs al bl ol cl ss xs ax bx ox cx os ab bb ob cb rows ar br cr ns an bn on cn i0 pl up n} {w w' : World} (hp : TryP r fb hs al bl ol cl ss xs ax bx ox cx os ab bb ob cb rows ar br cr ns an bn on cn i0 pl up n w) (u : Upd (fun i => i = fb) w w') {uu i : Nat} (hB : Blk w' fb 72 [.bool false, .slice none 0 0, .int .i64 (uu : Int)]) (hk : rows.length < xs.length) (hn : (ns.length : Int) < (nth xs rows.length).h) (hi : i < hs.length)
    {e base g c e2 base2 g2 c2 : Nat} {ao ao2 : Option Addr} {ad : Option Addr} {gd cd e3 base3 : Nat} (hA : Acc encHS 4 e base w' ao g c (setHS hs i (nth xs rows.length).t ad gd cd)) (hb : fb < base) (hD : Acc encDty 4 e3 base3 w' ad gd cd ((nth hs i).ds ++ [(nth xs rows.length).t])) (hb3 : fb < base3) (hN : Acc encI 1 e2 base2 w' ao2 g2 c2 (ns ++ [(i : Int)])) (hb2 : fb < base2) {pl' : Int} (hpl : pl' = pl ∨ pl' = pl + 1) :
    TryP r fb (setHS hs i (nth xs rows.length).t ad gd cd) ao g 0 c (ss.set i (addD (nth ss i) (nth xs rows.length).t)) xs ax bx ox cx os ab bb ob cb rows ar br cr (ns ++ [(i : Int)]) ao2 g2 0 c2 (i + 1) pl' uu (n - 1) w' := by
  have h3 := okLeg_ok (hp.hox _ (nth_mem hk))
  have h4 := h3.2.1
  have hmu := hp.hmu
  have h6 := hp.h6
  have hpp := hp.hpl
  have hsl : ss.length = hs.length := by rw [← hp.hss, List.length_map]
  have hwl : (setHS hs i (nth xs rows.length).t ad gd cd).length = hs.length := by unfold setHS; rw [List.length_set]
  have hwe : (setHS hs i (nth xs rows.length).t ad gd cd).map HS.slr = ss.set i (addD (nth ss i) (nth xs rows.length).t) := by rw [setHS_map hi, hp.hss]
  have hmW : ∀ h ∈ setHS hs i (nth xs rows.length).t ad gd cd, SlrF fb w' h := fun h hh => by
    have h7 : ∀ q ∈ hs, SlrF fb w' q := fun q hq => (hp.hm q hq).keep u (fun _ z => z)
    rcases List.mem_or_eq_of_mem_set hh with q | q
    · exact h7 h q
    · have h8 := h7 (nth hs i) (nth_mem hi)
      have h9 := hp.hds _ (nth_mem (show i < ss.length by omega))
      rw [← hp.hss, nth_map2 _ hi] at h9
      have h9b : (nth hs i).ds.length + n ≤ 400 := h9
      rw [q]
      exact ⟨⟨h8.1.hp, h8.1.hpl, hD.sl (fun _ => rfl), by show ((nth hs i).ds ++ [_]).length ≤ 1000000; rw [List.length_append, List.length_singleton]; omega⟩, h8.2.1, fun _ => by have := hD.geN (by simp); show gd ≠ fb; omega⟩
  have hl1 : (ns ++ [(i : Int)]).length = ns.length + 1 := by rw [List.length_append, List.length_singleton]
  exact { hr := hp.hr, f := hB, hl := hA.sl (fun _ => rfl), hb := fun h => by have := hA.geN (fun e => by rw [e] at h; exact absurd h (Nat.lt_irrefl _)); omega, hm := hmW, hss := hwe, h6 := by omega, hds := fun s h => by
            rcases List.mem_or_eq_of_mem_set h with q | q
            · have := hp.hds s q; omega
            · have := hp.hds _ (nth_mem (show i < ss.length by omega))
              rw [q]; show ((nth ss i).ds ++ [_]).length + _ ≤ _; rw [List.length_append, List.length_singleton]; omega, hod := fun s h => by
            rcases List.mem_or_eq_of_mem_set h with q | q
            · exact hp.hod s q
            · rw [q]; exact ok_snoc (hp.hod _ (nth_mem (show i < ss.length by omega))) h3.1, hxs := hp.hxs.keep u hp.hxb, hxb := hp.hxb, hxl := hp.hxl, hox := hp.hox, ho := hp.ho.keep u hp.hob, hob := hp.hob, hol := by rw [hwl]; exact hp.hol, hrw := hp.hrw.keep u (fun h => Nat.ne_of_gt (hp.hrb h)), hrb := hp.hrb, hrm := fun h hh => (hp.hrm h hh).keep u (fun _ z => z), hk := hp.hk, hn := hN.sl (fun _ => rfl), hnb := fun _ => by have := hN.geN (by simp); omega, hnl := fun _ => by rw [hl1]; omega, hn3 := by rw [hl1]; omega, hi := .inr ⟨by rw [hl1]; omega, by rw [hl1, Nat.add_sub_cancel, nth_snE' rfl]; omega⟩, hi6 := by omega, hpl := by rw [hl1]; omega, hmu := by rw [hl1]; omega }
theorem own92 : Own Tryz.prog 92 := ⟨Tryz.f92, func92, by kernel_rfl, by kernel_rfl⟩
theorem own62 : Own Tryz.prog 62 := ⟨Tryz.f62, func62, by kernel_rfl, by kernel_rfl⟩

set_option maxHeartbeats 1000000 in
theorem rWith_c (hs : List HS) (al : Option Addr) (bl ol cl i : Nat) (d : Dty) (w0 : World) (hl : Sl encHS 4 w0 al bl ol hs) (hll : hs.length ≤ 6) (hi : i < hs.length) (hm : ∀ h ∈ hs, SlrM w0 h) (hdl : (nth hs i).ds.length ≤ 900) (hpos : 0 < w0.heap.size) :
    CallsV Tryz.prog 92 [.slice al hs.length cl, .int .i64 (i : Int), .agg #[.int .i64 d.bl, .int .i64 d.bh, .int .i64 d.el, .int .i64 d.eh]] w0 (fun v w' => (∃ ao g cp ad gd cd, v = .slice ao (List.length (setHS hs i d ad gd cd)) cp ∧ Acc encHS 4 79 w0.heap.size w' ao g cp (setHS hs i d ad gd cd) ∧ Acc encDty 4 37 w0.heap.size w' ad gd cd ((nth hs i).ds ++ [d]) ∧ w0.heap.size ≤ g ∧ w0.heap.size ≤ gd) ∧ Ext w0 w') := by
 refine f_enter (N := 26) func92 rfl rfl rfl (c_seq fun K1 hK1 => (c_region (t_box (cs := [.int .i64 d.bl, .int .i64 d.bh, .int .i64 d.el, .int .i64 d.eh]) rfl rfl rfl rfl (fun bk2 w3 ebk2 sbk2 B4 u5 => ?_))))
 have zu5 := u5.size
 refine t_assign rfl rfl rfl (t_nil' (hK1 _ _ (c_seq fun K7 hK7 => (c_region (t_bslice (ps := []) (cs := []) (e := 79) rfl rfl ⟨rfl, rfl⟩ (fun w => by kernel_rfl) (fun bk8 w9 ebk8 sbk8 B10 u11 => ?_))))))
 have zu11 := u11.size
 have E12 := ((Upd.refl (fun _ => False) w0).nx u5).nx u11
 refine t_move rfl rfl rfl (t_copy (enc := encHS) (z := .agg #[.int .i64 0, .int .i64 0, .slice none 0 0, .slice none 0 0]) (bytes := 64) (k := 4) (ys := hs) underlying54 (by kernel_rfl) rfl (by decide) (fun _ => rfl) (by intro x; simp [encHS, Value.oneCell']) rfl rfl rfl rfl B10 (hl.keep E12 (fun _ h => h)) (by omega) (by decide) (fun ao13 gb14 cp15 w16 A17 u18 gegb14 => ?_))
 have zu18 := u18.size
 have lt_gb14 := A17.lt
 refine t_assign rfl rfl rfl (t_nil' (hK7 _ _ (c_seq fun K20 hK20 => (c_drawnM follows (fun i => i = gb14) (.look 0 (.look 1 (.look 3 (.look 4 (.look 5 (.look 6 (.look 9 (.act 2 (.act 7 (.act 8 (.act 10 (.act 11 (.look 12 (.look 13 (.act 14 .done .stop))) .stop) .stop) (.act 10 (.act 8 (.act 11 (.look 12 (.look 13 (.act 14 .done .stop))) .stop) .stop) .stop)) (.act 10 (.act 7 (.act 8 (.act 11 (.look 12 (.look 13 (.act 14 .done .stop))) .stop) .stop) .stop) .stop)) (.act 7 (.act 2 (.act 8 (.act 10 (.act 11 (.look 12 (.look 13 (.act 14 .done .stop))) .stop) .stop) (.act 10 (.act 8 (.act 11 (.look 12 (.look 13 (.act 14 .done .stop))) .stop) .stop) .stop)) (.act 10 (.act 2 (.act 8 (.act 11 (.look 12 (.look 13 (.act 14 .done .stop))) .stop) .stop) .stop) .stop)) (.act 10 (.act 2 (.act 7 (.act 8 (.act 11 (.look 12 (.look 13 (.act 14 .done .stop))) .stop) .stop) .stop) (.act 7 (.act 2 (.act 8 (.act 11 (.look 12 (.look 13 (.act 14 .done .stop))) .stop) .stop) .stop) .stop)) .stop)))))))))) (by kernel_rfl) fun w21 u22 => ?_))))
 have zu22 := u22.size
 have E23 := (E12.next u18 (fun i hi h => by omega)).nx u22
 refine y_move rfl rfl rfl (y_move rfl rfl rfl (y_move rfl rfl rfl (y_move rfl rfl rfl ?_)))
 have D24 := (A17.kE u22)
 have i25 : i < hs.length := (by omega)
 refine y_index (j := i) underlying54 sizeOf79 rfl rfl rfl rfl ((D24.sl (fun _ => rfl)).addr (by omega)) rfl i25 (y_field underlying79 rfl sizeOf24 (0 + i * 4 + 3) rfl rfl rfl rfl ?_)
 have B26 := (((B4.kx u11).keep u18 (by omega)).kx u22)
 refine y_loadN (vs := [.int .i64 d.bl, .int .i64 d.bh, .int .i64 d.el, .int .i64 d.eh]) isAgg37 sizeOf37 rfl rfl rfl (B26.at.sub 0 4) rfl (by show ¬ (bk2 = gb14); first | omega | assumption) (s_or ?_ ?_)
 ·
  refine s_do (t_bslice (ps := []) (cs := []) (e := 37) rfl rfl ⟨rfl, rfl⟩ (fun w => by kernel_rfl) (fun bk27 w28 ebk27 sbk27 B29 u30 => ?_))
  have zu30 := u30.size
  have E31 := E23.nx u30
  refine s_next ((Upd.refl _ _).nx u30) (s_or ?_ ?_)
  ·
   refine s_do ?_
   have D32 := (D24.kE u30)
   refine t_load isAgg24 rfl rfl rfl (((D32.sl (fun _ => rfl)).at_ i (by omega)) 3 _ rfl) (s_next (Upd.refl _ _) (s_or ?_ ?_))
   ·
    refine s_do (t_copy (enc := encDty) (z := .agg #[.int .i64 0, .int .i64 0, .int .i64 0, .int .i64 0]) (bytes := 32) (k := 4) (ys := (nth hs i).ds) underlying24 (by kernel_rfl) rfl (by decide) (fun _ => rfl) (by intro x; simp [encDty, Value.oneCell']) rfl rfl rfl rfl B29 ((hm (nth hs i) (nth_mem (by omega))).hd.keep E31 (fun _ => fun h => h)) (by omega) (by decide) (fun ao33 gb34 cp35 w36 A37 u38 gegb34 => ?_))
    have zu38 := u38.size
    have lt_gb34 := A37.lt
    refine s_next ((Upd.refl _ _).next u38 (fun i hi (h : (i = bk27 ∧ bk27 ≤ i)) => show w21.heap.size ≤ i ∨ (i = gb14) by first | omega | exact .inr h)) (s_do (t_bslice (ps := [(0, .agg #[.int .i64 d.bl, .int .i64 d.bh, .int .i64 d.el, .int .i64 d.eh])]) (cs := [.int .i64 d.bl, .int .i64 d.bh, .int .i64 d.el, .int .i64 d.eh]) (e := 37) rfl rfl ⟨rfl, rfl⟩ (fun w => by kernel_rfl) (fun bk40 w41 ebk40 sbk40 B42 u43 => ?_)))
    have zu43 := u43.size
    refine s_next ((Upd.refl _ _).nx u43) (s_do ?_)
    have D45 := (A37.kE u43)
    refine t_append (z := .agg #[.int .i64 0, .int .i64 0, .int .i64 0, .int .i64 0]) (bytes := 32) (k := 4) (base := bk27) d underlying24 (by kernel_rfl) rfl (by decide) (fun _ => rfl) (by intro x; simp [encDty, Value.oneCell']) rfl rfl rfl rfl D45 B42 (by omega) (by omega) (by decide) (fun ao46 gb47 cp48 w49 A50 u51 gegb47 lngb47 => ?_)
    have zu51 := u51.size
    have lt_gb47 := A50.lt
    refine s_next ((Upd.refl _ _).next u51 (fun i hi (h : (i = gb34 ∧ bk27 ≤ i)) => show w21.heap.size ≤ i ∨ (i = gb14) by first | omega | exact .inr h)) ?_
    have D53 := (((D32.keep u38 (fun hb => show ¬ ((gb14 = bk27 ∧ bk27 ≤ gb14)) by first | omega | assumption)).kE u43).keep u51 (fun hb => show ¬ ((gb14 = gb34 ∧ bk27 ≤ gb14)) by first | omega | assumption))
    have i54 : i < hs.length := (by omega)
    refine y_index (j := i) underlying54 sizeOf79 rfl rfl rfl rfl ((D53.sl (fun _ => rfl)).addr (by omega)) rfl i54 (y_field underlying79 rfl sizeOf24 (0 + i * 4 + 3) rfl rfl rfl rfl (s_do ?_))
    have h000 := hpos
    refine t_storeA (vs := [.slice ao46 ((((nth hs i).ds ++ [d])).length) cp48]) (j := i) (o' := 3) (k := 4) (⟨(nth hs i).f, (nth hs i).u, (nth hs i).ps, (nth hs i).ap, (nth hs i).bp, (nth hs i).op, (nth hs i).cp, ((nth hs i).ds ++ [d]), ao46, gb47, 0, cp48⟩ : HS) (fun _ => rfl) sizeOf24 rfl rfl (by omega) rfl D53 (by first | omega | (simp only [List.length_set, eRuns_len]; omega)) rfl rfl (by decide) (by simp [Value.oneCell']) rfl (fun w55 R57 u56 => ?_)
    have zu56 := u56.size
    refine s_next ((Upd.refl _ _).next u56 (fun i hi (h : i = gb14) => show w21.heap.size ≤ i ∨ (i = gb14) by first | omega | exact .inr h)) (s_nil (hK20 _ _ (c_seq fun K59 hK59 => (c_region (t_move rfl rfl rfl (t_assign rfl rfl rfl (t_nil' (hK59 _ _ (c_ret (f_ret1 (v := .slice ao13 hs.length cp15) results92 rfl ?_))))))))))
    have D60 := (A50.keep u56 (fun hb => show ¬ (gb47 = gb14) by first | omega | assumption))
    have hA9 := R57
    have hD9 := D60
    have gd9 := hD9.geN (by simp)
    have ga9 := hA9.geN (fun e => by have := congrArg List.length e; rw [List.length_set, List.length_nil] at this; omega)
    exact ⟨⟨ao13, gb14, cp15, ao46, gb47, cp48, by unfold setHS; rw [List.length_set], Acc.same hA9 (by omega), Acc.same hD9 (by omega), by omega, by omega⟩, ((((E31.next u38 (fun i hi h => by omega)).nx u43).next u51 (fun i hi h => by omega)).next u56 (fun i hi h => by omega))⟩
   refine s_do (t_bslice (ps := [(0, .agg #[.int .i64 d.bl, .int .i64 d.bh, .int .i64 d.el, .int .i64 d.eh])]) (cs := [.int .i64 d.bl, .int .i64 d.bh, .int .i64 d.el, .int .i64 d.eh]) (e := 37) rfl rfl ⟨rfl, rfl⟩ (fun w => by kernel_rfl) (fun bk61 w62 ebk61 sbk61 B63 u64 => ?_))
   have zu64 := u64.size
   have E65 := E31.nx u64
   refine s_next ((Upd.refl _ _).nx u64) (s_do ?_)
   have B66 := (B29.kx u64)
   refine t_copy (enc := encDty) (z := .agg #[.int .i64 0, .int .i64 0, .int .i64 0, .int .i64 0]) (bytes := 32) (k := 4) (ys := (nth hs i).ds) underlying24 (by kernel_rfl) rfl (by decide) (fun _ => rfl) (by intro x; simp [encDty, Value.oneCell']) rfl rfl rfl rfl B66 ((hm (nth hs i) (nth_mem (by omega))).hd.keep E65 (fun _ => fun h => h)) (by omega) (by decide) (fun ao67 gb68 cp69 w70 A71 u72 gegb68 => ?_)
   have zu72 := u72.size
   have lt_gb68 := A71.lt
   refine s_next ((Upd.refl _ _).next u72 (fun i hi (h : (i = bk27 ∧ bk27 ≤ i)) => show w21.heap.size ≤ i ∨ (i = gb14) by first | omega | exact .inr h)) (s_do ?_)
   have B74 := (B63.keep u72 (by omega))
   refine t_append (z := .agg #[.int .i64 0, .int .i64 0, .int .i64 0, .int .i64 0]) (bytes := 32) (k := 4) (base := bk27) d underlying24 (by kernel_rfl) rfl (by decide) (fun _ => rfl) (by intro x; simp [encDty, Value.oneCell']) rfl rfl rfl rfl A71 B74 (by omega) (by omega) (by decide) (fun ao75 gb76 cp77 w78 A79 u80 gegb76 lngb76 => ?_)
   have zu80 := u80.size
   have lt_gb76 := A79.lt
   refine s_next ((Upd.refl _ _).next u80 (fun i hi (h : (i = gb68 ∧ bk27 ≤ i)) => show w21.heap.size ≤ i ∨ (i = gb14) by first | omega | exact .inr h)) ?_
   have D82 := (((D32.kE u64).keep u72 (fun hb => show ¬ ((gb14 = bk27 ∧ bk27 ≤ gb14)) by first | omega | assumption)).keep u80 (fun hb => show ¬ ((gb14 = gb68 ∧ bk27 ≤ gb14)) by first | omega | assumption))
   have i83 : i < hs.length := (by omega)
   refine y_index (j := i) underlying54 sizeOf79 rfl rfl rfl rfl ((D82.sl (fun _ => rfl)).addr (by omega)) rfl i83 (y_field underlying79 rfl sizeOf24 (0 + i * 4 + 3) rfl rfl rfl rfl (s_do ?_))
   have h000 := hpos
   refine t_storeA (vs := [.slice ao75 ((((nth hs i).ds ++ [d])).length) cp77]) (j := i) (o' := 3) (k := 4) (⟨(nth hs i).f, (nth hs i).u, (nth hs i).ps, (nth hs i).ap, (nth hs i).bp, (nth hs i).op, (nth hs i).cp, ((nth hs i).ds ++ [d]), ao75, gb76, 0, cp77⟩ : HS) (fun _ => rfl) sizeOf24 rfl rfl (by omega) rfl D82 (by first | omega | (simp only [List.length_set, eRuns_len]; omega)) rfl rfl (by decide) (by simp [Value.oneCell']) rfl (fun w84 R86 u85 => ?_)
   have zu85 := u85.size
   refine s_next ((Upd.refl _ _).next u85 (fun i hi (h : i = gb14) => show w21.heap.size ≤ i ∨ (i = gb14) by first | omega | exact .inr h)) (s_nil (hK20 _ _ (c_seq fun K88 hK88 => (c_region (t_move rfl rfl rfl (t_assign rfl rfl rfl (t_nil' (hK88 _ _ (c_ret (f_ret1 (v := .slice ao13 hs.length cp15) results92 rfl ?_))))))))))
   have D89 := (A79.keep u85 (fun hb => show ¬ (gb76 = gb14) by first | omega | assumption))
   have hA9 := R86
   have hD9 := D89
   have gd9 := hD9.geN (by simp)
   have ga9 := hA9.geN (fun e => by have := congrArg List.length e; rw [List.length_set, List.length_nil] at this; omega)
   exact ⟨⟨ao13, gb14, cp15, ao75, gb76, cp77, by unfold setHS; rw [List.length_set], Acc.same hA9 (by omega), Acc.same hD9 (by omega), by omega, by omega⟩, (((E65.next u72 (fun i hi h => by omega)).next u80 (fun i hi h => by omega)).next u85 (fun i hi h => by omega))⟩
  refine s_do (t_bslice (ps := [(0, .agg #[.int .i64 d.bl, .int .i64 d.bh, .int .i64 d.el, .int .i64 d.eh])]) (cs := [.int .i64 d.bl, .int .i64 d.bh, .int .i64 d.el, .int .i64 d.eh]) (e := 37) rfl rfl ⟨rfl, rfl⟩ (fun w => by kernel_rfl) (fun bk90 w91 ebk90 sbk90 B92 u93 => ?_))
  have zu93 := u93.size
  have E94 := E31.nx u93
  refine s_next ((Upd.refl _ _).nx u93) (s_do ?_)
  have D95 := ((D24.kE u30).kE u93)
  refine t_load isAgg24 rfl rfl rfl (((D95.sl (fun _ => rfl)).at_ i (by omega)) 3 _ rfl) (s_next (Upd.refl _ _) (s_do ?_))
  have B96 := (B29.kx u93)
  refine t_copy (enc := encDty) (z := .agg #[.int .i64 0, .int .i64 0, .int .i64 0, .int .i64 0]) (bytes := 32) (k := 4) (ys := (nth hs i).ds) underlying24 (by kernel_rfl) rfl (by decide) (fun _ => rfl) (by intro x; simp [encDty, Value.oneCell']) rfl rfl rfl rfl B96 ((hm (nth hs i) (nth_mem (by omega))).hd.keep E94 (fun _ => fun h => h)) (by omega) (by decide) (fun ao97 gb98 cp99 w100 A101 u102 gegb98 => ?_)
  have zu102 := u102.size
  have lt_gb98 := A101.lt
  refine s_next ((Upd.refl _ _).next u102 (fun i hi (h : (i = bk27 ∧ bk27 ≤ i)) => show w21.heap.size ≤ i ∨ (i = gb14) by first | omega | exact .inr h)) (s_do ?_)
  have B104 := (B92.keep u102 (by omega))
  refine t_append (z := .agg #[.int .i64 0, .int .i64 0, .int .i64 0, .int .i64 0]) (bytes := 32) (k := 4) (base := bk27) d underlying24 (by kernel_rfl) rfl (by decide) (fun _ => rfl) (by intro x; simp [encDty, Value.oneCell']) rfl rfl rfl rfl A101 B104 (by omega) (by omega) (by decide) (fun ao105 gb106 cp107 w108 A109 u110 gegb106 lngb106 => ?_)
  have zu110 := u110.size
  have lt_gb106 := A109.lt
  refine s_next ((Upd.refl _ _).next u110 (fun i hi (h : (i = gb98 ∧ bk27 ≤ i)) => show w21.heap.size ≤ i ∨ (i = gb14) by first | omega | exact .inr h)) ?_
  have D112 := ((D95.keep u102 (fun hb => show ¬ ((gb14 = bk27 ∧ bk27 ≤ gb14)) by first | omega | assumption)).keep u110 (fun hb => show ¬ ((gb14 = gb98 ∧ bk27 ≤ gb14)) by first | omega | assumption))
  have i113 : i < hs.length := (by omega)
  refine y_index (j := i) underlying54 sizeOf79 rfl rfl rfl rfl ((D112.sl (fun _ => rfl)).addr (by omega)) rfl i113 (y_field underlying79 rfl sizeOf24 (0 + i * 4 + 3) rfl rfl rfl rfl (s_do ?_))
  have h000 := hpos
  refine t_storeA (vs := [.slice ao105 ((((nth hs i).ds ++ [d])).length) cp107]) (j := i) (o' := 3) (k := 4) (⟨(nth hs i).f, (nth hs i).u, (nth hs i).ps, (nth hs i).ap, (nth hs i).bp, (nth hs i).op, (nth hs i).cp, ((nth hs i).ds ++ [d]), ao105, gb106, 0, cp107⟩ : HS) (fun _ => rfl) sizeOf24 rfl rfl (by omega) rfl D112 (by first | omega | (simp only [List.length_set, eRuns_len]; omega)) rfl rfl (by decide) (by simp [Value.oneCell']) rfl (fun w114 R116 u115 => ?_)
  have zu115 := u115.size
  refine s_next ((Upd.refl _ _).next u115 (fun i hi (h : i = gb14) => show w21.heap.size ≤ i ∨ (i = gb14) by first | omega | exact .inr h)) (s_nil (hK20 _ _ (c_seq fun K118 hK118 => (c_region (t_move rfl rfl rfl (t_assign rfl rfl rfl (t_nil' (hK118 _ _ (c_ret (f_ret1 (v := .slice ao13 hs.length cp15) results92 rfl ?_))))))))))
  have D119 := (A109.keep u115 (fun hb => show ¬ (gb106 = gb14) by first | omega | assumption))
  have hA9 := R116
  have hD9 := D119
  have gd9 := hD9.geN (by simp)
  have ga9 := hA9.geN (fun e => by have := congrArg List.length e; rw [List.length_set, List.length_nil] at this; omega)
  exact ⟨⟨ao13, gb14, cp15, ao105, gb106, cp107, by unfold setHS; rw [List.length_set], Acc.same hA9 (by omega), Acc.same hD9 (by omega), by omega, by omega⟩, (((E94.next u102 (fun i hi h => by omega)).next u110 (fun i hi h => by omega)).next u115 (fun i hi h => by omega))⟩
 refine s_or ?_ ?_
 ·
  refine s_do (t_load isAgg24 rfl rfl rfl (((D24.sl (fun _ => rfl)).at_ i (by omega)) 3 _ rfl) (s_next (Upd.refl _ _) (s_or ?_ ?_)))
  ·
   refine s_do (t_bslice (ps := []) (cs := []) (e := 37) rfl rfl ⟨rfl, rfl⟩ (fun w => by kernel_rfl) (fun bk120 w121 ebk120 sbk120 B122 u123 => ?_))
   have zu123 := u123.size
   have E124 := E23.nx u123
   refine s_next ((Upd.refl _ _).nx u123) (s_or ?_ ?_)
   ·
    refine s_do (t_copy (enc := encDty) (z := .agg #[.int .i64 0, .int .i64 0, .int .i64 0, .int .i64 0]) (bytes := 32) (k := 4) (ys := (nth hs i).ds) underlying24 (by kernel_rfl) rfl (by decide) (fun _ => rfl) (by intro x; simp [encDty, Value.oneCell']) rfl rfl rfl rfl B122 ((hm (nth hs i) (nth_mem (by omega))).hd.keep E124 (fun _ => fun h => h)) (by omega) (by decide) (fun ao125 gb126 cp127 w128 A129 u130 gegb126 => ?_))
    have zu130 := u130.size
    have lt_gb126 := A129.lt
    refine s_next ((Upd.refl _ _).next u130 (fun i hi (h : (i = bk120 ∧ bk120 ≤ i)) => show w21.heap.size ≤ i ∨ (i = gb14) by first | omega | exact .inr h)) (s_do (t_bslice (ps := [(0, .agg #[.int .i64 d.bl, .int .i64 d.bh, .int .i64 d.el, .int .i64 d.eh])]) (cs := [.int .i64 d.bl, .int .i64 d.bh, .int .i64 d.el, .int .i64 d.eh]) (e := 37) rfl rfl ⟨rfl, rfl⟩ (fun w => by kernel_rfl) (fun bk132 w133 ebk132 sbk132 B134 u135 => ?_)))
    have zu135 := u135.size
    refine s_next ((Upd.refl _ _).nx u135) (s_do ?_)
    have D137 := (A129.kE u135)
    refine t_append (z := .agg #[.int .i64 0, .int .i64 0, .int .i64 0, .int .i64 0]) (bytes := 32) (k := 4) (base := bk120) d underlying24 (by kernel_rfl) rfl (by decide) (fun _ => rfl) (by intro x; simp [encDty, Value.oneCell']) rfl rfl rfl rfl D137 B134 (by omega) (by omega) (by decide) (fun ao138 gb139 cp140 w141 A142 u143 gegb139 lngb139 => ?_)
    have zu143 := u143.size
    have lt_gb139 := A142.lt
    refine s_next ((Upd.refl _ _).next u143 (fun i hi (h : (i = gb126 ∧ bk120 ≤ i)) => show w21.heap.size ≤ i ∨ (i = gb14) by first | omega | exact .inr h)) ?_
    have D145 := ((((D24.kE u123).keep u130 (fun hb => show ¬ ((gb14 = bk120 ∧ bk120 ≤ gb14)) by first | omega | assumption)).kE u135).keep u143 (fun hb => show ¬ ((gb14 = gb126 ∧ bk120 ≤ gb14)) by first | omega | assumption))
    have i146 : i < hs.length := (by omega)
    refine y_index (j := i) underlying54 sizeOf79 rfl rfl rfl rfl ((D145.sl (fun _ => rfl)).addr (by omega)) rfl i146 (y_field underlying79 rfl sizeOf24 (0 + i * 4 + 3) rfl rfl rfl rfl (s_do ?_))
    have h000 := hpos
    refine t_storeA (vs := [.slice ao138 ((((nth hs i).ds ++ [d])).length) cp140]) (j := i) (o' := 3) (k := 4) (⟨(nth hs i).f, (nth hs i).u, (nth hs i).ps, (nth hs i).ap, (nth hs i).bp, (nth hs i).op, (nth hs i).cp, ((nth hs i).ds ++ [d]), ao138, gb139, 0, cp140⟩ : HS) (fun _ => rfl) sizeOf24 rfl rfl (by omega) rfl D145 (by first | omega | (simp only [List.length_set, eRuns_len]; omega)) rfl rfl (by decide) (by simp [Value.oneCell']) rfl (fun w147 R149 u148 => ?_)
    have zu148 := u148.size
    refine s_next ((Upd.refl _ _).next u148 (fun i hi (h : i = gb14) => show w21.heap.size ≤ i ∨ (i = gb14) by first | omega | exact .inr h)) (s_nil (hK20 _ _ (c_seq fun K151 hK151 => (c_region (t_move rfl rfl rfl (t_assign rfl rfl rfl (t_nil' (hK151 _ _ (c_ret (f_ret1 (v := .slice ao13 hs.length cp15) results92 rfl ?_))))))))))
    have D152 := (A142.keep u148 (fun hb => show ¬ (gb139 = gb14) by first | omega | assumption))
    have hA9 := R149
    have hD9 := D152
    have gd9 := hD9.geN (by simp)
    have ga9 := hA9.geN (fun e => by have := congrArg List.length e; rw [List.length_set, List.length_nil] at this; omega)
    exact ⟨⟨ao13, gb14, cp15, ao138, gb139, cp140, by unfold setHS; rw [List.length_set], Acc.same hA9 (by omega), Acc.same hD9 (by omega), by omega, by omega⟩, ((((E124.next u130 (fun i hi h => by omega)).nx u135).next u143 (fun i hi h => by omega)).next u148 (fun i hi h => by omega))⟩
   refine s_do (t_bslice (ps := [(0, .agg #[.int .i64 d.bl, .int .i64 d.bh, .int .i64 d.el, .int .i64 d.eh])]) (cs := [.int .i64 d.bl, .int .i64 d.bh, .int .i64 d.el, .int .i64 d.eh]) (e := 37) rfl rfl ⟨rfl, rfl⟩ (fun w => by kernel_rfl) (fun bk153 w154 ebk153 sbk153 B155 u156 => ?_))
   have zu156 := u156.size
   have E157 := E124.nx u156
   refine s_next ((Upd.refl _ _).nx u156) (s_do ?_)
   have B158 := (B122.kx u156)
   refine t_copy (enc := encDty) (z := .agg #[.int .i64 0, .int .i64 0, .int .i64 0, .int .i64 0]) (bytes := 32) (k := 4) (ys := (nth hs i).ds) underlying24 (by kernel_rfl) rfl (by decide) (fun _ => rfl) (by intro x; simp [encDty, Value.oneCell']) rfl rfl rfl rfl B158 ((hm (nth hs i) (nth_mem (by omega))).hd.keep E157 (fun _ => fun h => h)) (by omega) (by decide) (fun ao159 gb160 cp161 w162 A163 u164 gegb160 => ?_)
   have zu164 := u164.size
   have lt_gb160 := A163.lt
   refine s_next ((Upd.refl _ _).next u164 (fun i hi (h : (i = bk120 ∧ bk120 ≤ i)) => show w21.heap.size ≤ i ∨ (i = gb14) by first | omega | exact .inr h)) (s_do ?_)
   have B166 := (B155.keep u164 (by omega))
   refine t_append (z := .agg #[.int .i64 0, .int .i64 0, .int .i64 0, .int .i64 0]) (bytes := 32) (k := 4) (base := bk120) d underlying24 (by kernel_rfl) rfl (by decide) (fun _ => rfl) (by intro x; simp [encDty, Value.oneCell']) rfl rfl rfl rfl A163 B166 (by omega) (by omega) (by decide) (fun ao167 gb168 cp169 w170 A171 u172 gegb168 lngb168 => ?_)
   have zu172 := u172.size
   have lt_gb168 := A171.lt
   refine s_next ((Upd.refl _ _).next u172 (fun i hi (h : (i = gb160 ∧ bk120 ≤ i)) => show w21.heap.size ≤ i ∨ (i = gb14) by first | omega | exact .inr h)) ?_
   have D174 := ((((D24.kE u123).kE u156).keep u164 (fun hb => show ¬ ((gb14 = bk120 ∧ bk120 ≤ gb14)) by first | omega | assumption)).keep u172 (fun hb => show ¬ ((gb14 = gb160 ∧ bk120 ≤ gb14)) by first | omega | assumption))
   have i175 : i < hs.length := (by omega)
   refine y_index (j := i) underlying54 sizeOf79 rfl rfl rfl rfl ((D174.sl (fun _ => rfl)).addr (by omega)) rfl i175 (y_field underlying79 rfl sizeOf24 (0 + i * 4 + 3) rfl rfl rfl rfl (s_do ?_))
   have h000 := hpos
   refine t_storeA (vs := [.slice ao167 ((((nth hs i).ds ++ [d])).length) cp169]) (j := i) (o' := 3) (k := 4) (⟨(nth hs i).f, (nth hs i).u, (nth hs i).ps, (nth hs i).ap, (nth hs i).bp, (nth hs i).op, (nth hs i).cp, ((nth hs i).ds ++ [d]), ao167, gb168, 0, cp169⟩ : HS) (fun _ => rfl) sizeOf24 rfl rfl (by omega) rfl D174 (by first | omega | (simp only [List.length_set, eRuns_len]; omega)) rfl rfl (by decide) (by simp [Value.oneCell']) rfl (fun w176 R178 u177 => ?_)
   have zu177 := u177.size
   refine s_next ((Upd.refl _ _).next u177 (fun i hi (h : i = gb14) => show w21.heap.size ≤ i ∨ (i = gb14) by first | omega | exact .inr h)) (s_nil (hK20 _ _ (c_seq fun K180 hK180 => (c_region (t_move rfl rfl rfl (t_assign rfl rfl rfl (t_nil' (hK180 _ _ (c_ret (f_ret1 (v := .slice ao13 hs.length cp15) results92 rfl ?_))))))))))
   have D181 := (A171.keep u177 (fun hb => show ¬ (gb168 = gb14) by first | omega | assumption))
   have hA9 := R178
   have hD9 := D181
   have gd9 := hD9.geN (by simp)
   have ga9 := hA9.geN (fun e => by have := congrArg List.length e; rw [List.length_set, List.length_nil] at this; omega)
   exact ⟨⟨ao13, gb14, cp15, ao167, gb168, cp169, by unfold setHS; rw [List.length_set], Acc.same hA9 (by omega), Acc.same hD9 (by omega), by omega, by omega⟩, (((E157.next u164 (fun i hi h => by omega)).next u172 (fun i hi h => by omega)).next u177 (fun i hi h => by omega))⟩
  refine s_do (t_bslice (ps := [(0, .agg #[.int .i64 d.bl, .int .i64 d.bh, .int .i64 d.el, .int .i64 d.eh])]) (cs := [.int .i64 d.bl, .int .i64 d.bh, .int .i64 d.el, .int .i64 d.eh]) (e := 37) rfl rfl ⟨rfl, rfl⟩ (fun w => by kernel_rfl) (fun bk182 w183 ebk182 sbk182 B184 u185 => ?_))
  have zu185 := u185.size
  refine s_next ((Upd.refl _ _).nx u185) (s_do (t_bslice (ps := []) (cs := []) (e := 37) rfl rfl ⟨rfl, rfl⟩ (fun w => by kernel_rfl) (fun bk187 w188 ebk187 sbk187 B189 u190 => ?_)))
  have zu190 := u190.size
  have E191 := (E23.nx u185).nx u190
  refine s_next ((Upd.refl _ _).nx u190) (s_do (t_copy (enc := encDty) (z := .agg #[.int .i64 0, .int .i64 0, .int .i64 0, .int .i64 0]) (bytes := 32) (k := 4) (ys := (nth hs i).ds) underlying24 (by kernel_rfl) rfl (by decide) (fun _ => rfl) (by intro x; simp [encDty, Value.oneCell']) rfl rfl rfl rfl B189 ((hm (nth hs i) (nth_mem (by omega))).hd.keep E191 (fun _ => fun h => h)) (by omega) (by decide) (fun ao192 gb193 cp194 w195 A196 u197 gegb193 => ?_)))
  have zu197 := u197.size
  have lt_gb193 := A196.lt
  refine s_next ((Upd.refl _ _).next u197 (fun i hi (h : (i = bk187 ∧ bk187 ≤ i)) => show w21.heap.size ≤ i ∨ (i = gb14) by first | omega | exact .inr h)) (s_do ?_)
  have B199 := ((B184.kx u190).keep u197 (by omega))
  refine t_append (z := .agg #[.int .i64 0, .int .i64 0, .int .i64 0, .int .i64 0]) (bytes := 32) (k := 4) (base := bk187) d underlying24 (by kernel_rfl) rfl (by decide) (fun _ => rfl) (by intro x; simp [encDty, Value.oneCell']) rfl rfl rfl rfl A196 B199 (by omega) (by omega) (by decide) (fun ao200 gb201 cp202 w203 A204 u205 gegb201 lngb201 => ?_)
  have zu205 := u205.size
  have lt_gb201 := A204.lt
  refine s_next ((Upd.refl _ _).next u205 (fun i hi (h : (i = gb193 ∧ bk187 ≤ i)) => show w21.heap.size ≤ i ∨ (i = gb14) by first | omega | exact .inr h)) ?_
  have D207 := ((((D24.kE u185).kE u190).keep u197 (fun hb => show ¬ ((gb14 = bk187 ∧ bk187 ≤ gb14)) by first | omega | assumption)).keep u205 (fun hb => show ¬ ((gb14 = gb193 ∧ bk187 ≤ gb14)) by first | omega | assumption))
  have i208 : i < hs.length := (by omega)
  refine y_index (j := i) underlying54 sizeOf79 rfl rfl rfl rfl ((D207.sl (fun _ => rfl)).addr (by omega)) rfl i208 (y_field underlying79 rfl sizeOf24 (0 + i * 4 + 3) rfl rfl rfl rfl (s_do ?_))
  have h000 := hpos
  refine t_storeA (vs := [.slice ao200 ((((nth hs i).ds ++ [d])).length) cp202]) (j := i) (o' := 3) (k := 4) (⟨(nth hs i).f, (nth hs i).u, (nth hs i).ps, (nth hs i).ap, (nth hs i).bp, (nth hs i).op, (nth hs i).cp, ((nth hs i).ds ++ [d]), ao200, gb201, 0, cp202⟩ : HS) (fun _ => rfl) sizeOf24 rfl rfl (by omega) rfl D207 (by first | omega | (simp only [List.length_set, eRuns_len]; omega)) rfl rfl (by decide) (by simp [Value.oneCell']) rfl (fun w209 R211 u210 => ?_)
  have zu210 := u210.size
  refine s_next ((Upd.refl _ _).next u210 (fun i hi (h : i = gb14) => show w21.heap.size ≤ i ∨ (i = gb14) by first | omega | exact .inr h)) (s_nil (hK20 _ _ (c_seq fun K213 hK213 => (c_region (t_move rfl rfl rfl (t_assign rfl rfl rfl (t_nil' (hK213 _ _ (c_ret (f_ret1 (v := .slice ao13 hs.length cp15) results92 rfl ?_))))))))))
  have D214 := (A204.keep u210 (fun hb => show ¬ (gb201 = gb14) by first | omega | assumption))
  have hA9 := R211
  have hD9 := D214
  have gd9 := hD9.geN (by simp)
  have ga9 := hA9.geN (fun e => by have := congrArg List.length e; rw [List.length_set, List.length_nil] at this; omega)
  exact ⟨⟨ao13, gb14, cp15, ao200, gb201, cp202, by unfold setHS; rw [List.length_set], Acc.same hA9 (by omega), Acc.same hD9 (by omega), by omega, by omega⟩, (((E191.next u197 (fun i hi h => by omega)).next u205 (fun i hi h => by omega)).next u210 (fun i hi h => by omega))⟩
 refine s_do (t_bslice (ps := [(0, .agg #[.int .i64 d.bl, .int .i64 d.bh, .int .i64 d.el, .int .i64 d.eh])]) (cs := [.int .i64 d.bl, .int .i64 d.bh, .int .i64 d.el, .int .i64 d.eh]) (e := 37) rfl rfl ⟨rfl, rfl⟩ (fun w => by kernel_rfl) (fun bk215 w216 ebk215 sbk215 B217 u218 => ?_))
 have zu218 := u218.size
 have E219 := E23.nx u218
 refine s_next ((Upd.refl _ _).nx u218) (s_or ?_ ?_)
 ·
  refine s_do (t_bslice (ps := []) (cs := []) (e := 37) rfl rfl ⟨rfl, rfl⟩ (fun w => by kernel_rfl) (fun bk220 w221 ebk220 sbk220 B222 u223 => ?_))
  have zu223 := u223.size
  have E224 := E219.nx u223
  refine s_next ((Upd.refl _ _).nx u223) (s_do ?_)
  have D225 := ((D24.kE u218).kE u223)
  refine t_load isAgg24 rfl rfl rfl (((D225.sl (fun _ => rfl)).at_ i (by omega)) 3 _ rfl) (s_next (Upd.refl _ _) (s_do (t_copy (enc := encDty) (z := .agg #[.int .i64 0, .int .i64 0, .int .i64 0, .int .i64 0]) (bytes := 32) (k := 4) (ys := (nth hs i).ds) underlying24 (by kernel_rfl) rfl (by decide) (fun _ => rfl) (by intro x; simp [encDty, Value.oneCell']) rfl rfl rfl rfl B222 ((hm (nth hs i) (nth_mem (by omega))).hd.keep E224 (fun _ => fun h => h)) (by omega) (by decide) (fun ao226 gb227 cp228 w229 A230 u231 gegb227 => ?_))))
  have zu231 := u231.size
  have lt_gb227 := A230.lt
  refine s_next ((Upd.refl _ _).next u231 (fun i hi (h : (i = bk220 ∧ bk220 ≤ i)) => show w21.heap.size ≤ i ∨ (i = gb14) by first | omega | exact .inr h)) (s_do ?_)
  have B233 := ((B217.kx u223).keep u231 (by omega))
  refine t_append (z := .agg #[.int .i64 0, .int .i64 0, .int .i64 0, .int .i64 0]) (bytes := 32) (k := 4) (base := bk220) d underlying24 (by kernel_rfl) rfl (by decide) (fun _ => rfl) (by intro x; simp [encDty, Value.oneCell']) rfl rfl rfl rfl A230 B233 (by omega) (by omega) (by decide) (fun ao234 gb235 cp236 w237 A238 u239 gegb235 lngb235 => ?_)
  have zu239 := u239.size
  have lt_gb235 := A238.lt
  refine s_next ((Upd.refl _ _).next u239 (fun i hi (h : (i = gb227 ∧ bk220 ≤ i)) => show w21.heap.size ≤ i ∨ (i = gb14) by first | omega | exact .inr h)) ?_
  have D241 := ((D225.keep u231 (fun hb => show ¬ ((gb14 = bk220 ∧ bk220 ≤ gb14)) by first | omega | assumption)).keep u239 (fun hb => show ¬ ((gb14 = gb227 ∧ bk220 ≤ gb14)) by first | omega | assumption))
  have i242 : i < hs.length := (by omega)
  refine y_index (j := i) underlying54 sizeOf79 rfl rfl rfl rfl ((D241.sl (fun _ => rfl)).addr (by omega)) rfl i242 (y_field underlying79 rfl sizeOf24 (0 + i * 4 + 3) rfl rfl rfl rfl (s_do ?_))
  have h000 := hpos
  refine t_storeA (vs := [.slice ao234 ((((nth hs i).ds ++ [d])).length) cp236]) (j := i) (o' := 3) (k := 4) (⟨(nth hs i).f, (nth hs i).u, (nth hs i).ps, (nth hs i).ap, (nth hs i).bp, (nth hs i).op, (nth hs i).cp, ((nth hs i).ds ++ [d]), ao234, gb235, 0, cp236⟩ : HS) (fun _ => rfl) sizeOf24 rfl rfl (by omega) rfl D241 (by first | omega | (simp only [List.length_set, eRuns_len]; omega)) rfl rfl (by decide) (by simp [Value.oneCell']) rfl (fun w243 R245 u244 => ?_)
  have zu244 := u244.size
  refine s_next ((Upd.refl _ _).next u244 (fun i hi (h : i = gb14) => show w21.heap.size ≤ i ∨ (i = gb14) by first | omega | exact .inr h)) (s_nil (hK20 _ _ (c_seq fun K247 hK247 => (c_region (t_move rfl rfl rfl (t_assign rfl rfl rfl (t_nil' (hK247 _ _ (c_ret (f_ret1 (v := .slice ao13 hs.length cp15) results92 rfl ?_))))))))))
  have D248 := (A238.keep u244 (fun hb => show ¬ (gb235 = gb14) by first | omega | assumption))
  have hA9 := R245
  have hD9 := D248
  have gd9 := hD9.geN (by simp)
  have ga9 := hA9.geN (fun e => by have := congrArg List.length e; rw [List.length_set, List.length_nil] at this; omega)
  exact ⟨⟨ao13, gb14, cp15, ao234, gb235, cp236, by unfold setHS; rw [List.length_set], Acc.same hA9 (by omega), Acc.same hD9 (by omega), by omega, by omega⟩, (((E224.next u231 (fun i hi h => by omega)).next u239 (fun i hi h => by omega)).next u244 (fun i hi h => by omega))⟩
 refine s_do ?_
 have D249 := (D24.kE u218)
 refine t_load isAgg24 rfl rfl rfl (((D249.sl (fun _ => rfl)).at_ i (by omega)) 3 _ rfl) (s_next (Upd.refl _ _) (s_do (t_bslice (ps := []) (cs := []) (e := 37) rfl rfl ⟨rfl, rfl⟩ (fun w => by kernel_rfl) (fun bk250 w251 ebk250 sbk250 B252 u253 => ?_))))
 have zu253 := u253.size
 have E254 := E219.nx u253
 refine s_next ((Upd.refl _ _).nx u253) (s_do (t_copy (enc := encDty) (z := .agg #[.int .i64 0, .int .i64 0, .int .i64 0, .int .i64 0]) (bytes := 32) (k := 4) (ys := (nth hs i).ds) underlying24 (by kernel_rfl) rfl (by decide) (fun _ => rfl) (by intro x; simp [encDty, Value.oneCell']) rfl rfl rfl rfl B252 ((hm (nth hs i) (nth_mem (by omega))).hd.keep E254 (fun _ => fun h => h)) (by omega) (by decide) (fun ao255 gb256 cp257 w258 A259 u260 gegb256 => ?_)))
 have zu260 := u260.size
 have lt_gb256 := A259.lt
 refine s_next ((Upd.refl _ _).next u260 (fun i hi (h : (i = bk250 ∧ bk250 ≤ i)) => show w21.heap.size ≤ i ∨ (i = gb14) by first | omega | exact .inr h)) (s_do ?_)
 have B262 := ((B217.kx u253).keep u260 (by omega))
 refine t_append (z := .agg #[.int .i64 0, .int .i64 0, .int .i64 0, .int .i64 0]) (bytes := 32) (k := 4) (base := bk250) d underlying24 (by kernel_rfl) rfl (by decide) (fun _ => rfl) (by intro x; simp [encDty, Value.oneCell']) rfl rfl rfl rfl A259 B262 (by omega) (by omega) (by decide) (fun ao263 gb264 cp265 w266 A267 u268 gegb264 lngb264 => ?_)
 have zu268 := u268.size
 have lt_gb264 := A267.lt
 refine s_next ((Upd.refl _ _).next u268 (fun i hi (h : (i = gb256 ∧ bk250 ≤ i)) => show w21.heap.size ≤ i ∨ (i = gb14) by first | omega | exact .inr h)) ?_
 have D270 := (((D249.kE u253).keep u260 (fun hb => show ¬ ((gb14 = bk250 ∧ bk250 ≤ gb14)) by first | omega | assumption)).keep u268 (fun hb => show ¬ ((gb14 = gb256 ∧ bk250 ≤ gb14)) by first | omega | assumption))
 have i271 : i < hs.length := (by omega)
 refine y_index (j := i) underlying54 sizeOf79 rfl rfl rfl rfl ((D270.sl (fun _ => rfl)).addr (by omega)) rfl i271 (y_field underlying79 rfl sizeOf24 (0 + i * 4 + 3) rfl rfl rfl rfl (s_do ?_))
 have h000 := hpos
 refine t_storeA (vs := [.slice ao263 ((((nth hs i).ds ++ [d])).length) cp265]) (j := i) (o' := 3) (k := 4) (⟨(nth hs i).f, (nth hs i).u, (nth hs i).ps, (nth hs i).ap, (nth hs i).bp, (nth hs i).op, (nth hs i).cp, ((nth hs i).ds ++ [d]), ao263, gb264, 0, cp265⟩ : HS) (fun _ => rfl) sizeOf24 rfl rfl (by omega) rfl D270 (by first | omega | (simp only [List.length_set, eRuns_len]; omega)) rfl rfl (by decide) (by simp [Value.oneCell']) rfl (fun w272 R274 u273 => ?_)
 have zu273 := u273.size
 refine s_next ((Upd.refl _ _).next u273 (fun i hi (h : i = gb14) => show w21.heap.size ≤ i ∨ (i = gb14) by first | omega | exact .inr h)) (s_nil (hK20 _ _ (c_seq fun K276 hK276 => (c_region (t_move rfl rfl rfl (t_assign rfl rfl rfl (t_nil' (hK276 _ _ (c_ret (f_ret1 (v := .slice ao13 hs.length cp15) results92 rfl ?_))))))))))
 have D277 := (A267.keep u273 (fun hb => show ¬ (gb264 = gb14) by first | omega | assumption))
 have hA9 := R274
 have hD9 := D277
 have gd9 := hD9.geN (by simp)
 have ga9 := hA9.geN (fun e => by have := congrArg List.length e; rw [List.length_set, List.length_nil] at this; omega)
 exact ⟨⟨ao13, gb14, cp15, ao263, gb264, cp265, by unfold setHS; rw [List.length_set], Acc.same hA9 (by omega), Acc.same hD9 (by omega), by omega, by omega⟩, (((E254.next u260 (fun i hi h => by omega)).next u268 (fun i hi h => by omega)).next u273 (fun i hi h => by omega))⟩

set_option maxHeartbeats 4000000 in
theorem rTry_s (r : Rul) (fb : Nat) (hs : List HS) (al : Option Addr) (bl ol cl : Nat) (ss : List Slr) (xs : List Leg) (ax : Option Addr) (bx ox cx : Nat) (os : List Bool) (ab : Option Addr) (bb ob cb : Nat) (rows : List HL) (ar : Option Addr) (br cr : Nat) (ns : List Int) (an : Option Addr) (bn on cn : Nat) (i0 : Nat) (pl : Int) (up n : Nat) (w0 : World) (hp : TryP r fb hs al bl ol cl ss xs ax bx ox cx os ab bb ob cb rows ar br cr ns an bn on cn i0 pl up n w0) (ih : ∀ q, q < n → TryQ q) :
    CallsV Tryz.prog 62 [.agg #[.int .i64 r.rest, .int .i64 r.span, .int .i64 r.work, .int .i64 r.week, .int .i64 r.ww], .slice al hs.length cl, .slice ax xs.length cx, .slice ab os.length cb, .slice ar rows.length cr, .slice an ns.length cn, .int .i64 pl, .pointer (some ⟨fb, 0, none⟩)] w0 (fun v w' => v = .tuple #[] ∧ FoundR fb (rows.map HL.xs) (tmP r (mbO os ss) xs rows.length ns i0 pl up) w' ∧ Upd (fun i => i = fb) w0 w') := by
 have hfb := hp.f.lt
 have hpos : 0 < w0.heap.size := by omega
 have hrk := hp.hk
 have hxl8 := hp.hxl
 have hn38 := hp.hn3
 refine f_enter (N := 134) func62 rfl rfl rfl (c_seq fun K1 hK1 => (c_region (t_box (cs := [.int .i64 r.rest, .int .i64 r.span, .int .i64 r.work, .int .i64 r.week, .int .i64 r.ww]) rfl rfl rfl rfl (fun bk2 w3 ebk2 sbk2 B4 u5 => ?_))))
 have zu5 := u5.size
 refine t_nil' (hK1 _ _ (c_seq fun K7 hK7 => (c_region (t_move rfl rfl rfl (t_move rfl rfl rfl (t_nilchk rfl rfl rfl (t_field underlying72 rfl sizeOf3 (2) rfl rfl rfl rfl ?_)))))))
 have B8 := (hp.f.kx u5)
 refine t_load isAgg3 rfl rfl rfl (B8.get rfl) (t_move rfl rfl rfl (t_len underlying56 rfl rfl rfl rfl (t_max rfl rfl rfl rfl (t_nilchk rfl rfl rfl (t_field underlying72 rfl sizeOf3 (2) rfl rfl rfl rfl (t_st (vs := [.int .i64 (max (up : Int) (rows.length : Int))]) sizeOf3 rfl rfl rfl B8 rfl rfl rfl rfl (fun w9 sw9 B11 u10 => ?_)))))))
 have zu10 := u10.size
 have E12 := ((Upd.refl (fun i => i = fb) w0).nx u5).next u10 (fun i hi h => by omega)
 have B11 : Blk w9 fb 72 [.bool false, .slice none 0 0, .int .i64 (max (up : Int) (rows.length : Int))] := B11
 obtain ⟨u1, hu1⟩ : ∃ n, n = max up rows.length := ⟨_, rfl⟩
 have B13 : Blk w9 fb 72 [.bool false, .slice none 0 0, .int .i64 (u1 : Int)] := by
   have e : ([.bool false, .slice none 0 0, .int .i64 (max (up : Int) (rows.length : Int))] : List Value) = [.bool false, .slice none 0 0, .int .i64 (u1 : Int)] := (by rw [show (max (up : Int) (rows.length : Int)) = (u1 : Int) by omega])
   rw [← e]; exact B11
 refine t_nil' (hK7 _ _ (c_seq fun K14 hK14 => (c_seq fun K15 hK15 => (c_region (t_move rfl rfl rfl (t_len underlying56 rfl rfl rfl rfl (t_move rfl rfl rfl (t_len underlying55 rfl rfl rfl rfl (t_cmp rfl rfl rfl rfl rfl (t_nil' (hK15 _ _ (c_condp rfl (fun g36 => ?_) (fun g36 => ?_)))))))))))))
 ·
  refine c_seq fun K16 hK16 => (c_region (t_move rfl rfl rfl (t_move rfl rfl rfl (t_move rfl rfl rfl (t_nilchk rfl rfl rfl (t_field underlying72 rfl sizeOf4 (0) rfl rfl rfl rfl (t_st (vs := [.bool true]) sizeOf4 rfl rfl rfl B13 rfl rfl rfl rfl (fun w17 sw17 B19 u18 => ?_))))))))
  have zu18 := u18.size
  have B19 : Blk w17 fb 72 [.bool true, .slice none 0 0, .int .i64 (u1 : Int)] := B19
  refine t_nilchk rfl rfl rfl (t_field underlying72 rfl sizeOf56 (1) rfl rfl rfl rfl (t_st (vs := [.slice ar rows.length cr]) sizeOf56 rfl rfl rfl B19 rfl rfl rfl rfl (fun w21 sw21 B23 u22 => ?_)))
  have zu22 := u22.size
  have E24 := (E12.next u18 (fun i hi h => by omega)).next u22 (fun i hi h => by omega)
  have B23 : Blk w21 fb 72 [.bool true, .slice ar rows.length cr, .int .i64 (u1 : Int)] := B23
  refine t_nil' (hK16 _ _ (c_ret (f_ret0 results62 ?_)))
  exact ⟨rfl, .inr ⟨[], ar, br, cr, rows, by unfold tmP; rw [if_pos (show rows.length = xs.length by omega)], by unfold tmP; rw [if_pos (show rows.length = xs.length by omega), ← hu1]; exact B23, (hp.hrw.keep E24 (fun h => Nat.ne_of_gt (hp.hrb h))), hp.hrb, (fun h hh => (hp.hrm h hh).keep E24 (fun i z => z)), by rw [List.append_nil]⟩, E24⟩
 have hk9 : rows.length < xs.length := by have := hp.hk; omega
 have hxo := okLeg_ok (hp.hox _ (nth_mem hk9))
 have hh9 := hxo.2.1
 have hnl8 := hp.hnl hk9
 have hmu := hp.hmu
 have hxl9 := hp.hxl
 have hn39 := hp.hn3
 refine c_skip (hK14 _ _ (c_seq fun K25 hK25 => (c_region (t_move rfl rfl rfl (t_move rfl rfl rfl (t_len underlying56 rfl rfl rfl rfl ?_))))))
 have i26 : rows.length < xs.length := (by omega)
 refine t_index (j := rows.length) underlying55 sizeOf68 rfl rfl rfl rfl ((hp.hxs.keep E12 hp.hxb).addr (by omega)) rfl i26 (t_loadN (vs := [.int .i64 ((nth xs rows.length).r), .int .i64 ((nth xs rows.length).t.bl), .int .i64 ((nth xs rows.length).t.bh), .int .i64 ((nth xs rows.length).t.el), .int .i64 ((nth xs rows.length).t.eh), .int .i64 ((nth xs rows.length).h), .int .i64 ((nth xs rows.length).p)]) isAgg68 sizeOf68 rfl rfl rfl (((hp.hxs.keep E12 hp.hxb).at_ rows.length (by omega)).sub 0 7) rfl (t_alloc (cs := [.int .i64 0, .int .i64 0, .int .i64 0, .int .i64 0, .int .i64 0, .int .i64 0, .int .i64 0]) zeroValue68 rfl rfl rfl (fun bk27 w28 ebk27 sbk27 B29 u30 => ?_)))
 have zu30 := u30.size
 refine t_st (vs := [.int .i64 ((nth xs rows.length).r), .int .i64 ((nth xs rows.length).t.bl), .int .i64 ((nth xs rows.length).t.bh), .int .i64 ((nth xs rows.length).t.el), .int .i64 ((nth xs rows.length).t.eh), .int .i64 ((nth xs rows.length).h), .int .i64 ((nth xs rows.length).p)]) sizeOf68 rfl rfl rfl B29 rfl rfl rfl rfl (fun w32 sw32 B34 u33 => ?_)
 have zu33 := u33.size
 have E35 := (E12.nx u30).next u33 (fun i hi h => by omega)
 have B34 : Blk w32 bk27 68 [.int .i64 ((nth xs rows.length).r), .int .i64 ((nth xs rows.length).t.bl), .int .i64 ((nth xs rows.length).t.bh), .int .i64 ((nth xs rows.length).t.el), .int .i64 ((nth xs rows.length).t.eh), .int .i64 ((nth xs rows.length).h), .int .i64 ((nth xs rows.length).p)] := B34
 refine t_nil' (hK25 _ _ (c_seq fun K36 hK36 => (c_seq fun K37 hK37 => (c_region (t_move rfl rfl rfl (t_len underlying60 rfl rfl rfl rfl (t_field underlying68 rfl sizeOf3 (5) rfl rfl rfl rfl (t_load isAgg3 rfl rfl rfl (B34.get rfl) (t_cmp rfl rfl rfl rfl rfl (t_nil' (hK37 _ _ (c_condp rfl (fun g53 => ?_) (fun g53 => ?_)))))))))))))
 ·
  refine c_seq fun K38 hK38 => (c_seq fun K39 hK39 => (c_region (t_move rfl rfl rfl (t_field underlying68 rfl sizeOf3 (6) rfl rfl rfl rfl (t_load isAgg3 rfl rfl rfl (B34.get rfl) (t_cmp rfl rfl rfl rfl rfl (t_nil' (hK39 _ _ (c_condp rfl (fun g57 => ?_) (fun g57 => ?_))))))))))
  ·
   refine c_drawnM follows (fun i => i = fb) (.look 0 (.look 1 (.look 2 (.look 3 (.look 5 (.look 7 (.look 10 (.act 4 (.act 6 (.act 8 (.act 9 (.act 11 .done .stop) .stop) .stop) (.act 8 (.act 6 (.act 9 (.act 11 .done .stop) .stop) .stop) .stop)) (.act 8 (.act 4 (.act 6 (.act 9 (.act 11 .done .stop) .stop) .stop) .stop) .stop))))))))) (by kernel_rfl) fun w40 u41 => ?_
   have zu41 := u41.size
   have E42 := E35.nx u41
   have B43 := ((((B4.keep u10 (by omega)).kx u30).keep u33 (by omega)).kx u41)
   refine y_loadN (vs := [.int .i64 r.rest, .int .i64 r.span, .int .i64 r.work, .int .i64 r.week, .int .i64 r.ww]) isAgg23 sizeOf23 rfl rfl rfl (B43.at.sub 0 5) rfl (by show ¬ (bk2 = fb); first | omega | assumption) (y_move rfl rfl rfl (y_move rfl rfl rfl (y_move rfl rfl rfl (y_move rfl rfl rfl (y_move rfl rfl rfl (y_move rfl rfl rfl (s_or ?_ ?_)))))))
   ·
    refine s_do (t_bslice (ps := []) (cs := []) (e := 60) rfl rfl ⟨rfl, rfl⟩ (fun w => by kernel_rfl) (fun bk44 w45 ebk44 sbk44 B46 u47 => ?_))
    have zu47 := u47.size
    have E48 := E42.nx u47
    refine s_next ((Upd.refl _ _).nx u47) (s_or ?_ ?_)
    ·
     refine s_do (t_copy (enc := encHL) (z := .slice none 0 0) (bytes := 24) (k := 1) (ys := rows) underlying56 (by kernel_rfl) rfl (by decide) (fun _ => rfl) (by intro x; simp [encHL, Value.oneCell']) rfl rfl rfl rfl B46 (hp.hrw.keep E48 (fun h => Nat.ne_of_gt (hp.hrb h))) (by omega) (by decide) (fun ao49 gb50 cp51 w52 A53 u54 gegb50 => ?_))
     have zu54 := u54.size
     have lt_gb50 := A53.lt
     refine s_next ((Upd.refl _ _).next u54 (fun i hi (h : (i = bk44 ∧ bk44 ≤ i)) => show w40.heap.size ≤ i ∨ (i = fb) by first | omega | exact .inr h)) (s_do (t_bslice (ps := [(0, .slice an ns.length cn)]) (cs := [.slice an ns.length cn]) (e := 60) rfl rfl ⟨rfl, rfl⟩ (fun w => by kernel_rfl) (fun bk56 w57 ebk56 sbk56 B58 u59 => ?_)))
     have zu59 := u59.size
     refine s_next ((Upd.refl _ _).nx u59) (s_do ?_)
     have D61 := (A53.kE u59)
     refine t_append (z := .slice none 0 0) (bytes := 24) (k := 1) (base := bk44) (⟨ns, an, bn, on, cn⟩ : HL) underlying56 (by kernel_rfl) rfl (by decide) (fun _ => rfl) (by intro x; simp [encHL, Value.oneCell']) rfl rfl rfl rfl D61 B58 (by omega) (by omega) (by decide) (fun ao62 gb63 cp64 w65 A66 u67 gegb63 lngb63 => ?_)
     have zu67 := u67.size
     have E68 := ((E48.next u54 (fun i hi h => by omega)).nx u59).next u67 (fun i hi h => by omega)
     have lt_gb63 := A66.lt
     refine s_next ((Upd.refl _ _).next u67 (fun i hi (h : (i = gb50 ∧ bk44 ≤ i)) => show w40.heap.size ≤ i ∨ (i = fb) by first | omega | exact .inr h)) (s_do ?_)
     have B69 := (((((((B13.kx u30).keep u33 (by omega)).kx u41).kx u47).keep u54 (by omega)).kx u59).keep u67 (by omega))
     have hT1 := hp.whole E68 B69 hk9 (by omega) A66 (by omega)
     refine t_call own62 rfl rfl rfl rfl (TryQ.two (ih (n - 1) (by omega)) hT1 ((rows.map HL.xs) ++ [ns]) (tmP r (mbO os ss) xs (rows ++ [(⟨ns, an, bn, on, cn⟩ : HL)]).length [] 0 0 u1) (by rw [List.map_append]; rfl) rfl) (fun v71 w72 r74 => ?_)
     rcases r74 with ⟨rfl, hnk70, hBk70, u73⟩ | ⟨qk70, aok70, gk70, ck70, rwk70, rfl, hnk70, hBk70, ⟨hSk70, hgk70, hlk70, hxk70⟩, u73⟩
     ·
      have zu73 := u73.size
      refine s_next ((Upd.refl _ _).next u73 (fun i hi (h : i = fb) => show w40.heap.size ≤ i ∨ (i = fb) by first | omega | exact .inr h)) (s_nil (hK38 _ _ (c_ret (f_ret0 results62 ?_))))
      have hF := tm_full (r := r) (ms := (mbO os ss)) (i0 := i0) (pl := pl) hk9 (show (ns.length : Int) = _ by omega) hu1
      rw [if_pos (by omega)] at hF
      rw [List.length_append, List.length_singleton] at hnk70 hBk70
      have hsp : tmP r (mbO os ss) xs (rows.length + 1) [] 0 0 u1 = (none, (tmP r (mbO os ss) xs (rows.length + 1) [] 0 0 u1).2) := Prod.ext hnk70 rfl
      rw [hsp] at hF
      exact ⟨rfl, .inl ⟨by rw [hF], by rw [hF]; exact hBk70⟩, (E68.next u73 (fun i hi h => by omega))⟩
     have zu73 := u73.size
     refine s_next ((Upd.refl _ _).next u73 (fun i hi (h : i = fb) => show w40.heap.size ≤ i ∨ (i = fb) by first | omega | exact .inr h)) (s_nil (hK38 _ _ (c_ret (f_ret0 results62 ?_))))
     have hF := tm_full (r := r) (ms := (mbO os ss)) (i0 := i0) (pl := pl) hk9 (show (ns.length : Int) = _ by omega) hu1
     rw [if_pos (by omega)] at hF
     rw [List.length_append, List.length_singleton] at hnk70 hBk70
     have hsp : tmP r (mbO os ss) xs (rows.length + 1) [] 0 0 u1 = (some qk70, (tmP r (mbO os ss) xs (rows.length + 1) [] 0 0 u1).2) := Prod.ext hnk70 rfl
     rw [hsp] at hF
     exact ⟨rfl, .inr ⟨ns :: qk70, aok70, gk70, ck70, rwk70, by rw [hF], by rw [hF]; exact hBk70, hSk70, hgk70, hlk70, by rw [hxk70, List.append_assoc]; rfl⟩, (E68.next u73 (fun i hi h => by omega))⟩
    refine s_do (t_bslice (ps := [(0, .slice an ns.length cn)]) (cs := [.slice an ns.length cn]) (e := 60) rfl rfl ⟨rfl, rfl⟩ (fun w => by kernel_rfl) (fun bk77 w78 ebk77 sbk77 B79 u80 => ?_))
    have zu80 := u80.size
    have E81 := E48.nx u80
    refine s_next ((Upd.refl _ _).nx u80) (s_do ?_)
    have B82 := (B46.kx u80)
    refine t_copy (enc := encHL) (z := .slice none 0 0) (bytes := 24) (k := 1) (ys := rows) underlying56 (by kernel_rfl) rfl (by decide) (fun _ => rfl) (by intro x; simp [encHL, Value.oneCell']) rfl rfl rfl rfl B82 (hp.hrw.keep E81 (fun h => Nat.ne_of_gt (hp.hrb h))) (by omega) (by decide) (fun ao83 gb84 cp85 w86 A87 u88 gegb84 => ?_)
    have zu88 := u88.size
    have lt_gb84 := A87.lt
    refine s_next ((Upd.refl _ _).next u88 (fun i hi (h : (i = bk44 ∧ bk44 ≤ i)) => show w40.heap.size ≤ i ∨ (i = fb) by first | omega | exact .inr h)) (s_do ?_)
    have B90 := (B79.keep u88 (by omega))
    refine t_append (z := .slice none 0 0) (bytes := 24) (k := 1) (base := bk44) (⟨ns, an, bn, on, cn⟩ : HL) underlying56 (by kernel_rfl) rfl (by decide) (fun _ => rfl) (by intro x; simp [encHL, Value.oneCell']) rfl rfl rfl rfl A87 B90 (by omega) (by omega) (by decide) (fun ao91 gb92 cp93 w94 A95 u96 gegb92 lngb92 => ?_)
    have zu96 := u96.size
    have E97 := (E81.next u88 (fun i hi h => by omega)).next u96 (fun i hi h => by omega)
    have lt_gb92 := A95.lt
    refine s_next ((Upd.refl _ _).next u96 (fun i hi (h : (i = gb84 ∧ bk44 ≤ i)) => show w40.heap.size ≤ i ∨ (i = fb) by first | omega | exact .inr h)) (s_do ?_)
    have B98 := (((((((B13.kx u30).keep u33 (by omega)).kx u41).kx u47).kx u80).keep u88 (by omega)).keep u96 (by omega))
    have hT1 := hp.whole E97 B98 hk9 (by omega) A95 (by omega)
    refine t_call own62 rfl rfl rfl rfl (TryQ.two (ih (n - 1) (by omega)) hT1 ((rows.map HL.xs) ++ [ns]) (tmP r (mbO os ss) xs (rows ++ [(⟨ns, an, bn, on, cn⟩ : HL)]).length [] 0 0 u1) (by rw [List.map_append]; rfl) rfl) (fun v100 w101 r103 => ?_)
    rcases r103 with ⟨rfl, hnk99, hBk99, u102⟩ | ⟨qk99, aok99, gk99, ck99, rwk99, rfl, hnk99, hBk99, ⟨hSk99, hgk99, hlk99, hxk99⟩, u102⟩
    ·
     have zu102 := u102.size
     refine s_next ((Upd.refl _ _).next u102 (fun i hi (h : i = fb) => show w40.heap.size ≤ i ∨ (i = fb) by first | omega | exact .inr h)) (s_nil (hK38 _ _ (c_ret (f_ret0 results62 ?_))))
     have hF := tm_full (r := r) (ms := (mbO os ss)) (i0 := i0) (pl := pl) hk9 (show (ns.length : Int) = _ by omega) hu1
     rw [if_pos (by omega)] at hF
     rw [List.length_append, List.length_singleton] at hnk99 hBk99
     have hsp : tmP r (mbO os ss) xs (rows.length + 1) [] 0 0 u1 = (none, (tmP r (mbO os ss) xs (rows.length + 1) [] 0 0 u1).2) := Prod.ext hnk99 rfl
     rw [hsp] at hF
     exact ⟨rfl, .inl ⟨by rw [hF], by rw [hF]; exact hBk99⟩, (E97.next u102 (fun i hi h => by omega))⟩
    have zu102 := u102.size
    refine s_next ((Upd.refl _ _).next u102 (fun i hi (h : i = fb) => show w40.heap.size ≤ i ∨ (i = fb) by first | omega | exact .inr h)) (s_nil (hK38 _ _ (c_ret (f_ret0 results62 ?_))))
    have hF := tm_full (r := r) (ms := (mbO os ss)) (i0 := i0) (pl := pl) hk9 (show (ns.length : Int) = _ by omega) hu1
    rw [if_pos (by omega)] at hF
    rw [List.length_append, List.length_singleton] at hnk99 hBk99
    have hsp : tmP r (mbO os ss) xs (rows.length + 1) [] 0 0 u1 = (some qk99, (tmP r (mbO os ss) xs (rows.length + 1) [] 0 0 u1).2) := Prod.ext hnk99 rfl
    rw [hsp] at hF
    exact ⟨rfl, .inr ⟨ns :: qk99, aok99, gk99, ck99, rwk99, by rw [hF], by rw [hF]; exact hBk99, hSk99, hgk99, hlk99, by rw [hxk99, List.append_assoc]; rfl⟩, (E97.next u102 (fun i hi h => by omega))⟩
   refine s_do (t_bslice (ps := [(0, .slice an ns.length cn)]) (cs := [.slice an ns.length cn]) (e := 60) rfl rfl ⟨rfl, rfl⟩ (fun w => by kernel_rfl) (fun bk106 w107 ebk106 sbk106 B108 u109 => ?_))
   have zu109 := u109.size
   refine s_next ((Upd.refl _ _).nx u109) (s_do (t_bslice (ps := []) (cs := []) (e := 60) rfl rfl ⟨rfl, rfl⟩ (fun w => by kernel_rfl) (fun bk111 w112 ebk111 sbk111 B113 u114 => ?_)))
   have zu114 := u114.size
   have E115 := (E42.nx u109).nx u114
   refine s_next ((Upd.refl _ _).nx u114) (s_do (t_copy (enc := encHL) (z := .slice none 0 0) (bytes := 24) (k := 1) (ys := rows) underlying56 (by kernel_rfl) rfl (by decide) (fun _ => rfl) (by intro x; simp [encHL, Value.oneCell']) rfl rfl rfl rfl B113 (hp.hrw.keep E115 (fun h => Nat.ne_of_gt (hp.hrb h))) (by omega) (by decide) (fun ao116 gb117 cp118 w119 A120 u121 gegb117 => ?_)))
   have zu121 := u121.size
   have lt_gb117 := A120.lt
   refine s_next ((Upd.refl _ _).next u121 (fun i hi (h : (i = bk111 ∧ bk111 ≤ i)) => show w40.heap.size ≤ i ∨ (i = fb) by first | omega | exact .inr h)) (s_do ?_)
   have B123 := ((B108.kx u114).keep u121 (by omega))
   refine t_append (z := .slice none 0 0) (bytes := 24) (k := 1) (base := bk111) (⟨ns, an, bn, on, cn⟩ : HL) underlying56 (by kernel_rfl) rfl (by decide) (fun _ => rfl) (by intro x; simp [encHL, Value.oneCell']) rfl rfl rfl rfl A120 B123 (by omega) (by omega) (by decide) (fun ao124 gb125 cp126 w127 A128 u129 gegb125 lngb125 => ?_)
   have zu129 := u129.size
   have E130 := (E115.next u121 (fun i hi h => by omega)).next u129 (fun i hi h => by omega)
   have lt_gb125 := A128.lt
   refine s_next ((Upd.refl _ _).next u129 (fun i hi (h : (i = gb117 ∧ bk111 ≤ i)) => show w40.heap.size ≤ i ∨ (i = fb) by first | omega | exact .inr h)) (s_do ?_)
   have B131 := (((((((B13.kx u30).keep u33 (by omega)).kx u41).kx u109).kx u114).keep u121 (by omega)).keep u129 (by omega))
   have hT1 := hp.whole E130 B131 hk9 (by omega) A128 (by omega)
   refine t_call own62 rfl rfl rfl rfl (TryQ.two (ih (n - 1) (by omega)) hT1 ((rows.map HL.xs) ++ [ns]) (tmP r (mbO os ss) xs (rows ++ [(⟨ns, an, bn, on, cn⟩ : HL)]).length [] 0 0 u1) (by rw [List.map_append]; rfl) rfl) (fun v133 w134 r136 => ?_)
   rcases r136 with ⟨rfl, hnk132, hBk132, u135⟩ | ⟨qk132, aok132, gk132, ck132, rwk132, rfl, hnk132, hBk132, ⟨hSk132, hgk132, hlk132, hxk132⟩, u135⟩
   ·
    have zu135 := u135.size
    refine s_next ((Upd.refl _ _).next u135 (fun i hi (h : i = fb) => show w40.heap.size ≤ i ∨ (i = fb) by first | omega | exact .inr h)) (s_nil (hK38 _ _ (c_ret (f_ret0 results62 ?_))))
    have hF := tm_full (r := r) (ms := (mbO os ss)) (i0 := i0) (pl := pl) hk9 (show (ns.length : Int) = _ by omega) hu1
    rw [if_pos (by omega)] at hF
    rw [List.length_append, List.length_singleton] at hnk132 hBk132
    have hsp : tmP r (mbO os ss) xs (rows.length + 1) [] 0 0 u1 = (none, (tmP r (mbO os ss) xs (rows.length + 1) [] 0 0 u1).2) := Prod.ext hnk132 rfl
    rw [hsp] at hF
    exact ⟨rfl, .inl ⟨by rw [hF], by rw [hF]; exact hBk132⟩, (E130.next u135 (fun i hi h => by omega))⟩
   have zu135 := u135.size
   refine s_next ((Upd.refl _ _).next u135 (fun i hi (h : i = fb) => show w40.heap.size ≤ i ∨ (i = fb) by first | omega | exact .inr h)) (s_nil (hK38 _ _ (c_ret (f_ret0 results62 ?_))))
   have hF := tm_full (r := r) (ms := (mbO os ss)) (i0 := i0) (pl := pl) hk9 (show (ns.length : Int) = _ by omega) hu1
   rw [if_pos (by omega)] at hF
   rw [List.length_append, List.length_singleton] at hnk132 hBk132
   have hsp : tmP r (mbO os ss) xs (rows.length + 1) [] 0 0 u1 = (some qk132, (tmP r (mbO os ss) xs (rows.length + 1) [] 0 0 u1).2) := Prod.ext hnk132 rfl
   rw [hsp] at hF
   exact ⟨rfl, .inr ⟨ns :: qk132, aok132, gk132, ck132, rwk132, by rw [hF], by rw [hF]; exact hBk132, hSk132, hgk132, hlk132, by rw [hxk132, List.append_assoc]; rfl⟩, (E130.next u135 (fun i hi h => by omega))⟩
  refine c_skip (hK38 _ _ (c_ret (f_ret0 results62 ?_)))
  have B139 := ((B13.kx u30).keep u33 (by omega))
  have hF := tm_full (r := r) (ms := (mbO os ss)) (i0 := i0) (pl := pl) hk9 (show (ns.length : Int) = _ by omega) hu1
  rw [if_neg (by omega)] at hF
  exact ⟨rfl, .inl ⟨by rw [hF], by rw [hF]; exact B139⟩, E35⟩
 have hi89 := hp.hi
 have hnl9 : (ns.length : Int) < (nth xs rows.length).h := by omega
 have h69 := hp.h6
 have hol9 := hp.hol
 have hpl9 := hp.hpl
 have hssl : ss.length = hs.length := by rw [← hp.hss, List.length_map]
 have hml : (mbO os ss).length = hs.length := by rw [mbO_len (by omega)]; exact hssl
 refine c_skip (hK36 _ _ (c_seq fun K140 hK140 => (c_region (t_assign rfl rfl rfl (t_nil' (hK140 _ _ ?_))))))
 have hi60 := hp.hi6
 refine c_cut (γ := Nat) (fun zz => [(1, .slice al hs.length cl), (2, .slice ax xs.length cx), (3, .slice ab os.length cb), (4, .slice ar rows.length cr), (5, .slice an ns.length cn), (6, .int .i64 pl), (7, .pointer (some ⟨fb, 0, none⟩)), (8, .pointer (some ⟨bk2, 0, none⟩)), (16, .pointer (some ⟨bk27, 0, none⟩)), (17, .int .i64 (i0 : Int))]) (fun zz w => Upd (fun _ => False) w32 w) (fun K142 hK142 => ?_) ?_
 ·
  refine c_seq fun K145 hK145 => (c_region (t_move rfl rfl rfl (t_len underlying60 rfl rfl rfl rfl (t_cmp rfl rfl rfl rfl rfl (t_nil' (hK145 _ _ (c_condp rfl (fun g72 => ?_) (fun g72 => ?_))))))))
  ·
   refine c_region (t_move rfl rfl rfl (t_move rfl rfl rfl (t_len underlying60 rfl rfl rfl rfl (t_ari rfl rfl rfl rfl rfl (by omega) ?_))))
   have i146 : (ns.length - 1) < ns.length := (by omega)
   refine t_index (j := (ns.length - 1)) underlying60 sizeOf3 rfl rfl rfl rfl ((hp.hn.keep E35 (fun h => Nat.ne_of_gt (hp.hnb h))).addr (by omega)) (by omega) i146 (t_load isAgg3 rfl rfl rfl (((hp.hn.keep E35 (fun h => Nat.ne_of_gt (hp.hnb h))).at_ (ns.length - 1) (by omega)) 0 _ rfl) (t_ari rfl rfl rfl rfl rfl (by omega) (t_assign rfl rfl rfl (t_nil' ?_))))
   exact hK142 0 _ _ ⟨rfl, rfl, rfl, rfl, rfl, rfl, rfl, rfl, rfl, (congrArg (fun z => some (Value.int .i64 z)) (by omega)), trivial⟩ (Upd.refl _ _)
  refine c_skip ?_
  exact hK142 0 _ _ ⟨rfl, rfl, rfl, rfl, rfl, rfl, rfl, rfl, rfl, (congrArg (fun z => some (Value.int .i64 z)) (by omega)), trivial⟩ (Upd.refl _ _)
 intro zz w143 u144
 have zu144 := u144.size
 refine c_seq fun K148 hK148 => (c_region (t_move rfl rfl rfl (t_assign rfl rfl rfl (t_nil' (hK148 _ _ (c_block ?_))))))
 have B149 := (((B13.kx u30).keep u33 (by omega)).kx u144)
 refine c_loop (γ := Nat × Bool × Option Addr × Nat × Nat × Nat) (fun gg => [(1, .slice al hs.length cl), (2, .slice ax xs.length cx), (3, .slice ab os.length cb), (4, .slice ar rows.length cr), (5, .slice an ns.length cn), (6, .int .i64 pl), (7, .pointer (some ⟨fb, 0, none⟩)), (8, .pointer (some ⟨bk2, 0, none⟩)), (16, .pointer (some ⟨bk27, 0, none⟩)), (18, .int .i64 (gg.1 : Int))]) (fun gg w => Upd (fun i => i = fb) w143 w ∧ Blk w fb 72 [.bool gg.2.1, .slice gg.2.2.1 gg.2.2.2.1 gg.2.2.2.2.1, .int .i64 (gg.2.2.2.2.2 : Int)] ∧ (gg.1 ≤ 6) ∧ ((gg.2.1 = false ∧ gg.2.2.1 = none ∧ gg.2.2.2.1 = 0 ∧ gg.2.2.2.2.1 = 0 ∧ rows.length ≤ gg.2.2.2.2.2 ∧ (tmP r (mbO os ss) xs rows.length ns i0 pl up) = tryF (fT r xs rows.length) (tmT r (mbO os ss) xs rows.length ns pl gg.1) gg.2.2.2.2.2) ∨ (gg.2.1 = true ∧ FoundR fb (rows.map HL.xs) (tmP r (mbO os ss) xs rows.length ns i0 pl up) w))) (fun gg => hs.length - gg.1) (i0, false, none, 0, 0, u1) ⟨rfl, rfl, rfl, rfl, rfl, rfl, rfl, rfl, rfl, rfl, trivial⟩ ⟨Upd.refl _ _, B149, hp.hi6, (.inl ⟨rfl, rfl, rfl, rfl, by show rows.length ≤ u1; omega, tm_loop (by omega) hu1⟩)⟩ ?_
 intro gg w151 hW K150 hK150
 obtain ⟨i9, b, ao, ln, cp, uu⟩ := gg
 change WC _ _ _ _ _ _ [(1, .slice al hs.length cl), (2, .slice ax xs.length cx), (3, .slice ab os.length cb), (4, .slice ar rows.length cr), (5, .slice an ns.length cn), (6, .int .i64 pl), (7, .pointer (some ⟨fb, 0, none⟩)), (8, .pointer (some ⟨bk2, 0, none⟩)), (16, .pointer (some ⟨bk27, 0, none⟩)), (18, .int .i64 (i9 : Int))] _
 change Upd (fun i => i = fb) w143 w151 ∧ Blk w151 fb 72 [.bool b, .slice ao ln cp, .int .i64 (uu : Int)] ∧ (i9 ≤ 6) ∧ ((b = false ∧ ao = none ∧ ln = 0 ∧ cp = 0 ∧ rows.length ≤ uu ∧ (tmP r (mbO os ss) xs rows.length ns i0 pl up) = tryF (fT r xs rows.length) (tmT r (mbO os ss) xs rows.length ns pl i9) uu) ∨ (b = true ∧ FoundR fb (rows.map HL.xs) (tmP r (mbO os ss) xs rows.length ns i0 pl up) w151)) at hW
 obtain ⟨u152, I153, I154, I155⟩ := hW
 have zu152 := u152.size
 have hi9 := I154; clear I154
 have hst := I155; clear I155
 refine c_seq fun K157 hK157 => (c_cut (γ := Bool) (fun q => [(1, .slice al hs.length cl), (2, .slice ax xs.length cx), (3, .slice ab os.length cb), (4, .slice ar rows.length cr), (5, .slice an ns.length cn), (6, .int .i64 pl), (7, .pointer (some ⟨fb, 0, none⟩)), (8, .pointer (some ⟨bk2, 0, none⟩)), (16, .pointer (some ⟨bk27, 0, none⟩)), (18, .int .i64 (i9 : Int)), (91, .bool q)]) (fun q w => Upd (fun _ => False) w151 w ∧ (q = true ↔ (i9 < hs.length ∧ b = false))) (fun K159 hK159 => ?_) ?_)
 ·
  refine c_region (t_move rfl rfl rfl (t_move rfl rfl rfl (t_len underlying54 rfl rfl rfl rfl (t_cmp rfl rfl rfl rfl rfl (t_move rfl rfl rfl (t_splitp 85 rfl (fun g85 => ?_) (fun g85 => ?_)))))))
  ·
   refine t_move rfl rfl rfl (t_nilchk rfl rfl rfl (t_field underlying72 rfl sizeOf4 (0) rfl rfl rfl rfl (t_load isAgg4 rfl rfl rfl (I153.get rfl) (t_not rfl rfl rfl (t_pick_t rfl rfl rfl rfl (t_nil' ?_))))))
   exact hK159 (!b) _ _ ⟨rfl, rfl, rfl, rfl, rfl, rfl, rfl, rfl, rfl, rfl, rfl, trivial⟩ ⟨(Upd.refl _ _), ⟨fun h => ⟨by omega, by simpa using h⟩, fun h => by rw [h.2]; rfl⟩⟩
  refine t_skip rfl rfl rfl (t_skip rfl rfl rfl (t_skip rfl rfl rfl (t_skip rfl rfl rfl (t_skip rfl rfl rfl (t_pick_f rfl rfl rfl rfl (t_nil' ?_))))))
  exact hK159 false _ _ ⟨rfl, rfl, rfl, rfl, rfl, rfl, rfl, rfl, rfl, rfl, rfl, trivial⟩ ⟨(Upd.refl _ _), ⟨fun h => (by cases h), fun h => absurd h.1 (by omega)⟩⟩
 intro q w160 hW
 obtain ⟨u161, I162⟩ := hW
 have zu161 := u161.size
 have E163 := ((E35.nx u144).next u152 (fun i hi h => by omega)).nx u161
 have hq := I162; clear I162
 refine c_cond rfl (fun g91 => ?_) (fun g91 => ?_)
 ·
  obtain ⟨hil, hbf⟩ := hq.1 g91
  obtain ⟨_, hao, hln, hcp, hku, hR⟩ := hst.resolve_right (fun h => by rw [hbf] at h; exact absurd h.1 (by decide))
  have B164 := (I153.kx u161)
  have B165 : Blk w160 fb 72 [.bool false, .slice none 0 0, .int .i64 (uu : Int)] := by
    have e : ([.bool b, .slice ao ln cp, .int .i64 (uu : Int)] : List Value) = [.bool false, .slice none 0 0, .int .i64 (uu : Int)] := (by rw [hbf, hao, hln, hcp])
    rw [← e]; exact B164
  have hs9 : nth ss i9 = (nth hs i9).slr := by rw [← hp.hss, nth_map2 _ hil]
  have hds8 : (nth hs i9).ds.length + n ≤ 400 := by have h9 := hp.hds _ (nth_mem (show i9 < ss.length by omega)); rw [hs9] at h9; exact h9
  have hod8 : ∀ d ∈ (nth hs i9).ds, okDty d = true := by have h9 := hp.hod _ (nth_mem (show i9 < ss.length by omega)); rw [hs9] at h9; exact h9
  have hcan9 := mb_can (r := r) (x := (nth xs rows.length)) (os := os) (ss := ss) (i := i9) (by omega) (by omega) (hp.hox _ (nth_mem hk9))
  rw [hs9] at hcan9
  refine c_skip (hK157 _ _ (c_seq fun K166 hK166 => (c_block (c_seq fun K167 hK167 => (c_drawnM follows (fun _ => False) (.look 0 (.look 1 (.look 2 (.look 3 (.look 4 (.look 5 (.act 6 (.look 7 (.look 8 (.look 9 (.look 10 (.look 11 .done))))) .stop))))))) (by kernel_rfl) fun w168 u169 => ?_)))))
  have zu169 := u169.size
  have E170 := E163.nx u169
  have B171 := (((((((B4.keep u10 (by omega)).kx u30).keep u33 (by omega)).kx u144).keep u152 (by omega)).kx u161).kx u169)
  refine y_loadN (vs := [.int .i64 r.rest, .int .i64 r.span, .int .i64 r.work, .int .i64 r.week, .int .i64 r.ww]) isAgg23 sizeOf23 rfl rfl rfl (B171.at.sub 0 5) rfl (fun h => h) (y_move rfl rfl rfl (y_move rfl rfl rfl ?_))
  have i172 : i9 < hs.length := (by omega)
  refine y_index (j := i9) underlying54 sizeOf79 rfl rfl rfl rfl ((hp.hl.keep E170 hp.hb).addr (by omega)) rfl i172 (y_loadN (vs := [.int .i64 ((nth hs i9).f), .int .i64 ((nth hs i9).u), .slice ((nth hs i9).ap) ((nth hs i9).ps.length) ((nth hs i9).cp), .slice ((nth hs i9).ad) ((nth hs i9).ds.length) ((nth hs i9).cd)]) isAgg79 sizeOf79 rfl rfl rfl (((hp.hl.keep E170 hp.hb).at_ i9 (by omega)).sub 0 4) rfl (fun h => h) ?_)
  have B173 := ((((B34.kx u144).keep u152 (by omega)).kx u161).kx u169)
  refine y_loadN (vs := [.int .i64 ((nth xs rows.length).r), .int .i64 ((nth xs rows.length).t.bl), .int .i64 ((nth xs rows.length).t.bh), .int .i64 ((nth xs rows.length).t.el), .int .i64 ((nth xs rows.length).t.eh), .int .i64 ((nth xs rows.length).h), .int .i64 ((nth xs rows.length).p)]) isAgg68 sizeOf68 rfl rfl rfl (B173.at.sub 0 7) rfl (fun h => h) (s_do (t_call own36 rfl rfl rfl rfl (rMay_c r (nth hs i9) (nth xs rows.length) _ ((fun h hh => (hp.hm h hh).keep E170 (fun i z => z)) (nth hs i9) (nth_mem (by omega))).1 ((fun h hh => (hp.hm h hh).keep E170 (fun i z => z)) (nth hs i9) (nth_mem (by omega))).1.hpl hp.hr (by omega) hod8 hxo.1 (by omega)) (fun v174 w175 r177 => ?_)))
  obtain ⟨rfl, u176⟩ := r177
  have zu176 := u176.size
  have E178 := E170.nx u176
  refine s_next ((Upd.refl _ _).nx u176) (y_move rfl rfl rfl (y_extract rfl rfl rfl rfl (y_extract rfl rfl rfl rfl (y_assign rfl rfl rfl (y_assign rfl rfl rfl (s_nil (hK167 _ _ (c_seq fun K179 hK179 => (c_cut (γ := Bool) (fun q2 => [(1, .slice al hs.length cl), (2, .slice ax xs.length cx), (3, .slice ab os.length cb), (4, .slice ar rows.length cr), (5, .slice an ns.length cn), (6, .int .i64 pl), (7, .pointer (some ⟨fb, 0, none⟩)), (8, .pointer (some ⟨bk2, 0, none⟩)), (16, .pointer (some ⟨bk27, 0, none⟩)), (18, .int .i64 (i9 : Int)), (20, .bool (pltP (nth hs i9).ps (nth xs rows.length))), (111, .bool q2)]) (fun q2 w => Upd (fun _ => False) w175 w ∧ (q2 = !(MayR r (nth hs i9).slr (nth xs rows.length) && !(nth os i9)))) (fun K181 hK181 => ?_) ?_)))))))))
  ·
   refine c_region (t_move rfl rfl rfl (t_not rfl rfl rfl (t_move rfl rfl rfl (t_split 106 rfl (fun g106 => ?_) (fun g106 => ?_)))))
   ·
    refine t_skip rfl rfl rfl (t_skip rfl rfl rfl (t_skip rfl rfl rfl (t_skip rfl rfl rfl (t_pick_t rfl rfl rfl rfl (t_nil' ?_)))))
    exact hK181 true _ _ ⟨rfl, rfl, rfl, rfl, rfl, rfl, rfl, rfl, rfl, rfl, rfl, rfl, trivial⟩ ⟨(Upd.refl _ _), (by cases h1 : MayR r (nth hs i9).slr (nth xs rows.length) <;> cases h2 : nth os i9 <;> simp_all)⟩
   refine t_move rfl rfl rfl (t_move rfl rfl rfl ?_)
   have i184 : i9 < os.length := (by omega)
   refine t_index (j := i9) underlying74 sizeOf4 rfl rfl rfl rfl ((hp.ho.keep E178 hp.hob).addr (by omega)) rfl i184 (t_load isAgg4 rfl rfl rfl (((hp.ho.keep E178 hp.hob).at_ i9 (by omega)) 0 _ rfl) (t_pick_f rfl rfl rfl rfl (t_nil' ?_)))
   exact hK181 (nth os i9) _ _ ⟨rfl, rfl, rfl, rfl, rfl, rfl, rfl, rfl, rfl, rfl, rfl, rfl, trivial⟩ ⟨(Upd.refl _ _), (by cases h1 : MayR r (nth hs i9).slr (nth xs rows.length) <;> cases h2 : nth os i9 <;> simp_all)⟩
  intro q2 w182 hW
  obtain ⟨u183, I185⟩ := hW
  have zu183 := u183.size
  have hq2 := I185; clear I185
  refine c_cond rfl (fun g111 => ?_) (fun g111 => ?_)
  ·
   have hcm : canM r (nth xs rows.length) (nth (mbO os ss) i9) = false := by
     rw [hcan9]
     have h9 := hq2.symm.trans g111
     revert h9
     generalize (MayR r (nth hs i9).slr (nth xs rows.length) && !(nth os i9)) = z
     cases z <;> simp
   refine c_exit (hK166 _ _ (c_region (t_move rfl rfl rfl (t_ari rfl rfl rfl rfl rfl (by omega) (t_assign rfl rfl rfl (t_nil' ?_))))))
   have B187 := (((B165.kx u169).kx u176).kx u183)
   exact hK150 (i9 + 1, false, none, 0, 0, uu) _ _ (by show hs.length - (i9 + 1) < hs.length - i9; omega) ⟨rfl, rfl, rfl, rfl, rfl, rfl, rfl, rfl, rfl, rfl, trivial⟩ ⟨((((u152.nx u161).nx u169).nx u176).nx u183), B187, (by omega), (.inl ⟨rfl, rfl, rfl, rfl, hku, by rw [hR, tm_skip hnl9 (by omega) hcm]⟩)⟩
  have hcm : canM r (nth xs rows.length) (nth (mbO os ss) i9) = true := by
    rw [hcan9]
    have h9 := hq2.symm.trans g111
    revert h9
    generalize (MayR r (nth hs i9).slr (nth xs rows.length) && !(nth os i9)) = z
    cases z <;> simp
  obtain ⟨hMay0, hoi⟩ : MayR r (nth hs i9).slr (nth xs rows.length) = true ∧ nth os i9 = false := by rw [hcan9] at hcm; simpa using hcm
  have hMay : MayR r (nth ss i9) (nth xs rows.length) = true := by rw [hs9]; exact hMay0
  refine c_skip (hK179 _ _ (c_seq fun K188 hK188 => (c_region (t_move rfl rfl rfl (t_assign rfl rfl rfl (t_nil' (hK188 _ _ (c_cut (γ := Int) (fun pl2 => [(1, .slice al hs.length cl), (2, .slice ax xs.length cx), (3, .slice ab os.length cb), (4, .slice ar rows.length cr), (5, .slice an ns.length cn), (6, .int .i64 pl), (7, .pointer (some ⟨fb, 0, none⟩)), (8, .pointer (some ⟨bk2, 0, none⟩)), (16, .pointer (some ⟨bk27, 0, none⟩)), (18, .int .i64 (i9 : Int)), (21, .int .i64 pl2)]) (fun pl2 w => Upd (fun _ => False) w182 w ∧ (pl2 = (pl + if pltP (nth hs i9).ps (nth xs rows.length) = true then 1 else 0))) (fun K190 hK190 => ?_) ?_))))))))
  ·
   refine c_seq fun K193 hK193 => (c_region (t_move rfl rfl rfl (t_nil' (hK193 _ _ (c_cond rfl (fun g113 => ?_) (fun g113 => ?_))))))
   ·
    have hplt : pl + 1 = pl + if pltP (nth hs i9).ps (nth xs rows.length) = true then 1 else 0 := by rw [g113]; simp
    refine c_region (t_move rfl rfl rfl (t_ari rfl rfl rfl rfl rfl (by omega) (t_assign rfl rfl rfl (t_nil' ?_))))
    exact hK190 (pl + 1) _ _ ⟨rfl, rfl, rfl, rfl, rfl, rfl, rfl, rfl, rfl, rfl, rfl, trivial⟩ ⟨(Upd.refl _ _), hplt⟩
   have hplt : pl = pl + if pltP (nth hs i9).ps (nth xs rows.length) = true then 1 else 0 := by rw [g113]; simp
   refine c_skip ?_
   exact hK190 pl _ _ ⟨rfl, rfl, rfl, rfl, rfl, rfl, rfl, rfl, rfl, rfl, rfl, trivial⟩ ⟨(Upd.refl _ _), hplt⟩
  intro pl2 w191 hW
  obtain ⟨u192, I194⟩ := hW
  have zu192 := u192.size
  have hpl2 := I194; clear I194
  have hTk := tm_take (i := i9) (u := uu) (ns := ns) (pl := pl) hk9 hnl9 (by omega) hcm (mbO_add (r := r) (os := os) (ss := ss) (by omega) (by omega) hoi hMay) (pl' := pl2) (by rw [mb_plt (by omega) (by omega), hs9, hpl2]; rfl) hku
  obtain ⟨R2, hR2⟩ : ∃ R, R = tmP r (mbO os (ss.set i9 (addD (nth ss i9) (nth xs rows.length).t))) xs rows.length (ns ++ [(i9 : Int)]) (i9 + 1) pl2 uu := ⟨_, rfl⟩
  rw [← hR2] at hTk
  have hku2 : rows.length ≤ R2.2 := by rw [hR2]; exact Nat.le_trans hku tm_ge
  have hTn : R2.1 = none → _ := mt_none (F := fun u => tryF (fT r xs rows.length) (tmT r (mbO os ss) xs rows.length ns pl (i9 + 1)) u) hR hTk
  have hTs := fun q => mt_some (q := q) (F := fun u => tryF (fT r xs rows.length) (tmT r (mbO os ss) xs rows.length ns pl (i9 + 1)) u) hR hTk
  have hplo : pl2 = pl ∨ pl2 = pl + 1 := by rw [hpl2]; split <;> omega
  refine c_drawnM follows (fun i => i = fb) (.look 0 (.look 1 (.look 2 (.look 3 (.look 4 (.look 6 (.look 7 (.look 8 (.look 10 (.look 12 (.look 15 (.look 16 (.act 5 (.act 9 (.act 11 (.act 13 (.act 14 (.act 17 .done .stop) .stop) .stop) (.act 13 (.act 11 (.act 14 (.act 17 .done .stop) .stop) .stop) .stop)) (.act 13 (.act 9 (.act 11 (.act 14 (.act 17 .done .stop) .stop) .stop) .stop) .stop)) (.act 9 (.act 5 (.act 11 (.act 13 (.act 14 (.act 17 .done .stop) .stop) .stop) (.act 13 (.act 11 (.act 14 (.act 17 .done .stop) .stop) .stop) .stop)) (.act 13 (.act 5 (.act 11 (.act 14 (.act 17 .done .stop) .stop) .stop) .stop) .stop)) (.act 13 (.act 5 (.act 9 (.act 11 (.act 14 (.act 17 .done .stop) .stop) .stop) .stop) (.act 9 (.act 5 (.act 11 (.act 14 (.act 17 .done .stop) .stop) .stop) .stop) .stop)) .stop))))))))))))))) (by kernel_rfl) fun w196 u197 => ?_
  have zu197 := u197.size
  have E198 := ((E178.nx u183).nx u192).nx u197
  have B199 := (((((((((((B4.keep u10 (by omega)).kx u30).keep u33 (by omega)).kx u144).keep u152 (by omega)).kx u161).kx u169).kx u176).kx u183).kx u192).kx u197)
  refine y_loadN (vs := [.int .i64 r.rest, .int .i64 r.span, .int .i64 r.work, .int .i64 r.week, .int .i64 r.ww]) isAgg23 sizeOf23 rfl rfl rfl (B199.at.sub 0 5) rfl (by show ¬ (bk2 = fb); first | omega | assumption) (y_move rfl rfl rfl (y_move rfl rfl rfl (y_field underlying68 rfl sizeOf37 (1) rfl rfl rfl rfl ?_)))
  have B200 := ((((((((B34.kx u144).keep u152 (by omega)).kx u161).kx u169).kx u176).kx u183).kx u192).kx u197)
  refine y_loadN (vs := [.int .i64 ((nth xs rows.length).t.bl), .int .i64 ((nth xs rows.length).t.bh), .int .i64 ((nth xs rows.length).t.el), .int .i64 ((nth xs rows.length).t.eh)]) isAgg37 sizeOf37 rfl rfl rfl (B200.at.sub 1 4) rfl (by show ¬ (bk27 = fb); first | omega | assumption) (y_move rfl rfl rfl (y_move rfl rfl rfl (y_move rfl rfl rfl (y_move rfl rfl rfl (y_move rfl rfl rfl (y_move rfl rfl rfl (y_move rfl rfl rfl (s_or ?_ ?_))))))))
  ·
   refine s_do (t_call own92 rfl rfl rfl rfl (rWith_c hs al bl ol cl i9 (nth xs rows.length).t _ (hp.hl.keep E198 hp.hb) hp.h6 (by omega) (fun h hh => ((fun h hh => (hp.hm h hh).keep E198 (fun i z => z)) h hh).1) (by omega) (by omega)) (fun v202 w203 r205 => ?_))
   obtain ⟨⟨aoWW201, gWW201, cWW201, adW201, gdW201, cdW201, rfl, haWW201, hdWW201, hbWW201, hbDW201⟩, u204⟩ := r205
   have zu204 := u204.size
   have E206 := E198.nx u204
   have lt_gWW201 := haWW201.lt
   have lt_gdW201 := hdWW201.lt
   refine s_next ((Upd.refl _ _).nx u204) (s_or ?_ ?_)
   ·
    refine s_do (t_bslice (ps := []) (cs := []) (e := 3) rfl rfl ⟨rfl, rfl⟩ (fun w => by kernel_rfl) (fun bk207 w208 ebk207 sbk207 B209 u210 => ?_))
    have zu210 := u210.size
    have E211 := E206.nx u210
    refine s_next ((Upd.refl _ _).nx u210) (s_or ?_ ?_)
    ·
     refine s_do (t_copy (enc := encI) (z := .int .i64 0) (bytes := 8) (k := 1) (ys := ns) underlying60 (by kernel_rfl) rfl (by decide) (fun _ => rfl) (by intro x; simp [encI, Value.oneCell']) rfl rfl rfl rfl B209 (hp.hn.keep E211 (fun h => Nat.ne_of_gt (hp.hnb h))) (by omega) (by decide) (fun ao212 gb213 cp214 w215 A216 u217 gegb213 => ?_))
     have zu217 := u217.size
     have lt_gb213 := A216.lt
     refine s_next ((Upd.refl _ _).next u217 (fun i hi (h : (i = bk207 ∧ bk207 ≤ i)) => show w196.heap.size ≤ i ∨ (i = fb) by first | omega | exact .inr h)) (s_do (t_bslice (ps := [(0, .int .i64 (i9 : Int))]) (cs := [.int .i64 (i9 : Int)]) (e := 3) rfl rfl ⟨rfl, rfl⟩ (fun w => by kernel_rfl) (fun bk219 w220 ebk219 sbk219 B221 u222 => ?_)))
     have zu222 := u222.size
     refine s_next ((Upd.refl _ _).nx u222) (s_do ?_)
     have D225 := (((haWW201.kE u210).keep u217 (fun hb => show ¬ ((gWW201 = bk207 ∧ bk207 ≤ gWW201)) by first | omega | assumption)).kE u222)
     have D226 := (((hdWW201.kE u210).keep u217 (fun hb => show ¬ ((gdW201 = bk207 ∧ bk207 ≤ gdW201)) by first | omega | assumption)).kE u222)
     have D227 := (A216.kE u222)
     have nAn224 : ¬ (gWW201 = gb213 ∧ bk207 ≤ gWW201) := fun q => (D225).neAcc D227 (by decide) (by omega) (by omega) q.1
     have nBn224 : ¬ (gdW201 = gb213 ∧ bk207 ≤ gdW201) := fun q => (D226).neAcc D227 (by decide) (by omega) (by omega) q.1
     have h000 := hpos
     refine t_append (z := .int .i64 0) (bytes := 8) (k := 1) (base := bk207) (i9 : Int) underlying60 (by kernel_rfl) rfl (by decide) (fun _ => rfl) (by intro x; simp [encI, Value.oneCell']) rfl rfl rfl rfl D227 B221 (by omega) (by omega) (by decide) (fun ao228 gb229 cp230 w231 A232 u233 gegb229 lngb229 => ?_)
     have zu233 := u233.size
     have lt_gb229 := A232.lt
     refine s_next ((Upd.refl _ _).next u233 (fun i hi (h : (i = gb213 ∧ bk207 ≤ i)) => show w196.heap.size ≤ i ∨ (i = fb) by first | omega | exact .inr h)) (s_do ?_)
     have B235 := ((((((((((B165.kx u169).kx u176).kx u183).kx u192).kx u197).kx u204).kx u210).keep u217 (by omega)).kx u222).keep u233 (by omega))
     have D236 := (D225.keep u233 (fun hb => show ¬ ((gWW201 = gb213 ∧ bk207 ≤ gWW201)) by first | omega | assumption))
     have D237 := (D226.keep u233 (fun hb => show ¬ ((gdW201 = gb213 ∧ bk207 ≤ gdW201)) by first | omega | assumption))
     have hT2 := hp.more (((E211.next u217 (fun i hi h => by omega)).nx u222).next u233 (fun i hi h => by omega)) B235 hk9 hnl9 hil D236 (by omega) D237 (by omega) A232 (by omega) hplo
     refine t_call own62 rfl rfl rfl rfl (TryQ.two (ih (n - 1) (by omega)) hT2 (rows.map HL.xs) R2 rfl hR2.symm) (fun v239 w240 r242 => ?_)
     rcases r242 with ⟨rfl, hnk238, hBk238, u241⟩ | ⟨qk238, aok238, gk238, ck238, rwk238, rfl, hnk238, hBk238, ⟨hSk238, hgk238, hlk238, hxk238⟩, u241⟩
     ·
      have zu241 := u241.size
      refine s_next ((Upd.refl _ _).next u241 (fun i hi (h : i = fb) => show w196.heap.size ≤ i ∨ (i = fb) by first | omega | exact .inr h)) (s_nil (hK166 _ _ (c_region (t_move rfl rfl rfl (t_ari rfl rfl rfl rfl rfl (by omega) (t_assign rfl rfl rfl (t_nil' ?_)))))))
      exact hK150 (i9 + 1, false, none, 0, 0, (R2).2) _ _ (by show hs.length - (i9 + 1) < hs.length - i9; omega) ⟨rfl, rfl, rfl, rfl, rfl, rfl, rfl, rfl, rfl, rfl, trivial⟩ ⟨((((((((((((u152.nx u161).nx u169).nx u176).nx u183).nx u192).nx u197).nx u204).nx u210).next u217 (fun i hi h => by omega)).nx u222).next u233 (fun i hi h => by omega)).next u241 (fun i hi h => by omega)), hBk238, (by omega), (.inl ⟨rfl, rfl, rfl, rfl, hku2, hTn hnk238⟩)⟩
     have zu241 := u241.size
     refine s_next ((Upd.refl _ _).next u241 (fun i hi (h : i = fb) => show w196.heap.size ≤ i ∨ (i = fb) by first | omega | exact .inr h)) (s_nil (hK166 _ _ (c_region (t_move rfl rfl rfl (t_ari rfl rfl rfl rfl rfl (by omega) (t_assign rfl rfl rfl (t_nil' ?_)))))))
     have hRe := hTs _ hnk238
     have hBe := hBk238
     exact hK150 (i9 + 1, true, aok238, rwk238.length, ck238, (R2).2) _ _ (by show hs.length - (i9 + 1) < hs.length - i9; omega) ⟨rfl, rfl, rfl, rfl, rfl, rfl, rfl, rfl, rfl, rfl, trivial⟩ ⟨((((((((((((u152.nx u161).nx u169).nx u176).nx u183).nx u192).nx u197).nx u204).nx u210).next u217 (fun i hi h => by omega)).nx u222).next u233 (fun i hi h => by omega)).next u241 (fun i hi h => by omega)), hBk238, (by omega), (.inr ⟨rfl, .inr ⟨_, _, _, _, _, by rw [hRe], by rw [hRe]; exact hBe, hSk238, hgk238, hlk238, hxk238⟩⟩)⟩
    refine s_do (t_bslice (ps := [(0, .int .i64 (i9 : Int))]) (cs := [.int .i64 (i9 : Int)]) (e := 3) rfl rfl ⟨rfl, rfl⟩ (fun w => by kernel_rfl) (fun bk245 w246 ebk245 sbk245 B247 u248 => ?_))
    have zu248 := u248.size
    have E249 := E211.nx u248
    refine s_next ((Upd.refl _ _).nx u248) (s_do ?_)
    have B250 := (B209.kx u248)
    refine t_copy (enc := encI) (z := .int .i64 0) (bytes := 8) (k := 1) (ys := ns) underlying60 (by kernel_rfl) rfl (by decide) (fun _ => rfl) (by intro x; simp [encI, Value.oneCell']) rfl rfl rfl rfl B250 (hp.hn.keep E249 (fun h => Nat.ne_of_gt (hp.hnb h))) (by omega) (by decide) (fun ao251 gb252 cp253 w254 A255 u256 gegb252 => ?_)
    have zu256 := u256.size
    have lt_gb252 := A255.lt
    refine s_next ((Upd.refl _ _).next u256 (fun i hi (h : (i = bk207 ∧ bk207 ≤ i)) => show w196.heap.size ≤ i ∨ (i = fb) by first | omega | exact .inr h)) (s_do ?_)
    have D259 := (((haWW201.kE u210).kE u248).keep u256 (fun hb => show ¬ ((gWW201 = bk207 ∧ bk207 ≤ gWW201)) by first | omega | assumption))
    have D260 := (((hdWW201.kE u210).kE u248).keep u256 (fun hb => show ¬ ((gdW201 = bk207 ∧ bk207 ≤ gdW201)) by first | omega | assumption))
    have nAn258 : ¬ (gWW201 = gb252 ∧ bk207 ≤ gWW201) := fun q => (D259).neAcc A255 (by decide) (by omega) (by omega) q.1
    have nBn258 : ¬ (gdW201 = gb252 ∧ bk207 ≤ gdW201) := fun q => (D260).neAcc A255 (by decide) (by omega) (by omega) q.1
    have h000 := hpos
    have B261 := (B247.keep u256 (by omega))
    refine t_append (z := .int .i64 0) (bytes := 8) (k := 1) (base := bk207) (i9 : Int) underlying60 (by kernel_rfl) rfl (by decide) (fun _ => rfl) (by intro x; simp [encI, Value.oneCell']) rfl rfl rfl rfl A255 B261 (by omega) (by omega) (by decide) (fun ao262 gb263 cp264 w265 A266 u267 gegb263 lngb263 => ?_)
    have zu267 := u267.size
    have lt_gb263 := A266.lt
    refine s_next ((Upd.refl _ _).next u267 (fun i hi (h : (i = gb252 ∧ bk207 ≤ i)) => show w196.heap.size ≤ i ∨ (i = fb) by first | omega | exact .inr h)) (s_do ?_)
    have B269 := ((((((((((B165.kx u169).kx u176).kx u183).kx u192).kx u197).kx u204).kx u210).kx u248).keep u256 (by omega)).keep u267 (by omega))
    have D270 := (D259.keep u267 (fun hb => show ¬ ((gWW201 = gb252 ∧ bk207 ≤ gWW201)) by first | omega | assumption))
    have D271 := (D260.keep u267 (fun hb => show ¬ ((gdW201 = gb252 ∧ bk207 ≤ gdW201)) by first | omega | assumption))
    have hT2 := hp.more ((E249.next u256 (fun i hi h => by omega)).next u267 (fun i hi h => by omega)) B269 hk9 hnl9 hil D270 (by omega) D271 (by omega) A266 (by omega) hplo
    refine t_call own62 rfl rfl rfl rfl (TryQ.two (ih (n - 1) (by omega)) hT2 (rows.map HL.xs) R2 rfl hR2.symm) (fun v273 w274 r276 => ?_)
    rcases r276 with ⟨rfl, hnk272, hBk272, u275⟩ | ⟨qk272, aok272, gk272, ck272, rwk272, rfl, hnk272, hBk272, ⟨hSk272, hgk272, hlk272, hxk272⟩, u275⟩
    ·
     have zu275 := u275.size
     refine s_next ((Upd.refl _ _).next u275 (fun i hi (h : i = fb) => show w196.heap.size ≤ i ∨ (i = fb) by first | omega | exact .inr h)) (s_nil (hK166 _ _ (c_region (t_move rfl rfl rfl (t_ari rfl rfl rfl rfl rfl (by omega) (t_assign rfl rfl rfl (t_nil' ?_)))))))
     exact hK150 (i9 + 1, false, none, 0, 0, (R2).2) _ _ (by show hs.length - (i9 + 1) < hs.length - i9; omega) ⟨rfl, rfl, rfl, rfl, rfl, rfl, rfl, rfl, rfl, rfl, trivial⟩ ⟨((((((((((((u152.nx u161).nx u169).nx u176).nx u183).nx u192).nx u197).nx u204).nx u210).nx u248).next u256 (fun i hi h => by omega)).next u267 (fun i hi h => by omega)).next u275 (fun i hi h => by omega)), hBk272, (by omega), (.inl ⟨rfl, rfl, rfl, rfl, hku2, hTn hnk272⟩)⟩
    have zu275 := u275.size
    refine s_next ((Upd.refl _ _).next u275 (fun i hi (h : i = fb) => show w196.heap.size ≤ i ∨ (i = fb) by first | omega | exact .inr h)) (s_nil (hK166 _ _ (c_region (t_move rfl rfl rfl (t_ari rfl rfl rfl rfl rfl (by omega) (t_assign rfl rfl rfl (t_nil' ?_)))))))
    have hRe := hTs _ hnk272
    have hBe := hBk272
    exact hK150 (i9 + 1, true, aok272, rwk272.length, ck272, (R2).2) _ _ (by show hs.length - (i9 + 1) < hs.length - i9; omega) ⟨rfl, rfl, rfl, rfl, rfl, rfl, rfl, rfl, rfl, rfl, trivial⟩ ⟨((((((((((((u152.nx u161).nx u169).nx u176).nx u183).nx u192).nx u197).nx u204).nx u210).nx u248).next u256 (fun i hi h => by omega)).next u267 (fun i hi h => by omega)).next u275 (fun i hi h => by omega)), hBk272, (by omega), (.inr ⟨rfl, .inr ⟨_, _, _, _, _, by rw [hRe], by rw [hRe]; exact hBe, hSk272, hgk272, hlk272, hxk272⟩⟩)⟩
   refine s_do (t_bslice (ps := [(0, .int .i64 (i9 : Int))]) (cs := [.int .i64 (i9 : Int)]) (e := 3) rfl rfl ⟨rfl, rfl⟩ (fun w => by kernel_rfl) (fun bk279 w280 ebk279 sbk279 B281 u282 => ?_))
   have zu282 := u282.size
   refine s_next ((Upd.refl _ _).nx u282) (s_do (t_bslice (ps := []) (cs := []) (e := 3) rfl rfl ⟨rfl, rfl⟩ (fun w => by kernel_rfl) (fun bk284 w285 ebk284 sbk284 B286 u287 => ?_)))
   have zu287 := u287.size
   have E288 := (E206.nx u282).nx u287
   refine s_next ((Upd.refl _ _).nx u287) (s_do (t_copy (enc := encI) (z := .int .i64 0) (bytes := 8) (k := 1) (ys := ns) underlying60 (by kernel_rfl) rfl (by decide) (fun _ => rfl) (by intro x; simp [encI, Value.oneCell']) rfl rfl rfl rfl B286 (hp.hn.keep E288 (fun h => Nat.ne_of_gt (hp.hnb h))) (by omega) (by decide) (fun ao289 gb290 cp291 w292 A293 u294 gegb290 => ?_)))
   have zu294 := u294.size
   have lt_gb290 := A293.lt
   refine s_next ((Upd.refl _ _).next u294 (fun i hi (h : (i = bk284 ∧ bk284 ≤ i)) => show w196.heap.size ≤ i ∨ (i = fb) by first | omega | exact .inr h)) (s_do ?_)
   have D297 := (((haWW201.kE u282).kE u287).keep u294 (fun hb => show ¬ ((gWW201 = bk284 ∧ bk284 ≤ gWW201)) by first | omega | assumption))
   have D298 := (((hdWW201.kE u282).kE u287).keep u294 (fun hb => show ¬ ((gdW201 = bk284 ∧ bk284 ≤ gdW201)) by first | omega | assumption))
   have nAn296 : ¬ (gWW201 = gb290 ∧ bk284 ≤ gWW201) := fun q => (D297).neAcc A293 (by decide) (by omega) (by omega) q.1
   have nBn296 : ¬ (gdW201 = gb290 ∧ bk284 ≤ gdW201) := fun q => (D298).neAcc A293 (by decide) (by omega) (by omega) q.1
   have h000 := hpos
   have B299 := ((B281.kx u287).keep u294 (by omega))
   refine t_append (z := .int .i64 0) (bytes := 8) (k := 1) (base := bk284) (i9 : Int) underlying60 (by kernel_rfl) rfl (by decide) (fun _ => rfl) (by intro x; simp [encI, Value.oneCell']) rfl rfl rfl rfl A293 B299 (by omega) (by omega) (by decide) (fun ao300 gb301 cp302 w303 A304 u305 gegb301 lngb301 => ?_)
   have zu305 := u305.size
   have lt_gb301 := A304.lt
   refine s_next ((Upd.refl _ _).next u305 (fun i hi (h : (i = gb290 ∧ bk284 ≤ i)) => show w196.heap.size ≤ i ∨ (i = fb) by first | omega | exact .inr h)) (s_do ?_)
   have B307 := ((((((((((B165.kx u169).kx u176).kx u183).kx u192).kx u197).kx u204).kx u282).kx u287).keep u294 (by omega)).keep u305 (by omega))
   have D308 := (D297.keep u305 (fun hb => show ¬ ((gWW201 = gb290 ∧ bk284 ≤ gWW201)) by first | omega | assumption))
   have D309 := (D298.keep u305 (fun hb => show ¬ ((gdW201 = gb290 ∧ bk284 ≤ gdW201)) by first | omega | assumption))
   have hT2 := hp.more ((E288.next u294 (fun i hi h => by omega)).next u305 (fun i hi h => by omega)) B307 hk9 hnl9 hil D308 (by omega) D309 (by omega) A304 (by omega) hplo
   refine t_call own62 rfl rfl rfl rfl (TryQ.two (ih (n - 1) (by omega)) hT2 (rows.map HL.xs) R2 rfl hR2.symm) (fun v311 w312 r314 => ?_)
   rcases r314 with ⟨rfl, hnk310, hBk310, u313⟩ | ⟨qk310, aok310, gk310, ck310, rwk310, rfl, hnk310, hBk310, ⟨hSk310, hgk310, hlk310, hxk310⟩, u313⟩
   ·
    have zu313 := u313.size
    refine s_next ((Upd.refl _ _).next u313 (fun i hi (h : i = fb) => show w196.heap.size ≤ i ∨ (i = fb) by first | omega | exact .inr h)) (s_nil (hK166 _ _ (c_region (t_move rfl rfl rfl (t_ari rfl rfl rfl rfl rfl (by omega) (t_assign rfl rfl rfl (t_nil' ?_)))))))
    exact hK150 (i9 + 1, false, none, 0, 0, (R2).2) _ _ (by show hs.length - (i9 + 1) < hs.length - i9; omega) ⟨rfl, rfl, rfl, rfl, rfl, rfl, rfl, rfl, rfl, rfl, trivial⟩ ⟨((((((((((((u152.nx u161).nx u169).nx u176).nx u183).nx u192).nx u197).nx u204).nx u282).nx u287).next u294 (fun i hi h => by omega)).next u305 (fun i hi h => by omega)).next u313 (fun i hi h => by omega)), hBk310, (by omega), (.inl ⟨rfl, rfl, rfl, rfl, hku2, hTn hnk310⟩)⟩
   have zu313 := u313.size
   refine s_next ((Upd.refl _ _).next u313 (fun i hi (h : i = fb) => show w196.heap.size ≤ i ∨ (i = fb) by first | omega | exact .inr h)) (s_nil (hK166 _ _ (c_region (t_move rfl rfl rfl (t_ari rfl rfl rfl rfl rfl (by omega) (t_assign rfl rfl rfl (t_nil' ?_)))))))
   have hRe := hTs _ hnk310
   have hBe := hBk310
   exact hK150 (i9 + 1, true, aok310, rwk310.length, ck310, (R2).2) _ _ (by show hs.length - (i9 + 1) < hs.length - i9; omega) ⟨rfl, rfl, rfl, rfl, rfl, rfl, rfl, rfl, rfl, rfl, trivial⟩ ⟨((((((((((((u152.nx u161).nx u169).nx u176).nx u183).nx u192).nx u197).nx u204).nx u282).nx u287).next u294 (fun i hi h => by omega)).next u305 (fun i hi h => by omega)).next u313 (fun i hi h => by omega)), hBk310, (by omega), (.inr ⟨rfl, .inr ⟨_, _, _, _, _, by rw [hRe], by rw [hRe]; exact hBe, hSk310, hgk310, hlk310, hxk310⟩⟩)⟩
  refine s_or ?_ ?_
  ·
   refine s_do (t_bslice (ps := []) (cs := []) (e := 3) rfl rfl ⟨rfl, rfl⟩ (fun w => by kernel_rfl) (fun bk317 w318 ebk317 sbk317 B319 u320 => ?_))
   have zu320 := u320.size
   have E321 := E198.nx u320
   refine s_next ((Upd.refl _ _).nx u320) (s_or ?_ ?_)
   ·
    refine s_do (t_call own92 rfl rfl rfl rfl (rWith_c hs al bl ol cl i9 (nth xs rows.length).t _ (hp.hl.keep E321 hp.hb) hp.h6 (by omega) (fun h hh => ((fun h hh => (hp.hm h hh).keep E321 (fun i z => z)) h hh).1) (by omega) (by omega)) (fun v323 w324 r326 => ?_))
    obtain ⟨⟨aoWW322, gWW322, cWW322, adW322, gdW322, cdW322, rfl, haWW322, hdWW322, hbWW322, hbDW322⟩, u325⟩ := r326
    have zu325 := u325.size
    have E327 := E321.nx u325
    have lt_gWW322 := haWW322.lt
    have lt_gdW322 := hdWW322.lt
    refine s_next ((Upd.refl _ _).nx u325) (s_or ?_ ?_)
    ·
     refine s_do ?_
     have B328 := (B319.kx u325)
     refine t_copy (enc := encI) (z := .int .i64 0) (bytes := 8) (k := 1) (ys := ns) underlying60 (by kernel_rfl) rfl (by decide) (fun _ => rfl) (by intro x; simp [encI, Value.oneCell']) rfl rfl rfl rfl B328 (hp.hn.keep E327 (fun h => Nat.ne_of_gt (hp.hnb h))) (by omega) (by decide) (fun ao329 gb330 cp331 w332 A333 u334 gegb330 => ?_)
     have zu334 := u334.size
     have lt_gb330 := A333.lt
     refine s_next ((Upd.refl _ _).next u334 (fun i hi (h : (i = bk317 ∧ bk317 ≤ i)) => show w196.heap.size ≤ i ∨ (i = fb) by first | omega | exact .inr h)) (s_do (t_bslice (ps := [(0, .int .i64 (i9 : Int))]) (cs := [.int .i64 (i9 : Int)]) (e := 3) rfl rfl ⟨rfl, rfl⟩ (fun w => by kernel_rfl) (fun bk336 w337 ebk336 sbk336 B338 u339 => ?_)))
     have zu339 := u339.size
     refine s_next ((Upd.refl _ _).nx u339) (s_do ?_)
     have D342 := ((haWW322.keep u334 (fun hb => show ¬ ((gWW322 = bk317 ∧ bk317 ≤ gWW322)) by first | omega | assumption)).kE u339)
     have D343 := ((hdWW322.keep u334 (fun hb => show ¬ ((gdW322 = bk317 ∧ bk317 ≤ gdW322)) by first | omega | assumption)).kE u339)
     have D344 := (A333.kE u339)
     have nAn341 : ¬ (gWW322 = gb330 ∧ bk317 ≤ gWW322) := fun q => (D342).neAcc D344 (by decide) (by omega) (by omega) q.1
     have nBn341 : ¬ (gdW322 = gb330 ∧ bk317 ≤ gdW322) := fun q => (D343).neAcc D344 (by decide) (by omega) (by omega) q.1
     have h000 := hpos
     refine t_append (z := .int .i64 0) (bytes := 8) (k := 1) (base := bk317) (i9 : Int) underlying60 (by kernel_rfl) rfl (by decide) (fun _ => rfl) (by intro x; simp [encI, Value.oneCell']) rfl rfl rfl rfl D344 B338 (by omega) (by omega) (by decide) (fun ao345 gb346 cp347 w348 A349 u350 gegb346 lngb346 => ?_)
     have zu350 := u350.size
     have lt_gb346 := A349.lt
     refine s_next ((Upd.refl _ _).next u350 (fun i hi (h : (i = gb330 ∧ bk317 ≤ i)) => show w196.heap.size ≤ i ∨ (i = fb) by first | omega | exact .inr h)) (s_do ?_)
     have B352 := ((((((((((B165.kx u169).kx u176).kx u183).kx u192).kx u197).kx u320).kx u325).keep u334 (by omega)).kx u339).keep u350 (by omega))
     have D353 := (D342.keep u350 (fun hb => show ¬ ((gWW322 = gb330 ∧ bk317 ≤ gWW322)) by first | omega | assumption))
     have D354 := (D343.keep u350 (fun hb => show ¬ ((gdW322 = gb330 ∧ bk317 ≤ gdW322)) by first | omega | assumption))
     have hT2 := hp.more (((E327.next u334 (fun i hi h => by omega)).nx u339).next u350 (fun i hi h => by omega)) B352 hk9 hnl9 hil D353 (by omega) D354 (by omega) A349 (by omega) hplo
     refine t_call own62 rfl rfl rfl rfl (TryQ.two (ih (n - 1) (by omega)) hT2 (rows.map HL.xs) R2 rfl hR2.symm) (fun v356 w357 r359 => ?_)
     rcases r359 with ⟨rfl, hnk355, hBk355, u358⟩ | ⟨qk355, aok355, gk355, ck355, rwk355, rfl, hnk355, hBk355, ⟨hSk355, hgk355, hlk355, hxk355⟩, u358⟩
     ·
      have zu358 := u358.size
      refine s_next ((Upd.refl _ _).next u358 (fun i hi (h : i = fb) => show w196.heap.size ≤ i ∨ (i = fb) by first | omega | exact .inr h)) (s_nil (hK166 _ _ (c_region (t_move rfl rfl rfl (t_ari rfl rfl rfl rfl rfl (by omega) (t_assign rfl rfl rfl (t_nil' ?_)))))))
      exact hK150 (i9 + 1, false, none, 0, 0, (R2).2) _ _ (by show hs.length - (i9 + 1) < hs.length - i9; omega) ⟨rfl, rfl, rfl, rfl, rfl, rfl, rfl, rfl, rfl, rfl, trivial⟩ ⟨((((((((((((u152.nx u161).nx u169).nx u176).nx u183).nx u192).nx u197).nx u320).nx u325).next u334 (fun i hi h => by omega)).nx u339).next u350 (fun i hi h => by omega)).next u358 (fun i hi h => by omega)), hBk355, (by omega), (.inl ⟨rfl, rfl, rfl, rfl, hku2, hTn hnk355⟩)⟩
     have zu358 := u358.size
     refine s_next ((Upd.refl _ _).next u358 (fun i hi (h : i = fb) => show w196.heap.size ≤ i ∨ (i = fb) by first | omega | exact .inr h)) (s_nil (hK166 _ _ (c_region (t_move rfl rfl rfl (t_ari rfl rfl rfl rfl rfl (by omega) (t_assign rfl rfl rfl (t_nil' ?_)))))))
     have hRe := hTs _ hnk355
     have hBe := hBk355
     exact hK150 (i9 + 1, true, aok355, rwk355.length, ck355, (R2).2) _ _ (by show hs.length - (i9 + 1) < hs.length - i9; omega) ⟨rfl, rfl, rfl, rfl, rfl, rfl, rfl, rfl, rfl, rfl, trivial⟩ ⟨((((((((((((u152.nx u161).nx u169).nx u176).nx u183).nx u192).nx u197).nx u320).nx u325).next u334 (fun i hi h => by omega)).nx u339).next u350 (fun i hi h => by omega)).next u358 (fun i hi h => by omega)), hBk355, (by omega), (.inr ⟨rfl, .inr ⟨_, _, _, _, _, by rw [hRe], by rw [hRe]; exact hBe, hSk355, hgk355, hlk355, hxk355⟩⟩)⟩
    refine s_do (t_bslice (ps := [(0, .int .i64 (i9 : Int))]) (cs := [.int .i64 (i9 : Int)]) (e := 3) rfl rfl ⟨rfl, rfl⟩ (fun w => by kernel_rfl) (fun bk362 w363 ebk362 sbk362 B364 u365 => ?_))
    have zu365 := u365.size
    have E366 := E327.nx u365
    refine s_next ((Upd.refl _ _).nx u365) (s_do ?_)
    have B367 := ((B319.kx u325).kx u365)
    refine t_copy (enc := encI) (z := .int .i64 0) (bytes := 8) (k := 1) (ys := ns) underlying60 (by kernel_rfl) rfl (by decide) (fun _ => rfl) (by intro x; simp [encI, Value.oneCell']) rfl rfl rfl rfl B367 (hp.hn.keep E366 (fun h => Nat.ne_of_gt (hp.hnb h))) (by omega) (by decide) (fun ao368 gb369 cp370 w371 A372 u373 gegb369 => ?_)
    have zu373 := u373.size
    have lt_gb369 := A372.lt
    refine s_next ((Upd.refl _ _).next u373 (fun i hi (h : (i = bk317 ∧ bk317 ≤ i)) => show w196.heap.size ≤ i ∨ (i = fb) by first | omega | exact .inr h)) (s_do ?_)
    have D376 := ((haWW322.kE u365).keep u373 (fun hb => show ¬ ((gWW322 = bk317 ∧ bk317 ≤ gWW322)) by first | omega | assumption))
    have D377 := ((hdWW322.kE u365).keep u373 (fun hb => show ¬ ((gdW322 = bk317 ∧ bk317 ≤ gdW322)) by first | omega | assumption))
    have nAn375 : ¬ (gWW322 = gb369 ∧ bk317 ≤ gWW322) := fun q => (D376).neAcc A372 (by decide) (by omega) (by omega) q.1
    have nBn375 : ¬ (gdW322 = gb369 ∧ bk317 ≤ gdW322) := fun q => (D377).neAcc A372 (by decide) (by omega) (by omega) q.1
    have h000 := hpos
    have B378 := (B364.keep u373 (by omega))
    refine t_append (z := .int .i64 0) (bytes := 8) (k := 1) (base := bk317) (i9 : Int) underlying60 (by kernel_rfl) rfl (by decide) (fun _ => rfl) (by intro x; simp [encI, Value.oneCell']) rfl rfl rfl rfl A372 B378 (by omega) (by omega) (by decide) (fun ao379 gb380 cp381 w382 A383 u384 gegb380 lngb380 => ?_)
    have zu384 := u384.size
    have lt_gb380 := A383.lt
    refine s_next ((Upd.refl _ _).next u384 (fun i hi (h : (i = gb369 ∧ bk317 ≤ i)) => show w196.heap.size ≤ i ∨ (i = fb) by first | omega | exact .inr h)) (s_do ?_)
    have B386 := ((((((((((B165.kx u169).kx u176).kx u183).kx u192).kx u197).kx u320).kx u325).kx u365).keep u373 (by omega)).keep u384 (by omega))
    have D387 := (D376.keep u384 (fun hb => show ¬ ((gWW322 = gb369 ∧ bk317 ≤ gWW322)) by first | omega | assumption))
    have D388 := (D377.keep u384 (fun hb => show ¬ ((gdW322 = gb369 ∧ bk317 ≤ gdW322)) by first | omega | assumption))
    have hT2 := hp.more ((E366.next u373 (fun i hi h => by omega)).next u384 (fun i hi h => by omega)) B386 hk9 hnl9 hil D387 (by omega) D388 (by omega) A383 (by omega) hplo
    refine t_call own62 rfl rfl rfl rfl (TryQ.two (ih (n - 1) (by omega)) hT2 (rows.map HL.xs) R2 rfl hR2.symm) (fun v390 w391 r393 => ?_)
    rcases r393 with ⟨rfl, hnk389, hBk389, u392⟩ | ⟨qk389, aok389, gk389, ck389, rwk389, rfl, hnk389, hBk389, ⟨hSk389, hgk389, hlk389, hxk389⟩, u392⟩
    ·
     have zu392 := u392.size
     refine s_next ((Upd.refl _ _).next u392 (fun i hi (h : i = fb) => show w196.heap.size ≤ i ∨ (i = fb) by first | omega | exact .inr h)) (s_nil (hK166 _ _ (c_region (t_move rfl rfl rfl (t_ari rfl rfl rfl rfl rfl (by omega) (t_assign rfl rfl rfl (t_nil' ?_)))))))
     exact hK150 (i9 + 1, false, none, 0, 0, (R2).2) _ _ (by show hs.length - (i9 + 1) < hs.length - i9; omega) ⟨rfl, rfl, rfl, rfl, rfl, rfl, rfl, rfl, rfl, rfl, trivial⟩ ⟨((((((((((((u152.nx u161).nx u169).nx u176).nx u183).nx u192).nx u197).nx u320).nx u325).nx u365).next u373 (fun i hi h => by omega)).next u384 (fun i hi h => by omega)).next u392 (fun i hi h => by omega)), hBk389, (by omega), (.inl ⟨rfl, rfl, rfl, rfl, hku2, hTn hnk389⟩)⟩
    have zu392 := u392.size
    refine s_next ((Upd.refl _ _).next u392 (fun i hi (h : i = fb) => show w196.heap.size ≤ i ∨ (i = fb) by first | omega | exact .inr h)) (s_nil (hK166 _ _ (c_region (t_move rfl rfl rfl (t_ari rfl rfl rfl rfl rfl (by omega) (t_assign rfl rfl rfl (t_nil' ?_)))))))
    have hRe := hTs _ hnk389
    have hBe := hBk389
    exact hK150 (i9 + 1, true, aok389, rwk389.length, ck389, (R2).2) _ _ (by show hs.length - (i9 + 1) < hs.length - i9; omega) ⟨rfl, rfl, rfl, rfl, rfl, rfl, rfl, rfl, rfl, rfl, trivial⟩ ⟨((((((((((((u152.nx u161).nx u169).nx u176).nx u183).nx u192).nx u197).nx u320).nx u325).nx u365).next u373 (fun i hi h => by omega)).next u384 (fun i hi h => by omega)).next u392 (fun i hi h => by omega)), hBk389, (by omega), (.inr ⟨rfl, .inr ⟨_, _, _, _, _, by rw [hRe], by rw [hRe]; exact hBe, hSk389, hgk389, hlk389, hxk389⟩⟩)⟩
   refine s_do (t_bslice (ps := [(0, .int .i64 (i9 : Int))]) (cs := [.int .i64 (i9 : Int)]) (e := 3) rfl rfl ⟨rfl, rfl⟩ (fun w => by kernel_rfl) (fun bk396 w397 ebk396 sbk396 B398 u399 => ?_))
   have zu399 := u399.size
   have E400 := E321.nx u399
   refine s_next ((Upd.refl _ _).nx u399) (s_do (t_call own92 rfl rfl rfl rfl (rWith_c hs al bl ol cl i9 (nth xs rows.length).t _ (hp.hl.keep E400 hp.hb) hp.h6 (by omega) (fun h hh => ((fun h hh => (hp.hm h hh).keep E400 (fun i z => z)) h hh).1) (by omega) (by omega)) (fun v402 w403 r405 => ?_)))
   obtain ⟨⟨aoWW401, gWW401, cWW401, adW401, gdW401, cdW401, rfl, haWW401, hdWW401, hbWW401, hbDW401⟩, u404⟩ := r405
   have zu404 := u404.size
   have E406 := E400.nx u404
   have lt_gWW401 := haWW401.lt
   have lt_gdW401 := hdWW401.lt
   refine s_next ((Upd.refl _ _).nx u404) (s_do ?_)
   have B407 := ((B319.kx u399).kx u404)
   refine t_copy (enc := encI) (z := .int .i64 0) (bytes := 8) (k := 1) (ys := ns) underlying60 (by kernel_rfl) rfl (by decide) (fun _ => rfl) (by intro x; simp [encI, Value.oneCell']) rfl rfl rfl rfl B407 (hp.hn.keep E406 (fun h => Nat.ne_of_gt (hp.hnb h))) (by omega) (by decide) (fun ao408 gb409 cp410 w411 A412 u413 gegb409 => ?_)
   have zu413 := u413.size
   have lt_gb409 := A412.lt
   refine s_next ((Upd.refl _ _).next u413 (fun i hi (h : (i = bk317 ∧ bk317 ≤ i)) => show w196.heap.size ≤ i ∨ (i = fb) by first | omega | exact .inr h)) (s_do ?_)
   have D416 := (haWW401.keep u413 (fun hb => show ¬ ((gWW401 = bk317 ∧ bk317 ≤ gWW401)) by first | omega | assumption))
   have D417 := (hdWW401.keep u413 (fun hb => show ¬ ((gdW401 = bk317 ∧ bk317 ≤ gdW401)) by first | omega | assumption))
   have nAn415 : ¬ (gWW401 = gb409 ∧ bk317 ≤ gWW401) := fun q => (D416).neAcc A412 (by decide) (by omega) (by omega) q.1
   have nBn415 : ¬ (gdW401 = gb409 ∧ bk317 ≤ gdW401) := fun q => (D417).neAcc A412 (by decide) (by omega) (by omega) q.1
   have h000 := hpos
   have B418 := ((B398.kx u404).keep u413 (by omega))
   refine t_append (z := .int .i64 0) (bytes := 8) (k := 1) (base := bk317) (i9 : Int) underlying60 (by kernel_rfl) rfl (by decide) (fun _ => rfl) (by intro x; simp [encI, Value.oneCell']) rfl rfl rfl rfl A412 B418 (by omega) (by omega) (by decide) (fun ao419 gb420 cp421 w422 A423 u424 gegb420 lngb420 => ?_)
   have zu424 := u424.size
   have lt_gb420 := A423.lt
   refine s_next ((Upd.refl _ _).next u424 (fun i hi (h : (i = gb409 ∧ bk317 ≤ i)) => show w196.heap.size ≤ i ∨ (i = fb) by first | omega | exact .inr h)) (s_do ?_)
   have B426 := ((((((((((B165.kx u169).kx u176).kx u183).kx u192).kx u197).kx u320).kx u399).kx u404).keep u413 (by omega)).keep u424 (by omega))
   have D427 := (D416.keep u424 (fun hb => show ¬ ((gWW401 = gb409 ∧ bk317 ≤ gWW401)) by first | omega | assumption))
   have D428 := (D417.keep u424 (fun hb => show ¬ ((gdW401 = gb409 ∧ bk317 ≤ gdW401)) by first | omega | assumption))
   have hT2 := hp.more ((E406.next u413 (fun i hi h => by omega)).next u424 (fun i hi h => by omega)) B426 hk9 hnl9 hil D427 (by omega) D428 (by omega) A423 (by omega) hplo
   refine t_call own62 rfl rfl rfl rfl (TryQ.two (ih (n - 1) (by omega)) hT2 (rows.map HL.xs) R2 rfl hR2.symm) (fun v430 w431 r433 => ?_)
   rcases r433 with ⟨rfl, hnk429, hBk429, u432⟩ | ⟨qk429, aok429, gk429, ck429, rwk429, rfl, hnk429, hBk429, ⟨hSk429, hgk429, hlk429, hxk429⟩, u432⟩
   ·
    have zu432 := u432.size
    refine s_next ((Upd.refl _ _).next u432 (fun i hi (h : i = fb) => show w196.heap.size ≤ i ∨ (i = fb) by first | omega | exact .inr h)) (s_nil (hK166 _ _ (c_region (t_move rfl rfl rfl (t_ari rfl rfl rfl rfl rfl (by omega) (t_assign rfl rfl rfl (t_nil' ?_)))))))
    exact hK150 (i9 + 1, false, none, 0, 0, (R2).2) _ _ (by show hs.length - (i9 + 1) < hs.length - i9; omega) ⟨rfl, rfl, rfl, rfl, rfl, rfl, rfl, rfl, rfl, rfl, trivial⟩ ⟨((((((((((((u152.nx u161).nx u169).nx u176).nx u183).nx u192).nx u197).nx u320).nx u399).nx u404).next u413 (fun i hi h => by omega)).next u424 (fun i hi h => by omega)).next u432 (fun i hi h => by omega)), hBk429, (by omega), (.inl ⟨rfl, rfl, rfl, rfl, hku2, hTn hnk429⟩)⟩
   have zu432 := u432.size
   refine s_next ((Upd.refl _ _).next u432 (fun i hi (h : i = fb) => show w196.heap.size ≤ i ∨ (i = fb) by first | omega | exact .inr h)) (s_nil (hK166 _ _ (c_region (t_move rfl rfl rfl (t_ari rfl rfl rfl rfl rfl (by omega) (t_assign rfl rfl rfl (t_nil' ?_)))))))
   have hRe := hTs _ hnk429
   have hBe := hBk429
   exact hK150 (i9 + 1, true, aok429, rwk429.length, ck429, (R2).2) _ _ (by show hs.length - (i9 + 1) < hs.length - i9; omega) ⟨rfl, rfl, rfl, rfl, rfl, rfl, rfl, rfl, rfl, rfl, trivial⟩ ⟨((((((((((((u152.nx u161).nx u169).nx u176).nx u183).nx u192).nx u197).nx u320).nx u399).nx u404).next u413 (fun i hi h => by omega)).next u424 (fun i hi h => by omega)).next u432 (fun i hi h => by omega)), hBk429, (by omega), (.inr ⟨rfl, .inr ⟨_, _, _, _, _, by rw [hRe], by rw [hRe]; exact hBe, hSk429, hgk429, hlk429, hxk429⟩⟩)⟩
  refine s_do (t_bslice (ps := [(0, .int .i64 (i9 : Int))]) (cs := [.int .i64 (i9 : Int)]) (e := 3) rfl rfl ⟨rfl, rfl⟩ (fun w => by kernel_rfl) (fun bk436 w437 ebk436 sbk436 B438 u439 => ?_))
  have zu439 := u439.size
  have E440 := E198.nx u439
  refine s_next ((Upd.refl _ _).nx u439) (s_or ?_ ?_)
  ·
   refine s_do (t_call own92 rfl rfl rfl rfl (rWith_c hs al bl ol cl i9 (nth xs rows.length).t _ (hp.hl.keep E440 hp.hb) hp.h6 (by omega) (fun h hh => ((fun h hh => (hp.hm h hh).keep E440 (fun i z => z)) h hh).1) (by omega) (by omega)) (fun v442 w443 r445 => ?_))
   obtain ⟨⟨aoWW441, gWW441, cWW441, adW441, gdW441, cdW441, rfl, haWW441, hdWW441, hbWW441, hbDW441⟩, u444⟩ := r445
   have zu444 := u444.size
   have lt_gWW441 := haWW441.lt
   have lt_gdW441 := hdWW441.lt
   refine s_next ((Upd.refl _ _).nx u444) (s_do (t_bslice (ps := []) (cs := []) (e := 3) rfl rfl ⟨rfl, rfl⟩ (fun w => by kernel_rfl) (fun bk447 w448 ebk447 sbk447 B449 u450 => ?_)))
   have zu450 := u450.size
   have E451 := (E440.nx u444).nx u450
   refine s_next ((Upd.refl _ _).nx u450) (s_do (t_copy (enc := encI) (z := .int .i64 0) (bytes := 8) (k := 1) (ys := ns) underlying60 (by kernel_rfl) rfl (by decide) (fun _ => rfl) (by intro x; simp [encI, Value.oneCell']) rfl rfl rfl rfl B449 (hp.hn.keep E451 (fun h => Nat.ne_of_gt (hp.hnb h))) (by omega) (by decide) (fun ao452 gb453 cp454 w455 A456 u457 gegb453 => ?_)))
   have zu457 := u457.size
   have lt_gb453 := A456.lt
   refine s_next ((Upd.refl _ _).next u457 (fun i hi (h : (i = bk447 ∧ bk447 ≤ i)) => show w196.heap.size ≤ i ∨ (i = fb) by first | omega | exact .inr h)) (s_do ?_)
   have D460 := ((haWW441.kE u450).keep u457 (fun hb => show ¬ ((gWW441 = bk447 ∧ bk447 ≤ gWW441)) by first | omega | assumption))
   have D461 := ((hdWW441.kE u450).keep u457 (fun hb => show ¬ ((gdW441 = bk447 ∧ bk447 ≤ gdW441)) by first | omega | assumption))
   have nAn459 : ¬ (gWW441 = gb453 ∧ bk447 ≤ gWW441) := fun q => (D460).neAcc A456 (by decide) (by omega) (by omega) q.1
   have nBn459 : ¬ (gdW441 = gb453 ∧ bk447 ≤ gdW441) := fun q => (D461).neAcc A456 (by decide) (by omega) (by omega) q.1
   have h000 := hpos
   have B462 := (((B438.kx u444).kx u450).keep u457 (by omega))
   refine t_append (z := .int .i64 0) (bytes := 8) (k := 1) (base := bk447) (i9 : Int) underlying60 (by kernel_rfl) rfl (by decide) (fun _ => rfl) (by intro x; simp [encI, Value.oneCell']) rfl rfl rfl rfl A456 B462 (by omega) (by omega) (by decide) (fun ao463 gb464 cp465 w466 A467 u468 gegb464 lngb464 => ?_)
   have zu468 := u468.size
   have lt_gb464 := A467.lt
   refine s_next ((Upd.refl _ _).next u468 (fun i hi (h : (i = gb453 ∧ bk447 ≤ i)) => show w196.heap.size ≤ i ∨ (i = fb) by first | omega | exact .inr h)) (s_do ?_)
   have B470 := ((((((((((B165.kx u169).kx u176).kx u183).kx u192).kx u197).kx u439).kx u444).kx u450).keep u457 (by omega)).keep u468 (by omega))
   have D471 := (D460.keep u468 (fun hb => show ¬ ((gWW441 = gb453 ∧ bk447 ≤ gWW441)) by first | omega | assumption))
   have D472 := (D461.keep u468 (fun hb => show ¬ ((gdW441 = gb453 ∧ bk447 ≤ gdW441)) by first | omega | assumption))
   have hT2 := hp.more ((E451.next u457 (fun i hi h => by omega)).next u468 (fun i hi h => by omega)) B470 hk9 hnl9 hil D471 (by omega) D472 (by omega) A467 (by omega) hplo
   refine t_call own62 rfl rfl rfl rfl (TryQ.two (ih (n - 1) (by omega)) hT2 (rows.map HL.xs) R2 rfl hR2.symm) (fun v474 w475 r477 => ?_)
   rcases r477 with ⟨rfl, hnk473, hBk473, u476⟩ | ⟨qk473, aok473, gk473, ck473, rwk473, rfl, hnk473, hBk473, ⟨hSk473, hgk473, hlk473, hxk473⟩, u476⟩
   ·
    have zu476 := u476.size
    refine s_next ((Upd.refl _ _).next u476 (fun i hi (h : i = fb) => show w196.heap.size ≤ i ∨ (i = fb) by first | omega | exact .inr h)) (s_nil (hK166 _ _ (c_region (t_move rfl rfl rfl (t_ari rfl rfl rfl rfl rfl (by omega) (t_assign rfl rfl rfl (t_nil' ?_)))))))
    exact hK150 (i9 + 1, false, none, 0, 0, (R2).2) _ _ (by show hs.length - (i9 + 1) < hs.length - i9; omega) ⟨rfl, rfl, rfl, rfl, rfl, rfl, rfl, rfl, rfl, rfl, trivial⟩ ⟨((((((((((((u152.nx u161).nx u169).nx u176).nx u183).nx u192).nx u197).nx u439).nx u444).nx u450).next u457 (fun i hi h => by omega)).next u468 (fun i hi h => by omega)).next u476 (fun i hi h => by omega)), hBk473, (by omega), (.inl ⟨rfl, rfl, rfl, rfl, hku2, hTn hnk473⟩)⟩
   have zu476 := u476.size
   refine s_next ((Upd.refl _ _).next u476 (fun i hi (h : i = fb) => show w196.heap.size ≤ i ∨ (i = fb) by first | omega | exact .inr h)) (s_nil (hK166 _ _ (c_region (t_move rfl rfl rfl (t_ari rfl rfl rfl rfl rfl (by omega) (t_assign rfl rfl rfl (t_nil' ?_)))))))
   have hRe := hTs _ hnk473
   have hBe := hBk473
   exact hK150 (i9 + 1, true, aok473, rwk473.length, ck473, (R2).2) _ _ (by show hs.length - (i9 + 1) < hs.length - i9; omega) ⟨rfl, rfl, rfl, rfl, rfl, rfl, rfl, rfl, rfl, rfl, trivial⟩ ⟨((((((((((((u152.nx u161).nx u169).nx u176).nx u183).nx u192).nx u197).nx u439).nx u444).nx u450).next u457 (fun i hi h => by omega)).next u468 (fun i hi h => by omega)).next u476 (fun i hi h => by omega)), hBk473, (by omega), (.inr ⟨rfl, .inr ⟨_, _, _, _, _, by rw [hRe], by rw [hRe]; exact hBe, hSk473, hgk473, hlk473, hxk473⟩⟩)⟩
  refine s_do (t_bslice (ps := []) (cs := []) (e := 3) rfl rfl ⟨rfl, rfl⟩ (fun w => by kernel_rfl) (fun bk480 w481 ebk480 sbk480 B482 u483 => ?_))
  have zu483 := u483.size
  have E484 := E440.nx u483
  refine s_next ((Upd.refl _ _).nx u483) (s_do (t_call own92 rfl rfl rfl rfl (rWith_c hs al bl ol cl i9 (nth xs rows.length).t _ (hp.hl.keep E484 hp.hb) hp.h6 (by omega) (fun h hh => ((fun h hh => (hp.hm h hh).keep E484 (fun i z => z)) h hh).1) (by omega) (by omega)) (fun v486 w487 r489 => ?_)))
  obtain ⟨⟨aoWW485, gWW485, cWW485, adW485, gdW485, cdW485, rfl, haWW485, hdWW485, hbWW485, hbDW485⟩, u488⟩ := r489
  have zu488 := u488.size
  have E490 := E484.nx u488
  have lt_gWW485 := haWW485.lt
  have lt_gdW485 := hdWW485.lt
  refine s_next ((Upd.refl _ _).nx u488) (s_do ?_)
  have B491 := (B482.kx u488)
  refine t_copy (enc := encI) (z := .int .i64 0) (bytes := 8) (k := 1) (ys := ns) underlying60 (by kernel_rfl) rfl (by decide) (fun _ => rfl) (by intro x; simp [encI, Value.oneCell']) rfl rfl rfl rfl B491 (hp.hn.keep E490 (fun h => Nat.ne_of_gt (hp.hnb h))) (by omega) (by decide) (fun ao492 gb493 cp494 w495 A496 u497 gegb493 => ?_)
  have zu497 := u497.size
  have lt_gb493 := A496.lt
  refine s_next ((Upd.refl _ _).next u497 (fun i hi (h : (i = bk480 ∧ bk480 ≤ i)) => show w196.heap.size ≤ i ∨ (i = fb) by first | omega | exact .inr h)) (s_do ?_)
  have D500 := (haWW485.keep u497 (fun hb => show ¬ ((gWW485 = bk480 ∧ bk480 ≤ gWW485)) by first | omega | assumption))
  have D501 := (hdWW485.keep u497 (fun hb => show ¬ ((gdW485 = bk480 ∧ bk480 ≤ gdW485)) by first | omega | assumption))
  have nAn499 : ¬ (gWW485 = gb493 ∧ bk480 ≤ gWW485) := fun q => (D500).neAcc A496 (by decide) (by omega) (by omega) q.1
  have nBn499 : ¬ (gdW485 = gb493 ∧ bk480 ≤ gdW485) := fun q => (D501).neAcc A496 (by decide) (by omega) (by omega) q.1
  have h000 := hpos
  have B502 := (((B438.kx u483).kx u488).keep u497 (by omega))
  refine t_append (z := .int .i64 0) (bytes := 8) (k := 1) (base := bk480) (i9 : Int) underlying60 (by kernel_rfl) rfl (by decide) (fun _ => rfl) (by intro x; simp [encI, Value.oneCell']) rfl rfl rfl rfl A496 B502 (by omega) (by omega) (by decide) (fun ao503 gb504 cp505 w506 A507 u508 gegb504 lngb504 => ?_)
  have zu508 := u508.size
  have lt_gb504 := A507.lt
  refine s_next ((Upd.refl _ _).next u508 (fun i hi (h : (i = gb493 ∧ bk480 ≤ i)) => show w196.heap.size ≤ i ∨ (i = fb) by first | omega | exact .inr h)) (s_do ?_)
  have B510 := ((((((((((B165.kx u169).kx u176).kx u183).kx u192).kx u197).kx u439).kx u483).kx u488).keep u497 (by omega)).keep u508 (by omega))
  have D511 := (D500.keep u508 (fun hb => show ¬ ((gWW485 = gb493 ∧ bk480 ≤ gWW485)) by first | omega | assumption))
  have D512 := (D501.keep u508 (fun hb => show ¬ ((gdW485 = gb493 ∧ bk480 ≤ gdW485)) by first | omega | assumption))
  have hT2 := hp.more ((E490.next u497 (fun i hi h => by omega)).next u508 (fun i hi h => by omega)) B510 hk9 hnl9 hil D511 (by omega) D512 (by omega) A507 (by omega) hplo
  refine t_call own62 rfl rfl rfl rfl (TryQ.two (ih (n - 1) (by omega)) hT2 (rows.map HL.xs) R2 rfl hR2.symm) (fun v514 w515 r517 => ?_)
  rcases r517 with ⟨rfl, hnk513, hBk513, u516⟩ | ⟨qk513, aok513, gk513, ck513, rwk513, rfl, hnk513, hBk513, ⟨hSk513, hgk513, hlk513, hxk513⟩, u516⟩
  ·
   have zu516 := u516.size
   refine s_next ((Upd.refl _ _).next u516 (fun i hi (h : i = fb) => show w196.heap.size ≤ i ∨ (i = fb) by first | omega | exact .inr h)) (s_nil (hK166 _ _ (c_region (t_move rfl rfl rfl (t_ari rfl rfl rfl rfl rfl (by omega) (t_assign rfl rfl rfl (t_nil' ?_)))))))
   exact hK150 (i9 + 1, false, none, 0, 0, (R2).2) _ _ (by show hs.length - (i9 + 1) < hs.length - i9; omega) ⟨rfl, rfl, rfl, rfl, rfl, rfl, rfl, rfl, rfl, rfl, trivial⟩ ⟨((((((((((((u152.nx u161).nx u169).nx u176).nx u183).nx u192).nx u197).nx u439).nx u483).nx u488).next u497 (fun i hi h => by omega)).next u508 (fun i hi h => by omega)).next u516 (fun i hi h => by omega)), hBk513, (by omega), (.inl ⟨rfl, rfl, rfl, rfl, hku2, hTn hnk513⟩)⟩
  have zu516 := u516.size
  refine s_next ((Upd.refl _ _).next u516 (fun i hi (h : i = fb) => show w196.heap.size ≤ i ∨ (i = fb) by first | omega | exact .inr h)) (s_nil (hK166 _ _ (c_region (t_move rfl rfl rfl (t_ari rfl rfl rfl rfl rfl (by omega) (t_assign rfl rfl rfl (t_nil' ?_)))))))
  have hRe := hTs _ hnk513
  have hBe := hBk513
  exact hK150 (i9 + 1, true, aok513, rwk513.length, ck513, (R2).2) _ _ (by show hs.length - (i9 + 1) < hs.length - i9; omega) ⟨rfl, rfl, rfl, rfl, rfl, rfl, rfl, rfl, rfl, rfl, trivial⟩ ⟨((((((((((((u152.nx u161).nx u169).nx u176).nx u183).nx u192).nx u197).nx u439).nx u483).nx u488).next u497 (fun i hi h => by omega)).next u508 (fun i hi h => by omega)).next u516 (fun i hi h => by omega)), hBk513, (by omega), (.inr ⟨rfl, .inr ⟨_, _, _, _, _, by rw [hRe], by rw [hRe]; exact hBe, hSk513, hgk513, hlk513, hxk513⟩⟩)⟩
 refine c_exit (f_ret0 results62 ?_)
 have B520 := (I153.kx u161)
 refine ⟨rfl, ?_, E163⟩
 rcases hst with ⟨hbf, hao, hln, hcp, hku, hR⟩ | ⟨_, hF⟩
 · have hi8 : hs.length ≤ i9 := Nat.le_of_not_lt fun h => by rw [hq.2 ⟨h, hbf⟩] at g91; cases g91
   rw [tm_end hnl9 (by omega)] at hR
   refine .inl ⟨by rw [hR], ?_⟩
   have hB9 := B520
   rw [hbf, hao, hln, hcp] at hB9
   rw [hR]; exact hB9
 · exact hF.ext ((Upd.refl (fun _ => False) _).nx u161)


theorem rTry_c (n : Nat) : TryQ n := by
  induction n using Nat.strongRecOn with
  | _ n ih => exact fun r fb hs al bl ol cl ss xs ax bx ox cx os ab bb ob cb rows ar br cr ns an bn on cn i0 pl up w hp => rTry_s r fb hs al bl ol cl ss xs ax bx ox cx os ab bb ob cb rows ar br cr ns an bn on cn i0 pl up n w hp ih

end Go.Proofs.YtagmodjadmecdaaGreat
