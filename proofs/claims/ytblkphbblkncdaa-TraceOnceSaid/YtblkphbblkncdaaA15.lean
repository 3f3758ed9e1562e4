/-
  Where and Control. Conditions: none.
-/
import Derived.Test.YtblkphbblkncdaaA14
namespace Go.Proofs.Ytblkphbblkncdaa
open Go Go.RowKit

def AsC (bS : Nat) (wR : World) (pre : List Int) (W : World) : Prop := Upd (fun i => i = bS ∨ i = wR.heap.size + 1) wR W ∧ ∃ ao g cp, Blk W bS 45 [.slice ao (List.length pre) cp] ∧ Acc encI 1 3 wR.heap.size W ao g cp pre
theorem AsC.ext {bS : Nat} {wR : World} (pre : List Int) (W W' : World) (h : AsC bS wR pre W) (u : Ext W W') : AsC bS wR pre W' := by
  obtain ⟨h0, ao, g, cp, h1, h2⟩ := h
  exact ⟨h0.next u (fun _ _ h => h.elim), ao, g, cp, h1.keep u id, h2.keep u (fun _ h => h)⟩
theorem AsC.turned {bS : Nat} {wR : World} : Turned (wR.heap.size + 1) (AsC bS wR) := fun pre W W' h hl u => by
  obtain ⟨h0, ao, g, cp, h1, h2⟩ := h
  exact ⟨h0.trans (u.mono fun i e => .inr e), ao, g, cp, h1.keep u (h1.notLoop hl), h2.keep u (fun hb => h2.notLoop hl hb)⟩
theorem AsC.iter {bS : Nat} {wR : World} (pre : List Int) (W W' : World) (it : Nat) (h : AsC bS wR pre W) (hit : wR.heap.size + 1 < it) (hi : ∃ a b c d, W.heap[it]? = some (Obj.mapIter a b c d)) (u : Upd (· = it) W W') : AsC bS wR pre W' := by
  obtain ⟨h0, ao, g, cp, h1, h2⟩ := h
  obtain ⟨a, b, c, d, hi⟩ := hi
  have ne : ∀ k cc t f, W.heap[k]? = some (.cells cc t f) → k ≠ it := fun k cc t f hc e => by subst e; rw [hi] at hc; cases hc
  exact ⟨h0.next u (fun i hi e => by omega), ao, g, cp, h1.keep u (ne _ _ _ _ h1), h2.keep u (fun hb e => by obtain ⟨_, hc⟩ := h2.own hb; exact ne _ _ _ _ hc e)⟩
structure Shr where
  wh : Int
  num : Int
  tons : Int
instance : Inhabited Shr := ⟨⟨default, default, default⟩⟩
def encShr (x : Shr) : List Value := [.int .i64 x.wh, .int .i64 x.num, .int .i64 x.tons]
structure Cnt where
  loaded : Int
  aboard : Int
  landed : Int
  astray : Int
instance : Inhabited Cnt := ⟨⟨default, default, default, default⟩⟩
def encCnt (x : Cnt) : List Value := [.int .i64 x.loaded, .int .i64 x.aboard, .int .i64 x.landed, .int .i64 x.astray]
def one (wh num n : Int) : List Shr := if 0 < n then [⟨wh, num, n⟩] else []
/-- Tons of a bill that were landed in some ports. -/
def inS (b : Int) (P : Int → Bool) : List Lnd → Int
  | [] => 0
  | x :: l => (if P x.port = true then ofT x.parts b else 0) + inS b P l
theorem inL_eq (b : Int) (P : Int → Bool) (l : List LG) : inL b P l = inS b P (l.map fun l => ⟨l.ev, l.port, l.xs.map HLay.v⟩) := by
  induction l with
  | nil => rfl
  | cons x l ih => simp only [inL, List.map_cons, inS, ih]
/-- Where the tons of a bill are. -/
def whP (bs : List Bil) (S : Stt) (b : Int) : List Shr :=
  one 0 0 ((nth bs b.toNat).tons - nth S.loaded b.toNat) ++ ((List.range S.hold.length).flatMap fun (i : Nat) => one 1 (i : Int) (ofT (nth S.hold i) b)) ++ ((List.range 100).flatMap fun (p : Nat) => one 2 (p : Int) (inS b (fun q => decide (q = (p : Int))) S.landed))
def sumH (b : Int) : List (List Lay) → Int
  | [] => 0
  | l :: r => ofT l b + sumH b r
theorem sumH_snoc (b : Int) (r : List (List Lay)) (l : List Lay) : sumH b (r ++ [l]) = sumH b r + ofT l b := by
  induction r with
  | nil => simp [sumH]
  | cons a r ih => simp only [List.cons_append, sumH, ih]; omega
/-- How many tons of the i-th bill were loaded, are on board, were landed. -/
def coP (bs : List Bil) (S : Stt) (i : Nat) : Cnt := ⟨nth S.loaded i, sumH (i : Int) S.hold, inS (i : Int) (fun q => decide (q = (nth bs i).to)) S.landed, inS (i : Int) (fun q => !decide (q = (nth bs i).to)) S.landed⟩
theorem asc_unique : ∀ {l1 l2 : List Int}, l1.Pairwise (fun a b => a < b) → l2.Pairwise (fun a b => a < b) → (∀ x, x ∈ l1 ↔ x ∈ l2) → l1 = l2
  | [], [], _, _, _ => rfl
  | [], b :: l2, _, _, h => by have := (h b).2 (by simp); cases this
  | a :: l1, [], _, _, h => by have := (h a).1 (by simp); cases this
  | a :: l1, b :: l2, h1, h2, h => by
    obtain ⟨p1, q1⟩ := List.pairwise_cons.1 h1
    obtain ⟨p2, q2⟩ := List.pairwise_cons.1 h2
    have e : a = b := by
      rcases List.mem_cons.1 ((h a).1 (by simp)) with e | e
      · exact e
      · rcases List.mem_cons.1 ((h b).2 (by simp)) with e2 | e2
        · exact e2.symm
        · have := p2 a e; have := p1 b e2; omega
    subst e
    congr 1
    refine asc_unique q1 q2 (fun x => ⟨fun hx => ?_, fun hx => ?_⟩)
    · rcases List.mem_cons.1 ((h x).1 (by simp [hx])) with e | e
      · have := p1 x hx; omega
      · exact e
    · rcases List.mem_cons.1 ((h x).2 (by simp [hx])) with e | e
      · have := p2 x hx; omega
      · exact e
theorem strict {l : List Int} (h : l.Pairwise (fun a b => a ≤ b)) (hn : l.Nodup) : l.Pairwise (fun a b => a < b) := by
  have := h.and hn
  exact this.imp (fun ⟨h1, h2⟩ => by omega)
/-- Some numbers below 100, ascending, are those of the first hundred that are among them. -/
theorem flat_range {α : Type} {ks : List Int} {f : Int → List α} (hs : ks.Pairwise (fun a b => a < b)) (hr : ∀ k ∈ ks, 0 ≤ k ∧ k < 100) (hf : ∀ k, k ∉ ks → f k = []) : ks.flatMap f = (List.range 100).flatMap fun (p : Nat) => f (p : Int) := by
  have e : ks = ((List.range 100).map fun (p : Nat) => (p : Int)).filter fun k => decide (k ∈ ks) := by
    refine asc_unique hs (List.Pairwise.filter _ (List.pairwise_map.2 (List.pairwise_lt_range.imp (fun h => by omega)))) (fun x => ⟨fun hx => ?_, fun hx => ?_⟩)
    · have := hr x hx
      exact List.mem_filter.2 ⟨List.mem_map.2 ⟨x.toNat, List.mem_range.2 (by omega), by omega⟩, by simpa using hx⟩
    · simpa using (List.mem_filter.1 hx).2
  have h2 : ∀ (l : List Int), (l.filter fun k => decide (k ∈ ks)).flatMap f = l.flatMap f := fun l => by
    induction l with
    | nil => rfl
    | cons a l ih =>
      rw [List.filter_cons]
      by_cases h : a ∈ ks
      · simp only [h, decide_true, if_true, List.flatMap_cons, ih]
      · simp only [h, decide_false, Bool.false_eq_true, if_false, List.flatMap_cons, ih, hf a h, List.nil_append]
  calc ks.flatMap f = (((List.range 100).map fun (p : Nat) => (p : Int)).filter fun k => decide (k ∈ ks)).flatMap f := by rw [← e]
    _ = _ := by rw [h2, List.flatMap_map]
def WherePost (bs : List Bil) (hs : List Hld) (us : List Ev) (b : Int) (v : Value) (w' : World) : Prop :=
  (∃ at_ e : Int, v = .tuple #[.slice none 0 0, .int .i64 at_, .int .i64 e] ∧ e ≠ 0 ∧ (sailP bs hs us).2 = (at_, e)) ∨
  ((sailP bs hs us).2 = (0, 0) ∧ ¬ (0 ≤ b ∧ b ≤ (bs.length : Int) - 1) ∧ v = .tuple #[.slice none 0 0, .int .i64 0, .int .i64 7]) ∨
  ((sailP bs hs us).2 = (0, 0) ∧ (0 ≤ b ∧ b ≤ (bs.length : Int) - 1) ∧ ∃ ao g cp r, v = .tuple #[.slice ao (List.length r) cp, .int .i64 0, .int .i64 0] ∧ r = whP bs (sailP bs hs us).1 b ∧ Sl encShr 3 w' ao g 0 r)
def ControlPost (bs : List Bil) (hs : List Hld) (us : List Ev) (v : Value) (w' : World) : Prop :=
  (∃ at_ e : Int, v = .tuple #[.slice none 0 0, .int .i64 at_, .int .i64 e] ∧ e ≠ 0 ∧ (sailP bs hs us).2 = (at_, e)) ∨
  ((sailP bs hs us).2 = (0, 0) ∧ ∃ ao g cp r, v = .tuple #[.slice ao (List.length r) cp, .int .i64 0, .int .i64 0] ∧ r = (List.range bs.length).map (coP bs (sailP bs hs us).1) ∧ Sl encCnt 4 w' ao g 0 r)
theorem sumIf_rng {P : Int → Bool} {B : Int} (hB : 0 ≤ B) : ∀ {m : List (Int × Int)}, (∀ q ∈ m, 0 ≤ q.2 ∧ q.2 ≤ B) → 0 ≤ sumIf P m ∧ sumIf P m ≤ B * m.length
  | [], _ => by simp [sumIf]
  | q :: m, h => by
    have h1 := sumIf_rng (P := P) hB (m := m) (fun r hr => h r (by simp [hr]))
    have h2 := h q (by simp)
    have e : B * ((q :: m).length : Int) = B * (m.length : Int) + B := by rw [List.length_cons, Int.natCast_succ, Int.mul_add, Int.mul_one]
    rw [e]; simp only [sumIf]
    split <;> omega
theorem sumH_take {hl : List HG} {k : Nat} {b : Int} (h : k < hl.length) : sumH b ((hl.take (k + 1)).map fun h => h.xs.map HLay.v) = sumH b ((hl.take k).map fun h => h.xs.map HLay.v) + ofT ((nth hl k).xs.map HLay.v) b := by rw [take_nth h, List.map_append]; exact sumH_snoc _ _ _
theorem mid_sum {P : Int → Bool} {l1 l2 : List (Int × Int)} {p : Int × Int} : sumIf P (l1 ++ p :: l2) = sumIf P (l1 ++ l2) + if P p.1 = true then p.2 else 0 := by
  rw [sumIf_app, sumIf_app]; simp only [sumIf]; omega
/-- A voyage's blocks are neither an old box nor new ones. -/
theorem Voy.offBox {base pv : Nat} {w : World} {V : VG} (h : Voy base pv w V) {b : Nat} {t : TypeId} {cs : List Value} (hb : Blk w b t cs) (hlt : b < base) (hbb : 0 < V.bs.length → V.bb ≠ b) : VOff base pv (fun i => i = b ∨ w.heap.size ≤ i) V := by
  have o := h.off
  have ge : ∀ {k : Nat}, base ≤ k → ¬ w.heap.size ≤ k → ¬ (k = b ∨ w.heap.size ≤ k) := fun h1 h2 e => by omega
  exact ⟨ge h.pge o.pv, fun hq e => e.elim (hbb hq) (o.bb hq), fun hg => ge hg (o.pg hg), fun x hx => ⟨ge (h.hold x hx).pge (o.hp x hx).1, fun hg => ge hg ((o.hp x hx).2.1 hg), fun y hy hg => ge hg ((o.hp x hx).2.2 y hy hg)⟩, ge h.lge o.lb, ge h.rge o.r, fun hg => ge hg (o.dg hg), fun x hx => ⟨fun hg => ge hg ((o.ld x hx).1 hg), fun y hy hg => ge hg ((o.ld x hx).2 y hy hg)⟩⟩
theorem nth_setL {α : Type} [Inhabited α] {xs : List α} {i : Nat} (h : i < xs.length) : nth (xs.map id) i = nth xs i := by simp
theorem own21 : Own Try.prog 21 := ⟨Try.f21, Try.func21, by kernel_rfl, by kernel_rfl⟩
theorem own52 : Own Try.prog 52 := ⟨Try.f52, Try.func52, by kernel_rfl, by kernel_rfl⟩
theorem own22 : Own Try.prog 22 := ⟨Try.f22, Try.func22, by kernel_rfl, by kernel_rfl⟩

theorem Acc.lower {α : Type} {enc : α → List Value} {k : Nat} {e : TypeId} {base base' : Nat} {w : World} {ao : Option Addr} {g cap : Nat} {xs : List α} (h : Acc enc k e base w ao g cap xs) (hb : base' ≤ base) (h0 : 0 < base') : ∃ g', Acc enc k e base' w ao g' cap xs := by
  rcases h.at_ with ⟨h1, h2, h3, h4⟩ | ⟨h1, h2, h3⟩
  · exact ⟨0, Nat.lt_of_le_of_lt (Nat.zero_le _) h.lt, .inl ⟨h1, h2, h3, h0⟩⟩
  · exact ⟨g, h.lt, .inr ⟨h1, by omega, h3⟩⟩

set_option maxHeartbeats 1000000 in
theorem AppendSeq_c (m : List (Int × Int)) (r bx : Nat) (w0 : World) (hM : MapI m w0 r) (hb : Blk w0 bx 135 [.map (some r)]) (hpos : 0 < w0.heap.size) (hml : m.length ≤ 100) :
    CallsV Try.prog 90 [.slice none 0 0, .func (.func 80) #[] #[.pointer (some ⟨bx, 0, none⟩)]] w0 (fun v w' => (∃ ao g cp pre, v = .slice ao (List.length pre) cp ∧ pre.Perm (m.map (·.1)) ∧ Acc encI 1 3 w0.heap.size w' ao g cp pre) ∧ Ext w0 w') := by
 refine f_enterM (N := 13) Try.func90 rfl rfl rfl (c_seq fun K1 hK1 => (c_region (t_box (cs := [.slice none 0 0]) rfl rfl rfl rfl (fun bk2 w3 ebk2 sbk2 B4 u5 => ?_))))
 have zu5 := u5.size
 refine t_assign rfl rfl rfl (t_nil' (hK1 _ _ (c_seq fun K7 hK7 => (c_seq fun K8 hK8 => (c_region (t_move rfl rfl rfl (t_nil' (hK8 _ _ (c_block ?_)))))))))
 have B9 := (hb.kx u5)
 have D10 := (hM.keep u5 (fun h => h))
 have l_b2 := B4.lt
 have l_bx := B9.lt
 refine WC.weak [(2, .pointer (some ⟨bk2, 0, none⟩)), (6, .func (.func 80) #[] #[.pointer (some ⟨bx, 0, none⟩)])] ⟨rfl, rfl, trivial⟩ (c_rangeY (γ := KyE) (lb := [.pointer (some ⟨bx, 0, none⟩)]) (enc := (fun x : KyE => .int .i64 x.key)) own80 rfl rfl (YKy m.length w3.heap.size (AsC bk2 w3)) (ZKy (AsC bk2 w3)) (fun W => ∃ pre, pre.Perm (m.map (·.1)) ∧ (AsC bk2 w3) pre W) (YKy.turned AsC.turned) (ZKy.turned AsC.turned) (fun _ W W' h hl u => by obtain ⟨pre, h1, h2⟩ := h; exact ⟨pre, h1, AsC.turned _ _ _ h2 hl u⟩) ?_ (fun x => [(2, .pointer (some ⟨bk2, 0, none⟩)), (5, .int .i64 x.key)]) ?_ ?_ ?_)
 ·
  intro l1 D R W hD hl hsz hE1 hH hR
  subst hD hl
  refine (keys1_c m r bx _ _ (AsC bk2 w3) R W (fun pre W W' h u => AsC.ext pre W W' h u) (fun pre W W' it h h1 h2 u => AsC.iter pre W W' it h h1 h2 u) hH (D10.keep hE1 id) (B9.keep hE1 id) ?_ hR (by omega) rfl).mono fun _ _ h => h
  exact ⟨Ext.to hE1, none, 0, 0, B4.keep hE1 id, Acc.nil _ _ _ _ _ (by omega) hE1.size⟩
 ·
  intro l x W K11 hI hK11
  change WC _ _ _ _ _ _ [(7, .int .i64 x.key), (2, .pointer (some ⟨bk2, 0, none⟩)), (6, .func (.func 80) #[] #[.pointer (some ⟨bx, 0, none⟩)])] _
  refine c_region (t_assign rfl rfl rfl (t_nil' ?_))
  exact hK11 _ ⟨rfl, rfl, trivial⟩
 ·
  intro l x w12 hY
  obtain ⟨hC1, ⟨hpl1, hsz1⟩, hfx1, hux1⟩ := hY
  obtain ⟨u13, ao2, g2, c2, O14, O15⟩ := hC1
  have zu13 := u13.size
  have lt_g2 := O15.lt
  change WC _ _ _ _ _ _ [(2, .pointer (some ⟨bk2, 0, none⟩)), (5, .int .i64 x.key)] _
  have hcellsR := ((O14).cellsIn.or (O15).cellsIn)
  refine c_block (c_region (t_load Try.isAgg45 rfl rfl rfl (O14.get rfl) (t_move rfl rfl rfl (t_bslice (ps := [(0, .int .i64 x.key)]) (cs := [.int .i64 x.key]) (e := 3) rfl rfl ⟨rfl, rfl⟩ (fun w => by kernel_rfl) (fun bk17 w18 ebk17 sbk17 B19 u20 => ?_)))))
  have zu20 := u20.size
  have D22 := (O15.keep u20 (fun _ h => h))
  refine t_append (z := .int .i64 0) (bytes := 8) (k := 1) (base := w3.heap.size) x.key Try.underlying45 (by kernel_rfl) rfl (by decide) (fun _ => rfl) (by intro x; simp [encI, Value.oneCell']) rfl rfl rfl rfl D22 B19 (by omega) (by omega) (by decide) (fun ao23 gb24 cp25 w26 A27 u28 gegb24 lngb24 => ?_)
  have zu28 := u28.size
  have lt_gb24 := A27.lt
  have B30 := ((O14.kx u20).keep u28 (by omega))
  refine t_st (vs := [.slice ao23 (((x.pre ++ [x.key])).length) cp25]) Try.sizeOf45 rfl rfl rfl B30 rfl rfl rfl rfl (fun w31 sw31 B33 u32 => ?_)
  have zu32 := u32.size
  have B33 : Blk w31 bk2 45 [.slice ao23 (((x.pre ++ [x.key])).length) cp25] := B33
  refine t_nil' ?_
  have hUr := ((((Upd.refl (fun i => i = bk2 ∨ (i = g2 ∧ w3.heap.size ≤ i)) w12).next u20 (fun _ _ h => h.elim)).next u28 (fun i hi h => by omega)).next u32 (fun i hi h => by omega))
  have D35 := (A27.keep u32 (fun hb => show ¬ (gb24 = bk2) by first | omega | assumption))
  exact fun a ha => ⟨KeepsFrom.of_upd hUr hcellsR, ⟨(((u13.next u20 (fun _ _ h => h.elim)).next u28 (fun i hi h => by omega)).next u32 (fun i hi h => by omega)), ao23, gb24, cp25, B33, D35⟩, hfx1.trans (FixO.of hUr (fun k hk hs => .inl (hcellsR k hk hs))), hux1.trans (hUr.mono fun _ _ => trivial)⟩
 ·
  have hmk0 := (show Marks w0.heap.size [] w3 from trivial)
  have hmc0 := (show CellsIn (fun i => i = bk2 ∨ i = (w3.heap.size + 1)) w3 from fun k hk e => by
    rcases e with rfl | e
    · exact ⟨_, _, _, B4⟩
    · omega)
  intro D37 w36 hD37 hE hdD37
  obtain ⟨pre, hperm, hE⟩ := hE
  obtain ⟨u38, ao2, g2, c2, O39, O40⟩ := hE
  have zu38 := u38.size
  have lt_g2 := O40.lt
  have hacF := O40
  have mk42 := (hmk0.keep u38 hmc0).push (D := D37) (by omega) hdD37 (fun d hd D' e => Nat.lt_of_lt_of_le (hmk0.lt d hd D' e) hD37)
  refine hK7 _ _ (c_seq fun K43 hK43 => (c_region (t_load Try.isAgg45 rfl rfl rfl (O39.get rfl) (t_assign rfl rfl rfl (t_nil' (hK43 _ _ (c_ret ?_)))))))
  have hmkE := mk42
  refine f_retMc1 (v := .slice ao2 (List.length pre) c2) Try.results90 (.tmp rfl) mk42 (fun w44 u45 omw44 => ?_)
  have zu45 := u45.size
  have hacW := hacF.keep omw44 (fun hb9 hd9 => by obtain ⟨_, hc9⟩ := hacF.own hb9; exact hmkE.notCells hc9 hd9)
  obtain ⟨g9, hac9⟩ := hacW.lower (base' := w0.heap.size) (by omega) hpos
  exact ⟨⟨ao2, g9, c2, pre, rfl, hperm, hac9⟩, ((((Upd.refl (fun _ => False) w0).nx u5).next u38 (fun i hi h => by omega)).next u45 (fun i hi (h : w0.heap.size ≤ i) => show False by first | omega | assumption))⟩

theorem Collect_c (m : List (Int × Int)) (r bx : Nat) (w0 : World) (hM : MapI m w0 r) (hb : Blk w0 bx 135 [.map (some r)]) (hpos : 0 < w0.heap.size) (hml : m.length ≤ 100) :
    CallsV Try.prog 78 [.func (.func 80) #[] #[.pointer (some ⟨bx, 0, none⟩)]] w0 (fun v w' => (∃ ao g cp pre, v = .slice ao (List.length pre) cp ∧ pre.Perm (m.map (·.1)) ∧ Acc encI 1 3 w0.heap.size w' ao g cp pre) ∧ Ext w0 w') := by
 refine f_enter (N := 5) Try.func78 rfl rfl rfl (c_seq fun K1 hK1 => (c_region (t_assign rfl rfl rfl (t_nil' (hK1 _ _ (c_seq fun K2 hK2 => (c_region (t_move rfl rfl rfl (t_call own90 rfl rfl rfl rfl (AppendSeq_c m r bx _ hM hb (by omega) hml) (fun v3 w4 r6 => ?_))))))))))
 obtain ⟨⟨aoK, gK, cK, pre, rfl, hperm, hacK⟩, u5⟩ := r6
 have zu5 := u5.size
 have lt_gK := hacK.lt
 have hplen : pre.length = m.length := by have h := hperm.length_eq; simpa using h
 have lt_gK := hacK.lt
 refine t_assign rfl rfl rfl (t_nil' (hK2 _ _ (c_ret (f_ret1 (v := .slice aoK (List.length pre) cK) Try.results78 rfl ?_))))
 obtain ⟨g9, hac9⟩ := Acc.lower (hacK) (base' := w0.heap.size) (by omega) hpos
 exact ⟨⟨aoK, g9, cK, pre, rfl, hperm, hac9⟩, ((Upd.refl (fun _ => False) w0).nx u5)⟩

theorem Sorted_c (m : List (Int × Int)) (r bx : Nat) (w0 : World) (hM : MapI m w0 r) (hb : Blk w0 bx 135 [.map (some r)]) (hpos : 0 < w0.heap.size) (hml : m.length ≤ 100) :
    CallsV Try.prog 55 [.func (.func 80) #[] #[.pointer (some ⟨bx, 0, none⟩)]] w0 (fun v w' => (∃ ao g cp ks, v = .slice ao (List.length ks) cp ∧ ks.Perm (m.map (·.1)) ∧ ks.Pairwise (fun a b => a ≤ b) ∧ Acc encI 1 3 w0.heap.size w' ao g cp ks) ∧ Ext w0 w') := by
 refine f_enter (N := 9) Try.func55 rfl rfl rfl (c_seq fun K1 hK1 => (c_region (t_assign rfl rfl rfl (t_nil' (hK1 _ _ (c_seq fun K2 hK2 => (c_region (t_move rfl rfl rfl (t_call own78 rfl rfl rfl rfl (Collect_c m r bx _ hM hb (by omega) hml) (fun v3 w4 r6 => ?_))))))))))
 obtain ⟨⟨aoK, gK, cK, pre, rfl, hperm, hacK⟩, u5⟩ := r6
 have zu5 := u5.size
 have lt_gK := hacK.lt
 have hplen : pre.length = m.length := by have h := hperm.length_eq; simpa using h
 have lt_gK := hacK.lt
 refine t_assign rfl rfl rfl (t_nil' (hK2 _ _ (c_seq fun K8 hK8 => (c_region (t_move rfl rfl rfl (t_call own79 rfl rfl rfl rfl (sortI_c (ρ := Ytblkphbblkncdaa.sortI_ren) Ytblkphbblkncdaa.sortI 3 _ aoK gK cK pre _ hacK (by omega)) (fun v9 w10 r12 => ?_)))))))
 obtain ⟨rfl, hacS, u11⟩ := r12
 have zu11 := u11.size
 have lt_gK := hacS.lt
 refine t_nil' (hK8 _ _ (c_seq fun K14 hK14 => (c_region (t_move rfl rfl rfl (t_same 8 (v := .slice aoK (List.length (srtI pre)) cK) rfl (by rw [srtI_len]) (t_assign rfl rfl rfl (t_nil' (hK14 _ _ (c_ret (f_ret1 (v := .slice aoK (List.length (srtI pre)) cK) Try.results55 rfl ?_))))))))))
 obtain ⟨g9, hac9⟩ := Acc.lower (hacS) (base' := w0.heap.size) (by omega) hpos
 exact ⟨⟨aoK, g9, cK, srtI pre, rfl, (srtI_perm pre).trans hperm, srtI_asc pre, hac9⟩, (((Upd.refl (fun _ => False) w0).nx u5).next u11 (fun i hi h => by omega))⟩

theorem put_c (base b6 : Nat) (wh num n : Int) (xs : List Shr) (ao : Option Addr) (g cp : Nat) (w0 : World) (hb : Blk w0 b6 55 [.slice ao (List.length xs) cp]) (ha : Acc encShr 3 71 base w0 ao g cp xs) (hbw : base ≤ w0.heap.size) (hl : xs.length ≤ 1000000) :
    CallsV Try.prog 52 [.int .i64 wh, .int .i64 num, .int .i64 n, .pointer (some ⟨b6, 0, none⟩)] w0 (fun _ w' => ∃ ao' g' cp' ys, ys = xs ++ one wh num n ∧ Blk w' b6 55 [.slice ao' (List.length ys) cp'] ∧ Acc encShr 3 71 base w' ao' g' cp' ys ∧ (g' = g ∨ w0.heap.size ≤ g') ∧ Upd (fun i => i = b6 ∨ (i = g ∧ base ≤ i)) w0 w') := by
 have hbl := hb.lt
 have hal := ha.lt
 have hne : base ≤ g → g ≠ b6 := fun h => ha.neB hb (by decide) h
 have E0 := Upd.refl (fun i => i = b6 ∨ (i = g ∧ base ≤ i)) w0
 refine f_enter (N := 16) Try.func52 rfl rfl rfl (c_seq fun K1 hK1 => (c_region (t_move rfl rfl rfl (t_cmp rfl rfl rfl rfl rfl (t_nil' (hK1 _ _ (c_condp rfl (fun g8 => ?_) (fun g8 => ?_))))))))
 ·
  refine c_region (t_load Try.isAgg55 rfl rfl rfl (hb.get rfl) (t_move rfl rfl rfl (t_move rfl rfl rfl (t_move rfl rfl rfl (t_build (ps := [(0, .int .i64 wh), (1, .int .i64 num), (2, .int .i64 n)]) (v := .agg #[.int .i64 wh, .int .i64 num, .int .i64 n]) rfl rfl ⟨rfl, rfl⟩ (fun w => by kernel_rfl) (t_bslice (ps := [(0, .agg #[.int .i64 wh, .int .i64 num, .int .i64 n])]) (cs := [.int .i64 wh, .int .i64 num, .int .i64 n]) (e := 71) rfl rfl ⟨rfl, rfl⟩ (fun w => by kernel_rfl) (fun bk2 w3 ebk2 sbk2 B4 u5 => ?_)))))))
  have zu5 := u5.size
  have D7 := (ha.keep u5 (fun _ h => h))
  refine t_append (z := .agg #[.int .i64 0, .int .i64 0, .int .i64 0]) (bytes := 24) (k := 3) (base := base) (⟨wh, num, n⟩ : Shr) Try.underlying55 (by kernel_rfl) rfl (by decide) (fun _ => rfl) (by intro x; simp [encShr, Value.oneCell']) rfl rfl rfl rfl D7 B4 (by omega) (by omega) (by decide) (fun ao8 gb9 cp10 w11 A12 u13 gegb9 lngb9 => ?_)
  have zu13 := u13.size
  have lt_gb9 := A12.lt
  have B15 := ((hb.kx u5).keep u13 (by omega))
  refine t_st (vs := [.slice ao8 (((xs ++ [(⟨wh, num, n⟩ : Shr)])).length) cp10]) Try.sizeOf55 rfl rfl rfl B15 rfl rfl rfl rfl (fun w16 sw16 B18 u17 => ?_)
  have zu17 := u17.size
  have B18 : Blk w16 b6 55 [.slice ao8 (((xs ++ [(⟨wh, num, n⟩ : Shr)])).length) cp10] := B18
  refine t_nil' (f_ret0 Try.results52 ?_)
  have D20 := (A12.keep u17 (fun hb => show ¬ (gb9 = b6) by first | omega | assumption))
  exact ⟨ao8, gb9, cp10, (xs ++ [(⟨wh, num, n⟩ : Shr)]), by rw [one, if_pos g8], B18, D20, by omega, (((E0.nx u5).next u13 (fun i hi h => by omega)).next u17 (fun i hi h => by omega))⟩
 refine c_skip (f_ret0 Try.results52 ?_)
 exact ⟨ao, g, cp, xs, by rw [one, if_neg g8, List.append_nil], hb, ha, .inl rfl, E0⟩

theorem where_done {V : VG} {bs : List Bil} {bl : Int} {n : Nat} {mP : List (Int × Int)} {ks : List Int} (hvo : VOk n V) (hPO : PortOk V.ld bl mP) (hkp : ks.Perm (mP.map (·.1))) (hka : ks.Pairwise (fun a b => a ≤ b)) :
    (one 0 0 ((nth bs (bl).toNat).tons - nth V.ls (bl).toNat)) ++ ((List.range V.hl.length).flatMap fun (i : Nat) => one 1 (i : Int) (ofT ((nth V.hl i).xs.map HLay.v) bl)) ++ (ks.flatMap fun p => one 2 p (lkI mP p)) = whP bs V.st bl := by
  unfold whP
  have hl : V.st.hold.length = V.hl.length := by simp [VG.st]
  have e1 : ((List.range V.hl.length).flatMap fun (i : Nat) => one 1 (i : Int) (ofT ((nth V.hl i).xs.map HLay.v) bl)) = (List.range V.st.hold.length).flatMap fun (i : Nat) => one 1 (i : Int) (ofT (nth V.st.hold i) bl) := by
    rw [hl, List.flatMap_def, List.flatMap_def]
    congr 1
    refine List.map_congr_left (fun i hi => ?_)
    rw [st_hold (List.mem_range.1 hi)]
  have hn : ks.Nodup := hkp.nodup_iff.2 hPO.nd
  have hkey : ∀ p, p ∈ ks ↔ 0 < inP V.ld bl p := fun p => by rw [hkp.mem_iff, hPO.key]
  have e2 := flat_range (f := fun p => one 2 p (lkI mP p)) (strict hka hn) (fun k hk => ?_) (fun k hk => ?_)
  · rw [e1, e2]
    congr 2
    funext p
    rw [hPO.val, inP, inL_eq]; rfl
  · have h1 := (hkey k).1 hk
    have key : ∀ (l : List LG), (∀ x ∈ l, 0 ≤ x.port ∧ x.port ≤ 99) → inP l bl k ≠ 0 → 0 ≤ k ∧ k < 100 := fun l => by
      induction l with
      | nil => intro _ h; simp [inP, inL] at h
      | cons x l ih =>
        intro hx h
        rw [inP_cons] at h
        by_cases e : x.port = k
        · have := hx x (by simp); omega
        · rw [if_neg e, Int.zero_add] at h
          exact ih (fun y hy => hx y (by simp [hy])) h
    exact key V.ld (fun x hx => (hvo.fewL hx).2.2.2.2.2) (by omega)
  · have h1 := hPO.val k
    have h2 := inP_nonneg (l := V.ld) (b := bl) (p := k) (fun x hx y hy => ((hvo.fewL hx).2.1 y hy).1)
    have h3 : ¬ 0 < inP V.ld bl k := fun h => hk ((hkey k).2 h)
    show one 2 k (lkI mP k) = []
    rw [h1, one, if_neg h3]

set_option maxHeartbeats 1000000 in
theorem Where_c (bs : List Bil) (ab : Option Addr) (bb ob cb : Nat) (hs : List Hld) (ah : Option Addr) (bh oh ch : Nat) (us : List Ev) (ae : Option Addr) (be oe ce : Nat) (bl : Int) (w0 : World) (hbs : Sl encBil 3 w0 ab bb ob bs) (hhs : Sl encHld 2 w0 ah bh oh hs) (hbl : bs.length ≤ 1000000) (hhl : hs.length ≤ 1000000) (hu : Sl encEv 8 w0 ae be oe us) (hul : us.length ≤ 1000000) (hpos : 0 < w0.heap.size) :
    CallsV Try.prog 21 [.agg #[.slice ab bs.length cb, .slice ah hs.length ch], .slice ae us.length ce, .int .i64 bl] w0 (fun v w' => WherePost bs hs us bl v w' ∧ Ext w0 w') := by
 refine f_enter (N := 84) Try.func21 rfl rfl rfl (c_seq fun K1 hK1 => (c_region (t_box (cs := [.slice ab bs.length cb, .slice ah hs.length ch]) rfl rfl rfl rfl (fun bk2 w3 ebk2 sbk2 B4 u5 => ?_))))
 have zu5 := u5.size
 refine t_alloc (cs := [.slice none 0 0]) Try.zeroValue55 rfl rfl rfl (fun bk7 w8 ebk7 sbk7 B9 u10 => ?_)
 have zu10 := u10.size
 have E11 := ((Upd.refl (fun _ => False) w0).nx u5).nx u10
 refine t_assign rfl rfl rfl (t_assign rfl rfl rfl (t_nil' (hK1 _ _ (c_seq fun K12 hK12 => (c_region ?_)))))
 have B13 := (B4.kx u10)
 refine t_loadN (vs := [.slice ab bs.length cb, .slice ah hs.length ch]) Try.isAgg25 Try.sizeOf25 rfl rfl rfl (B13.at.sub 0 2) rfl (t_move rfl rfl rfl (t_move rfl rfl rfl (t_call own51 rfl rfl rfl rfl (open_c bs ab bb ob cb hs ah bh oh ch us ae be oe ce bl _ (hbs.keep E11 (fun _ h => h)) (hhs.keep E11 (fun _ h => h)) hbl hhl (hu.keep E11 (fun _ h => h)) hul (by omega)) (fun v14 w15 r17 => ?_))))
 rcases r17 with ⟨⟨at1, e1, rfl, he1, hsl⟩ | ⟨hs2, hnb, rfl⟩ | ⟨hb, Bas9, pv, V, rfl, hsl, hv, hvo, hVb, hVc, h100, hVB, hBas⟩, u16⟩
 ·
  have zu16 := u16.size
  refine t_move rfl rfl rfl (t_extract rfl rfl rfl rfl (t_extract rfl rfl rfl rfl (t_extract rfl rfl rfl rfl (t_assign rfl rfl rfl (t_assign rfl rfl rfl (t_assign rfl rfl rfl (t_nil' (hK12 _ _ (c_seq fun K19 hK19 => (c_seq fun K20 hK20 => (c_region (t_move rfl rfl rfl (t_cmp rfl rfl rfl rfl rfl (t_nil' (hK20 _ _ (c_condp rfl (fun g25 => ?_) (fun g25 => ?_)))))))))))))))))
  ·
   refine c_seq fun K21 hK21 => (c_region (t_move rfl rfl rfl (t_move rfl rfl rfl ?_)))
   have B22 := (B9.kx u16)
   refine t_st (vs := [.slice none 0 0]) Try.sizeOf55 rfl rfl rfl B22 rfl rfl rfl rfl (fun w23 sw23 B25 u24 => ?_)
   have zu24 := u24.size
   have B25 : Blk w23 bk7 55 [.slice none 0 0] := B25
   refine t_assign rfl rfl rfl (t_assign rfl rfl rfl (t_nil' (hK21 _ _ (c_ret (f_ret3 (v1 := .slice none 0 0) (v2 := .int .i64 at1) (v3 := .int .i64 e1) Try.results21 ⟨_, _, rfl, run_loadVar1 Try.isAgg55 (B25.get rfl)⟩ rfl rfl ?_)))))
   exact ⟨.inl ⟨at1, e1, rfl, he1, hsl⟩, ((E11.nx u16).next u24 (fun i hi h => by omega))⟩
  exact absurd he1 g25
 ·
  have zu16 := u16.size
  refine t_move rfl rfl rfl (t_extract rfl rfl rfl rfl (t_extract rfl rfl rfl rfl (t_extract rfl rfl rfl rfl (t_assign rfl rfl rfl (t_assign rfl rfl rfl (t_assign rfl rfl rfl (t_nil' (hK12 _ _ (c_seq fun K28 hK28 => (c_seq fun K29 hK29 => (c_region (t_move rfl rfl rfl (t_cmp rfl rfl rfl rfl rfl (t_samehd (v := .bool true) rfl (t_nil' (hK29 _ _ (c_cond_t rfl (c_seq fun K30 hK30 => (c_region (t_move rfl rfl rfl (t_move rfl rfl rfl ?_)))))))))))))))))))))
  have B31 := (B9.kx u16)
  refine t_st (vs := [.slice none 0 0]) Try.sizeOf55 rfl rfl rfl B31 rfl rfl rfl rfl (fun w32 sw32 B34 u33 => ?_)
  have zu33 := u33.size
  have B34 : Blk w32 bk7 55 [.slice none 0 0] := B34
  refine t_assign rfl rfl rfl (t_assign rfl rfl rfl (t_nil' (hK30 _ _ (c_ret (f_ret3 (v1 := .slice none 0 0) (v2 := .int .i64 0) (v3 := .int .i64 7) Try.results21 ⟨_, _, rfl, run_loadVar1 Try.isAgg55 (B34.get rfl)⟩ rfl rfl ?_)))))
  exact ⟨.inr (.inl ⟨hs2, hnb, rfl⟩), ((E11.nx u16).next u33 (fun i hi h => by omega))⟩
 have zu16 := u16.size
 have E36 := E11.nx u16
 have hpb := hv.blk
 have hn20 := hvo.hn
 have hlsn := hvo.lsn
 have hldn := hvo.ok.ldn
 have hldl : V.ld.length ≤ us.length := by have h := hldn; simp only [VG.st, List.length_map] at h; exact h
 have hbl2 := hvo.ok.bn
 rw [hVb] at hlsn hbl2
 have B37 := (B9.kx u16)
 have hpvg := hv.pge
 have hpvl := hv.blk.lt
 have hvo6 := hv.offBox B37 (by omega) (fun _ => by rw [hVB]; have h := hbs.lt; omega)
 have hsac : Acc encShr 3 71 w15.heap.size w15 none 0 0 [] := Acc.nil _ _ _ _ _ (by omega) (Nat.le_refl _)
 have lt_0 := hsac.lt
 have hbn : (nth bs (bl).toNat).tons ≤ 1000000 ∧ 1 ≤ (nth bs (bl).toNat).tons := by have h := hvo.bil (nth V.bs (bl).toNat) (nth_mem (by rw [hVb]; omega)); rw [hVb] at h; simp only [okBil, decide_eq_true_eq] at h; omega
 have hln := hvo.lsr (bl).toNat (by omega)
 rw [hVb] at hln
 refine t_move rfl rfl rfl (t_extract rfl rfl rfl rfl (t_extract rfl rfl rfl rfl (t_extract rfl rfl rfl rfl (t_assign rfl rfl rfl (t_assign rfl rfl rfl (t_assign rfl rfl rfl (t_nil' (hK12 _ _ (c_seq fun K38 hK38 => (c_seq fun K39 hK39 => (c_region (t_move rfl rfl rfl (t_cmp rfl rfl rfl rfl rfl (t_samehd (v := .bool false) rfl (t_nil' (hK39 _ _ (c_cond_f rfl (c_skip (hK38 _ _ (c_seq fun K40 hK40 => (c_region (t_mkfunc (vs := []) (us := [.pointer (some ⟨bk7, 0, none⟩)]) rfl rfl rfl rfl (t_assign rfl rfl rfl ?_)))))))))))))))))))))))
 refine t_nil' (hK40 _ _ (c_seq fun K41 hK41 => (c_drawnR follows 15 (by kernel_rfl) (p_move rfl rfl rfl (p_field Try.underlying25 rfl Try.sizeOf22 (0) rfl rfl rfl rfl ?_)))))
 have B45 := (B13.kx u16)
 refine p_load Try.isAgg22 rfl rfl rfl (B45.get rfl) (p_move rfl rfl rfl ?_)
 have i46 : (bl).toNat < bs.length := (by omega)
 refine p_index (j := (bl).toNat) Try.underlying22 Try.sizeOf93 rfl rfl rfl rfl ((hbs.keep E36 (fun _ h => h)).addr (by omega)) (by omega) i46 (p_field Try.underlying93 rfl Try.sizeOf3 (ob + (bl).toNat * 3 + 0) rfl rfl rfl rfl (p_load Try.isAgg3 rfl rfl rfl (((hbs.keep E36 (fun _ h => h)).at_ ((bl).toNat) (by omega)) 0 _ rfl) (p_move rfl rfl rfl (p_nilchk rfl rfl rfl (p_field Try.underlying118 rfl Try.sizeOf45 (3) rfl rfl rfl rfl (p_load Try.isAgg45 rfl rfl rfl (hpb.get rfl) (p_move rfl rfl rfl ?_)))))))
 have i47 : (bl).toNat < V.ls.length := (by omega)
 refine p_index (j := (bl).toNat) Try.underlying45 Try.sizeOf3 rfl rfl rfl rfl ((SlI.own (hv).lblk).addr (by omega)) (by omega) i47 (p_load Try.isAgg3 rfl rfl rfl (((SlI.own (hv).lblk).at_ ((bl).toNat) (by omega)) 0 _ rfl) (p_ari rfl rfl rfl rfl rfl (by omega) (p_nil fun w48 u49 => ?_)))
 have zu49 := u49.size
 have B51 := (B37.kx u49)
 have D53 := (hsac.keep u49 (fun _ h => h))
 refine t_call own52 rfl rfl rfl rfl (put_c w15.heap.size bk7 0 0 (((nth bs ((bl).toNat)).tons) - (nth V.ls ((bl).toNat))) ([]) none 0 0 _ B51 D53 (by omega) (by first | omega | decide)) (fun v54 w55 r57 => ?_)
 obtain ⟨aoq52, gq52, cq52, ysq52, hyq52, hBq52, hAq52, hgq52, u56⟩ := r57
 have zu56 := u56.size
 have lt_gq52 := hAq52.lt
 have hylq52 : ysq52.length ≤ ([] : List Shr).length + 1 := by rw [hyq52, List.length_append]; unfold one; split <;> simp
 simp only [List.length_nil] at hylq52
 refine t_nil' (hK41 _ _ (c_seq fun K59 hK59 => (c_seq fun K60 hK60 => (c_region (t_move rfl rfl rfl (t_nilchk rfl rfl rfl (t_field Try.underlying118 rfl Try.sizeOf114 (2) rfl rfl rfl rfl ?_)))))))
 have B61 := ((hpb.kx u49).keep u56 (by omega))
 refine t_load Try.isAgg114 rfl rfl rfl (B61.get rfl) (t_len Try.underlying114 rfl rfl rfl rfl (t_move rfl rfl rfl (t_nil' (hK60 _ _ (c_block (c_loop (γ := Nat × Option Addr × Nat × Nat × List Shr) (fun gg => [(2, .int .i64 bl), (6, .pointer (some ⟨bk7, 0, none⟩)), (9, .pointer (some ⟨pv, 0, none⟩)), (10, .func (.func 52) #[] #[.pointer (some ⟨bk7, 0, none⟩)]), (48, .slice V.pa V.hl.length V.pc), (49, .int .i64 (V.hl.length : Int)), (50, .int .i64 (gg.1 : Int))]) (fun gg w => Upd (fun i => i = bk7 ∨ (i = gq52 ∧ w15.heap.size ≤ i)) w55 w ∧ Blk w bk7 55 [.slice gg.2.1 (List.length gg.2.2.2.2) gg.2.2.2.1] ∧ (gg.1 ≤ V.hl.length) ∧ (gg.2.2.2.2 = (one 0 0 ((nth bs (bl).toNat).tons - nth V.ls (bl).toNat)) ++ ((List.range gg.1).flatMap fun (i : Nat) => one 1 (i : Int) (ofT ((nth V.hl i).xs.map HLay.v) bl))) ∧ (gg.2.2.2.2.length ≤ gg.1 + 2) ∧ (Acc encShr 3 71 w15.heap.size w gg.2.1 gg.2.2.1 gg.2.2.2.1 gg.2.2.2.2) ∧ (gg.2.2.1 = gq52 ∨ w55.heap.size ≤ gg.2.2.1)) (fun gg => V.hl.length - gg.1) (0, aoq52, gq52, cq52, ysq52) ⟨rfl, rfl, rfl, rfl, rfl, rfl, rfl, trivial⟩ ⟨Upd.refl _ _, hBq52, (Nat.zero_le _), (by rw [hyq52]; simp), (by show ysq52.length ≤ 0 + 2; omega), hAq52, (.inl rfl)⟩ ?_))))))
 intro gg w63 hW K62 hK62
 obtain ⟨k, aok, gk, ck, xsk⟩ := gg
 change WC _ _ _ _ _ _ [(2, .int .i64 bl), (6, .pointer (some ⟨bk7, 0, none⟩)), (9, .pointer (some ⟨pv, 0, none⟩)), (10, .func (.func 52) #[] #[.pointer (some ⟨bk7, 0, none⟩)]), (48, .slice V.pa V.hl.length V.pc), (49, .int .i64 (V.hl.length : Int)), (50, .int .i64 (k : Int))] _
 change Upd (fun i => i = bk7 ∨ (i = gq52 ∧ w15.heap.size ≤ i)) w55 w63 ∧ Blk w63 bk7 55 [.slice aok (List.length xsk) ck] ∧ (k ≤ V.hl.length) ∧ (xsk = (one 0 0 ((nth bs (bl).toNat).tons - nth V.ls (bl).toNat)) ++ ((List.range k).flatMap fun (i : Nat) => one 1 (i : Int) (ofT ((nth V.hl i).xs.map HLay.v) bl))) ∧ (xsk.length ≤ k + 2) ∧ (Acc encShr 3 71 w15.heap.size w63 aok gk ck xsk) ∧ (gk = gq52 ∨ w55.heap.size ≤ gk) at hW
 obtain ⟨u64, I65, I66, I67, I68, I69, I70⟩ := hW
 have zu64 := u64.size
 have hk := I66; clear I66
 have hxsk := I67; clear I67
 have hxlk := I68; clear I68
 have hacck := I69; clear I69
 have hggk := I70; clear I70
 have lt_gk := hacck.lt
 refine c_seq fun K72 hK72 => (c_region (t_cmp rfl rfl rfl rfl rfl (t_nil' (hK72 _ _ (c_seq fun K73 hK73 => (c_condp rfl (fun g51 => ?_) (fun g51 => ?_)))))))
 ·
  refine c_skip (hK73 _ _ (c_seq fun K74 hK74 => (c_block (c_seq fun K75 hK75 => (c_region (t_move rfl rfl rfl ?_))))))
  have i76 : k < V.hl.length := (by omega)
  refine t_index (j := k) Try.underlying114 Try.sizeOf119 rfl rfl rfl rfl ((((hv.keepS ((((Upd.refl (fun i => i = bk7 ∨ (i = 0 ∧ w15.heap.size ≤ i) ∨ (i = gq52 ∧ w15.heap.size ≤ i)) w15).next u49 (fun _ _ h => h.elim)).next u56 (fun i hi h => by omega)).next u64 (fun i hi h => by omega)) (hvo6.mono (fun i (h : i = bk7 ∨ (i = 0 ∧ w15.heap.size ≤ i) ∨ (i = gq52 ∧ w15.heap.size ≤ i)) => by show i = bk7 ∨ w15.heap.size ≤ i; omega)))).pacc.sl (fun _ => rfl)).addr (by omega)) rfl i76 ?_
  have hkk : k < V.hl.length := by omega
  have hB9 := ((hv.keepS ((((Upd.refl (fun i => i = bk7 ∨ (i = 0 ∧ w15.heap.size ≤ i) ∨ (i = gq52 ∧ w15.heap.size ≤ i)) w15).next u49 (fun _ _ h => h.elim)).next u56 (fun i hi h => by omega)).next u64 (fun i hi h => by omega)) (hvo6.mono (fun i (h : i = bk7 ∨ (i = 0 ∧ w15.heap.size ≤ i) ∨ (i = gq52 ∧ w15.heap.size ≤ i)) => by show i = bk7 ∨ w15.heap.size ≤ i; omega))).hold _ (nth_mem hkk)).blk
  have hof := ofT_le (b := bl) (l := (nth V.hl k).xs.map HLay.v) (fun y hy => by obtain ⟨z, hz, rfl⟩ := List.mem_map.1 hy; exact ((hvo.few (nth_mem hkk)).2.1 z hz).1)
  refine t_load Try.isAgg119 rfl rfl rfl (((((hv.keepS ((((Upd.refl (fun i => i = bk7 ∨ (i = 0 ∧ w15.heap.size ≤ i) ∨ (i = gq52 ∧ w15.heap.size ≤ i)) w15).next u49 (fun _ _ h => h.elim)).next u56 (fun i hi h => by omega)).next u64 (fun i hi h => by omega)) (hvo6.mono (fun i (h : i = bk7 ∨ (i = 0 ∧ w15.heap.size ≤ i) ∨ (i = gq52 ∧ w15.heap.size ≤ i)) => by show i = bk7 ∨ w15.heap.size ≤ i; omega)))).pacc.sl (fun _ => rfl)).at_ k (by omega)) 0 _ rfl) (t_assign rfl rfl rfl (t_assign rfl rfl rfl (t_nil' (hK75 _ _ (c_region (t_move rfl rfl rfl (t_move rfl rfl rfl (t_move rfl rfl rfl (t_nilchk rfl rfl rfl (t_field Try.underlying122 rfl Try.sizeOf120 (2) rfl rfl rfl rfl (t_load Try.isAgg120 rfl rfl rfl (hB9.get rfl) (t_move rfl rfl rfl (t_call own53 rfl rfl rfl rfl (of_c ((nth V.hl k).xs) ((nth V.hl k).ao) (nth V.hl k).g 0 ((nth V.hl k).cp) bl _ ((((hv.keepS ((((Upd.refl (fun i => i = bk7 ∨ (i = 0 ∧ w15.heap.size ≤ i) ∨ (i = gq52 ∧ w15.heap.size ≤ i)) w15).next u49 (fun _ _ h => h.elim)).next u56 (fun i hi h => by omega)).next u64 (fun i hi h => by omega)) (hvo6.mono (fun i (h : i = bk7 ∨ (i = 0 ∧ w15.heap.size ≤ i) ∨ (i = gq52 ∧ w15.heap.size ≤ i)) => by show i = bk7 ∨ w15.heap.size ≤ i; omega)))).hold (nth V.hl k) (nth_mem (by omega))).lays.acc.sl (fun _ => rfl)) (hvo.few (nth_mem (by omega))).1 (hvo.few (nth_mem (by omega))).2.1) (fun v77 w78 r80 => ?_))))))))))))))
  obtain ⟨rfl, u79⟩ := r80
  have zu79 := u79.size
  have B82 := (I65.kx u79)
  have D84 := (hacck.keep u79 (fun _ h => h))
  refine t_call own52 rfl rfl rfl rfl (put_c w15.heap.size bk7 1 (k : Int) (ofT (((nth V.hl k).xs).map HLay.v) bl) xsk aok gk ck _ B82 D84 (by omega) (by first | omega | decide)) (fun v85 w86 r88 => ?_)
  obtain ⟨aoq83, gq83, cq83, ysq83, hyq83, hBq83, hAq83, hgq83, u87⟩ := r88
  have zu87 := u87.size
  have lt_gq83 := hAq83.lt
  have hylq83 : ysq83.length ≤ (xsk : List Shr).length + 1 := by rw [hyq83, List.length_append]; unfold one; split <;> simp
  refine t_nil' (hK74 _ _ (c_region (t_ari rfl rfl rfl rfl rfl (by omega) (t_move rfl rfl rfl (t_nil' ?_)))))
  exact hK62 (k + 1, aoq83, gq83, cq83, ysq83) _ _ (by show V.hl.length - (k + 1) < V.hl.length - k; omega) ⟨rfl, rfl, rfl, rfl, rfl, rfl, rfl, trivial⟩ ⟨((u64.next u79 (fun _ _ h => h.elim)).next u87 (fun i hi h => by omega)), hBq83, (by omega), (by rw [hyq83, hxsk]; rw [List.range_succ, List.flatMap_append, List.append_assoc]; simp), (by show ysq83.length ≤ k + 1 + 2; omega), hAq83, (by show gq83 = gq52 ∨ w55.heap.size ≤ gq83; omega)⟩
 refine c_exit (hK59 _ _ (c_seq fun K90 hK90 => (c_region (t_move rfl rfl rfl (t_move rfl rfl rfl (t_call own54 rfl rfl rfl rfl (ports_c _ pv us.length V bl _ (hv.keepS ((((Upd.refl (fun i => i = bk7 ∨ (i = 0 ∧ w15.heap.size ≤ i) ∨ (i = gq52 ∧ w15.heap.size ≤ i)) w15).next u49 (fun _ _ h => h.elim)).next u56 (fun i hi h => by omega)).next u64 (fun i hi h => by omega)) (hvo6.mono (fun i (h : i = bk7 ∨ (i = 0 ∧ w15.heap.size ≤ i) ∨ (i = gq52 ∧ w15.heap.size ≤ i)) => by show i = bk7 ∨ w15.heap.size ≤ i; omega))) hvo h100) (fun v91 w92 r94 => ?_)))))))
 obtain ⟨⟨rP, rfl, hgP, hMP, hPO⟩, u93⟩ := r94
 have zu93 := u93.size
 obtain ⟨mP, hmP⟩ : ∃ m, portsM V.ld bl [] = m := ⟨_, rfl⟩
 rw [hmP] at hMP hPO
 have lrP := hMP.lt
 have hPl := hPO.len
 refine t_assign rfl rfl rfl (t_nil' (hK90 _ _ (c_seq fun K96 hK96 => (c_seq fun K97 hK97 => (c_region (t_move rfl rfl rfl (t_call own56 rfl rfl rfl rfl (Keys_c rP _) (fun v98 w99 r101 => ?_))))))))
 obtain ⟨⟨bx, rfl, hgbx, hBx⟩, u100⟩ := r101
 have zu100 := u100.size
 have D103 := (hMP.keep u100 (fun h => h))
 refine t_call own55 rfl rfl rfl rfl (Sorted_c mP rP bx _ D103 hBx (by omega) (by omega)) (fun v104 w105 r107 => ?_)
 obtain ⟨⟨aoQ, gQ, cQ, ks, rfl, hkp, hka, hacQ⟩, u106⟩ := r107
 have zu106 := u106.size
 have lgQ := hacQ.lt
 have hkl : ks.length = mP.length := by have h := hkp.length_eq; simpa using h
 refine t_len Try.underlying45 rfl rfl rfl rfl (t_move rfl rfl rfl (t_nil' (hK97 _ _ (c_block ?_))))
 have D109 := (((hacck.keep u93 (fun _ h => h)).keep u100 (fun _ h => h)).keep u106 (fun _ h => h))
 have B110 := (((I65.kx u93).kx u100).kx u106)
 refine c_loop (γ := Nat × Option Addr × Nat × Nat × List Shr) (fun gg => [(6, .pointer (some ⟨bk7, 0, none⟩)), (10, .func (.func 52) #[] #[.pointer (some ⟨bk7, 0, none⟩)]), (13, .map (some rP)), (70, .slice aoQ (List.length ks) cQ), (71, .int .i64 ((List.length ks) : Int)), (72, .int .i64 (gg.1 : Int))]) (fun gg w => Upd (fun i => i = bk7 ∨ (i = gk ∧ w15.heap.size ≤ i)) w105 w ∧ Blk w bk7 55 [.slice gg.2.1 (List.length gg.2.2.2.2) gg.2.2.2.1] ∧ (gg.1 ≤ ks.length) ∧ (gg.2.2.2.2 = (one 0 0 ((nth bs (bl).toNat).tons - nth V.ls (bl).toNat)) ++ ((List.range k).flatMap fun (i : Nat) => one 1 (i : Int) (ofT ((nth V.hl i).xs.map HLay.v) bl)) ++ ((ks.take gg.1).flatMap fun p => one 2 p (lkI mP p))) ∧ (gg.2.2.2.2.length ≤ gg.1 + 25) ∧ (Acc encShr 3 71 w15.heap.size w gg.2.1 gg.2.2.1 gg.2.2.2.1 gg.2.2.2.2) ∧ (gg.2.2.1 = gk ∨ w105.heap.size ≤ gg.2.2.1)) (fun gg => ks.length - gg.1) (0, aok, gk, ck, xsk) ⟨rfl, rfl, rfl, rfl, rfl, rfl, trivial⟩ ⟨Upd.refl _ _, B110, (Nat.zero_le _), (by rw [hxsk]; simp), (by show xsk.length ≤ 0 + 25; omega), D109, (.inl rfl)⟩ ?_
 intro gg w112 hW K111 hK111
 obtain ⟨t, aot, gt, ct, xst⟩ := gg
 change WC _ _ _ _ _ _ [(6, .pointer (some ⟨bk7, 0, none⟩)), (10, .func (.func 52) #[] #[.pointer (some ⟨bk7, 0, none⟩)]), (13, .map (some rP)), (70, .slice aoQ (List.length ks) cQ), (71, .int .i64 ((List.length ks) : Int)), (72, .int .i64 (t : Int))] _
 change Upd (fun i => i = bk7 ∨ (i = gk ∧ w15.heap.size ≤ i)) w105 w112 ∧ Blk w112 bk7 55 [.slice aot (List.length xst) ct] ∧ (t ≤ ks.length) ∧ (xst = (one 0 0 ((nth bs (bl).toNat).tons - nth V.ls (bl).toNat)) ++ ((List.range k).flatMap fun (i : Nat) => one 1 (i : Int) (ofT ((nth V.hl i).xs.map HLay.v) bl)) ++ ((ks.take t).flatMap fun p => one 2 p (lkI mP p))) ∧ (xst.length ≤ t + 25) ∧ (Acc encShr 3 71 w15.heap.size w112 aot gt ct xst) ∧ (gt = gk ∨ w105.heap.size ≤ gt) at hW
 obtain ⟨u113, I114, I115, I116, I117, I118, I119⟩ := hW
 have zu113 := u113.size
 have ht := I115; clear I115
 have hxst := I116; clear I116
 have hxlt := I117; clear I117
 have hacct := I118; clear I118
 have hggt := I119; clear I119
 have lt_gt := hacct.lt
 have hMl := hMP.lt
 refine c_seq fun K121 hK121 => (c_region (t_cmp rfl rfl rfl rfl rfl (t_nil' (hK121 _ _ (c_seq fun K122 hK122 => (c_condp rfl (fun g73 => ?_) (fun g73 => ?_)))))))
 ·
  refine c_skip (hK122 _ _ (c_seq fun K123 hK123 => (c_block (c_seq fun K124 hK124 => (c_region ?_)))))
  have D125 := ((hacQ.sl (fun _ => rfl)).keep u113 (fun hp => by have hbq := hacQ.base_le hp; show ¬ (gQ = bk7 ∨ (gQ = gk ∧ w15.heap.size ≤ gQ)); first | omega | assumption))
  have i126 : t < ks.length := (by omega)
  refine t_index (j := t) Try.underlying45 Try.sizeOf3 rfl rfl rfl rfl (D125.addr (by omega)) rfl (by omega) (t_load Try.isAgg3 rfl rfl rfl ((D125.at_ t (by omega)) 0 _ rfl) (t_assign rfl rfl rfl (t_nil' (hK124 _ _ (c_region (t_move rfl rfl rfl (t_move rfl rfl rfl (t_move rfl rfl rfl (t_move rfl rfl rfl ?_)))))))))
  have D127 := ((D103.keep u106 (fun h => h)).keep u113 (show ¬ (rP = bk7 ∨ (rP = gk ∧ w15.heap.size ≤ rP)) by first | omega | assumption))
  refine t_lookupII Try.underlying3 Try.underlying135 Try.zeroValue3 rfl rfl rfl rfl D127 (t_call own52 rfl rfl rfl rfl (put_c w15.heap.size bk7 2 (nth ks t) (lkI mP (nth ks t)) xst aot gt ct _ I114 hacct (by omega) (by first | omega | decide)) (fun v129 w130 r132 => ?_))
  obtain ⟨aoq128, gq128, cq128, ysq128, hyq128, hBq128, hAq128, hgq128, u131⟩ := r132
  have zu131 := u131.size
  have lt_gq128 := hAq128.lt
  have hylq128 : ysq128.length ≤ (xst : List Shr).length + 1 := by rw [hyq128, List.length_append]; unfold one; split <;> simp
  refine t_nil' (hK123 _ _ (c_region (t_ari rfl rfl rfl rfl rfl (by omega) (t_move rfl rfl rfl (t_nil' ?_)))))
  exact hK111 (t + 1, aoq128, gq128, cq128, ysq128) _ _ (by show ks.length - (t + 1) < ks.length - t; omega) ⟨rfl, rfl, rfl, rfl, rfl, rfl, trivial⟩ ⟨(u113.next u131 (fun i hi h => by omega)), hBq128, (by omega), (by rw [hyq128, hxst]; rw [take_nth (by omega), List.flatMap_append]; simp), (by show ysq128.length ≤ t + 1 + 25; omega), hAq128, (by show gq128 = gk ∨ w105.heap.size ≤ gq128; omega)⟩
 refine c_exit (hK96 _ _ (c_seq fun K134 hK134 => (c_region (t_load Try.isAgg55 rfl rfl rfl (I114.get rfl) (t_st (vs := [.slice aot (List.length xst) ct]) Try.sizeOf55 rfl rfl rfl I114 rfl rfl rfl rfl (fun w135 sw135 B137 u136 => ?_))))))
 have zu136 := u136.size
 have B137 : Blk w135 bk7 55 [.slice aot (List.length xst) ct] := B137
 refine t_assign rfl rfl rfl (t_assign rfl rfl rfl (t_nil' (hK134 _ _ (c_ret (f_ret3 (v1 := .slice aot (List.length xst) ct) (v2 := .int .i64 0) (v3 := .int .i64 0) Try.results21 ⟨_, _, rfl, run_loadVar1 Try.isAgg55 (B137.get rfl)⟩ rfl rfl ?_)))))
 have hfull := where_done (V := V) (bs := bs) (bl := bl) hvo hPO hkp hka
 have hk9 : k = V.hl.length := by omega
 have ht9 : t = ks.length := by omega
 have D139 := (hacct.keep u136 (fun hb => show ¬ (gt = bk7) by first | omega | assumption))
 exact ⟨.inr (.inr ⟨by rw [hsl], hb, _, _, _, xst, rfl, by rw [hsl, hxst, hk9, ht9, List.take_length]; exact hfull, D139.sl (fun _ => rfl)⟩), ((((((((E36.nx u49).next u56 (fun i hi h => by omega)).next u64 (fun i hi h => by omega)).nx u93).nx u100).nx u106).next u113 (fun i hi h => by omega)).next u136 (fun i hi h => by omega))⟩

end Go.Proofs.Ytblkphbblkncdaa
