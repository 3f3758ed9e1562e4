/-
  The contract of hold. Conditions: none.
-/
import Derived.Test.YtmicjleiheoieaaA9
import Derived.Test.YtmicjleiheoieaaSort
import Derived.Test.YtmicjleiheoieaaSlp
namespace Go.Proofs.Ytmicjleiheoieaa
open Go Go.RowKit
theorem arrGo_rng {p : Int} : ∀ {rs : List Run} {t : Bnd} {B : Int}, (∀ r ∈ rs, rngRun r) → (0 ≤ t.lo ∧ t.lo ≤ B) → (0 ≤ t.hi ∧ t.hi ≤ B) → (0 ≤ (arrGo p rs t).lo ∧ (arrGo p rs t).lo ≤ B + 6005400 * rs.length) ∧ (0 ≤ (arrGo p rs t).hi ∧ (arrGo p rs t).hi ≤ B + 6005400 * rs.length)
  | [], t, B, _, h1, h2 => by simpa [arrGo] using ⟨h1, h2⟩
  | r :: rs, t, B, hr, h1, h2 => by
    have hq := hr r (by simp)
    have hw := wayTo_rng (p := p) hq
    obtain ⟨_, _, q1, q2, q3, q4⟩ := hq
    have t1 := tak_rng hw q1.1 q1.2
    have t2 := tak_rng hw q2.1 q2.2
    simp only [arrGo, List.length_cons]
    split
    · omega
    · split
      · simp only []; omega
      · have := arrGo_rng (p := p) (rs := rs) (t := ⟨t.lo + (r.wt.lo + tak (wayTo r p) r.sp.hi), t.hi + (r.wt.hi + tak (wayTo r p) r.sp.lo)⟩) (B := B + 6005400) (fun x hx => hr x (by simp [hx])) (by simp only []; omega) (by simp only []; omega)
        omega
def RStay (s : Stay) : Prop := (0 ≤ s.inn.lo ∧ s.inn.lo ≤ 200000000) ∧ (0 ≤ s.inn.hi ∧ s.inn.hi ≤ 200000000) ∧ (0 ≤ s.out.lo ∧ s.out.lo ≤ 200000000) ∧ (0 ≤ s.out.hi ∧ s.out.hi ≤ 200000000)
theorem thrS_rng {v : Voy} {n : Nar} (h : okVoy v = true) : RStay (thrS v n) := by
  have hr := okVoy_rng h
  unfold okVoy at h
  rw [Bool.and_eq_true] at h
  have h0 := h.1
  unfold okVoy0 at h0
  rw [decide_eq_true_eq] at h0
  have a1 := arrGo_rng (p := entP v n) (t := v.st) (B := 1000000) hr.run (by omega) (by omega)
  have a2 := arrGo_rng (p := leaP v n) (t := v.st) (B := 1000000) hr.run (by omega) (by omega)
  unfold RStay thrS
  split
  · unfold arr; simp only []; omega
  · simp
theorem Traf.stay {lim t : Nat} {vs : List HVoy} {ns : List Nar} {rows : List HSt} {av an ar : Option Addr} {bv ov bn on br cv cn cr : Nat} {w : World} (h : Traf lim t vs ns rows av an ar bv ov bn on br cv cn cr w) {i k : Nat} (hi : i < vs.length) (hk : k < ns.length) : (nth (nth rows i).ss k) = thrS (nth vs i).v (nth ns k) := by
  rw [h.row hi]
  unfold nth
  simp [List.getD_eq_getElem?_getD, hk]
theorem Traf.stayr {lim t : Nat} {vs : List HVoy} {ns : List Nar} {rows : List HSt} {av an ar : Option Addr} {bv ov bn on br cv cn cr : Nat} {w : World} (h : Traf lim t vs ns rows av an ar bv ov bn on br cv cn cr w) {i k : Nat} (hi : i < vs.length) (hk : k < ns.length) : RStay (nth (nth rows i).ss k) := by
  rw [h.stay hi hk]; exact thrS_rng (h.ok _ (nth_mem hi))
abbrev BB := { b : Bnd // (-1000000000 ≤ b.lo ∧ b.lo ≤ 1000000000) ∧ (-1000000000 ≤ b.hi ∧ b.hi ≤ 1000000000) }
instance : Inhabited BB := ⟨⟨⟨0, 0⟩, by decide⟩⟩
def encBB (x : BB) : List Value := [.int .i64 x.1.lo, .int .i64 x.1.hi]
def cfB (x y : BB) : Int := x.1.lo - y.1.lo
theorem cfB_lt (x y : BB) : ltOf cfB x y = decide (x.1.lo < y.1.lo) := by
  unfold ltOf cfB
  by_cases h : x.1.lo < y.1.lo
  · simp [h]; omega
  · simp [h]; omega
theorem cfB_swo : Go.Sort.SWO (ltOf cfB) where
  irrefl x := by rw [cfB_lt]; simp
  trans x y z h1 h2 := by rw [cfB_lt] at *; simp at *; omega
  ntrans x y z h1 h2 := by rw [cfB_lt] at *; simp at *; omega
section
variable {P : Program} {ops : Array Oper} {Q : Exit → Act → World → Prop} {N : Nat} {ds : List Deferred} {rest : List Oper} {L : Slots} {w : World} {rd : Option Nat} {d : Nat} {ty : TypeId} {pos : String} {aft : Array Edge} {g : Option (Nat × Bool)}
theorem t_boxX {e : TypeId} {x : Operand} {v : Value} {cs : List Value} (hg : grd ops L g = true) (hN : Nat.blt d N = true) (hx : ev L x = some v) (hc : v.cells = cs.toArray)
    (h : WL rd P ops Q N ds rest ((d, .pointer (some ⟨w.heap.size, 0, none⟩)) :: L) (w.alloc (.cells cs.toArray e))) : WL rd P ops Q N ds (⟨some d, .box e x, ty, pos, aft, g⟩ :: rest) L w :=
  WL.value (w' := w.alloc (.cells cs.toArray e)) hg rfl hN (fun a hk => by simp [execOp, hk.ev hx, Instr.box, newVar, newRow, newObj, Sem.run, hc]) h
end
theorem hold1_ok : CmpOk Try.prog 117 encBB cfB := by
  intro x y W
  have hx := x.2
  have hy := y.2
  have h : CallsV Try.prog 117 [.agg #[.int .i64 x.1.lo, .int .i64 x.1.hi], .agg #[.int .i64 y.1.lo, .int .i64 y.1.hi]] W (fun v w' => v = .int .i64 (cfB x y) ∧ w' = (W.alloc (.cells [.int .i64 x.1.lo, .int .i64 x.1.hi].toArray 45)).alloc (.cells [.int .i64 y.1.lo, .int .i64 y.1.hi].toArray 45)) := by
    refine f_enter (N := 10) Try.func117 rfl rfl rfl ?_
    change WC _ _ _ _ _ _ [(0, .agg #[.int .i64 x.1.lo, .int .i64 x.1.hi]), (1, .agg #[.int .i64 y.1.lo, .int .i64 y.1.hi])] _
    refine c_seq fun K1 hK1 => ?_
    refine c_region ?_
    refine t_boxX (cs := [.int .i64 x.1.lo, .int .i64 x.1.hi]) rfl rfl rfl rfl ?_
    refine t_boxX (cs := [.int .i64 y.1.lo, .int .i64 y.1.hi]) rfl rfl rfl rfl ?_
    refine t_assign rfl rfl rfl ?_
    refine t_nil' ?_
    refine hK1 _ _ ?_
    have B1 : Blk ((W.alloc (.cells [.int .i64 x.1.lo, .int .i64 x.1.hi].toArray 45)).alloc (.cells [.int .i64 y.1.lo, .int .i64 y.1.hi].toArray 45)) W.heap.size 45 [.int .i64 x.1.lo, .int .i64 x.1.hi] := (Blk.new W 45 _).keep (Upd.alloc _ _) (fun h => h)
    have B2 : Blk ((W.alloc (.cells [.int .i64 x.1.lo, .int .i64 x.1.hi].toArray 45)).alloc (.cells [.int .i64 y.1.lo, .int .i64 y.1.hi].toArray 45)) (W.alloc (.cells [.int .i64 x.1.lo, .int .i64 x.1.hi].toArray 45)).heap.size 45 [.int .i64 y.1.lo, .int .i64 y.1.hi] := Blk.new _ _ _
    refine c_seq fun K2 hK2 => ?_
    refine c_region ?_
    refine t_field Try.underlying45 rfl Try.sizeOf3 (0) rfl rfl rfl rfl ?_
    refine t_load Try.isAgg3 rfl rfl rfl (B1.get rfl) ?_
    refine t_field Try.underlying45 rfl Try.sizeOf3 (0) rfl rfl rfl rfl ?_
    refine t_load Try.isAgg3 rfl rfl rfl (B2.get rfl) ?_
    refine t_ari rfl rfl rfl rfl rfl (by omega) ?_
    refine t_assign rfl rfl rfl ?_
    refine t_nil' ?_
    refine hK2 _ _ ?_
    refine c_ret ?_
    refine f_ret1 (v := .int .i64 (cfB x y)) Try.results117 rfl ?_
    exact ⟨rfl, rfl⟩
  refine Calls.mono h ?_
  rintro e w' ⟨v, rfl, rfl, rfl⟩
  exact ⟨rfl, 0, _, by rw [Go.Sort.alloc_eq_grow, Go.Sort.alloc_eq_grow, Go.Sort.grow_grow]; rfl⟩


theorem bars_seq (lim t : Nat) (vs : List HVoy) (ns : List Nar) (rows : List HSt) (av an ar : Option Addr) (bv ov bn on br cv cn cr : Nat) (i j b3 b4 b5 : Nat) (T : Nat → Prop) (w : World) (htr : Traf lim t vs ns rows av an ar bv ov bn on br cv cn cr w) (hi : i < vs.length) (hj : j < vs.length) (h3 : Blk w b3 124 [.pointer (some ⟨t, 0, none⟩)]) (h4 : Blk w b4 3 [.int .i64 (i : Int)]) (h5 : Blk w b5 3 [.int .i64 (j : Int)])
    (hT : TrafOff T t vs ns rows bv bn br) (hT3 : ¬ T b3) (hT4 : ¬ T b4) (hT5 : ¬ T b5) :
    SeqStopsK Fence.wide 2 Try.prog 108 [.pointer (some ⟨b3, 0, none⟩), .pointer (some ⟨b4, 0, none⟩), .pointer (some ⟨b5, 0, none⟩)].toArray (fun x => #[encIx x]) (Upd T) (fun xs : List (Ix ns.length) => xs.map (·.1) = (List.range ns.length).filter (barB vs ns rows i j)) (fun _ => True) 21 w := by
  intro l J Jx W hW hJ hJx hY h0
  have hE : Ext w W := Below.ext hW
  refine callsIn_wide.2 (Calls.mono (bars1_c lim t vs ns rows av an ar bv ov bn on br cv cn cr i j b3 b4 b5 l 1 T J Jx W (htr.keep hE (fun _ _ h => h)) hi hj (h3.keep hE (fun h => h)) (h4.keep hE (fun h => h)) (h5.keep hE (fun h => h)) hT hT3 hT4 hT5 hJ hY h0) ?_)
  rintro e w' ⟨v, rfl, u, rfl, h⟩
  exact ⟨⟨_, rfl⟩, h.imp (fun h => h) (fun ⟨pre, h⟩ => ⟨pre, trivial, h⟩)⟩
/-- The holds that voyage j, held back by h, closes to voyage i in narrow k. -/
def clB (rows : List HSt) (hs : List Int) (i j k : Nat) : Bnd :=
  ⟨(nth (nth rows j).ss k).inn.lo + nth hs j - (nth (nth rows i).ss k).out.hi, (nth (nth rows j).ss k).out.hi + nth hs j - (nth (nth rows i).ss k).inn.lo⟩
def clL (vs : List HVoy) (ns : List Nar) (rows : List HSt) (hs : List Int) (i : Nat) (os : List Int) : List Bnd :=
  os.flatMap fun j => ((List.range ns.length).filter (barB vs ns rows i j.toNat)).map (clB rows hs i j.toNat)
theorem clL_snoc {vs : List HVoy} {ns : List Nar} {rows : List HSt} {hs : List Int} {i q : Nat} {os : List Int} (h : q < os.length) :
    clL vs ns rows hs i (os.take (q + 1)) = clL vs ns rows hs i (os.take q) ++ ((List.range ns.length).filter (barB vs ns rows i (nth os q).toNat)).map (clB rows hs i (nth os q).toNat) := by
  unfold clL; rw [take_nth h, List.flatMap_append]; simp
/-- h is the least hold that none of these closes. -/
def HoldR (cs : List Bnd) (h : Int) : Prop := 0 ≤ h ∧ (∀ b ∈ cs, ¬ (b.lo ≤ h ∧ h ≤ b.hi)) ∧ ∀ h', 0 ≤ h' → h' < h → ∃ b ∈ cs, b.lo ≤ h' ∧ h' ≤ b.hi
theorem HoldR.unique {cs : List Bnd} {h k : Int} (a : HoldR cs h) (b : HoldR cs k) : h = k := by
  rcases Int.lt_trichotomy h k with q | q | q
  · obtain ⟨x, hx, hc⟩ := b.2.2 h a.1 q; exact absurd hc (a.2.1 x hx)
  · exact q
  · obtain ⟨x, hx, hc⟩ := a.2.2 k b.1 q; exact absurd hc (b.2.1 x hx)
def FoldR (ys : List BB) (p : Nat) (h : Int) : Prop := (∀ x ∈ ys.take p, ¬ (x.1.lo ≤ h ∧ h ≤ x.1.hi)) ∧ ∀ h', 0 ≤ h' → h' < h → ∃ x ∈ ys.take p, x.1.lo ≤ h' ∧ h' ≤ x.1.hi
theorem fold_hit {ys : List BB} {p : Nat} {h : Int} (hf : FoldR ys p h) (ha : Asc cfB ys) (hp : p < ys.length) (hh : (nth ys p).1.lo ≤ h ∧ h ≤ (nth ys p).1.hi) : FoldR ys (p + 1) ((nth ys p).1.hi + 1) := by
  rw [FoldR, take_nth hp]
  refine ⟨fun x hx => ?_, fun h' h0 h1 => ?_⟩
  · rcases List.mem_append.1 hx with hx | hx
    · have h2 := hf.1 x hx
      obtain ⟨q, hq, rfl⟩ := List.mem_iff_getElem.1 hx
      have hq' : q < p := by simp at hq; omega
      have h3 := ha q p hq' hp
      unfold cfB at h3
      rw [← nth_eq (by simpa using hq), nth_take hq'] at h2 ⊢
      omega
    · have : x = nth ys p := by simpa using hx
      subst this; omega
  · by_cases h2 : h' < h
    · obtain ⟨x, hx, hc⟩ := hf.2 h' h0 h2; exact ⟨x, by simp [hx], hc⟩
    · exact ⟨nth ys p, by simp, by omega⟩
theorem fold_miss {ys : List BB} {p : Nat} {h : Int} (hf : FoldR ys p h) (hp : p < ys.length) (hh : ¬ ((nth ys p).1.lo ≤ h ∧ h ≤ (nth ys p).1.hi)) : FoldR ys (p + 1) h := by
  rw [FoldR, take_nth hp]
  refine ⟨fun x hx => ?_, fun h' h0 h1 => ?_⟩
  · rcases List.mem_append.1 hx with hx | hx
    · exact hf.1 x hx
    · have : x = nth ys p := by simpa using hx
      subst this; exact hh
  · obtain ⟨x, hx, hc⟩ := hf.2 h' h0 h1; exact ⟨x, by simp [hx], hc⟩
theorem fold_done {ys cs : List BB} {l : List Bnd} {p : Nat} {h : Int} (hf : FoldR ys p h) (hp : ys.length ≤ p) (h0 : 0 ≤ h) (hperm : List.Perm ys cs) (hl : cs.map (·.1) = l) : HoldR l h := by
  subst hl
  rw [FoldR, List.take_of_length_le hp] at hf
  refine ⟨h0, fun b hb => ?_, fun h' h1 h2 => ?_⟩
  · obtain ⟨x, hx, rfl⟩ := List.mem_map.1 hb
    exact hf.1 x (hperm.mem_iff.2 hx)
  · obtain ⟨x, hx, hc⟩ := hf.2 h' h1 h2
    exact ⟨x.1, List.mem_map.2 ⟨x, hperm.mem_iff.1 hx, rfl⟩, hc⟩
theorem filter_len {n : Nat} {p : Nat → Bool} {xs : List (Ix n)} (h : xs.map (·.1) = (List.range n).filter p) : xs.length ≤ n := by
  have := congrArg List.length h
  rw [List.length_map] at this
  rw [this]
  exact Nat.le_trans (List.length_filter_le _ _) (by simp)

set_option maxHeartbeats 4000000 in
theorem hold_c (lim t : Nat) (vs : List HVoy) (ns : List Nar) (rows : List HSt) (av an ar : Option Addr) (bv ov bn on br cv cn cr : Nat) (i : Nat) (os hs : List Int) (ao ah : Option Addr) (bo oo co bh oh ch : Nat) (most : Int) (w0 : World) (htr : Traf lim t vs ns rows av an ar bv ov bn on br cv cn cr w0) (hi : i < vs.length) (hos : Sl encI 1 w0 ao bo oo os) (hosr : ∀ j ∈ os, 0 ≤ j ∧ j < vs.length) (hol : os.length ≤ 12) (hhs : Sl encI 1 w0 ah bh oh hs) (hhl : hs.length = vs.length) (hhr : ∀ h ∈ hs, 0 ≤ h ∧ h ≤ 5000) :
    CallsV Try.prog 101 [.pointer (some ⟨t, 0, none⟩), .int .i64 (i : Int), .slice ao os.length co, .slice ah hs.length ch, .int .i64 most] w0 (fun v w' => (∃ h, v = .tuple #[.int .i64 h, .bool (decide (h ≤ most))] ∧ HoldR (clL vs ns rows hs i os) h) ∧ Ext w0 w') := by
 have hll := htr.ll
 have htl := htr.tl
 have lt0 := htr.blk.lt
 have htb := htr.blk
 have hrw := htr.rowlen
 have hri := congrArg List.length (htr.row hi)
 rw [List.length_map] at hri
 have hfew := htr.few
 have E0 := Upd.refl (fun _ => False) w0
 refine f_enterM (N := 106) Try.func101 rfl rfl rfl ?_
 change WC _ _ _ _ _ _ [(0, .pointer (some ⟨t, 0, none⟩)), (1, .int .i64 (i : Int)), (2, .slice ao os.length co), (3, .slice ah hs.length ch), (4, .int .i64 most)] _
 refine c_seq fun K1 hK1 => (c_region (t_box (cs := [.pointer (some ⟨t, 0, none⟩)]) rfl rfl rfl rfl (fun bk2 w3 ebk2 sbk2 B4 u5 => ?_)))
 have zu5 := u5.size
 have E6 := E0.next u5 (fun _ _ h => h.elim)
 refine t_box (cs := [.int .i64 (i : Int)]) rfl rfl rfl rfl (fun bk7 w8 ebk7 sbk7 B9 u10 => ?_)
 have zu10 := u10.size
 have E11 := E6.next u10 (fun _ _ h => h.elim)
 refine t_box (cs := [.slice ah hs.length ch]) rfl rfl rfl rfl (fun bk12 w13 ebk12 sbk12 B14 u15 => ?_)
 have zu15 := u15.size
 have E16 := E11.next u15 (fun _ _ h => h.elim)
 refine t_assign rfl rfl rfl (t_assign rfl rfl rfl (t_nil' (hK1 _ _ (c_seq fun K17 hK17 => (c_region (t_alloc (cs := [.slice none 0 0]) Try.zeroValue183 rfl rfl rfl (fun bk18 w19 ebk18 sbk18 B20 u21 => ?_)))))))
 have zu21 := u21.size
 have E22 := E16.next u21 (fun _ _ h => h.elim)
 refine t_nil' (hK17 _ _ (c_seq fun K23 hK23 => (c_seq fun K24 hK24 => (c_region (t_move rfl rfl rfl (t_len Try.underlying27 rfl rfl rfl rfl (t_move rfl rfl rfl (t_nil' (hK24 _ _ (c_block (c_loopm (γ := Nat × Option Addr × Nat × Nat × List BB × List Deferred) (fun gg => [(4, .int .i64 most), (5, .pointer (some ⟨bk2, 0, none⟩)), (6, .pointer (some ⟨bk7, 0, none⟩)), (8, .pointer (some ⟨bk12, 0, none⟩)), (10, .int .i64 0), (12, .pointer (some ⟨bk18, 0, none⟩)), (20, .slice ao os.length co), (21, .int .i64 (os.length : Int)), (22, .int .i64 (gg.1 : Int))]) (fun gg => gg.2.2.2.2.2) (fun gg w => Upd (fun i => i = bk18) w19 w ∧ Blk w bk18 183 [.slice gg.2.1 gg.2.2.2.2.1.length gg.2.2.2.1] ∧ (gg.1 ≤ os.length) ∧ (gg.2.2.2.2.1.map (·.1) = clL vs ns rows hs i (os.take gg.1)) ∧ (gg.2.2.2.2.1.length ≤ 20 * gg.1) ∧ (Acc encBB 2 45 w19.heap.size w gg.2.1 gg.2.2.1 gg.2.2.2.1 gg.2.2.2.2.1) ∧ (Marks w0.heap.size gg.2.2.2.2.2 w)) (fun gg => os.length - gg.1) (0, none, 0, 0, [], []) rfl ⟨rfl, rfl, rfl, rfl, rfl, rfl, rfl, rfl, rfl, trivial⟩ ⟨Upd.refl _ _, B20, (Nat.zero_le _), rfl, (Nat.zero_le _), (Acc.nil _ _ _ _ _ (by omega) (Nat.le_refl _)), trivial⟩ ?_)))))))))))
 intro gg w26 hW K25 hK25
 obtain ⟨q, ao2, g2, c2, cs, dl⟩ := gg
 change WC _ _ _ _ _ _ [(4, .int .i64 most), (5, .pointer (some ⟨bk2, 0, none⟩)), (6, .pointer (some ⟨bk7, 0, none⟩)), (8, .pointer (some ⟨bk12, 0, none⟩)), (10, .int .i64 0), (12, .pointer (some ⟨bk18, 0, none⟩)), (20, .slice ao os.length co), (21, .int .i64 (os.length : Int)), (22, .int .i64 (q : Int))] _
 change Upd (fun i => i = bk18) w19 w26 ∧ Blk w26 bk18 183 [.slice ao2 cs.length c2] ∧ (q ≤ os.length) ∧ (cs.map (·.1) = clL vs ns rows hs i (os.take q)) ∧ (cs.length ≤ 20 * q) ∧ (Acc encBB 2 45 w19.heap.size w26 ao2 g2 c2 cs) ∧ (Marks w0.heap.size dl w26) at hW
 obtain ⟨u27, I28, I29, I30, I31, I32, I33⟩ := hW
 have zu27 := u27.size
 have E34 := E22.next u27 (fun i hi (h : i = bk18) => show False by first | omega | assumption)
 have hq := I29; clear I29
 have hmap := I30; clear I30
 have hcl := I31; clear I31
 have hacc := I32; clear I32
 have hmk := I33; clear I33
 have lt_g2 := hacc.lt
 refine c_seq fun K35 hK35 => (c_region (t_cmp rfl rfl rfl rfl rfl (t_nil' (hK35 _ _ (c_seq fun K36 hK36 => (c_condp rfl (fun g23 => ?_) (fun g23 => ?_)))))))
 ·
  refine c_skip (hK36 _ _ (c_seq fun K37 hK37 => (c_block (c_seq fun K38 hK38 => (c_region ?_)))))
  have i39 : q < os.length := (by omega)
  refine t_index (j := q) Try.underlying27 Try.sizeOf3 rfl rfl rfl rfl ((hos.keep E34 (fun _ h => h)).addr (by omega)) rfl i39 (t_load Try.isAgg3 rfl rfl rfl (((hos.keep E34 (fun _ h => h)).at_ q (by omega)) 0 _ rfl) ?_)
  have hjr := hosr _ (nth_mem (xs := os) (i := q) (by omega))
  have hjq : (nth os q).toNat < vs.length := by omega
  have hrj := congrArg List.length (htr.row hjq)
  rw [List.length_map] at hrj
  refine t_alloc (cs := [.int .i64 0]) Try.zeroValue3 rfl rfl rfl (fun bk40 w41 ebk40 sbk40 B42 u43 => ?_)
  have zu43 := u43.size
  have E44 := E34.next u43 (fun _ _ h => h.elim)
  refine t_store (vs := [.int .i64 (nth os q)]) Try.sizeOf3 rfl rfl rfl B42 rfl rfl (Nat.le_of_ble_eq_true rfl) (by simp [Value.oneCell']) (fun w45 sw45 B47 u46 => ?_)
  have zu46 := u46.size
  have E48 := E44.next u46 (fun i hi (h : i = bk40) => show False by first | omega | assumption)
  have B47 : Blk w45 bk40 3 [.int .i64 (nth os q)] := B47
  refine t_nil' (hK38 _ _ (c_seq fun K49 hK49 => (c_region ?_)))
  have B50 := ((((((B4.keep u10 (fun h => h)).keep u15 (fun h => h)).keep u21 (fun h => h)).keep u27 (show ¬ (bk2 = bk18) by first | omega | assumption)).keep u43 (fun h => h)).keep u46 (show ¬ (bk2 = bk40) by first | omega | assumption))
  refine t_load Try.isAgg124 rfl rfl rfl (B50.get rfl) ?_
  have B51 := (((((B9.keep u15 (fun h => h)).keep u21 (fun h => h)).keep u27 (show ¬ (bk7 = bk18) by first | omega | assumption)).keep u43 (fun h => h)).keep u46 (show ¬ (bk7 = bk40) by first | omega | assumption))
  refine t_load Try.isAgg3 rfl rfl rfl (B51.get rfl) (t_load Try.isAgg3 rfl rfl rfl (B47.get rfl) (t_same 28 (v := .int .i64 ((nth os q).toNat : Int)) rfl (congrArg (Value.int .i64) (by omega)) (t_call (vs := [.pointer (some ⟨t, 0, none⟩), .int .i64 (i : Int), .int .i64 ((nth os q).toNat : Int)]) own88 rfl rfl rfl rfl (bars_c t i (nth os q).toNat _) (fun v52 w53 r55 => ?_))))
  obtain ⟨⟨b3, b4, b5, rfl, hgb3, hgb4, hgb5, hBb3, hBb4, hBb5⟩, u54⟩ := r55
  have zu54 := u54.size
  have E56 := E48.next u54 (fun _ _ h => h.elim)
  refine t_nil' (hK49 _ _ (c_block (WC.weak [(4, .int .i64 most), (5, .pointer (some ⟨bk2, 0, none⟩)), (6, .pointer (some ⟨bk7, 0, none⟩)), (8, .pointer (some ⟨bk12, 0, none⟩)), (10, .int .i64 0), (12, .pointer (some ⟨bk18, 0, none⟩)), (14, .pointer (some ⟨bk40, 0, none⟩)), (20, .slice ao os.length co), (21, .int .i64 (os.length : Int)), (22, .int .i64 (q : Int)), (29, .func (.func 108) #[] #[.pointer (some ⟨b3, 0, none⟩), .pointer (some ⟨b4, 0, none⟩), .pointer (some ⟨b5, 0, none⟩)])] ⟨rfl, rfl, rfl, rfl, rfl, rfl, rfl, rfl, rfl, rfl, rfl, trivial⟩ ?_)))
  have B57 := (((I28.keep u43 (fun h => h)).keep u46 (show ¬ (bk18 = bk40) by first | omega | assumption)).keep u54 (fun h => h))
  have hl3 := hBb3.lt
  have hl4 := hBb4.lt
  have hl5 := hBb5.lt
  have hl12 := B57.lt
  have htl2 := hll
  have D58 := (((hacc.keep u43 (fun _ h => h)).keep u46 (fun hb => show ¬ (g2 = bk40) by first | omega | assumption)).keep u54 (fun _ h => h))
  have D59 := ((((((((htr.keep u5 (fun _ _ h => h)).keep u10 (fun _ _ h => h)).keep u15 (fun _ _ h => h)).keep u21 (fun _ _ h => h)).keep u27 (fun i hi => show ¬ (i = bk18) by omega)).keep u43 (fun _ _ h => h)).keep u46 (fun i hi => show ¬ (i = bk40) by omega)).keep u54 (fun _ _ h => h))
  refine c_range (α := (Ix ns.length)) (lb := [.pointer (some ⟨b3, 0, none⟩), .pointer (some ⟨b4, 0, none⟩), .pointer (some ⟨b5, 0, none⟩)]) (enc := encIx) (T := fun i => i = bk18 ∨ (i = g2 ∧ w19.heap.size ≤ i) ∨ w53.heap.size ≤ i) own108 rfl rfl (bars_seq lim t vs ns rows av an ar bv ov bn on br cv cn cr i (nth os q).toNat b3 b4 b5 _ _ D59 hi hjq hBb3 hBb4 hBb5 (htr.off fun i hi => show ¬ (i = bk18 ∨ (i = g2 ∧ w19.heap.size ≤ i) ∨ w53.heap.size ≤ i) by omega) (show ¬ (b3 = bk18 ∨ (b3 = g2 ∧ w19.heap.size ≤ b3) ∨ w53.heap.size ≤ b3) by omega) (show ¬ (b4 = bk18 ∨ (b4 = g2 ∧ w19.heap.size ≤ b4) ∨ w53.heap.size ≤ b4) by omega) (show ¬ (b5 = bk18 ∨ (b5 = g2 ∧ w19.heap.size ≤ b5) ∨ w53.heap.size ≤ b5) by omega)) (fun i hi => by omega) (fun pre w => ∃ ao3 : Option Addr, ∃ g3 : Nat, ∃ c3 : Nat, ∃ cs3 : List BB, Upd (fun i => i = bk18 ∨ (i = g2 ∧ w19.heap.size ≤ i)) w53 w ∧ Blk w bk18 183 [.slice ao3 cs3.length c3] ∧ (Acc encBB 2 45 w19.heap.size w ao3 g3 c3 cs3) ∧ (cs3.map (·.1) = cs.map (·.1) ++ pre.map (fun k => clB rows hs i (nth os q).toNat k.1)) ∧ (g3 = g2 ∨ w53.heap.size ≤ g3) ∧ (cs3.length = cs.length + pre.length)) (ownFrom_ex (fun ao3 => ownFrom_ex (fun g3 => ownFrom_ex (fun c3 => ownFrom_ex (fun cs3 => (ownFrom_upd (Nat.le_refl _)).and (ownFrom_blk.and (ownFrom_acc.and ((ownFrom_pure _ _).and ((ownFrom_pure _ _).and (ownFrom_pure _ _)))))))))) ⟨ao2, g2, c2, cs, Upd.refl _ _, B57, D58, (by simp), (.inl rfl), (by simp)⟩ (fun x => [(4, .int .i64 most), (5, .pointer (some ⟨bk2, 0, none⟩)), (6, .pointer (some ⟨bk7, 0, none⟩)), (8, .pointer (some ⟨bk12, 0, none⟩)), (10, .int .i64 0), (12, .pointer (some ⟨bk18, 0, none⟩)), (14, .pointer (some ⟨bk40, 0, none⟩)), (15, .int .i64 (x.1 : Int)), (20, .slice ao os.length co), (21, .int .i64 (os.length : Int)), (22, .int .i64 (q : Int))]) ?_ ?_ ?_
  ·
   intro l pre x W K60 hI hK60
   change WC _ _ _ _ _ _ [(30, .int .i64 (x.1 : Int)), (4, .int .i64 most), (5, .pointer (some ⟨bk2, 0, none⟩)), (6, .pointer (some ⟨bk7, 0, none⟩)), (8, .pointer (some ⟨bk12, 0, none⟩)), (10, .int .i64 0), (12, .pointer (some ⟨bk18, 0, none⟩)), (14, .pointer (some ⟨bk40, 0, none⟩)), (20, .slice ao os.length co), (21, .int .i64 (os.length : Int)), (22, .int .i64 (q : Int)), (29, .func (.func 108) #[] #[.pointer (some ⟨b3, 0, none⟩), .pointer (some ⟨b4, 0, none⟩), .pointer (some ⟨b5, 0, none⟩)])] _
   refine c_region (t_assign rfl rfl rfl (t_nil' ?_))
   exact hK60 _ ⟨rfl, rfl, rfl, rfl, rfl, rfl, rfl, rfl, rfl, rfl, rfl, trivial⟩
  ·
   intro l pre x w61 hI hlen
   obtain ⟨ao3, g3, c3, cs3, u62, I63, I64, I65, I66, I67⟩ := hI
   change WC _ _ _ _ _ _ [(4, .int .i64 most), (5, .pointer (some ⟨bk2, 0, none⟩)), (6, .pointer (some ⟨bk7, 0, none⟩)), (8, .pointer (some ⟨bk12, 0, none⟩)), (10, .int .i64 0), (12, .pointer (some ⟨bk18, 0, none⟩)), (14, .pointer (some ⟨bk40, 0, none⟩)), (15, .int .i64 (x.1 : Int)), (20, .slice ao os.length co), (21, .int .i64 (os.length : Int)), (22, .int .i64 (q : Int))] _
   have zu62 := u62.size
   have E68 := E56.next u62 (fun i hi (h : i = bk18 ∨ (i = g2 ∧ w19.heap.size ≤ i)) => show False by first | omega | assumption)
   have hacc3 := I64; clear I64
   have hmap3 := I65; clear I65
   have hg3 := I66; clear I66
   have hcl3 := I67; clear I67
   have lt_g3 := hacc3.lt
   have hx := x.2
   have hsi := htr.stayr hi x.2
   have hsj := htr.stayr hjq x.2
   unfold RStay at hsi hsj
   have hhq := hhr _ (nth_mem (xs := hs) (i := (nth os q).toNat) (by omega))
   have hpl : pre.length < 21 := hlen
   have hcellsR := ((I63).cellsIn.or (hacc3).cellsIn)
   refine c_block (c_seq fun K69 hK69 => ?_)
   have B70 := ((B50.keep u54 (fun h => h)).keep u62 (show ¬ (bk2 = bk18 ∨ (bk2 = g2 ∧ w19.heap.size ≤ bk2)) by first | omega | assumption))
   have B71 := ((B51.keep u54 (fun h => h)).keep u62 (show ¬ (bk7 = bk18 ∨ (bk7 = g2 ∧ w19.heap.size ≤ bk7)) by first | omega | assumption))
   have B72 := ((B47.keep u54 (fun h => h)).keep u62 (show ¬ (bk40 = bk18 ∨ (bk40 = g2 ∧ w19.heap.size ≤ bk40)) by first | omega | assumption))
   refine WC.weak [(4, .int .i64 most), (5, .pointer (some ⟨bk2, 0, none⟩)), (6, .pointer (some ⟨bk7, 0, none⟩)), (8, .pointer (some ⟨bk12, 0, none⟩)), (10, .int .i64 0), (12, .pointer (some ⟨bk18, 0, none⟩)), (14, .pointer (some ⟨bk40, 0, none⟩)), (15, .int .i64 (x.1 : Int)), (20, .slice ao os.length co), (21, .int .i64 (os.length : Int)), (22, .int .i64 (q : Int))] ⟨rfl, rfl, rfl, rfl, rfl, rfl, rfl, rfl, rfl, rfl, rfl, trivial⟩ (c_drawn follows 24 [some (31, some (.pointer (some ⟨t, 0, none⟩))), some (32, some (.pointer (some ⟨t, 0, none⟩))), some (33, some (.pointer (some ⟨t, 2, none⟩))), some (34, some (.slice ar rows.length cr)), some (35, some (.int .i64 (i : Int))), some (36, some (.pointer (some ⟨br, 0 + i * 1, none⟩))), some (37, some (.slice ((nth rows i).ao) (((nth rows i).ss).length) ((nth rows i).cap))), some (38, some (.int .i64 (x.1 : Int))), some (39, some (.pointer (some ⟨(nth rows i).g, 0 + x.1 * 5, none⟩))), some (40, some (.agg #[.int .i64 ((nth ((nth rows i).ss) x.1).inn.lo), .int .i64 ((nth ((nth rows i).ss) x.1).inn.hi), .int .i64 ((nth ((nth rows i).ss) x.1).out.lo), .int .i64 ((nth ((nth rows i).ss) x.1).out.hi), .bool ((nth ((nth rows i).ss) x.1).there)])), some (41, some (.pointer (some ⟨t, 0, none⟩))), some (42, some (.pointer (some ⟨t, 0, none⟩))), some (43, some (.pointer (some ⟨t, 2, none⟩))), some (44, some (.slice ar rows.length cr)), some (45, some (.int .i64 (nth os q))), some (46, some (.pointer (some ⟨br, 0 + (nth os q).toNat * 1, none⟩))), some (47, some (.slice ((nth rows ((nth os q).toNat)).ao) (((nth rows ((nth os q).toNat)).ss).length) ((nth rows ((nth os q).toNat)).cap))), some (48, some (.int .i64 (x.1 : Int))), some (49, some (.pointer (some ⟨(nth rows ((nth os q).toNat)).g, 0 + x.1 * 5, none⟩))), some (50, some (.agg #[.int .i64 ((nth ((nth rows ((nth os q).toNat)).ss) x.1).inn.lo), .int .i64 ((nth ((nth rows ((nth os q).toNat)).ss) x.1).inn.hi), .int .i64 ((nth ((nth rows ((nth os q).toNat)).ss) x.1).out.lo), .int .i64 ((nth ((nth rows ((nth os q).toNat)).ss) x.1).out.hi), .bool ((nth ((nth rows ((nth os q).toNat)).ss) x.1).there)])), some (16, none), some (17, none), none, none] [[],[0],[1],[2],[],[3,4],[5],[],[6,7],[8],[],[10],[11],[12],[],[13,14],[15],[],[16,17],[18],[],[],[20,9,0,1,2,3,4,5,6,7,8,9,20,21],[21,19,22,0,1,2,3,4,5,6,7,8,9,10,11,12,13,14,15,16,17,18,19,20,21,22]] (fun D ρ w => Upd (fun _ => False) w61 w ∧ (D 20 = true → ∃ bk79, ρ 20 = .pointer (some ⟨bk79, 0, none⟩) ∧ w61.heap.size ≤ bk79 ∧ Blk w bk79 141 [(bif D 22 then .int .i64 ((nth ((nth rows i).ss) x.1).inn.lo) else .int .i64 0), (bif D 22 then .int .i64 ((nth ((nth rows i).ss) x.1).inn.hi) else .int .i64 0), (bif D 22 then .int .i64 ((nth ((nth rows i).ss) x.1).out.lo) else .int .i64 0), (bif D 22 then .int .i64 ((nth ((nth rows i).ss) x.1).out.hi) else .int .i64 0), (bif D 22 then .bool ((nth ((nth rows i).ss) x.1).there) else .bool false)]) ∧ (D 21 = true → ∃ bk84, ρ 21 = .pointer (some ⟨bk84, 0, none⟩) ∧ w61.heap.size ≤ bk84 ∧ Blk w bk84 141 [(bif D 23 then .int .i64 ((nth ((nth rows ((nth os q).toNat)).ss) x.1).inn.lo) else .int .i64 0), (bif D 23 then .int .i64 ((nth ((nth rows ((nth os q).toNat)).ss) x.1).inn.hi) else .int .i64 0), (bif D 23 then .int .i64 ((nth ((nth rows ((nth os q).toNat)).ss) x.1).out.lo) else .int .i64 0), (bif D 23 then .int .i64 ((nth ((nth rows ((nth os q).toNat)).ss) x.1).out.hi) else .int .i64 0), (bif D 23 then .bool ((nth ((nth rows ((nth os q).toNat)).ss) x.1).there) else .bool false)]) ∧ (∀ b c, D 20 = true → D 21 = true → ρ 20 = .pointer (some ⟨b, 0, none⟩) → ρ 21 = .pointer (some ⟨c, 0, none⟩) → b ≠ c)) rfl rfl rfl (by kernel_rfl) (by kernel_rfl) ⟨(Upd.drew _).to, (fun h => by cases h), (fun h => by cases h), (fun _ _ h => by cases h)⟩ ⟨?_, ?_, ?_, ?_, ?_, ?_, ?_, ?_, ?_, ?_, ?_, ?_, ?_, ?_, ?_, ?_, ?_, ?_, ?_, ?_, ?_, ?_, ?_, ?_, trivial⟩ ?_)
   · exact fun D ρ w89 hcD hnD hdD hW => ⟨_, kf_fr [5], fun Lr => t_load Try.isAgg124 rfl rfl rfl ((B70.keep hW.1 (fun h => h)).get rfl) (dz rfl hW)⟩
   · exact pz rfl rfl rfl rfl fun _ _ _ h => h
   · exact pzf Try.underlying160 rfl Try.sizeOf158 (2) rfl rfl rfl rfl rfl fun _ _ _ h => h
   · exact fun D ρ w96 hcD hnD hdD hW => ⟨_, kf_fr [33], fun Lr => t_load Try.isAgg158 rfl rfl rfl (((((((((((htb.keep u5 (fun h => h)).keep u10 (fun h => h)).keep u15 (fun h => h)).keep u21 (fun h => h)).keep u27 (show ¬ (t = bk18) by first | omega | assumption)).keep u43 (fun h => h)).keep u46 (show ¬ (t = bk40) by first | omega | assumption)).keep u54 (fun h => h)).keep u62 (show ¬ (t = bk18 ∨ (t = g2 ∧ w19.heap.size ≤ t)) by first | omega | assumption)).keep hW.1 (fun h => h)).get rfl) (dz rfl hW)⟩
   · exact fun D ρ w103 hcD hnD hdD hW => ⟨_, kf_fr [6], fun Lr => t_load Try.isAgg3 rfl rfl rfl ((B71.keep hW.1 (fun h => h)).get rfl) (dz rfl hW)⟩
   · exact fun D ρ w110 hcD hnD hdD hW => ⟨_, kf_fr [34, 35], fun Lr => t_index (j := i) Try.underlying158 Try.sizeOf157 rfl rfl rfl rfl (((D59.keep u62 (fun i hi => show ¬ (i = bk18 ∨ (i = g2 ∧ w19.heap.size ≤ i)) by omega)).keep hW.1 (fun _ _ h => h)).ssl.addr (by omega)) rfl (by omega) (dz rfl hW)⟩
   · exact fun D ρ w118 hcD hnD hdD hW => ⟨_, kf_fr [36], fun Lr => t_load Try.isAgg157 rfl rfl rfl ((((D59.keep u62 (fun i hi => show ¬ (i = bk18 ∨ (i = g2 ∧ w19.heap.size ≤ i)) by omega)).keep hW.1 (fun _ _ h => h)).ssl.at_ i (by omega)) 0 _ rfl) (dz rfl hW)⟩
   · exact pz rfl rfl rfl rfl fun _ _ _ h => h
   · exact fun D ρ w125 hcD hnD hdD hW => ⟨_, kf_fr [37, 38], fun Lr => t_index (j := x.1) Try.underlying157 Try.sizeOf141 rfl rfl rfl rfl ((((D59.keep u62 (fun i hi => show ¬ (i = bk18 ∨ (i = g2 ∧ w19.heap.size ≤ i)) by omega)).keep hW.1 (fun _ _ h => h)).rsl (nth rows i) (nth_mem (by omega))).addr (by omega)) rfl (by omega) (dz rfl hW)⟩
   · exact fun D ρ w133 hcD hnD hdD hW => ⟨_, kf_fr [39], fun Lr => t_loadN (vs := [.int .i64 ((nth ((nth rows i).ss) x.1).inn.lo), .int .i64 ((nth ((nth rows i).ss) x.1).inn.hi), .int .i64 ((nth ((nth rows i).ss) x.1).out.lo), .int .i64 ((nth ((nth rows i).ss) x.1).out.hi), .bool ((nth ((nth rows i).ss) x.1).there)]) Try.isAgg141 Try.sizeOf141 rfl rfl rfl (((((D59.keep u62 (fun i hi => show ¬ (i = bk18 ∨ (i = g2 ∧ w19.heap.size ≤ i)) by omega)).keep hW.1 (fun _ _ h => h)).rsl (nth rows i) (nth_mem (by omega))).at_ x.1 (by omega)).sub 0 5) rfl (dz rfl hW)⟩
   · exact fun D ρ w140 hcD hnD hdD hW => ⟨_, kf_fr [5], fun Lr => t_load Try.isAgg124 rfl rfl rfl ((B70.keep hW.1 (fun h => h)).get rfl) (dz rfl hW)⟩
   · exact pz rfl rfl rfl rfl fun _ _ _ h => h
   · exact pzf Try.underlying160 rfl Try.sizeOf158 (2) rfl rfl rfl rfl rfl fun _ _ _ h => h
   · exact fun D ρ w147 hcD hnD hdD hW => ⟨_, kf_fr [43], fun Lr => t_load Try.isAgg158 rfl rfl rfl (((((((((((htb.keep u5 (fun h => h)).keep u10 (fun h => h)).keep u15 (fun h => h)).keep u21 (fun h => h)).keep u27 (show ¬ (t = bk18) by first | omega | assumption)).keep u43 (fun h => h)).keep u46 (show ¬ (t = bk40) by first | omega | assumption)).keep u54 (fun h => h)).keep u62 (show ¬ (t = bk18 ∨ (t = g2 ∧ w19.heap.size ≤ t)) by first | omega | assumption)).keep hW.1 (fun h => h)).get rfl) (dz rfl hW)⟩
   · exact fun D ρ w154 hcD hnD hdD hW => ⟨_, kf_fr [14], fun Lr => t_load Try.isAgg3 rfl rfl rfl ((B72.keep hW.1 (fun h => h)).get rfl) (dz rfl hW)⟩
   · exact fun D ρ w161 hcD hnD hdD hW => ⟨_, kf_fr [44, 45], fun Lr => t_index (j := (nth os q).toNat) Try.underlying158 Try.sizeOf157 rfl rfl rfl rfl (((D59.keep u62 (fun i hi => show ¬ (i = bk18 ∨ (i = g2 ∧ w19.heap.size ≤ i)) by omega)).keep hW.1 (fun _ _ h => h)).ssl.addr (by omega)) (by omega) (by omega) (dz rfl hW)⟩
   · exact fun D ρ w169 hcD hnD hdD hW => ⟨_, kf_fr [46], fun Lr => t_load Try.isAgg157 rfl rfl rfl ((((D59.keep u62 (fun i hi => show ¬ (i = bk18 ∨ (i = g2 ∧ w19.heap.size ≤ i)) by omega)).keep hW.1 (fun _ _ h => h)).ssl.at_ ((nth os q).toNat) (by omega)) 0 _ rfl) (dz rfl hW)⟩
   · exact pz rfl rfl rfl rfl fun _ _ _ h => h
   · exact fun D ρ w176 hcD hnD hdD hW => ⟨_, kf_fr [47, 48], fun Lr => t_index (j := x.1) Try.underlying157 Try.sizeOf141 rfl rfl rfl rfl ((((D59.keep u62 (fun i hi => show ¬ (i = bk18 ∨ (i = g2 ∧ w19.heap.size ≤ i)) by omega)).keep hW.1 (fun _ _ h => h)).rsl (nth rows ((nth os q).toNat)) (nth_mem (by omega))).addr (by omega)) rfl (by omega) (dz rfl hW)⟩
   · exact fun D ρ w184 hcD hnD hdD hW => ⟨_, kf_fr [49], fun Lr => t_loadN (vs := [.int .i64 ((nth ((nth rows ((nth os q).toNat)).ss) x.1).inn.lo), .int .i64 ((nth ((nth rows ((nth os q).toNat)).ss) x.1).inn.hi), .int .i64 ((nth ((nth rows ((nth os q).toNat)).ss) x.1).out.lo), .int .i64 ((nth ((nth rows ((nth os q).toNat)).ss) x.1).out.hi), .bool ((nth ((nth rows ((nth os q).toNat)).ss) x.1).there)]) Try.isAgg141 Try.sizeOf141 rfl rfl rfl (((((D59.keep u62 (fun i hi => show ¬ (i = bk18 ∨ (i = g2 ∧ w19.heap.size ≤ i)) by omega)).keep hW.1 (fun _ _ h => h)).rsl (nth rows ((nth os q).toNat)) (nth_mem (by omega))).at_ x.1 (by omega)).sub 0 5) rfl (dz rfl hW)⟩
   ·
    intro D ρ w191 hcD hnD hdD hW
    obtain ⟨u192, F193, F194, P195⟩ := hW
    have zu192 := u192.size
    refine ⟨[], trivial, fun Lr => ?_⟩
    refine t_alloc (cs := [.int .i64 0, .int .i64 0, .int .i64 0, .int .i64 0, .bool false]) Try.zeroValue141 rfl rfl rfl (fun bk197 w198 ebk197 sbk197 B199 u200 => ?_)
    have zu200 := u200.size
    have d22 := hcD.late 22 hnD rfl
    exact dzn rfl ⟨(u192.next u200 (fun _ _ h => h.elim)), (fun _ => ⟨bk197, rfl, (by omega), (by show Blk w198 bk197 141 [(bif D 22 then .int .i64 ((nth ((nth rows i).ss) x.1).inn.lo) else .int .i64 0), (bif D 22 then .int .i64 ((nth ((nth rows i).ss) x.1).inn.hi) else .int .i64 0), (bif D 22 then .int .i64 ((nth ((nth rows i).ss) x.1).out.lo) else .int .i64 0), (bif D 22 then .int .i64 ((nth ((nth rows i).ss) x.1).out.hi) else .int .i64 0), (bif D 22 then .bool ((nth ((nth rows i).ss) x.1).there) else .bool false)]; simp only [d22, cond_false]; exact B199)⟩), (fun h => by obtain ⟨b, e, hge, hB⟩ := F194 h; exact ⟨b, e, hge, (hB.keep u200 (fun h => h))⟩), (fun b c h1 h2 e1 e2 => by obtain ⟨b1, e3, _, hB⟩ := F194 h2; have hl := hB.lt; have e4 : Value.pointer (some ⟨b1, 0, none⟩) = .pointer (some ⟨c, 0, none⟩) := e3.symm.trans e2; have e5 : Value.pointer (some ⟨bk197, 0, none⟩) = .pointer (some ⟨b, 0, none⟩) := e1; simp at e4 e5; omega)⟩
   ·
    intro D ρ w202 hcD hnD hdD hW
    obtain ⟨u203, F204, F205, P206⟩ := hW
    have zu203 := u203.size
    refine ⟨[], trivial, fun Lr => ?_⟩
    refine t_alloc (cs := [.int .i64 0, .int .i64 0, .int .i64 0, .int .i64 0, .bool false]) Try.zeroValue141 rfl rfl rfl (fun bk208 w209 ebk208 sbk208 B210 u211 => ?_)
    have zu211 := u211.size
    have d23 := hcD.late 23 hnD rfl
    exact dzn rfl ⟨(u203.next u211 (fun _ _ h => h.elim)), (fun h => by obtain ⟨b, e, hge, hB⟩ := F204 h; exact ⟨b, e, hge, (hB.keep u211 (fun h => h))⟩), (fun _ => ⟨bk208, rfl, (by omega), (by show Blk w209 bk208 141 [(bif D 23 then .int .i64 ((nth ((nth rows ((nth os q).toNat)).ss) x.1).inn.lo) else .int .i64 0), (bif D 23 then .int .i64 ((nth ((nth rows ((nth os q).toNat)).ss) x.1).inn.hi) else .int .i64 0), (bif D 23 then .int .i64 ((nth ((nth rows ((nth os q).toNat)).ss) x.1).out.lo) else .int .i64 0), (bif D 23 then .int .i64 ((nth ((nth rows ((nth os q).toNat)).ss) x.1).out.hi) else .int .i64 0), (bif D 23 then .bool ((nth ((nth rows ((nth os q).toNat)).ss) x.1).there) else .bool false)]; simp only [d23, cond_false]; exact B210)⟩), (fun b c h1 h2 e1 e2 => by obtain ⟨b1, e3, _, hB⟩ := F204 h1; have hl := hB.lt; have e4 : Value.pointer (some ⟨b1, 0, none⟩) = .pointer (some ⟨b, 0, none⟩) := e3.symm.trans e1; have e5 : Value.pointer (some ⟨bk208, 0, none⟩) = .pointer (some ⟨c, 0, none⟩) := e2; simp at e4 e5; omega)⟩
   ·
    intro D ρ w213 hcD hnD hdD hW
    obtain ⟨u214, F215, F216, P217⟩ := hW
    have zu214 := u214.size
    obtain ⟨bk79, e219, gebk79, B220⟩ := F215 (hdD 20 rfl)
    have B221 := B220
    simp only [hnD, cond_false] at B221
    refine ⟨[(16, .pointer (some ⟨bk79, 0, none⟩)), (40, .agg #[.int .i64 ((nth ((nth rows i).ss) x.1).inn.lo), .int .i64 ((nth ((nth rows i).ss) x.1).inn.hi), .int .i64 ((nth ((nth rows i).ss) x.1).out.lo), .int .i64 ((nth ((nth rows i).ss) x.1).out.hi), .bool ((nth ((nth rows i).ss) x.1).there)])], ⟨fi 20 rfl rfl e219.symm, fi 9 rfl rfl rfl, trivial⟩, fun Lr => ?_⟩
    refine t_store (vs := [.int .i64 ((nth ((nth rows i).ss) x.1).inn.lo), .int .i64 ((nth ((nth rows i).ss) x.1).inn.hi), .int .i64 ((nth ((nth rows i).ss) x.1).out.lo), .int .i64 ((nth ((nth rows i).ss) x.1).out.hi), .bool ((nth ((nth rows i).ss) x.1).there)]) Try.sizeOf141 rfl rfl rfl B221 rfl rfl (Nat.le_of_ble_eq_true rfl) (by simp [Value.oneCell']) (fun w222 sw222 B224 u223 => ?_)
    have zu223 := u223.size
    have B224 : Blk w222 bk79 141 [.int .i64 ((nth ((nth rows i).ss) x.1).inn.lo), .int .i64 ((nth ((nth rows i).ss) x.1).inn.hi), .int .i64 ((nth ((nth rows i).ss) x.1).out.lo), .int .i64 ((nth ((nth rows i).ss) x.1).out.hi), .bool ((nth ((nth rows i).ss) x.1).there)] := B224
    exact dz0 rfl ⟨(u214.next u223 (fun i hi (h : i = bk79) => show False by first | omega | assumption)), (fun _ => ⟨bk79, e219, gebk79, (by show Blk w222 bk79 141 [.int .i64 ((nth ((nth rows i).ss) x.1).inn.lo), .int .i64 ((nth ((nth rows i).ss) x.1).inn.hi), .int .i64 ((nth ((nth rows i).ss) x.1).out.lo), .int .i64 ((nth ((nth rows i).ss) x.1).out.hi), .bool ((nth ((nth rows i).ss) x.1).there)]; exact B224)⟩), (fun h => by obtain ⟨b, e, hge, hB⟩ := F216 h; have hne := P217 _ _ (hdD 20 rfl) h e219 e; exact ⟨b, e, hge, (hB.keep u223 (show ¬ (b = bk79) by first | omega | assumption))⟩), P217⟩
   ·
    intro D ρ w226 hcD hnD hdD hW
    obtain ⟨u227, F228, F229, P230⟩ := hW
    have zu227 := u227.size
    obtain ⟨bk84, e232, gebk84, B233⟩ := F229 (hdD 21 rfl)
    have B234 := B233
    simp only [hnD, cond_false] at B234
    refine ⟨[(17, .pointer (some ⟨bk84, 0, none⟩)), (50, .agg #[.int .i64 ((nth ((nth rows ((nth os q).toNat)).ss) x.1).inn.lo), .int .i64 ((nth ((nth rows ((nth os q).toNat)).ss) x.1).inn.hi), .int .i64 ((nth ((nth rows ((nth os q).toNat)).ss) x.1).out.lo), .int .i64 ((nth ((nth rows ((nth os q).toNat)).ss) x.1).out.hi), .bool ((nth ((nth rows ((nth os q).toNat)).ss) x.1).there)])], ⟨fi 21 rfl rfl e232.symm, fi 19 rfl rfl rfl, trivial⟩, fun Lr => ?_⟩
    refine t_store (vs := [.int .i64 ((nth ((nth rows ((nth os q).toNat)).ss) x.1).inn.lo), .int .i64 ((nth ((nth rows ((nth os q).toNat)).ss) x.1).inn.hi), .int .i64 ((nth ((nth rows ((nth os q).toNat)).ss) x.1).out.lo), .int .i64 ((nth ((nth rows ((nth os q).toNat)).ss) x.1).out.hi), .bool ((nth ((nth rows ((nth os q).toNat)).ss) x.1).there)]) Try.sizeOf141 rfl rfl rfl B234 rfl rfl (Nat.le_of_ble_eq_true rfl) (by simp [Value.oneCell']) (fun w235 sw235 B237 u236 => ?_)
    have zu236 := u236.size
    have B237 : Blk w235 bk84 141 [.int .i64 ((nth ((nth rows ((nth os q).toNat)).ss) x.1).inn.lo), .int .i64 ((nth ((nth rows ((nth os q).toNat)).ss) x.1).inn.hi), .int .i64 ((nth ((nth rows ((nth os q).toNat)).ss) x.1).out.lo), .int .i64 ((nth ((nth rows ((nth os q).toNat)).ss) x.1).out.hi), .bool ((nth ((nth rows ((nth os q).toNat)).ss) x.1).there)] := B237
    exact dz0 rfl ⟨(u227.next u236 (fun i hi (h : i = bk84) => show False by first | omega | assumption)), (fun h => by obtain ⟨b, e, hge, hB⟩ := F228 h; have hne := P230 _ _ h (hdD 21 rfl) e e232; exact ⟨b, e, hge, (hB.keep u236 (show ¬ (b = bk84) by first | omega | assumption))⟩), (fun _ => ⟨bk84, e232, gebk84, (by show Blk w235 bk84 141 [.int .i64 ((nth ((nth rows ((nth os q).toNat)).ss) x.1).inn.lo), .int .i64 ((nth ((nth rows ((nth os q).toNat)).ss) x.1).inn.hi), .int .i64 ((nth ((nth rows ((nth os q).toNat)).ss) x.1).out.lo), .int .i64 ((nth ((nth rows ((nth os q).toNat)).ss) x.1).out.hi), .bool ((nth ((nth rows ((nth os q).toNat)).ss) x.1).there)]; exact B237)⟩), P230⟩
   intro ρ w239 hW
   obtain ⟨u240, F241, F242, P243⟩ := hW
   have zu240 := u240.size
   have E244 := E68.next u240 (fun _ _ h => h.elim)
   obtain ⟨bk79, e245, gebk79, B246⟩ := F241 rfl
   have B246 : Blk w239 bk79 141 [.int .i64 ((nth ((nth rows i).ss) x.1).inn.lo), .int .i64 ((nth ((nth rows i).ss) x.1).inn.hi), .int .i64 ((nth ((nth rows i).ss) x.1).out.lo), .int .i64 ((nth ((nth rows i).ss) x.1).out.hi), .bool ((nth ((nth rows i).ss) x.1).there)] := B246
   have lt_bk79 := B246.lt
   obtain ⟨bk84, e247, gebk84, B248⟩ := F242 rfl
   have B248 : Blk w239 bk84 141 [.int .i64 ((nth ((nth rows ((nth os q).toNat)).ss) x.1).inn.lo), .int .i64 ((nth ((nth rows ((nth os q).toNat)).ss) x.1).inn.hi), .int .i64 ((nth ((nth rows ((nth os q).toNat)).ss) x.1).out.lo), .int .i64 ((nth ((nth rows ((nth os q).toNat)).ss) x.1).out.hi), .bool ((nth ((nth rows ((nth os q).toNat)).ss) x.1).there)] := B248
   have lt_bk84 := B248.lt
   have nbk79_bk84 := P243 _ _ rfl rfl e245 e247
   refine QK.weak [(4, .int .i64 most), (5, .pointer (some ⟨bk2, 0, none⟩)), (6, .pointer (some ⟨bk7, 0, none⟩)), (8, .pointer (some ⟨bk12, 0, none⟩)), (10, .int .i64 0), (12, .pointer (some ⟨bk18, 0, none⟩)), (14, .pointer (some ⟨bk40, 0, none⟩)), (15, .int .i64 (x.1 : Int)), (16, .pointer (some ⟨bk79, 0, none⟩)), (17, .pointer (some ⟨bk84, 0, none⟩)), (20, .slice ao os.length co), (21, .int .i64 (os.length : Int)), (22, .int .i64 (q : Int)), (31, .pointer (some ⟨t, 0, none⟩)), (32, .pointer (some ⟨t, 0, none⟩)), (33, .pointer (some ⟨t, 2, none⟩)), (34, .slice ar rows.length cr), (35, .int .i64 (i : Int)), (36, .pointer (some ⟨br, 0 + i * 1, none⟩)), (37, .slice ((nth rows i).ao) (((nth rows i).ss).length) ((nth rows i).cap)), (38, .int .i64 (x.1 : Int)), (39, .pointer (some ⟨(nth rows i).g, 0 + x.1 * 5, none⟩)), (40, .agg #[.int .i64 ((nth ((nth rows i).ss) x.1).inn.lo), .int .i64 ((nth ((nth rows i).ss) x.1).inn.hi), .int .i64 ((nth ((nth rows i).ss) x.1).out.lo), .int .i64 ((nth ((nth rows i).ss) x.1).out.hi), .bool ((nth ((nth rows i).ss) x.1).there)]), (41, .pointer (some ⟨t, 0, none⟩)), (42, .pointer (some ⟨t, 0, none⟩)), (43, .pointer (some ⟨t, 2, none⟩)), (44, .slice ar rows.length cr), (45, .int .i64 (nth os q)), (46, .pointer (some ⟨br, 0 + (nth os q).toNat * 1, none⟩)), (47, .slice ((nth rows ((nth os q).toNat)).ao) (((nth rows ((nth os q).toNat)).ss).length) ((nth rows ((nth os q).toNat)).cap)), (48, .int .i64 (x.1 : Int)), (49, .pointer (some ⟨(nth rows ((nth os q).toNat)).g, 0 + x.1 * 5, none⟩)), (50, .agg #[.int .i64 ((nth ((nth rows ((nth os q).toNat)).ss) x.1).inn.lo), .int .i64 ((nth ((nth rows ((nth os q).toNat)).ss) x.1).inn.hi), .int .i64 ((nth ((nth rows ((nth os q).toNat)).ss) x.1).out.lo), .int .i64 ((nth ((nth rows ((nth os q).toNat)).ss) x.1).out.hi), .bool ((nth ((nth rows ((nth os q).toNat)).ss) x.1).there)])] ⟨rfl, rfl, rfl, rfl, rfl, rfl, rfl, rfl, (look_nd (j := 20) rfl rfl rfl e245), (look_nd (j := 21) rfl rfl rfl e247), rfl, rfl, rfl, rfl, rfl, rfl, rfl, rfl, rfl, rfl, rfl, rfl, rfl, rfl, rfl, rfl, rfl, rfl, rfl, rfl, rfl, rfl, rfl, trivial⟩ (hK69 _ _ ?_)
   have B249 := (((((((B14.keep u21 (fun h => h)).keep u27 (show ¬ (bk12 = bk18) by first | omega | assumption)).keep u43 (fun h => h)).keep u46 (show ¬ (bk12 = bk40) by first | omega | assumption)).keep u54 (fun h => h)).keep u62 (show ¬ (bk12 = bk18 ∨ (bk12 = g2 ∧ w19.heap.size ≤ bk12)) by first | omega | assumption)).keep u240 (fun h => h))
   have B250 := (I63.keep u240 (fun h => h))
   have B251 := (B72.keep u240 (fun h => h))
   refine WC.weak [(4, .int .i64 most), (5, .pointer (some ⟨bk2, 0, none⟩)), (6, .pointer (some ⟨bk7, 0, none⟩)), (8, .pointer (some ⟨bk12, 0, none⟩)), (10, .int .i64 0), (12, .pointer (some ⟨bk18, 0, none⟩)), (14, .pointer (some ⟨bk40, 0, none⟩)), (15, .int .i64 (x.1 : Int)), (16, .pointer (some ⟨bk79, 0, none⟩)), (17, .pointer (some ⟨bk84, 0, none⟩)), (20, .slice ao os.length co), (21, .int .i64 (os.length : Int)), (22, .int .i64 (q : Int)), (31, .pointer (some ⟨t, 0, none⟩)), (32, .pointer (some ⟨t, 0, none⟩)), (33, .pointer (some ⟨t, 2, none⟩)), (34, .slice ar rows.length cr), (35, .int .i64 (i : Int)), (36, .pointer (some ⟨br, 0 + i * 1, none⟩)), (37, .slice ((nth rows i).ao) (((nth rows i).ss).length) ((nth rows i).cap)), (38, .int .i64 (x.1 : Int)), (39, .pointer (some ⟨(nth rows i).g, 0 + x.1 * 5, none⟩)), (40, .agg #[.int .i64 ((nth ((nth rows i).ss) x.1).inn.lo), .int .i64 ((nth ((nth rows i).ss) x.1).inn.hi), .int .i64 ((nth ((nth rows i).ss) x.1).out.lo), .int .i64 ((nth ((nth rows i).ss) x.1).out.hi), .bool ((nth ((nth rows i).ss) x.1).there)]), (41, .pointer (some ⟨t, 0, none⟩)), (42, .pointer (some ⟨t, 0, none⟩)), (43, .pointer (some ⟨t, 2, none⟩)), (44, .slice ar rows.length cr), (45, .int .i64 (nth os q)), (46, .pointer (some ⟨br, 0 + (nth os q).toNat * 1, none⟩)), (47, .slice ((nth rows ((nth os q).toNat)).ao) (((nth rows ((nth os q).toNat)).ss).length) ((nth rows ((nth os q).toNat)).cap)), (48, .int .i64 (x.1 : Int)), (49, .pointer (some ⟨(nth rows ((nth os q).toNat)).g, 0 + x.1 * 5, none⟩)), (50, .agg #[.int .i64 ((nth ((nth rows ((nth os q).toNat)).ss) x.1).inn.lo), .int .i64 ((nth ((nth rows ((nth os q).toNat)).ss) x.1).inn.hi), .int .i64 ((nth ((nth rows ((nth os q).toNat)).ss) x.1).out.lo), .int .i64 ((nth ((nth rows ((nth os q).toNat)).ss) x.1).out.hi), .bool ((nth ((nth rows ((nth os q).toNat)).ss) x.1).there)])] ⟨rfl, rfl, rfl, rfl, rfl, rfl, rfl, rfl, rfl, rfl, rfl, rfl, rfl, rfl, rfl, rfl, rfl, rfl, rfl, rfl, rfl, rfl, rfl, rfl, rfl, rfl, rfl, rfl, rfl, rfl, rfl, rfl, rfl, trivial⟩ (c_drawnS follows 29 27 [some (51, some (.slice ao3 cs3.length c3)), some (52, some (.pointer (some ⟨bk84, 0, none⟩))), some (53, some (.pointer (some ⟨bk84, 0, none⟩))), some (54, some (.int .i64 ((nth ((nth rows ((nth os q).toNat)).ss) x.1).inn.lo))), some (55, some (.slice ah hs.length ch)), some (56, some (.int .i64 (nth os q))), some (57, some (.pointer (some ⟨bh, oh + (nth os q).toNat * 1, none⟩))), some (58, some (.int .i64 (nth hs ((nth os q).toNat)))), some (59, some (.int .i64 ((nth ((nth rows ((nth os q).toNat)).ss) x.1).inn.lo + (nth hs ((nth os q).toNat))))), some (60, some (.pointer (some ⟨bk79, 2, none⟩))), some (61, some (.pointer (some ⟨bk79, 3, none⟩))), some (62, some (.int .i64 ((nth ((nth rows i).ss) x.1).out.hi))), some (63, some (.int .i64 (((nth ((nth rows ((nth os q).toNat)).ss) x.1).inn.lo + (nth hs ((nth os q).toNat))) - ((nth ((nth rows i).ss) x.1).out.hi)))), some (64, some (.pointer (some ⟨bk84, 2, none⟩))), some (65, some (.pointer (some ⟨bk84, 3, none⟩))), some (66, some (.int .i64 ((nth ((nth rows ((nth os q).toNat)).ss) x.1).out.hi))), some (67, some (.slice ah hs.length ch)), some (68, some (.int .i64 (nth os q))), some (69, some (.pointer (some ⟨bh, oh + (nth os q).toNat * 1, none⟩))), some (70, some (.int .i64 (nth hs ((nth os q).toNat)))), some (71, some (.int .i64 ((nth ((nth rows ((nth os q).toNat)).ss) x.1).out.hi + (nth hs ((nth os q).toNat))))), some (72, some (.pointer (some ⟨bk79, 0, none⟩))), some (73, some (.pointer (some ⟨bk79, 0, none⟩))), some (74, some (.int .i64 ((nth ((nth rows i).ss) x.1).inn.lo))), some (75, some (.int .i64 (((nth ((nth rows ((nth os q).toNat)).ss) x.1).out.hi + (nth hs ((nth os q).toNat))) - ((nth ((nth rows i).ss) x.1).inn.lo)))), some (76, some (.agg #[.int .i64 (((nth ((nth rows ((nth os q).toNat)).ss) x.1).inn.lo + (nth hs ((nth os q).toNat))) - ((nth ((nth rows i).ss) x.1).out.hi)), .int .i64 (((nth ((nth rows ((nth os q).toNat)).ss) x.1).out.hi + (nth hs ((nth os q).toNat))) - ((nth ((nth rows i).ss) x.1).inn.lo))])), some (77, none)] [[],[],[1],[2],[],[],[4,5],[6],[3,7],[],[9],[10],[8,11],[],[13],[14],[],[],[16,17],[18],[15,19],[],[21],[22],[20,23],[12,24],[25],[0,26],[27,27,0,1,2,3,4,5,6,7,8,9,10,11,12,13,14,15,16,17,18,19,20,21,22,23,24,25,26,27]] (fun D ρ w => Upd (fun _ => False) w239 w ∧ (D 26 = true → ∃ bk254, ρ 26 = .slice (some ⟨bk254, 0, none⟩) 1 1 ∧ w239.heap.size ≤ bk254 ∧ Blk w bk254 45 [.int .i64 (((nth ((nth rows ((nth os q).toNat)).ss) x.1).inn.lo + (nth hs ((nth os q).toNat))) - ((nth ((nth rows i).ss) x.1).out.hi)), .int .i64 (((nth ((nth rows ((nth os q).toNat)).ss) x.1).out.hi + (nth hs ((nth os q).toNat))) - ((nth ((nth rows i).ss) x.1).inn.lo))])) rfl rfl rfl rfl (by kernel_rfl) (by kernel_rfl) (by kernel_rfl) ⟨(Upd.drew _).to, (fun h => by cases h)⟩ ⟨?_, ?_, ?_, ?_, ?_, ?_, ?_, ?_, ?_, ?_, ?_, ?_, ?_, ?_, ?_, ?_, ?_, ?_, ?_, ?_, ?_, ?_, ?_, ?_, ?_, ?_, ?_, trivial⟩ ?_)
   · exact fun D ρ w259 hcD hnD hdD hW => ⟨_, kf_fr [12], fun Lr => t_load Try.isAgg183 rfl rfl rfl ((B250.keep hW.1 (fun h => h)).get rfl) (dz rfl hW)⟩
   · exact pzf Try.underlying141 rfl Try.sizeOf45 (0) rfl rfl rfl rfl rfl fun _ _ _ h => h
   · exact pzf Try.underlying45 rfl Try.sizeOf3 (0) rfl rfl rfl rfl rfl fun _ _ _ h => h
   · exact fun D ρ w264 hcD hnD hdD hW => ⟨_, kf_fr [53], fun Lr => t_load Try.isAgg3 rfl rfl rfl ((B248.keep hW.1 (fun h => h)).get rfl) (dz rfl hW)⟩
   · exact fun D ρ w269 hcD hnD hdD hW => ⟨_, kf_fr [8], fun Lr => t_load Try.isAgg27 rfl rfl rfl ((B249.keep hW.1 (fun h => h)).get rfl) (dz rfl hW)⟩
   · exact fun D ρ w274 hcD hnD hdD hW => ⟨_, kf_fr [14], fun Lr => t_load Try.isAgg3 rfl rfl rfl ((B251.keep hW.1 (fun h => h)).get rfl) (dz rfl hW)⟩
   ·
    intro D ρ w279 hcD hnD hdD hW
    obtain ⟨u280, F281⟩ := hW
    have zu280 := u280.size
    have E282 := E244.next u280 (fun _ _ h => h.elim)
    refine ⟨_, kf_fr [55, 56], fun Lr => ?_⟩
    have i283 : (nth os q).toNat < hs.length := (by omega)
    refine t_index (j := (nth os q).toNat) Try.underlying27 Try.sizeOf3 rfl rfl rfl rfl ((hhs.keep E282 (fun _ h => h)).addr (by omega)) (by omega) i283 ?_
    exact dz rfl ⟨u280, F281⟩
   ·
    intro D ρ w284 hcD hnD hdD hW
    obtain ⟨u285, F286⟩ := hW
    have zu285 := u285.size
    have E287 := E244.next u285 (fun _ _ h => h.elim)
    refine ⟨_, kf_fr [57], fun Lr => ?_⟩
    refine t_load Try.isAgg3 rfl rfl rfl (((hhs.keep E287 (fun _ h => h)).at_ ((nth os q).toNat) (by omega)) 0 _ rfl) ?_
    exact dz rfl ⟨u285, F286⟩
   · exact fun D ρ w288 hcD hnD hdD hW => ⟨_, kf_fr [54, 58], fun Lr => t_ari rfl rfl rfl rfl rfl (by omega) (dz rfl hW)⟩
   · exact pzf Try.underlying141 rfl Try.sizeOf45 (2) rfl rfl rfl rfl rfl fun _ _ _ h => h
   · exact pzf Try.underlying45 rfl Try.sizeOf3 (3) rfl rfl rfl rfl rfl fun _ _ _ h => h
   · exact fun D ρ w292 hcD hnD hdD hW => ⟨_, kf_fr [61], fun Lr => t_load Try.isAgg3 rfl rfl rfl ((B246.keep hW.1 (fun h => h)).get rfl) (dz rfl hW)⟩
   · exact fun D ρ w297 hcD hnD hdD hW => ⟨_, kf_fr [59, 62], fun Lr => t_ari rfl rfl rfl rfl rfl (by omega) (dz rfl hW)⟩
   · exact pzf Try.underlying141 rfl Try.sizeOf45 (2) rfl rfl rfl rfl rfl fun _ _ _ h => h
   · exact pzf Try.underlying45 rfl Try.sizeOf3 (3) rfl rfl rfl rfl rfl fun _ _ _ h => h
   · exact fun D ρ w301 hcD hnD hdD hW => ⟨_, kf_fr [65], fun Lr => t_load Try.isAgg3 rfl rfl rfl ((B248.keep hW.1 (fun h => h)).get rfl) (dz rfl hW)⟩
   · exact fun D ρ w306 hcD hnD hdD hW => ⟨_, kf_fr [8], fun Lr => t_load Try.isAgg27 rfl rfl rfl ((B249.keep hW.1 (fun h => h)).get rfl) (dz rfl hW)⟩
   · exact fun D ρ w311 hcD hnD hdD hW => ⟨_, kf_fr [14], fun Lr => t_load Try.isAgg3 rfl rfl rfl ((B251.keep hW.1 (fun h => h)).get rfl) (dz rfl hW)⟩
   ·
    intro D ρ w316 hcD hnD hdD hW
    obtain ⟨u317, F318⟩ := hW
    have zu317 := u317.size
    have E319 := E244.next u317 (fun _ _ h => h.elim)
    refine ⟨_, kf_fr [67, 68], fun Lr => ?_⟩
    have i320 : (nth os q).toNat < hs.length := (by omega)
    refine t_index (j := (nth os q).toNat) Try.underlying27 Try.sizeOf3 rfl rfl rfl rfl ((hhs.keep E319 (fun _ h => h)).addr (by omega)) (by omega) i320 ?_
    exact dz rfl ⟨u317, F318⟩
   ·
    intro D ρ w321 hcD hnD hdD hW
    obtain ⟨u322, F323⟩ := hW
    have zu322 := u322.size
    have E324 := E244.next u322 (fun _ _ h => h.elim)
    refine ⟨_, kf_fr [69], fun Lr => ?_⟩
    refine t_load Try.isAgg3 rfl rfl rfl (((hhs.keep E324 (fun _ h => h)).at_ ((nth os q).toNat) (by omega)) 0 _ rfl) ?_
    exact dz rfl ⟨u322, F323⟩
   · exact fun D ρ w325 hcD hnD hdD hW => ⟨_, kf_fr [66, 70], fun Lr => t_ari rfl rfl rfl rfl rfl (by omega) (dz rfl hW)⟩
   · exact pzf Try.underlying141 rfl Try.sizeOf45 (0) rfl rfl rfl rfl rfl fun _ _ _ h => h
   · exact pzf Try.underlying45 rfl Try.sizeOf3 (0) rfl rfl rfl rfl rfl fun _ _ _ h => h
   · exact fun D ρ w329 hcD hnD hdD hW => ⟨_, kf_fr [73], fun Lr => t_load Try.isAgg3 rfl rfl rfl ((B246.keep hW.1 (fun h => h)).get rfl) (dz rfl hW)⟩
   · exact fun D ρ w334 hcD hnD hdD hW => ⟨_, kf_fr [71, 74], fun Lr => t_ari rfl rfl rfl rfl rfl (by omega) (dz rfl hW)⟩
   · exact fun D ρ w _ _ _ hW => ⟨[(63, .int .i64 (((nth ((nth rows ((nth os q).toNat)).ss) x.1).inn.lo + (nth hs ((nth os q).toNat))) - ((nth ((nth rows i).ss) x.1).out.hi))), (75, .int .i64 (((nth ((nth rows ((nth os q).toNat)).ss) x.1).out.hi + (nth hs ((nth os q).toNat))) - ((nth ((nth rows i).ss) x.1).inn.lo)))], ⟨fi 12 rfl rfl rfl, fi 24 rfl rfl rfl, trivial⟩, fun Lr => t_build (ps := [(0, .int .i64 (((nth ((nth rows ((nth os q).toNat)).ss) x.1).inn.lo + (nth hs ((nth os q).toNat))) - ((nth ((nth rows i).ss) x.1).out.hi))), (1, .int .i64 (((nth ((nth rows ((nth os q).toNat)).ss) x.1).out.hi + (nth hs ((nth os q).toNat))) - ((nth ((nth rows i).ss) x.1).inn.lo)))]) (v := .agg #[.int .i64 (((nth ((nth rows ((nth os q).toNat)).ss) x.1).inn.lo + (nth hs ((nth os q).toNat))) - ((nth ((nth rows i).ss) x.1).out.hi)), .int .i64 (((nth ((nth rows ((nth os q).toNat)).ss) x.1).out.hi + (nth hs ((nth os q).toNat))) - ((nth ((nth rows i).ss) x.1).inn.lo))]) rfl rfl ⟨rfl, rfl⟩ (fun w => by kernel_rfl) (dz rfl hW)⟩
   ·
    intro D ρ w338 hcD hnD hdD hW
    obtain ⟨u339, F340⟩ := hW
    have zu339 := u339.size
    refine ⟨_, kf_fr [76], fun Lr => ?_⟩
    refine t_bslice (ps := [(0, .agg #[.int .i64 (((nth ((nth rows ((nth os q).toNat)).ss) x.1).inn.lo + (nth hs ((nth os q).toNat))) - ((nth ((nth rows i).ss) x.1).out.hi)), .int .i64 (((nth ((nth rows ((nth os q).toNat)).ss) x.1).out.hi + (nth hs ((nth os q).toNat))) - ((nth ((nth rows i).ss) x.1).inn.lo))])]) (cs := [.int .i64 (((nth ((nth rows ((nth os q).toNat)).ss) x.1).inn.lo + (nth hs ((nth os q).toNat))) - ((nth ((nth rows i).ss) x.1).out.hi)), .int .i64 (((nth ((nth rows ((nth os q).toNat)).ss) x.1).out.hi + (nth hs ((nth os q).toNat))) - ((nth ((nth rows i).ss) x.1).inn.lo))]) (e := 45) rfl rfl ⟨rfl, rfl⟩ (fun w => by kernel_rfl) (fun bk342 w343 ebk342 sbk342 B344 u345 => ?_)
    have zu345 := u345.size
    exact dzn rfl ⟨(u339.next u345 (fun _ _ h => h.elim)), (fun _ => ⟨bk342, rfl, (by omega), (by show Blk w343 bk342 45 [.int .i64 (((nth ((nth rows ((nth os q).toNat)).ss) x.1).inn.lo + (nth hs ((nth os q).toNat))) - ((nth ((nth rows i).ss) x.1).out.hi)), .int .i64 (((nth ((nth rows ((nth os q).toNat)).ss) x.1).out.hi + (nth hs ((nth os q).toNat))) - ((nth ((nth rows i).ss) x.1).inn.lo))]; exact B344)⟩)⟩
   intro ρ w347 hW
   obtain ⟨u348, F349⟩ := hW
   have zu348 := u348.size
   obtain ⟨bk254, e351, gebk254, B352⟩ := F349 rfl
   have B352 : Blk w347 bk254 45 [.int .i64 (((nth ((nth rows ((nth os q).toNat)).ss) x.1).inn.lo + (nth hs ((nth os q).toNat))) - ((nth ((nth rows i).ss) x.1).out.hi)), .int .i64 (((nth ((nth rows ((nth os q).toNat)).ss) x.1).out.hi + (nth hs ((nth os q).toNat))) - ((nth ((nth rows i).ss) x.1).inn.lo))] := B352
   have lt_bk254 := B352.lt
   refine t_weak [(4, .int .i64 most), (5, .pointer (some ⟨bk2, 0, none⟩)), (6, .pointer (some ⟨bk7, 0, none⟩)), (8, .pointer (some ⟨bk12, 0, none⟩)), (10, .int .i64 0), (12, .pointer (some ⟨bk18, 0, none⟩)), (14, .pointer (some ⟨bk40, 0, none⟩)), (15, .int .i64 (x.1 : Int)), (16, .pointer (some ⟨bk79, 0, none⟩)), (17, .pointer (some ⟨bk84, 0, none⟩)), (20, .slice ao os.length co), (21, .int .i64 (os.length : Int)), (22, .int .i64 (q : Int)), (31, .pointer (some ⟨t, 0, none⟩)), (32, .pointer (some ⟨t, 0, none⟩)), (33, .pointer (some ⟨t, 2, none⟩)), (34, .slice ar rows.length cr), (35, .int .i64 (i : Int)), (36, .pointer (some ⟨br, 0 + i * 1, none⟩)), (37, .slice ((nth rows i).ao) (((nth rows i).ss).length) ((nth rows i).cap)), (38, .int .i64 (x.1 : Int)), (39, .pointer (some ⟨(nth rows i).g, 0 + x.1 * 5, none⟩)), (40, .agg #[.int .i64 ((nth ((nth rows i).ss) x.1).inn.lo), .int .i64 ((nth ((nth rows i).ss) x.1).inn.hi), .int .i64 ((nth ((nth rows i).ss) x.1).out.lo), .int .i64 ((nth ((nth rows i).ss) x.1).out.hi), .bool ((nth ((nth rows i).ss) x.1).there)]), (41, .pointer (some ⟨t, 0, none⟩)), (42, .pointer (some ⟨t, 0, none⟩)), (43, .pointer (some ⟨t, 2, none⟩)), (44, .slice ar rows.length cr), (45, .int .i64 (nth os q)), (46, .pointer (some ⟨br, 0 + (nth os q).toNat * 1, none⟩)), (47, .slice ((nth rows ((nth os q).toNat)).ao) (((nth rows ((nth os q).toNat)).ss).length) ((nth rows ((nth os q).toNat)).cap)), (48, .int .i64 (x.1 : Int)), (49, .pointer (some ⟨(nth rows ((nth os q).toNat)).g, 0 + x.1 * 5, none⟩)), (50, .agg #[.int .i64 ((nth ((nth rows ((nth os q).toNat)).ss) x.1).inn.lo), .int .i64 ((nth ((nth rows ((nth os q).toNat)).ss) x.1).inn.hi), .int .i64 ((nth ((nth rows ((nth os q).toNat)).ss) x.1).out.lo), .int .i64 ((nth ((nth rows ((nth os q).toNat)).ss) x.1).out.hi), .bool ((nth ((nth rows ((nth os q).toNat)).ss) x.1).there)]), (51, .slice ao3 cs3.length c3), (52, .pointer (some ⟨bk84, 0, none⟩)), (53, .pointer (some ⟨bk84, 0, none⟩)), (54, .int .i64 ((nth ((nth rows ((nth os q).toNat)).ss) x.1).inn.lo)), (55, .slice ah hs.length ch), (56, .int .i64 (nth os q)), (57, .pointer (some ⟨bh, oh + (nth os q).toNat * 1, none⟩)), (58, .int .i64 (nth hs ((nth os q).toNat))), (59, .int .i64 ((nth ((nth rows ((nth os q).toNat)).ss) x.1).inn.lo + (nth hs ((nth os q).toNat)))), (60, .pointer (some ⟨bk79, 2, none⟩)), (61, .pointer (some ⟨bk79, 3, none⟩)), (62, .int .i64 ((nth ((nth rows i).ss) x.1).out.hi)), (63, .int .i64 (((nth ((nth rows ((nth os q).toNat)).ss) x.1).inn.lo + (nth hs ((nth os q).toNat))) - ((nth ((nth rows i).ss) x.1).out.hi))), (64, .pointer (some ⟨bk84, 2, none⟩)), (65, .pointer (some ⟨bk84, 3, none⟩)), (66, .int .i64 ((nth ((nth rows ((nth os q).toNat)).ss) x.1).out.hi)), (67, .slice ah hs.length ch), (68, .int .i64 (nth os q)), (69, .pointer (some ⟨bh, oh + (nth os q).toNat * 1, none⟩)), (70, .int .i64 (nth hs ((nth os q).toNat))), (71, .int .i64 ((nth ((nth rows ((nth os q).toNat)).ss) x.1).out.hi + (nth hs ((nth os q).toNat)))), (72, .pointer (some ⟨bk79, 0, none⟩)), (73, .pointer (some ⟨bk79, 0, none⟩)), (74, .int .i64 ((nth ((nth rows i).ss) x.1).inn.lo)), (75, .int .i64 (((nth ((nth rows ((nth os q).toNat)).ss) x.1).out.hi + (nth hs ((nth os q).toNat))) - ((nth ((nth rows i).ss) x.1).inn.lo))), (76, .agg #[.int .i64 (((nth ((nth rows ((nth os q).toNat)).ss) x.1).inn.lo + (nth hs ((nth os q).toNat))) - ((nth ((nth rows i).ss) x.1).out.hi)), .int .i64 (((nth ((nth rows ((nth os q).toNat)).ss) x.1).out.hi + (nth hs ((nth os q).toNat))) - ((nth ((nth rows i).ss) x.1).inn.lo))]), (77, .slice (some ⟨bk254, 0, none⟩) 1 1)] ⟨rfl, rfl, rfl, rfl, rfl, rfl, rfl, rfl, rfl, rfl, rfl, rfl, rfl, rfl, rfl, rfl, rfl, rfl, rfl, rfl, rfl, rfl, rfl, rfl, rfl, rfl, rfl, rfl, rfl, rfl, rfl, rfl, rfl, rfl, rfl, rfl, rfl, rfl, rfl, rfl, rfl, rfl, rfl, rfl, rfl, rfl, rfl, rfl, rfl, rfl, rfl, rfl, rfl, rfl, rfl, rfl, rfl, rfl, rfl, (look_nd (j := 26) rfl rfl rfl e351), trivial⟩ ?_
   have D353 := ((hacc3.keep u240 (fun _ h => h)).keep u348 (fun _ h => h))
   have hbb : (-1000000000 ≤ (((nth ((nth rows ((nth os q).toNat)).ss) x.1).inn.lo + (nth hs ((nth os q).toNat))) - ((nth ((nth rows i).ss) x.1).out.hi)) ∧ (((nth ((nth rows ((nth os q).toNat)).ss) x.1).inn.lo + (nth hs ((nth os q).toNat))) - ((nth ((nth rows i).ss) x.1).out.hi)) ≤ 1000000000) ∧ (-1000000000 ≤ (((nth ((nth rows ((nth os q).toNat)).ss) x.1).out.hi + (nth hs ((nth os q).toNat))) - ((nth ((nth rows i).ss) x.1).inn.lo)) ∧ (((nth ((nth rows ((nth os q).toNat)).ss) x.1).out.hi + (nth hs ((nth os q).toNat))) - ((nth ((nth rows i).ss) x.1).inn.lo)) ≤ 1000000000) := by omega
   refine t_append (z := .agg #[.int .i64 0, .int .i64 0]) (bytes := 16) (k := 2) (base := w19.heap.size) (⟨⟨(((nth ((nth rows ((nth os q).toNat)).ss) x.1).inn.lo + (nth hs ((nth os q).toNat))) - ((nth ((nth rows i).ss) x.1).out.hi)), (((nth ((nth rows ((nth os q).toNat)).ss) x.1).out.hi + (nth hs ((nth os q).toNat))) - ((nth ((nth rows i).ss) x.1).inn.lo))⟩, hbb⟩ : BB) Try.underlying183 (by kernel_rfl) rfl (by decide) (fun _ => rfl) (by intro x; simp [encBB, Value.oneCell']) rfl rfl rfl rfl D353 B352 (by omega) (by omega) (by decide) (fun ao354 gb355 cp356 w357 A358 u359 gegb355 lngb355 => ?_)
   have zu359 := u359.size
   have lt_gb355 := A358.lt
   have B361 := ((B250.keep u348 (fun h => h)).keep u359 (show ¬ ((bk18 = g3 ∧ w19.heap.size ≤ bk18)) by first | omega | assumption))
   refine t_store (vs := [.slice ao354 (((cs3 ++ [(⟨⟨(((nth ((nth rows ((nth os q).toNat)).ss) x.1).inn.lo + (nth hs ((nth os q).toNat))) - ((nth ((nth rows i).ss) x.1).out.hi)), (((nth ((nth rows ((nth os q).toNat)).ss) x.1).out.hi + (nth hs ((nth os q).toNat))) - ((nth ((nth rows i).ss) x.1).inn.lo))⟩, hbb⟩ : BB)])).length) cp356]) Try.sizeOf183 rfl rfl rfl B361 rfl rfl (Nat.le_of_ble_eq_true rfl) (by simp [Value.oneCell']) (fun w362 sw362 B364 u363 => ?_)
   have zu363 := u363.size
   have B364 : Blk w362 bk18 183 [.slice ao354 (((cs3 ++ [(⟨⟨(((nth ((nth rows ((nth os q).toNat)).ss) x.1).inn.lo + (nth hs ((nth os q).toNat))) - ((nth ((nth rows i).ss) x.1).out.hi)), (((nth ((nth rows ((nth os q).toNat)).ss) x.1).out.hi + (nth hs ((nth os q).toNat))) - ((nth ((nth rows i).ss) x.1).inn.lo))⟩, hbb⟩ : BB)])).length) cp356] := B364
   refine t_nil' ?_
   have hUr := (((((Upd.refl (fun i => i = bk18 ∨ (i = g3 ∧ w19.heap.size ≤ i)) w61).next u240 (fun _ _ h => h.elim)).next u348 (fun _ _ h => h.elim)).next u359 (fun i hi (h : (i = g3 ∧ w19.heap.size ≤ i)) => show i = bk18 ∨ (i = g3 ∧ w19.heap.size ≤ i) by first | omega | assumption)).next u363 (fun i hi (h : i = bk18) => show i = bk18 ∨ (i = g3 ∧ w19.heap.size ≤ i) by first | omega | assumption))
   have D366 := (A358.keep u363 (fun hb => show ¬ (gb355 = bk18) by first | omega | assumption))
   exact fun a ha => ⟨KeepsFrom.of_upd hUr hcellsR, hUr.mono (fun i h => show i = bk18 ∨ (i = g2 ∧ w19.heap.size ≤ i) ∨ w53.heap.size ≤ i by omega), ao354, gb355, cp356, (cs3 ++ [(⟨⟨(((nth ((nth rows ((nth os q).toNat)).ss) x.1).inn.lo + (nth hs ((nth os q).toNat))) - ((nth ((nth rows i).ss) x.1).out.hi)), (((nth ((nth rows ((nth os q).toNat)).ss) x.1).out.hi + (nth hs ((nth os q).toNat))) - ((nth ((nth rows i).ss) x.1).inn.lo))⟩, hbb⟩ : BB)]), ((((u62.next u240 (fun _ _ h => h.elim)).next u348 (fun _ _ h => h.elim)).next u359 (fun i hi (h : (i = g3 ∧ w19.heap.size ≤ i)) => show i = bk18 ∨ (i = g2 ∧ w19.heap.size ≤ i) by first | omega | assumption)).next u363 (fun i hi (h : i = bk18) => show i = bk18 ∨ (i = g2 ∧ w19.heap.size ≤ i) by first | omega | assumption)), B364, D366, (by rw [List.map_append, hmap3, List.map_append, List.append_assoc]; rfl), (by omega), (by rw [List.length_append, List.length_append]; simp; omega)⟩
  ·
   have hmk0 := (hmk.keep ((((Upd.refl (fun _ => False) _).next u43 (fun _ _ h => h.elim)).next u46 (fun i hi (h : i = bk40) => show False by first | omega | assumption)).next u54 (fun _ _ h => h.elim)) (CellsIn.none _))
   have hmc0 := ((B57).cellsIn.or (D58).cellsIn)
   intro D369 xs w367 hD369 hS hI hdD369
   obtain ⟨ao3, g3, c3, cs3, u368, I370, I371, I372, I373, I374⟩ := hI
   have zu368 := u368.size
   have hacc3 := I371; clear I371
   have hmap3 := I372; clear I372
   have hg3 := I373; clear I373
   have hcl3 := I374; clear I374
   have lt_g3 := hacc3.lt
   have mk376 := (hmk0.keep u368 hmc0).push (D := D369) (by omega) hdD369 (fun d hd D' e => Nat.lt_of_lt_of_le (hmk0.lt d hd D' e) hD369)
   have hxl := filter_len hS
   refine hK37 _ _ (c_region (t_ari rfl rfl rfl rfl rfl (by omega) (t_move rfl rfl rfl (t_nil' ?_))))
   exact hK25 (q + 1, ao3, g3, c3, cs3, (mark D369 :: dl)) _ _ (by show os.length - (q + 1) < os.length - q; omega) ⟨rfl, rfl, rfl, rfl, rfl, rfl, rfl, rfl, rfl, trivial⟩ ⟨((((u27.next u43 (fun _ _ h => h.elim)).next u46 (fun i hi (h : i = bk40) => show i = bk18 by first | omega | assumption)).next u54 (fun _ _ h => h.elim)).next u368 (fun i hi (h : i = bk18 ∨ (i = g2 ∧ w19.heap.size ≤ i)) => show i = bk18 by first | omega | assumption)), I370, (by omega), (by rw [clL_snoc (by omega), ← hmap, hmap3, ← hS, List.map_map]; rfl), (by show cs3.length ≤ 20 * (q + 1); omega), hacc3, mk376⟩
 ·
  refine c_exit (hK23 _ _ (c_seq fun K377 hK377 => (c_region (t_load Try.isAgg183 rfl rfl rfl (I28.get rfl) ?_))))
  have haccS := hacc
  have hmkS0 := hmk
  refine t_call (vs := [.slice ao2 cs.length c2, .func (.func 117) #[] #[]]) own116 rfl rfl rfl rfl (sort_c sortL 2 (by decide) Try.isAgg45 Try.sizeOf45 encBB (fun _ => rfl) (by intro x; simp [encBB, Value.oneCell']) cfB cfB_swo 117 own117 hold1_ok 45 w19.heap.size ao2 g2 c2 cs _ haccS (by omega)) (fun v378 w379 r381 => ?_)
  obtain ⟨ys, hperm, hasc, hays, u380, rfl⟩ := r381
  have zu380 := u380.size
  have E382 := E34.next u380 (fun i hi (h : (i = g2 ∧ w19.heap.size ≤ i)) => show False by first | omega | assumption)
  have hmkS := hmkS0.keep u380 haccS.cellsIn
  have hyl := hperm.length_eq
  have lt_g2 := hays.lt
  refine t_nil' (hK377 _ _ (c_seq fun K383 hK383 => (c_seq fun K384 hK384 => (c_region ?_))))
  have B385 := (I28.keep u380 (show ¬ ((bk18 = g2 ∧ w19.heap.size ≤ bk18)) by first | omega | assumption))
  refine t_load Try.isAgg183 rfl rfl rfl (B385.get rfl) (t_same 82 (v := .slice ao2 ys.length c2) rfl (by rw [hyl]) (t_len Try.underlying183 rfl rfl rfl rfl (t_move rfl rfl rfl (t_nil' (hK384 _ _ (c_block (c_loop (γ := Nat × Int) (fun gg => [(4, .int .i64 most), (10, .int .i64 gg.2), (82, .slice ao2 ys.length c2), (83, .int .i64 (ys.length : Int)), (84, .int .i64 (gg.1 : Int))]) (fun gg w => Upd (fun _ => False) w379 w ∧ (gg.1 ≤ ys.length) ∧ (FoldR ys gg.1 gg.2) ∧ (0 ≤ gg.2 ∧ gg.2 ≤ 1000000001)) (fun gg => ys.length - gg.1) (0, 0) ⟨rfl, rfl, rfl, rfl, rfl, trivial⟩ ⟨Upd.refl _ _, (Nat.zero_le _), ⟨fun x hx => by simp at hx, fun h1 h2 h3 => by simp only [] at h3; omega⟩, (by simp only []; omega)⟩ ?_)))))))
  intro gg w387 hW K386 hK386
  obtain ⟨p, h⟩ := gg
  change WC _ _ _ _ _ _ [(4, .int .i64 most), (10, .int .i64 h), (82, .slice ao2 ys.length c2), (83, .int .i64 (ys.length : Int)), (84, .int .i64 (p : Int))] _
  change Upd (fun _ => False) w379 w387 ∧ (p ≤ ys.length) ∧ (FoldR ys p h) ∧ (0 ≤ h ∧ h ≤ 1000000001) at hW
  obtain ⟨u388, I389, I390, I391⟩ := hW
  have zu388 := u388.size
  have E392 := E382.next u388 (fun _ _ h => h.elim)
  have hp := I389; clear I389
  have hf := I390; clear I390
  have hh0 := I391; clear I391
  refine c_seq fun K393 hK393 => (c_region (t_cmp rfl rfl rfl rfl rfl (t_nil' (hK393 _ _ (c_seq fun K394 hK394 => (c_condp rfl (fun g85 => ?_) (fun g85 => ?_)))))))
  ·
   refine c_skip (hK394 _ _ (c_seq fun K395 hK395 => (c_block (c_seq fun K396 hK396 => (c_region ?_)))))
   have D397 := (hays.keep u388 (fun _ h => h))
   have i398 : p < ys.length := (by omega)
   refine t_index (j := p) Try.underlying183 Try.sizeOf45 rfl rfl rfl rfl ((D397.sl (fun _ => rfl)).addr (by omega)) rfl i398 (t_loadN (vs := [.int .i64 ((nth ys p).1.lo), .int .i64 ((nth ys p).1.hi)]) Try.isAgg45 Try.sizeOf45 rfl rfl rfl (((D397.sl (fun _ => rfl)).at_ p (by omega)).sub 0 2) rfl ?_)
   have hyb := (nth ys p).2
   refine t_alloc (cs := [.int .i64 0, .int .i64 0]) Try.zeroValue45 rfl rfl rfl (fun bk399 w400 ebk399 sbk399 B401 u402 => ?_)
   have zu402 := u402.size
   refine t_store (vs := [.int .i64 ((nth ys p).1.lo), .int .i64 ((nth ys p).1.hi)]) Try.sizeOf45 rfl rfl rfl B401 rfl rfl (Nat.le_of_ble_eq_true rfl) (by simp [Value.oneCell']) (fun w404 sw404 B406 u405 => ?_)
   have zu405 := u405.size
   have B406 : Blk w404 bk399 45 [.int .i64 ((nth ys p).1.lo), .int .i64 ((nth ys p).1.hi)] := B406
   refine t_nil' (hK396 _ _ (c_seq fun K408 hK408 => (c_region (t_field Try.underlying45 rfl Try.sizeOf3 (0) rfl rfl rfl rfl (t_load Try.isAgg3 rfl rfl rfl (B406.get rfl) (t_move rfl rfl rfl (t_cmp rfl rfl rfl rfl rfl (t_move rfl rfl rfl (t_splitp 92 rfl (fun g92 => ?_) (fun g92 => ?_))))))))))
   ·
    refine t_move rfl rfl rfl (t_field Try.underlying45 rfl Try.sizeOf3 (1) rfl rfl rfl rfl (t_load Try.isAgg3 rfl rfl rfl (B406.get rfl) (t_cmp rfl rfl rfl rfl rfl (t_pick_t rfl rfl rfl rfl (t_nil' (hK408 _ _ (c_condp rfl (fun g97 => ?_) (fun g97 => ?_))))))))
    ·
     refine c_region (t_field Try.underlying45 rfl Try.sizeOf3 (1) rfl rfl rfl rfl (t_load Try.isAgg3 rfl rfl rfl (B406.get rfl) (t_ari rfl rfl rfl rfl rfl (by omega) (t_assign rfl rfl rfl (t_nil' (hK395 _ _ (c_region (t_ari rfl rfl rfl rfl rfl (by omega) (t_move rfl rfl rfl (t_nil' ?_))))))))))
     exact hK386 (p + 1, ((nth ys p).1.hi + 1)) _ _ (by show ys.length - (p + 1) < ys.length - p; omega) ⟨rfl, rfl, rfl, rfl, rfl, trivial⟩ ⟨((u388.next u402 (fun _ _ h => h.elim)).next u405 (fun i hi (h : i = bk399) => show False by first | omega | assumption)), (by omega), (fold_hit hf hasc (by omega) (by omega)), (by show 0 ≤ ((nth ys p).1.hi + 1) ∧ ((nth ys p).1.hi + 1) ≤ 1000000001; omega)⟩
    ·
     refine c_skip (hK395 _ _ (c_region (t_ari rfl rfl rfl rfl rfl (by omega) (t_move rfl rfl rfl (t_nil' ?_)))))
     exact hK386 (p + 1, h) _ _ (by show ys.length - (p + 1) < ys.length - p; omega) ⟨rfl, rfl, rfl, rfl, rfl, trivial⟩ ⟨((u388.next u402 (fun _ _ h => h.elim)).next u405 (fun i hi (h : i = bk399) => show False by first | omega | assumption)), (by omega), (fold_miss hf (by omega) (by omega)), (by show 0 ≤ h ∧ h ≤ 1000000001; omega)⟩
   ·
    refine t_skip rfl rfl rfl (t_skip rfl rfl rfl (t_skip rfl rfl rfl (t_skip rfl rfl rfl (t_pick_f rfl rfl rfl rfl (t_nil' (hK408 _ _ (c_cond_f rfl (c_skip (hK395 _ _ (c_region (t_ari rfl rfl rfl rfl rfl (by omega) (t_move rfl rfl rfl (t_nil' ?_)))))))))))))
    exact hK386 (p + 1, h) _ _ (by show ys.length - (p + 1) < ys.length - p; omega) ⟨rfl, rfl, rfl, rfl, rfl, trivial⟩ ⟨((u388.next u402 (fun _ _ h => h.elim)).next u405 (fun i hi (h : i = bk399) => show False by first | omega | assumption)), (by omega), (fold_miss hf (by omega) (by omega)), (by show 0 ≤ h ∧ h ≤ 1000000001; omega)⟩
  ·
   refine c_exit (hK383 _ _ (c_seq fun K409 hK409 => (c_region (t_move rfl rfl rfl (t_move rfl rfl rfl (t_move rfl rfl rfl (t_cmp rfl rfl rfl rfl rfl (t_assign rfl rfl rfl (t_assign rfl rfl rfl (t_nil' (hK409 _ _ (c_ret (f_retM2 (v1 := .int .i64 h) (v2 := .bool (decide (h ≤ most))) Try.results101 rfl rfl (hmkS.keep ((Upd.refl (fun _ => False) _).next u388 (fun _ _ h => h.elim)) (CellsIn.none _)) (fun w410 u411 => ?_))))))))))))))
   have zu411 := u411.size
   have E412 := E392.next u411 (fun i hi (h : w0.heap.size ≤ i) => show False by first | omega | assumption)
   exact ⟨⟨_, rfl, fold_done hf (by omega) (by omega) hperm (by rw [hmap, List.take_of_length_le (by omega)])⟩, E412⟩

end Go.Proofs.Ytmicjleiheoieaa
