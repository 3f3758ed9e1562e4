/-
  The contracts of holds and Holds. Conditions: none.
-/
import Derived.Test.YtmicjleiheoieaaA10
namespace Go.Proofs.Ytmicjleiheoieaa
open Go Go.RowKit
/-- The first q voyages of an order have their least holds, none above most. -/
def SeqH (vs : List HVoy) (ns : List Nar) (rows : List HSt) (most : Int) (os : List Int) (q : Nat) (ls : List Int) : Prop :=
  ∀ p, p < q → HoldR (clL vs ns rows ls (nth os p).toNat (os.take p)) (nth ls (nth os p).toNat) ∧ nth ls (nth os p).toNat ≤ most
theorem nth_set_ne {ls : List Int} {i j : Nat} {v : Int} (h : i ≠ j) : nth (ls.set i v) j = nth ls j := by
  simp [nth, List.getD_eq_getElem?_getD, List.getElem?_set_ne h]
theorem nth_set_eq {ls : List Int} {i : Nat} {v : Int} (h : i < ls.length) : nth (ls.set i v) i = v := by
  simp [nth, List.getD_eq_getElem?_getD, h]
theorem clL_set {vs : List HVoy} {ns : List Nar} {rows : List HSt} {ls : List Int} {i i' : Nat} {v : Int} {os : List Int} (h : ∀ j ∈ os, j.toNat ≠ i') : clL vs ns rows (ls.set i' v) i os = clL vs ns rows ls i os := by
  unfold clL
  induction os with
  | nil => rfl
  | cons j os ih =>
    rw [List.flatMap_cons, List.flatMap_cons, ih (fun x hx => h x (by simp [hx]))]
    congr 1
    refine List.map_congr_left (fun k _ => ?_)
    unfold clB
    rw [nth_set_ne (fun e => h j (by simp) e.symm)]
theorem nodup_nth {os : List Int} (hn : os.Nodup) {p q : Nat} (h : p < q) (hq : q < os.length) : nth os p ≠ nth os q := by
  rw [nth_eq (by omega), nth_eq hq]
  exact (List.pairwise_iff_getElem.1 hn) p q (by omega) hq h
theorem mem_take_nth {os : List Int} {j : Int} {q : Nat} (h : j ∈ os.take q) : ∃ p, p < q ∧ p < os.length ∧ j = nth os p := by
  obtain ⟨p, hp, rfl⟩ := List.mem_iff_getElem.1 h
  have hp' : p < min q os.length := by simpa using hp
  exact ⟨p, by omega, by omega, by rw [nth_eq (by omega)]; simp⟩
theorem seqH_step {vs : List HVoy} {ns : List Nar} {rows : List HSt} {most : Int} {os : List Int} {q : Nat} {ls : List Int} {h : Int} (hs : SeqH vs ns rows most os q ls) (hn : os.Nodup) (hr : ∀ j ∈ os, 0 ≤ j ∧ j < vs.length) (hq : q < os.length) (hl : ls.length = vs.length)
    (hh : HoldR (clL vs ns rows ls (nth os q).toNat (os.take q)) h) (hm : h ≤ most) : SeqH vs ns rows most os (q + 1) (ls.set (nth os q).toNat h) := by
  intro p hp
  have hne : ∀ p, p < q → (nth os p).toNat ≠ (nth os q).toNat := fun p hp e => by
    have h1 := nodup_nth hn hp hq
    have h2 := hr _ (nth_mem (show p < os.length by omega))
    have h3 := hr _ (nth_mem hq)
    omega
  have hmem : ∀ p, p ≤ q → ∀ j ∈ os.take p, j.toNat ≠ (nth os q).toNat := fun p hp j hj => by
    obtain ⟨p', h1, h2, rfl⟩ := mem_take_nth hj
    exact hne p' (by omega)
  rw [clL_set (hmem p (by omega))]
  rcases Nat.lt_or_ge p q with h1 | h1
  · rw [nth_set_ne (fun e => hne p h1 e.symm)]; exact hs p h1
  · have : p = q := by omega
    subst this
    have h3 := hr _ (nth_mem hq)
    rw [nth_set_eq (by omega)]; exact ⟨hh, hm⟩
theorem set_rng {ls : List Int} {i : Nat} {v lo hi : Int} (h : ∀ x ∈ ls, lo ≤ x ∧ x ≤ hi) (hv : lo ≤ v ∧ v ≤ hi) : ∀ x ∈ ls.set i v, lo ≤ x ∧ x ≤ hi := fun x hx => by
  rcases List.mem_or_eq_of_mem_set hx with h1 | h1
  · exact h x h1
  · subst h1; exact hv
theorem Sl.subTo {α : Type} [Inhabited α] {enc : α → List Value} {k : Nat} {w : World} {ao : Option Addr} {b o : Nat} {xs : List α} (h : Sl enc k w ao b o xs) (cap n : Nat) (hc : xs.length ≤ cap) : Sl enc k w (subAddr ao cap 0 k) b o (xs.take n) := by
  have := h.sub cap 0 n hc
  simpa using this
def ordL (n : Nat) : List Int := (List.range n).map fun (k : Nat) => (k : Int)
theorem ordL_len (n : Nat) : (ordL n).length = n := by simp [ordL]
theorem ordL_succ (n : Nat) : ordL (n + 1) = ordL n ++ [(n : Int)] := by simp [ordL, List.range_succ]
theorem ordL_mem {n : Nat} : ∀ j ∈ ordL n, 0 ≤ j ∧ j < n := fun j hj => by
  simp [ordL] at hj
  obtain ⟨a, h1, rfl⟩ := hj
  omega
theorem ordL_nodup (n : Nat) : (ordL n).Nodup := by
  unfold ordL List.Nodup
  rw [List.pairwise_map]
  refine List.Pairwise.imp ?_ (List.nodup_range (n := n))
  intro a b h e
  exact h (by omega)

theorem holds_c (lim t : Nat) (vs : List HVoy) (ns : List Nar) (rows : List HSt) (av an ar : Option Addr) (bv ov bn on br cv cn cr : Nat) (os : List Int) (ao : Option Addr) (bo oo co : Nat) (most : Int) (w0 : World) (htr : Traf lim t vs ns rows av an ar bv ov bn on br cv cn cr w0) (hos : Sl encI 1 w0 ao bo oo os) (hosr : ∀ j ∈ os, 0 ≤ j ∧ j < vs.length) (hnd : os.Nodup) (hol : os.length ≤ 12) (hco : os.length ≤ co) (hmost : 0 ≤ most ∧ most ≤ 5000) :
    CallsV Try.prog 63 [.pointer (some ⟨t, 0, none⟩), .slice ao os.length co, .int .i64 most] w0 (fun v w' => ((∃ b ls, v = .tuple #[.slice (some ⟨b, 0, none⟩) vs.length vs.length, .int .i64 0, .bool true] ∧ Blk w' b 3 (ls.map (Value.int .i64)) ∧ ls.length = vs.length ∧ SeqH vs ns rows most os os.length ls ∧ (∀ h ∈ ls, 0 ≤ h ∧ h ≤ 5000) ∧ w0.heap.size ≤ b) ∨ (∃ (q : Nat) (ls : List Int) (hh : Int), v = .tuple #[.slice none 0 0, .int .i64 (q : Int), .bool false] ∧ q < os.length ∧ ls.length = vs.length ∧ SeqH vs ns rows most os q ls ∧ HoldR (clL vs ns rows ls (nth os q).toNat (os.take q)) hh ∧ most < hh)) ∧ Ext w0 w') := by
 have hll := htr.ll
 have htl := htr.tl
 have lt0 := htr.blk.lt
 have htb := htr.blk
 have hfew := htr.few
 have E0 := Upd.refl (fun _ => False) w0
 refine f_enter (N := 43) Try.func63 rfl rfl rfl ?_
 change WC _ _ _ _ _ _ [(0, .pointer (some ⟨t, 0, none⟩)), (1, .slice ao os.length co), (2, .int .i64 most)] _
 refine c_seq fun K1 hK1 => (c_region (t_assign rfl rfl rfl (t_assign rfl rfl rfl (t_assign rfl rfl rfl (t_nil' (hK1 _ _ (c_seq fun K2 hK2 => (c_region (t_move rfl rfl rfl (t_nilchk rfl rfl rfl (t_field Try.underlying160 rfl Try.sizeOf34 (0) rfl rfl rfl rfl (t_load Try.isAgg34 rfl rfl rfl (htb.get rfl) (t_len Try.underlying34 rfl rfl rfl rfl (t_makeI (n := vs.length) Try.underlying27 (by kernel_rfl) rfl rfl rfl rfl rfl (by omega) (fun bk3 w4 ebk3 sbk3 B5 u6 => ?_)))))))))))))))
 have zu6 := u6.size
 have E7 := E0.next u6 (fun _ _ h => h.elim)
 refine t_assign rfl rfl rfl (t_nil' (hK2 _ _ (c_seq fun K8 hK8 => (c_seq fun K9 hK9 => (c_region (t_move rfl rfl rfl (t_len Try.underlying27 rfl rfl rfl rfl (t_move rfl rfl rfl (t_nil' (hK9 _ _ (c_block (c_loop (γ := Nat × List Int) (fun gg => [(0, .pointer (some ⟨t, 0, none⟩)), (1, .slice ao os.length co), (2, .int .i64 most), (6, .slice (some ⟨bk3, 0, none⟩) vs.length vs.length), (17, .slice ao os.length co), (18, .int .i64 (os.length : Int)), (19, .int .i64 (gg.1 : Int))]) (fun gg w => Upd (fun i => i = bk3) w4 w ∧ Blk w bk3 3 (gg.2.map (Value.int .i64)) ∧ (gg.1 ≤ os.length) ∧ (gg.2.length = vs.length) ∧ (SeqH vs ns rows most os gg.1 gg.2) ∧ (∀ h ∈ gg.2, 0 ≤ h ∧ h ≤ 5000)) (fun gg => os.length - gg.1) (0, List.replicate vs.length 0) ⟨rfl, rfl, rfl, rfl, rfl, rfl, rfl, trivial⟩ ⟨Upd.refl _ _, B5, (Nat.zero_le _), (by simp), (fun p hp => by cases hp), (fun h hh => by have := List.eq_of_mem_replicate hh; omega)⟩ ?_))))))))))))
 intro gg w11 hW K10 hK10
 obtain ⟨q, ls⟩ := gg
 change WC _ _ _ _ _ _ [(0, .pointer (some ⟨t, 0, none⟩)), (1, .slice ao os.length co), (2, .int .i64 most), (6, .slice (some ⟨bk3, 0, none⟩) vs.length vs.length), (17, .slice ao os.length co), (18, .int .i64 (os.length : Int)), (19, .int .i64 (q : Int))] _
 change Upd (fun i => i = bk3) w4 w11 ∧ Blk w11 bk3 3 (ls.map (Value.int .i64)) ∧ (q ≤ os.length) ∧ (ls.length = vs.length) ∧ (SeqH vs ns rows most os q ls) ∧ (∀ h ∈ ls, 0 ≤ h ∧ h ≤ 5000) at hW
 obtain ⟨u12, I13, I14, I15, I16, I17⟩ := hW
 have zu12 := u12.size
 have E18 := E7.next u12 (fun i hi (h : i = bk3) => show False by first | omega | assumption)
 have hq := I14; clear I14
 have hll2 := I15; clear I15
 have hseq := I16; clear I16
 have hlr := I17; clear I17
 refine c_seq fun K19 hK19 => (c_region (t_cmp rfl rfl rfl rfl rfl (t_nil' (hK19 _ _ (c_seq fun K20 hK20 => (c_condp rfl (fun g20 => ?_) (fun g20 => ?_)))))))
 ·
  refine c_skip (hK20 _ _ (c_seq fun K21 hK21 => (c_block (c_seq fun K22 hK22 => (c_region (t_move rfl rfl rfl ?_))))))
  have i23 : q < os.length := (by omega)
  refine t_index (j := q) Try.underlying27 Try.sizeOf3 rfl rfl rfl rfl ((hos.keep E18 (fun _ h => h)).addr (by omega)) rfl i23 (t_load Try.isAgg3 rfl rfl rfl (((hos.keep E18 (fun _ h => h)).at_ q (by omega)) 0 _ rfl) ?_)
  have hir := hosr _ (nth_mem (xs := os) (i := q) (by omega))
  refine t_assign rfl rfl rfl (t_assign rfl rfl rfl (t_nil' (hK22 _ _ (c_seq fun K24 hK24 => (c_region (t_move rfl rfl rfl (t_move rfl rfl rfl (t_move rfl rfl rfl (t_move rfl rfl rfl (t_same 28 (v := .int .i64 ((nth os q).toNat : Int)) rfl (congrArg (Value.int .i64) (by omega)) (t_move rfl rfl rfl (t_move rfl rfl rfl (t_sliceTo ((os.take q).length) Try.underlying27 Try.sizeOf3 rfl rfl rfl rfl (by rw [List.length_take]; omega) (by rw [List.length_take]; omega) (t_move rfl rfl rfl (t_move rfl rfl rfl ?_)))))))))))))))
  have D25 := ((htr.keep u6 (fun _ _ h => h)).keep u12 (fun i hi => show ¬ (i = bk3) by omega))
  refine t_call (vs := [.pointer (some ⟨t, 0, none⟩), .int .i64 ((nth os q).toNat : Int), .slice (subAddr ao co 0 1) ((os.take q).length) co, .slice (some ⟨bk3, 0, none⟩) vs.length vs.length, .int .i64 most]) own101 rfl rfl rfl rfl (by have h := hold_c lim t vs ns rows av an ar bv ov bn on br cv cn cr (nth os q).toNat (os.take q) ls _ _ _ _ co _ _ vs.length most _ D25 (by omega) (Sl.subTo (hos.keep E18 (fun _ h => h)) co q hco) (fun j hj => hosr j (List.mem_of_mem_take hj)) (by rw [List.length_take]; omega) (SlI.own I13) hll2 hlr; rw [hll2] at h; exact h) (fun v26 w27 r29 => ?_)
  obtain ⟨⟨hh, rfl, hhr1⟩, u28⟩ := r29
  have zu28 := u28.size
  have E30 := E18.next u28 (fun _ _ h => h.elim)
  refine t_move rfl rfl rfl (t_extract (vs := [.int .i64 hh, .bool (decide (hh ≤ most))]) rfl rfl rfl rfl (t_extract (vs := [.int .i64 hh, .bool (decide (hh ≤ most))]) rfl rfl rfl rfl ?_))
  have B31 := (I13.keep u28 (fun h => h))
  have i32 : (nth os q).toNat < ls.length := (by omega)
  refine t_index (j := (nth os q).toNat) Try.underlying27 Try.sizeOf3 rfl rfl rfl rfl ((SlI.own B31).addr (by omega)) (by omega) (by omega) (t_storeI (ls := ls) (v := hh) ((nth os q).toNat) Try.sizeOf3 rfl rfl rfl B31 (by omega) (fun w33 sw33 B35 u34 => ?_))
  have zu34 := u34.size
  have E36 := E30.next u34 (fun i hi (h : i = bk3) => show False by first | omega | assumption)
  refine t_assign rfl rfl rfl (t_nil' (hK24 _ _ (c_seq fun K37 hK37 => (c_region (t_move rfl rfl rfl (t_notp rfl rfl rfl (t_nil' (hK37 _ _ (c_condp rfl (fun g39 => ?_) (fun g39 => ?_))))))))))
  ·
   refine c_seq fun K38 hK38 => (c_region (t_move rfl rfl rfl (t_assign rfl rfl rfl (t_assign rfl rfl rfl (t_assign rfl rfl rfl (t_nil' (hK38 _ _ (c_ret (f_ret3 (v1 := .slice none 0 0) (v2 := .int .i64 (q : Int)) (v3 := .bool false) Try.results63 rfl rfl rfl ?_)))))))))
   exact ⟨.inr ⟨q, ls, hh, rfl, (by omega), hll2, hseq, hhr1, (by omega)⟩, E36⟩
  ·
   refine c_skip (hK21 _ _ (c_region (t_ari rfl rfl rfl rfl rfl (by omega) (t_move rfl rfl rfl (t_nil' ?_)))))
   exact hK10 (q + 1, (ls.set ((nth os q).toNat) hh)) _ _ (by show os.length - (q + 1) < os.length - q; omega) ⟨rfl, rfl, rfl, rfl, rfl, rfl, rfl, trivial⟩ ⟨((u12.next u28 (fun _ _ h => h.elim)).next u34 (fun i hi (h : i = bk3) => show i = bk3 by first | omega | assumption)), B35, (by omega), (by show (ls.set _ _).length = vs.length; rw [List.length_set]; exact hll2), (seqH_step hseq hnd hosr (by omega) hll2 hhr1 (by omega)), (set_rng hlr (by have := hhr1.1; omega))⟩
 ·
  refine c_exit (hK8 _ _ (c_seq fun K39 hK39 => (c_region (t_move rfl rfl rfl (t_assign rfl rfl rfl (t_assign rfl rfl rfl (t_assign rfl rfl rfl (t_nil' (hK39 _ _ (c_ret (f_ret3 (v1 := .slice (some ⟨bk3, 0, none⟩) vs.length vs.length) (v2 := .int .i64 0) (v3 := .bool true) Try.results63 rfl rfl rfl ?_)))))))))))
  exact ⟨.inl ⟨_, ls, rfl, I13, hll2, (by rw [← show q = os.length from by omega]; exact hseq), hlr, (by omega)⟩, E18⟩

theorem Holds_c (vs : List HVoy) (ns : List Nar) (av an : Option Addr) (bv ov bn on cv cn : Nat) (most : Int) (w0 : World) (hs : Sl encHVoy 5 w0 av bv ov vs) (hruns : ∀ x ∈ vs, Sl encRun 6 w0 x.ao x.b x.o x.v.runs) (hrl : ∀ x ∈ vs, x.v.runs.length ≤ 1000000) (hn : Sl encNar 4 w0 an bn on ns) (hvl : vs.length ≤ 1000000) (hnl : ns.length ≤ 1000000) :
    CallsV Try.prog 23 [.slice av vs.length cv, .slice an ns.length cn, .int .i64 most] w0 (fun v w' => ((OpenE (vs.map HVoy.v) ns ≠ 0 ∧ v = .tuple #[.slice none 0 0, .int .i64 0, .int .i64 (OpenE (vs.map HVoy.v) ns)]) ∨ (OpenE (vs.map HVoy.v) ns = 0 ∧ ¬ (0 ≤ most ∧ most ≤ 5000) ∧ v = .tuple #[.slice none 0 0, .int .i64 0, .int .i64 3]) ∨ (OpenE (vs.map HVoy.v) ns = 0 ∧ (0 ≤ most ∧ most ≤ 5000) ∧ ∃ rows : List HSt, rows.map (·.ss) = vs.map (fun h => ns.map (thrS h.v)) ∧ ((∃ b ls, v = .tuple #[.slice (some ⟨b, 0, none⟩) vs.length vs.length, .int .i64 0, .int .i64 0] ∧ Blk w' b 3 (ls.map (Value.int .i64)) ∧ ls.length = vs.length ∧ SeqH vs ns rows most (ordL vs.length) vs.length ls ∧ (∀ h ∈ ls, 0 ≤ h ∧ h ≤ 5000)) ∨ (∃ (q : Nat) (ls : List Int) (hh : Int), v = .tuple #[.slice none 0 0, .int .i64 (q : Int), .int .i64 7] ∧ q < vs.length ∧ ls.length = vs.length ∧ SeqH vs ns rows most (ordL vs.length) q ls ∧ HoldR (clL vs ns rows ls (nth (ordL vs.length) q).toNat ((ordL vs.length).take q)) hh ∧ most < hh)))) ∧ Ext w0 w') := by
 have E0 := Upd.refl (fun _ => False) w0
 refine f_enter (N := 50) Try.func23 rfl rfl rfl ?_
 change WC _ _ _ _ _ _ [(0, .slice av vs.length cv), (1, .slice an ns.length cn), (2, .int .i64 most)] _
 refine c_seq fun K1 hK1 => (c_region (t_assign rfl rfl rfl (t_assign rfl rfl rfl (t_assign rfl rfl rfl (t_nil' (hK1 _ _ (c_seq fun K2 hK2 => (c_region (t_move rfl rfl rfl (t_move rfl rfl rfl (t_call (vs := [.slice av vs.length cv, .slice an ns.length cn]) own62 rfl rfl rfl rfl (open_c vs ns av an bv ov bn on cv cn _ hs (fun x hx => (hruns x hx).keep E0 (fun _ h => h)) hrl hn hvl hnl) (fun v3 w4 r6 => ?_))))))))))))
 obtain ⟨p, rfl, hop, _, u5⟩ := r6
 have zu5 := u5.size
 have E7 := E0.next u5 (fun _ _ h => h.elim)
 refine t_move rfl rfl rfl (t_extract (vs := [p, .int .i64 (OpenE (vs.map HVoy.v) ns)]) rfl rfl rfl rfl (t_extract (vs := [p, .int .i64 (OpenE (vs.map HVoy.v) ns)]) rfl rfl rfl rfl (t_assign rfl rfl rfl (t_assign rfl rfl rfl (t_nil' (hK2 _ _ (c_seq fun K8 hK8 => (c_block (c_seq fun K9 hK9 => (c_region (t_move rfl rfl rfl (t_cmp rfl rfl rfl rfl rfl (t_assign rfl rfl rfl (t_nil' (hK9 _ _ (c_condp rfl (fun g19 => ?_) (fun g19 => ?_)))))))))))))))))
 ·
  refine c_seq fun K10 hK10 => (c_region (t_move rfl rfl rfl (t_assign rfl rfl rfl (t_assign rfl rfl rfl (t_assign rfl rfl rfl (t_nil' (hK10 _ _ (c_ret (f_ret3 (v1 := .slice none 0 0) (v2 := .int .i64 0) (v3 := .int .i64 (OpenE (vs.map HVoy.v) ns)) Try.results23 rfl rfl rfl ?_)))))))))
  exact ⟨.inl ⟨g19, rfl⟩, E7⟩
 ·
  have hE : OpenE (vs.map HVoy.v) ns = 0 := Decidable.not_not.1 g19
  obtain ⟨t, rows, lim, ar, br, cr, rfl, htr, _⟩ := hop hE
  have hll := htr.ll
  have htl := htr.tl
  have hfew := htr.few
  refine c_seq fun K11 hK11 => (c_region (t_move rfl rfl rfl (t_bslice (ps := [(0, .int .i64 most)]) (cs := [.int .i64 most]) (e := 3) rfl rfl ⟨rfl, rfl⟩ (fun w => by kernel_rfl) (fun bk12 w13 ebk12 sbk12 B14 u15 => ?_))))
  have zu15 := u15.size
  have E16 := E7.next u15 (fun _ _ h => h.elim)
  refine t_call (vs := [.int .i64 0, .int .i64 5000, .slice (some ⟨bk12, 0, none⟩) 1 1]) own58 rfl rfl rfl rfl (within1_v 0 5000 most _ _ _ B14) (fun v17 w18 r20 => ?_)
  obtain ⟨rfl, u19⟩ := r20
  have zu19 := u19.size
  have E21 := E16.next u19 (fun _ _ h => h.elim)
  refine t_notp rfl rfl rfl (t_assign rfl rfl rfl (t_nil' (hK11 _ _ (c_condp rfl (fun g23 => ?_) (fun g23 => ?_)))))
  ·
   refine c_seq fun K22 hK22 => (c_region (t_assign rfl rfl rfl (t_assign rfl rfl rfl (t_assign rfl rfl rfl (t_nil' (hK22 _ _ (c_ret (f_ret3 (v1 := .slice none 0 0) (v2 := .int .i64 0) (v3 := .int .i64 3) Try.results23 rfl rfl rfl ?_))))))))
   exact ⟨.inr (.inl ⟨hE, g23, rfl⟩), E21⟩
  ·
   have hmost := Decidable.not_not.1 g23
   refine c_skip (hK8 _ _ (c_seq fun K23 hK23 => (c_region (t_assign rfl rfl rfl (t_nil' (hK23 _ _ (c_seq fun K24 hK24 => (c_seq fun K25 hK25 => (c_region (t_move rfl rfl rfl (t_len Try.underlying34 rfl rfl rfl rfl (t_move rfl rfl rfl (t_nil' (hK25 _ _ (c_block (c_loop (γ := Nat × Option Addr × Nat × Nat × List Int) (fun gg => [(2, .int .i64 most), (9, .pointer (some ⟨t, 0, none⟩)), (10, .slice gg.2.1 gg.2.2.2.2.length gg.2.2.2.1), (29, .int .i64 (vs.length : Int)), (30, .int .i64 (gg.1 : Int))]) (fun gg w => Upd (fun _ => False) w18 w ∧ (gg.1 ≤ vs.length) ∧ (gg.2.2.2.2 = ordL gg.1) ∧ (Acc encI 1 3 w18.heap.size w gg.2.1 gg.2.2.1 gg.2.2.2.1 gg.2.2.2.2)) (fun gg => vs.length - gg.1) (0, none, 0, 0, []) ⟨rfl, rfl, rfl, rfl, rfl, trivial⟩ ⟨Upd.refl _ _, (Nat.zero_le _), rfl, (Acc.nil _ _ _ _ _ (by omega) (Nat.le_refl _))⟩ ?_))))))))))))))))
   intro gg w27 hW K26 hK26
   obtain ⟨k, ao2, g2, c2, od⟩ := gg
   change WC _ _ _ _ _ _ [(2, .int .i64 most), (9, .pointer (some ⟨t, 0, none⟩)), (10, .slice ao2 od.length c2), (29, .int .i64 (vs.length : Int)), (30, .int .i64 (k : Int))] _
   change Upd (fun _ => False) w18 w27 ∧ (k ≤ vs.length) ∧ (od = ordL k) ∧ (Acc encI 1 3 w18.heap.size w27 ao2 g2 c2 od) at hW
   obtain ⟨u28, I29, I30, I31⟩ := hW
   have zu28 := u28.size
   have E32 := E21.next u28 (fun _ _ h => h.elim)
   have hk := I29; clear I29
   have hod := I30; clear I30
   have hacc := I31; clear I31
   have lt_g2 := hacc.lt
   have hodlen : od.length = k := by rw [hod, ordL_len]
   refine c_seq fun K33 hK33 => (c_region (t_cmp rfl rfl rfl rfl rfl (t_nil' (hK33 _ _ (c_seq fun K34 hK34 => (c_condp rfl (fun g31 => ?_) (fun g31 => ?_)))))))
   ·
    refine c_skip (hK34 _ _ (c_seq fun K35 hK35 => (c_block (c_seq fun K36 hK36 => (c_region (t_move rfl rfl rfl (t_assign rfl rfl rfl (t_nil' (hK36 _ _ (c_region (t_move rfl rfl rfl (t_move rfl rfl rfl (t_bslice (ps := [(0, .int .i64 (k : Int))]) (cs := [.int .i64 (k : Int)]) (e := 3) rfl rfl ⟨rfl, rfl⟩ (fun w => by kernel_rfl) (fun bk37 w38 ebk37 sbk37 B39 u40 => ?_))))))))))))))
    have zu40 := u40.size
    have D42 := (hacc.keep u40 (fun _ h => h))
    refine t_append (z := .int .i64 0) (bytes := 8) (k := 1) (base := w18.heap.size) (k : Int) Try.underlying27 (by kernel_rfl) rfl (by decide) (fun _ => rfl) (by intro x; simp [encI, Value.oneCell']) rfl rfl rfl rfl D42 B39 (by omega) (by omega) (by decide) (fun ao43 gb44 cp45 w46 A47 u48 gegb44 lngb44 => ?_)
    have zu48 := u48.size
    have lt_gb44 := A47.lt
    refine t_assign rfl rfl rfl (t_nil' (hK35 _ _ (c_region (t_ari rfl rfl rfl rfl rfl (by omega) (t_move rfl rfl rfl (t_nil' ?_))))))
    exact hK26 (k + 1, ao43, gb44, cp45, (od ++ [(k : Int)])) _ _ (by show vs.length - (k + 1) < vs.length - k; omega) ⟨rfl, rfl, rfl, rfl, rfl, trivial⟩ ⟨((u28.next u40 (fun _ _ h => h.elim)).next u48 (fun i hi (h : (i = g2 ∧ w18.heap.size ≤ i)) => show False by first | omega | assumption)), (by omega), (by rw [hod, ordL_succ]), A47⟩
   ·
    refine c_exit (hK24 _ _ (c_seq fun K50 hK50 => (c_region (t_move rfl rfl rfl (t_move rfl rfl rfl (t_move rfl rfl rfl ?_))))))
    have hodl : od = ordL vs.length := by rw [hod, show k = vs.length from by omega]
    have hol : od.length = vs.length := by rw [hodl, ordL_len]
    have hcap := (hacc).cap_le
    have D51 := (((htr.keep u15 (fun _ _ h => h)).keep u19 (fun _ _ h => h)).keep u28 (fun _ _ h => h))
    refine t_call (vs := [.pointer (some ⟨t, 0, none⟩), .slice ao2 od.length c2, .int .i64 most]) own63 rfl rfl rfl rfl (holds_c lim t vs ns rows av an ar bv ov bn on br cv cn cr od ao2 g2 0 c2 most _ D51 (hacc.sl (fun _ => rfl)) (by rw [hodl]; exact ordL_mem) (by rw [hodl]; exact ordL_nodup _) (by omega) hcap hmost) (fun v52 w53 r55 => ?_)
    rcases r55 with ⟨⟨bL, ls, rfl, hBL, hlsl, hseq, hlsr, hbL⟩ | ⟨q, ls, hh, rfl, hq, hlsl, hseq, hhr1, hmh⟩, u54⟩
    ·
     have zu54 := u54.size
     have E56 := E32.next u54 (fun _ _ h => h.elim)
     refine t_move rfl rfl rfl (t_extract (vs := [.slice (some ⟨bL, 0, none⟩) vs.length vs.length, .int .i64 0, .bool true]) rfl rfl rfl rfl (t_extract (vs := [.slice (some ⟨bL, 0, none⟩) vs.length vs.length, .int .i64 0, .bool true]) rfl rfl rfl rfl (t_extract (vs := [.slice (some ⟨bL, 0, none⟩) vs.length vs.length, .int .i64 0, .bool true]) rfl rfl rfl rfl (t_assign rfl rfl rfl (t_assign rfl rfl rfl (t_assign rfl rfl rfl (t_nil' (hK50 _ _ (c_seq fun K57 hK57 => (c_seq fun K58 hK58 => (c_region (t_move rfl rfl rfl (t_not rfl rfl rfl (t_nil' (hK58 _ _ (c_cond_f rfl (c_skip (hK57 _ _ (c_seq fun K59 hK59 => (c_region (t_move rfl rfl rfl (t_assign rfl rfl rfl (t_assign rfl rfl rfl ?_)))))))))))))))))))))))
     refine t_assign rfl rfl rfl (t_nil' (hK59 _ _ (c_ret (f_ret3 (v1 := .slice (some ⟨bL, 0, none⟩) vs.length vs.length) (v2 := .int .i64 0) (v3 := .int .i64 0) Try.results23 rfl rfl rfl ?_))))
     exact ⟨.inr (.inr ⟨hE, hmost, rows, htr.eq, .inl ⟨bL, ls, rfl, hBL, hlsl, (by have h := hseq; rw [hol, hodl] at h; exact h), hlsr⟩⟩), E56⟩
    ·
     have zu54 := u54.size
     have E60 := E32.next u54 (fun _ _ h => h.elim)
     refine t_move rfl rfl rfl (t_extract (vs := [.slice none 0 0, .int .i64 (q : Int), .bool false]) rfl rfl rfl rfl (t_extract (vs := [.slice none 0 0, .int .i64 (q : Int), .bool false]) rfl rfl rfl rfl (t_extract (vs := [.slice none 0 0, .int .i64 (q : Int), .bool false]) rfl rfl rfl rfl (t_assign rfl rfl rfl (t_assign rfl rfl rfl (t_assign rfl rfl rfl (t_nil' (hK50 _ _ (c_seq fun K61 hK61 => (c_seq fun K62 hK62 => (c_region (t_move rfl rfl rfl (t_not rfl rfl rfl (t_nil' (hK62 _ _ (c_cond_t rfl (c_seq fun K63 hK63 => (c_region (t_move rfl rfl rfl (t_assign rfl rfl rfl (t_assign rfl rfl rfl (t_assign rfl rfl rfl (t_nil' ?_)))))))))))))))))))))))
     refine hK63 _ _ (c_ret (f_ret3 (v1 := .slice none 0 0) (v2 := .int .i64 (q : Int)) (v3 := .int .i64 7) Try.results23 rfl rfl rfl ?_))
     exact ⟨.inr (.inr ⟨hE, hmost, rows, htr.eq, .inr ⟨q, ls, hh, rfl, (by omega), hlsl, (by have h := hseq; rw [hodl] at h; exact h), (by have h := hhr1; rw [hodl] at h; exact h), hmh⟩⟩), E60⟩

end Go.Proofs.Ytmicjleiheoieaa
