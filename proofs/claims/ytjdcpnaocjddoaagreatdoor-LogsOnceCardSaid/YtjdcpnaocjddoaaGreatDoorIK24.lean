/-
  Part 24 of the proof: contracts and plain laws. Conditions: none.
-/
import Derived.Test.YtjdcpnaocjddoaaGreatDoorRows
import Derived.Handed
import Derived.LaidLaws
import Derived.Lib.LaidTab
import Derived.SizedLaws
import Derived.Test.YtjdcpnaocjddoaaGreatDoorIK23
namespace Go.Proofs.YtjdcpnaocjddoaaGreatDoor
open Go Go.RowKit
/-! ### a log is read as it was written -/
theorem cd_code {n : Nat} (hn : n ≤ 1000000000) (r : List UInt8) (b : Bool) : cdV ⟨codeP n ++ r, b⟩ = (n : Int) ∧ cdS ⟨codeP n ++ r, b⟩ = ⟨r, b⟩ := by
  have h := dec_code n hn r
  unfold cdV cdS
  rw [h]
  refine ⟨if_pos rfl, ?_⟩
  rw [if_pos rfl]
  show (⟨(codeP n ++ r).drop ((codeP n).length : Int).toNat, b⟩ : Scr) = _
  rw [Int.toNat_natCast, List.drop_left' rfl]
theorem kind_bits {k : Int} (h : 1 ≤ k ∧ k ≤ 4) : ∃ a b, putP (k - 1).toNat 2 = [a, b] ∧ 1 + 2 * d48 a + d48 b = k := by
  have hk : k = 1 ∨ k = 2 ∨ k = 3 ∨ k = 4 := by omega
  rcases hk with rfl | rfl | rfl | rfl
  · exact ⟨_, _, rfl, by decide⟩
  · exact ⟨_, _, rfl, by decide⟩
  · exact ⟨_, _, rfl, by decide⟩
  · exact ⟨_, _, rfl, by decide⟩
theorem codes_two (a b : Int) : codesP [a, b] = codeP a.toNat ++ codeP b.toNat := by simp [codesP]
theorem ent_ext {x : Ent} {m k h p b t : Int} (h1 : m = x.m) (h2 : k = x.k) (h3 : h = x.h) (h4 : p = x.p) (h5 : b = x.b) (h6 : t = x.t) : (⟨m, k, h, p, b, t⟩ : Ent) = x := by
  subst h1; subst h2; subst h3; subst h4; subst h5; subst h6; rfl
theorem ent_back {m : Int} {x : Ent} (hx : okEnt x = true) (hm : m ≤ x.m) (h0 : 0 ≤ m) (r : List UInt8) (c : Bool) : entV ⟨entP m x ++ r, c⟩ m = x ∧ entS ⟨entP m x ++ r, c⟩ = ⟨r, c⟩ := by
  have hq : ((0 ≤ x.m ∧ x.m ≤ 1000000) ∧ (1 ≤ x.h ∧ x.h ≤ 999) ∧ (1 ≤ x.k ∧ x.k ≤ 4) ∧ (((x.k = 1 ∨ x.k = 3) ∧ (0 ≤ x.p ∧ x.p ≤ 100000) ∧ x.b = 0 ∧ x.t = 0) ∨ (¬ (x.k = 1 ∨ x.k = 3) ∧ x.p = 0 ∧ (1 ≤ x.b ∧ x.b ≤ 9999) ∧ (1 ≤ x.t ∧ x.t ≤ 100000)))) := of_decide_eq_true hx
  obtain ⟨q1, q2, q3, q4⟩ := hq
  obtain ⟨a, b, e1, e2⟩ := kind_bits q3
  by_cases hk : x.k = 1 ∨ x.k = 3
  · obtain ⟨_, qp, qb, qt⟩ := q4.resolve_right (fun h => h.1 hk)
    have hp : plK x.k = true := decide_eq_true hk
    have er : entP m x ++ r = a :: b :: (codeP (x.m - m).toNat ++ (codeP (x.h - 1).toNat ++ (codeP x.p.toNat ++ r))) := by
      unfold entP
      rw [e1, codes_two, if_pos hp, codesP_one]
      simp only [List.append_assoc, List.cons_append, List.nil_append]
    rw [er]
    have ek : knd ⟨a :: b :: (codeP (x.m - m).toNat ++ (codeP (x.h - 1).toNat ++ (codeP x.p.toNat ++ r))), c⟩ = x.k := e2
    have es : s2_ ⟨a :: b :: (codeP (x.m - m).toNat ++ (codeP (x.h - 1).toNat ++ (codeP x.p.toNat ++ r))), c⟩ = ⟨codeP (x.m - m).toNat ++ (codeP (x.h - 1).toNat ++ (codeP x.p.toNat ++ r)), c⟩ := rfl
    have hl : ¬ (a :: b :: (codeP (x.m - m).toNat ++ (codeP (x.h - 1).toNat ++ (codeP x.p.toNat ++ r)))).length < 2 := by simp only [List.length_cons]; omega
    have c1 := cd_code (n := (x.m - m).toNat) (by omega) (codeP (x.h - 1).toNat ++ (codeP x.p.toNat ++ r)) c
    have c2 := cd_code (n := (x.h - 1).toNat) (by omega) (codeP x.p.toNat ++ r) c
    have c3 := cd_code (n := x.p.toNat) (by omega) r c
    unfold entV entS
    rw [if_neg hl, if_neg hl, ek, if_pos hp, if_pos hp, es, c1.1, c1.2, c2.1, c2.2, c3.1, c3.2]
    exact ⟨ent_ext (by omega) rfl (by omega) (by omega) qb.symm qt.symm, rfl⟩
  · obtain ⟨_, qp, qb, qt⟩ := q4.resolve_left (fun h => hk h.1)
    have hp : ¬ plK x.k = true := fun h => hk (of_decide_eq_true h)
    have er : entP m x ++ r = a :: b :: (codeP (x.m - m).toNat ++ (codeP (x.h - 1).toNat ++ (codeP (x.b - 1).toNat ++ (codeP (x.t - 1).toNat ++ r)))) := by
      unfold entP
      rw [e1, codes_two, if_neg hp, codes_two]
      simp only [List.append_assoc, List.cons_append, List.nil_append]
    rw [er]
    have ek : knd ⟨a :: b :: (codeP (x.m - m).toNat ++ (codeP (x.h - 1).toNat ++ (codeP (x.b - 1).toNat ++ (codeP (x.t - 1).toNat ++ r)))), c⟩ = x.k := e2
    have es : s2_ ⟨a :: b :: (codeP (x.m - m).toNat ++ (codeP (x.h - 1).toNat ++ (codeP (x.b - 1).toNat ++ (codeP (x.t - 1).toNat ++ r)))), c⟩ = ⟨codeP (x.m - m).toNat ++ (codeP (x.h - 1).toNat ++ (codeP (x.b - 1).toNat ++ (codeP (x.t - 1).toNat ++ r))), c⟩ := rfl
    have hl : ¬ (a :: b :: (codeP (x.m - m).toNat ++ (codeP (x.h - 1).toNat ++ (codeP (x.b - 1).toNat ++ (codeP (x.t - 1).toNat ++ r))))).length < 2 := by simp only [List.length_cons]; omega
    have c1 := cd_code (n := (x.m - m).toNat) (by omega) (codeP (x.h - 1).toNat ++ (codeP (x.b - 1).toNat ++ (codeP (x.t - 1).toNat ++ r))) c
    have c2 := cd_code (n := (x.h - 1).toNat) (by omega) (codeP (x.b - 1).toNat ++ (codeP (x.t - 1).toNat ++ r)) c
    have c3 := cd_code (n := (x.b - 1).toNat) (by omega) (codeP (x.t - 1).toNat ++ r) c
    have c4 := cd_code (n := (x.t - 1).toNat) (by omega) r c
    unfold entV entS
    rw [if_neg hl, if_neg hl, ek, if_neg hp, if_neg hp, es, c1.1, c1.2, c2.1, c2.2, c3.1, c3.2, c4.1, c4.2]
    exact ⟨ent_ext (by omega) rfl (by omega) qp.symm (by omega) (by omega), rfl⟩
theorem parN_back : ∀ (l : List Ent) (m : Int) (E : List Ent) (r : List UInt8), chkG m l = 0 → 0 ≤ m → parN l.length ⟨entsG m l ++ r, false⟩ m E = (E ++ l, ⟨r, false⟩)
  | [], m, E, r, _, _ => by
    show (E, (⟨[] ++ r, false⟩ : Scr)) = _
    rw [List.append_nil, List.nil_append]
  | x :: l, m, E, r, h, h0 => by
    obtain ⟨h1, h2, h3⟩ := chkG_cons h
    have hb := ent_back h1 h2 h0 (entsG x.m l ++ r) false
    have e : entsG m (x :: l) ++ r = entP m x ++ (entsG x.m l ++ r) := by
      show (entP m x ++ entsG x.m l) ++ r = _
      rw [List.append_assoc]
    rw [List.length_cons, e, parN_step rfl, hb.1, hb.2, parN_back l x.m (E ++ [x]) r h3 (by omega), List.append_assoc]; rfl
theorem parP_back {l : List Ent} (h : chkE l = 0) (r : List UInt8) : parP (tapeP l ++ r) = (l, ⟨r, false⟩) := by
  have hc : l.length ≠ 0 ∧ l.length ≤ 2000 ∧ chkG 0 l = 0 := by
    unfold chkE at h
    split at h
    · cases h
    · split at h
      · cases h
      · exact ⟨by assumption, by omega, h⟩
  have e : tapeP l ++ r = codeP ((l.length : Int) - 1).toNat ++ (entsG 0 l ++ r) := by
    unfold tapeP
    rw [codesP_one, List.append_assoc]
  have c1 := cd_code (n := ((l.length : Int) - 1).toNat) (by omega) (entsG 0 l ++ r) false
  unfold parP
  rw [e, c1.1, c1.2, show ((((l.length : Int) - 1).toNat : Int) + 1).toNat = l.length by omega, parN_back l 0 [] r hc.2.2 (by decide)]
  rfl
/-! the digits of a log's data -/
def dgB (d : Bk) : List UInt8 := digs (d.l.take 30)
def segD (v : List Bk) (n a : Nat) : Nat → List UInt8
  | 0 => []
  | j + 1 => segD v n a j ++ tapG v n (a + j)
theorem tapB_seg (v : List Bk) : ∀ k, tapB v k = segD v v.length 0 k
  | 0 => rfl
  | k + 1 => by
    show tapB v k ++ _ = segD v v.length 0 k ++ _
    rw [tapB_seg v k, Nat.zero_add]
theorem segD_add (v : List Bk) (n a i : Nat) : ∀ j, segD v n a (i + j) = segD v n a i ++ segD v n (a + i) j
  | 0 => by
    show segD v n a i = segD v n a i ++ []
    rw [List.append_nil]
  | j + 1 => by
    show segD v n a (i + j) ++ tapG v n (a + (i + j)) = segD v n a i ++ (segD v n (a + i) j ++ tapG v n (a + i + j))
    rw [segD_add v n a i j, List.append_assoc, Nat.add_assoc]
theorem group_data (v ds : List Bk) : ∃ g, shutG (ds.foldl nextR (v, zeroBk)) = v ++ g ∧ g.length = ds.length + 1 ∧ ∀ i, i < ds.length → dgB (nth g i) = dgB (nth ds i) := by
  obtain ⟨g, h1, h2, h3⟩ := foldR_v (v, zeroBk) ds
  have hl : (ds.foldl nextR (v, zeroBk)).1.length = v.length + ds.length := by rw [foldR_len]
  refine ⟨g ++ [(ds.foldl nextR (v, zeroBk)).2.shutB (v.length + ds.length)], ?_, by rw [List.length_append, h2]; rfl, fun i hi => ?_⟩
  · unfold shutG
    rw [hl, h1, List.append_assoc]
  · unfold dgB
    rw [nth_app_l (by omega), h3 i hi, shut_take]
theorem seg_group {v ds : List Bk} {n a : Nat} (h5 : a % 5 = 0) (h4 : ds.length ≤ 4) (hn : a + ds.length + 1 ≤ n) (hL : ds.length = 4 ∨ n = a + ds.length + 1) (hg : ∀ i, i < ds.length → dgB (nth v (a + i)) = dgB (nth ds i)) : segD v n a (ds.length + 1) = ds.flatMap dgB := by
  have hi : ∀ i, i < 5 → gF (a + i) = a := fun i h => by unfold gF; omega
  have key : ∀ j, j ≤ ds.length → segD v n a j = (ds.take j).flatMap dgB := by
    intro j
    induction j with
    | zero => intro _; rfl
    | succ j ih =>
      intro hj
      have ht : tapG v n (a + j) = dgB (nth ds j) := by
        unfold tapG
        rw [if_neg (by unfold gL; rw [hi j (by omega)]; omega)]
        exact hg j (by omega)
      show segD v n a j ++ tapG v n (a + j) = _
      rw [ih (by omega), ht, take_nth (by omega), List.flatMap_append]
      simp
  show segD v n a ds.length ++ tapG v n (a + ds.length) = _
  have ht : tapG v n (a + ds.length) = [] := by
    unfold tapG
    rw [if_pos (by unfold gL; rw [hi ds.length (by omega)]; omega)]
  rw [key ds.length (Nat.le_refl _), ht, List.append_nil, List.take_length]
theorem grp_tape : ∀ (n : Nat) (u ds : List Bk), ds.length ≤ n → u.length % 5 = 0 → ∃ r, grpN n u ds = u ++ r ∧ segD (u ++ r) (u ++ r).length u.length r.length = ds.flatMap dgB := by
  intro n
  induction n with
  | zero =>
    intro u ds h _
    have : ds = [] := List.length_eq_zero_iff.1 (by omega)
    subst this
    exact ⟨[], by simp [grpN], rfl⟩
  | succ n ih =>
    intro u ds h h5
    by_cases h0 : ds.length = 0
    · have : ds = [] := List.length_eq_zero_iff.1 h0
      subst this
      exact ⟨[], by simp [grpN], rfl⟩
    · obtain ⟨g, g1, g2, g3⟩ := group_data u (ds.take 4)
      have htl : (ds.take 4).length = min 4 ds.length := List.length_take
      have hgr : grpN (n + 1) u ds = grpN n (u ++ g) (ds.drop 4) := by
        conv => lhs; unfold grpN
        rw [if_neg h0, g1]
      by_cases h4 : ds.length ≤ 4
      · have hd : ds.drop 4 = [] := List.drop_of_length_le h4
        have ht : ds.take 4 = ds := List.take_of_length_le h4
        rw [ht] at g2 g3
        refine ⟨g, by rw [hgr, hd, grpN_nil], ?_⟩
        rw [g2]
        exact seg_group h5 h4 (by rw [List.length_append]; omega) (.inr (by rw [List.length_append]; omega)) (fun i hi => by rw [nth_app_r (by omega), Nat.add_sub_cancel_left]; exact g3 i hi)
      · have hg5 : g.length = 5 := by omega
        obtain ⟨r, r1, r2⟩ := ih (u ++ g) (ds.drop 4) (by rw [List.length_drop]; omega) (by rw [List.length_append]; omega)
        refine ⟨g ++ r, by rw [hgr, r1, List.append_assoc], ?_⟩
        rw [List.append_assoc] at r2
        rw [show (u ++ g).length = u.length + g.length from List.length_append] at r2
        rw [show (g ++ r).length = g.length + r.length from List.length_append, segD_add, r2, show g.length = (ds.take 4).length + 1 by omega, seg_group h5 (by omega) (by rw [List.length_append, List.length_append]; omega) (.inl (by omega)) (fun i hi => by rw [nth_app_r (by omega), Nat.add_sub_cancel_left, nth_app_l (by omega)]; exact g3 i hi), ← List.flatMap_append, List.take_append_drop]
theorem chunk_tape : ∀ (n : Nat) (t : List UInt8), t.length ≤ n → (∀ x ∈ t, x = 48 ∨ x = 49) → ∃ z, ((chunk t).map blkOf).flatMap dgB = t ++ List.replicate z 48 := by
  intro n
  induction n with
  | zero =>
    intro t h hb
    rw [chunk_eq, if_pos (by omega)]
    refine ⟨240 - t.length, ?_⟩
    show digs ((blkOf t).l.take 30) ++ [] = _
    rw [List.append_nil, digs_blk hb (by omega)]
  | succ n ih =>
    intro t h hb
    by_cases h2 : t.length ≤ 240
    · rw [chunk_eq, if_pos h2]
      refine ⟨240 - t.length, ?_⟩
      show digs ((blkOf t).l.take 30) ++ [] = _
      rw [List.append_nil, digs_blk hb h2]
    · obtain ⟨z, hz⟩ := ih (t.drop 240) (by rw [List.length_drop]; omega) (fun x hx => hb x (List.mem_of_mem_drop hx))
      have hl : (t.take 240).length = 240 := by rw [List.length_take]; omega
      rw [chunk_eq, if_neg h2]
      refine ⟨z, ?_⟩
      show digs ((blkOf (t.take 240)).l.take 30) ++ ((chunk (t.drop 240)).map blkOf).flatMap dgB = _
      rw [hz, digs_blk (fun x hx => hb x (List.mem_of_mem_take hx)) (by omega), hl, Nat.sub_self]
      show t.take 240 ++ [] ++ (t.drop 240 ++ _) = _
      rw [List.append_nil, ← List.append_assoc, List.take_append_drop]
theorem fill_tape {t : List UInt8} (hb : ∀ x ∈ t, x = 48 ∨ x = 49) : ∃ z, tapB (fillP t) (fillP t).length = t ++ List.replicate z 48 := by
  have e : fillP t = grpN ((chunk t).map blkOf).length [] ((chunk t).map blkOf) := by rw [fillP_eq, grp_eq _ _ [] (Nat.le_refl _) rfl]
  obtain ⟨r, r1, r2⟩ := grp_tape ((chunk t).map blkOf).length [] ((chunk t).map blkOf) (Nat.le_refl _) rfl
  obtain ⟨z, hz⟩ := chunk_tape t.length t (Nat.le_refl _) hb
  rw [List.nil_append] at r1 r2
  refine ⟨z, ?_⟩
  rw [tapB_seg, e, r1, ← hz]
  exact r2
/-- a log is read as it was written -/
theorem readR_log {l : List Ent} (h : chkE l = 0) (h13 : (writeP l).length ≤ 1300) : readR (bytesP (writeP l)) = (l, 0, 0) := by
  have hg : GoodV (writeP l) := (fill_good (tapeP l)).1
  obtain ⟨ho, hp⟩ := opE_bytes hg h13 (U := writeP l) rfl
  obtain ⟨z, hz⟩ := fill_tape (t := tapeP l) (fun x hx => tapeP_bits (l := l) x hx)
  have hz : tapB (writeP l) (writeP l).length = tapeP l ++ List.replicate z 48 := hz
  have hb : badP (writeP l) = [] := badP_nil fun i hi => by
    unfold badB
    rw [decide_eq_true (hg.ok i hi)]; rfl
  unfold readR
  rw [if_neg (by rw [ho]; decide), hp, hb]
  show (if _ then _ else _) = _
  rw [hz, parP_back h]
  rw [if_neg (by
    rintro (q | q | q)
    · cases q
    · exact q h
    · exact q rfl)]

end Go.Proofs.YtjdcpnaocjddoaaGreatDoor
namespace Go.Proofs.YtjdcpnaocjddoaaGreatDoor
open Go Go.RowKit Go.Proofs.Tryz
/-! ### codes, one after another -/
def encU (n : Nat) : List Value := [.int .u32 (n : Int)]
def remsP (ns : List Nat) : List UInt8 := ns.flatMap fun n => codeP (n % 1000000001)
theorem rems_take {ns : List Nat} {i : Nat} (h : i < ns.length) : remsP (ns.take (i + 1)) = remsP (ns.take i) ++ codeP (nth ns i % 1000000001) := by
  unfold remsP
  rw [take_nth h, List.flatMap_append]; simp
theorem rems_drop {ns : List Nat} {i : Nat} (h : i < ns.length) : remsP (ns.drop i) = codeP (nth ns i % 1000000001) ++ remsP (ns.drop (i + 1)) := by
  unfold remsP
  rw [drop_nth h, List.flatMap_cons]
theorem rem_le (n : Nat) : n % 1000000001 ≤ 1000000000 := by omega
theorem rems_len : ∀ ns : List Nat, (remsP ns).length ≤ 59 * ns.length
  | [] => Nat.le_refl _
  | n :: r => by
    have ih := rems_len r
    have h1 := codeP_len_le (rem_le n)
    show (codeP (n % 1000000001) ++ remsP r).length ≤ _
    rw [List.length_append, List.length_cons]; omega
theorem CodeN_c (m : Nat) (hm : m ≤ 1000000000) (w0 : World) : CallsV Tryz.prog 24 [.int .i64 (m : Int)] w0 fun v w' => v = .tuple #[.string (strB (codeP m)), .int .i64 0] ∧ Ext w0 w' := by
  have h := Code_c (m : Int) w0
  have e : codeR (m : Int) = (codeP m, 0) := by unfold codeR; rw [if_pos (by omega), Int.toNat_natCast]
  rw [e] at h; exact h
theorem DecodeN_c (m : Nat) (hm : m ≤ 1000000000) (r : List UInt8) (w0 : World) (hr : r.length ≤ 100000) : CallsV Tryz.prog 26 [.string (strB (codeP m ++ r))] w0 fun v w' => v = .tuple #[.int .i64 (m : Int), .int .i64 ((codeP m).length : Int), .int .i64 0] ∧ Ext w0 w' := by
  have hl := codeP_len_le hm
  have h := Decode_c (codeP m ++ r) w0 (by rw [List.length_append]; omega)
  rw [dec_code m hm r] at h; exact h
/-! ### what is written is read -/
theorem WriteE_c (l : List Ent) (al : Option Addr) (bl ol cl : Nat) (w0 : World) (hl : Sl encEnt 6 w0 al bl ol l) (hll : l.length ≤ 1000000000) (hpos : 0 < w0.heap.size) (r : List UInt8) (e : Int) (hr : logP l = r) (he : chkE l = e) :
    CallsV Tryz.prog 15 [.slice al l.length cl] w0 fun v w' => (∃ (a9 : Option Addr) (g9 c9 : Nat), v = .tuple #[.slice a9 (List.length r) c9, .int .i64 e] ∧ Acc encY 1 5 w0.heap.size w' a9 g9 c9 r) ∧ Ext w0 w' := by
  have h := WriteLog_c l al bl ol cl w0 hl hll hpos
  rw [hr, he] at h; exact h
theorem ReadLogE_c (xs : List UInt8) (ab : Option Addr) (bb ob cb : Nat) (w0 : World) (hs : Sl encY 1 w0 ab bb ob xs) (hcb : xs.length ≤ cb) (hxl : xs.length ≤ 1000000) (hpos : 0 < w0.heap.size) (r1 : List Ent) (r2 r3 : Int) (hr : readR xs = (r1, r2, r3)) :
    CallsV Tryz.prog 34 [.slice ab xs.length cb] w0 fun v w' => (∃ a9 g9 c9, v = .tuple #[.slice a9 (List.length r1) c9, .int .i64 r2, .int .i64 r3] ∧ Acc encEnt 6 43 w0.heap.size w' a9 g9 c9 r1) ∧ Ext w0 w' := by
  have h := ReadLog_c xs ab bb ob cb w0 hs hcb hxl hpos
  rw [hr] at h; exact h
theorem logP_bytes {l : List Ent} {v : List Bk} (h : chkE l = 0) (hv : v = writeP l) : logP l = bytesP v := by
  unfold logP; rw [if_pos h, hv]
theorem ReadBillsT_c (l : List Bil) (w0 : World) (hn : l.length ≤ 200) (h0 : (textP l).2 = 0) (hE : ErrV w0) (hT : Tab10 w0) (hpos : 0 < w0.heap.size) :
    CallsV Tryz.prog 39 [.string (strB (textP l).1)] w0 fun v w' => (∃ ys a9 g9 c9, v = .tuple #[.slice a9 (List.length ys) c9, .int .i64 0, .int .i64 0] ∧ ys.map Bil.bare = l.map Bil.bare ∧ Acc encBil 6 71 w0.heap.size w' a9 g9 c9 ys ∧ BilsM w0.heap.size w' ys) ∧ Ext w0 w' := by
  have h1 := textP_len hn
  have h := ReadBills_c (textP l).1 w0 (by omega) hE hT hpos
  rw [show LB = lineB parL from rfl, readB_text hn h0] at h; exact h
theorem ReadGaugeT_c (l : List Gau) (w0 : World) (hn : l.length ≤ 200) (h0 : (textG l).2 = 0) (hE : ErrV w0) (hT : Tab10 w0) (hpos : 0 < w0.heap.size) :
    CallsV Tryz.prog 45 [.string (strB (textG l).1)] w0 fun v w' => (∃ ys a9 g9 c9, v = .tuple #[.slice a9 (List.length ys) c9, .int .i64 0, .int .i64 0] ∧ ys.map Gau.bare = l.map Gau.bare ∧ Acc encGau 3 80 w0.heap.size w' a9 g9 c9 ys ∧ GausM w0.heap.size w' ys) ∧ Ext w0 w' := by
  have h1 := textG_len hn
  have h := ReadGauge_c (textG l).1 w0 (by omega) hE hT hpos
  rw [show LGa = lineG parGL from rfl, readG_text hn h0] at h; exact h
theorem bare_len {ys zs : List Bil} (h : ys.map Bil.bare = zs.map Bil.bare) : ys.length = zs.length := by have h9 := congrArg List.length h; rwa [List.length_map, List.length_map] at h9
theorem bare_lenG {ys zs : List Gau} (h : ys.map Gau.bare = zs.map Gau.bare) : ys.length = zs.length := by have h9 := congrArg List.length h; rwa [List.length_map, List.length_map] at h9
set_option maxHeartbeats 4000000 in
set_option maxRecDepth 20000 in
theorem LogsOnce_c (l : List Ent) (al : Option Addr) (bl ol cl : Nat) (gs : List Gau) (ag : Option Addr) (bg og cg : Nat) (bs : List Bil) (ab : Option Addr) (bb ob cb : Nat) (ns : List Nat) (an : Option Addr) (bn on9 cn : Nat) (w0 : World) (hl : Sl encEnt 6 w0 al bl ol l) (hgs : Sl encGau 3 w0 ag bg og gs) (hbs : Sl encBil 6 w0 ab bb ob bs) (hns : Sl encU 1 w0 an bn on9 ns) (hSG : SlG w0 gs) (hSB : SlB w0 bs) (hll : l.length ≤ 9223372036854775807) (hgl : gs.length ≤ 9223372036854775807) (hbl : bs.length ≤ 9223372036854775807) (hnl : ns.length ≤ 9223372036854775807) (hu : ∀ n ∈ ns, n ≤ 4294967295) (hE : ErrV w0) (hT : Tab10 w0) (hpos : 0 < w0.heap.size) :
    CallsV Tryz.prog 12 [.slice al l.length cl, .agg #[.slice ag gs.length cg, .slice ab bs.length cb], .slice an ns.length cn] w0 (fun v w' => v = .bool true ∧ Ext w0 w') := by
 refine f_n func12 ?_
 refine go ?_
 refine x_b fun bk2 w3 ebk2 sbk2 B4 u5 => ?_
 iterate 4 refine st1 ?_
 refine x_k1 (fun _ => False) [0, 2, 4] (fun (z9 : Bool) => [(58, .bool z9)]) (fun z9 w => (z9 = decide (300 < l.length ∨ 60 < ns.length ∨ 60 < gs.length ∨ 60 < bs.length))) (fun K12 hK12 => ?_) ?_
 ·
  refine go ?_
  refine t_splitp 42 rfl (fun g42 => ?_) (fun g42 => ?_)
  ·
   refine go ?_
   exact hK12 true (by first | exact (decide_eq_false (by omega)).symm | exact (decide_eq_true (by omega)).symm | exact decide_eq_decide.2 (by omega))
  refine go ?_
  refine t_splitp 47 rfl (fun g47 => ?_) (fun g47 => ?_)
  ·
   refine go ?_
   exact hK12 true (by first | exact (decide_eq_false (by omega)).symm | exact (decide_eq_true (by omega)).symm | exact decide_eq_decide.2 (by omega))
  refine go ?_
  refine t_splitp 53 rfl (fun g53 => ?_) (fun g53 => ?_)
  ·
   refine go ?_
   exact hK12 true (by first | exact (decide_eq_false (by omega)).symm | exact (decide_eq_true (by omega)).symm | exact decide_eq_decide.2 (by omega))
  refine go ?_
  exact hK12 (decide (60 < (bs.length : Int))) (by first | exact (decide_eq_false (by omega)).symm | exact (decide_eq_true (by omega)).symm | exact decide_eq_decide.2 (by omega))
 rintro z9 w13 hz9 u14 zu14
 have E15 := Sc.mk (((Upd.refl (fun _ => False) w0).nx u5).nx u14)
 refine q_b (fun g58 => ?_) fun g58 => ?_
 ·
  have hzb : (300 < l.length ∨ 60 < ns.length ∨ 60 < gs.length ∨ 60 < bs.length) := by rw [hz9] at g58; exact of_decide_eq_true g58
  refine go ?_
  refine x_c func13 rfl rfl (known_c _ (hT.ext E15.u) (by omega)) ?_
  rintro _ w18 ⟨rfl, u19⟩ zu19
  refine go ?_
  refine f_1 results12 ?_
  exact ⟨rfl, u_d⟩
 have hzb : ¬ (300 < l.length ∨ 60 < ns.length ∨ 60 < gs.length ∨ 60 < bs.length) := by rw [hz9] at g58; exact of_decide_eq_false g58
 refine go ?_
 refine x_l1 (fun _ => False) [0, 2, 4] (fun (i : Nat) => [(7, .string (strB (remsP (ns.take i)))), (8, .int .i64 (i : Int))]) (fun i w => (i ≤ ns.length)) (fun i => ns.length - i) 0 (Nat.zero_le _) ?_
 rintro i w26 hi u27 zu27 K25 hK25
 have E28 := Sc.mk (E15.u.nx u27)
 have hrl := rems_len (ns.take i)
 rw [List.length_take] at hrl
 refine go ?_
 refine q_p (fun g63 => ?_) fun g63 => ?_
 ·
  have hu9 := hu _ (nth_mem (xs := ns) (i := i) (by omega))
  refine go ?_
  refine g_i i (hns.keep E28.u (fun _ h => h)) (fun _ => ?_)
  refine go ?_
  refine t_conv underlying97 underlying3 rfl rfl rfl (IntWalk.i64_in _ (by omega)) (t_rem rfl rfl rfl rfl (by omega) (by omega) (t_same 72 (v := .int .i64 ((nth ns i % 1000000001 : Nat) : Int)) rfl (congrArg (Value.int .i64) (Int.natCast_emod _ _).symm) ?_))
  refine x_c func24 rfl rfl (CodeN_c (nth ns i % 1000000001) (rem_le _) _) ?_
  rintro _ w35 ⟨rfl, u36⟩ zu36
  have hcl := codeP_length (n := (nth ns i % 1000000001))
  have hc9 := codeP_len_le (rem_le (nth ns i))
  refine go ?_
  refine t_lenS underlying9 rfl rfl rfl rfl (t_rem rfl rfl rfl rfl (by omega) (by omega) ?_)
  refine st1 ?_
  refine t_same 82 (v := .bool false) rfl (congrArg Value.bool (decide_eq_false (by omega))) ?_
  refine go ?_
  refine t_lenS underlying9 rfl rfl rfl rfl ?_
  refine st1 ?_
  refine t_same 87 (v := .bool false) rfl (congrArg Value.bool (decide_eq_false (by omega))) ?_
  refine go ?_
  refine t_bo (Bo.addS (by omega)) rfl rfl rfl rfl ?_
  refine go ?_
  exact hK25 (i + 1) (by omega) (hs := by exact ⟨(by rw [rems_take (by omega)]; rfl), rfl, rfl, rfl, rfl, trivial⟩)
 refine go ?_
 refine x_l1 (fun _ => False) [0, 2, 4] (fun (i : Nat) => [(7, .string (strB (remsP (ns.drop i)))), (11, .int .i64 (i : Int))]) (fun i w => (i ≤ ns.length)) (fun i => ns.length - i) 0 (Nat.zero_le _) ?_ (h0 := by exact ⟨(by rw [List.take_of_length_le (by omega)]; rfl), rfl, rfl, rfl, rfl, trivial⟩)
 rintro i w44 hi u45 zu45 K43 hK43
 have E46 := Sc.mk (E28.u.nx u45)
 refine go ?_
 refine q_p (fun g95 => ?_) fun g95 => ?_
 ·
  have hu9 := hu _ (nth_mem (xs := ns) (i := i) (by omega))
  have hdr := rems_drop (ns := ns) (i := i) (by omega)
  have hdl := congrArg List.length hdr
  rw [List.length_append] at hdl
  have hd9 := rems_len (ns.drop (i + 1))
  rw [List.length_drop] at hd9
  have hcl := codeP_length (n := (nth ns i % 1000000001))
  iterate 7 refine st1 ?_
  refine t_same 99 (v := .string (strB (codeP (nth ns i % 1000000001) ++ (remsP (ns.drop (i + 1)))))) rfl (congrArg (fun z => Value.string (strB z)) hdr) ?_
  refine x_c func26 rfl rfl (DecodeN_c (nth ns i % 1000000001) (rem_le _) (remsP (ns.drop (i + 1))) _ (by omega)) ?_
  rintro _ w52 ⟨rfl, u53⟩ zu53
  refine go ?_
  refine g_i i (hns.keep (E46.u.nx u53) (fun _ h => h)) (fun _ => ?_)
  refine go ?_
  refine t_conv underlying97 underlying3 rfl rfl rfl (IntWalk.i64_in _ (by omega)) (t_rem rfl rfl rfl rfl (by omega) (by omega) (t_same 113 (v := .int .i64 ((nth ns i % 1000000001 : Nat) : Int)) rfl (congrArg (Value.int .i64) (Int.natCast_emod _ _).symm) ?_))
  refine st1 ?_
  refine t_samehd (v := .bool false) (by simp) ?_
  iterate 4 refine st1 ?_
  refine t_same 118 (v := .bool false) rfl (congrArg Value.bool (decide_eq_false (by omega))) ?_
  refine go ?_
  refine t_lenS underlying9 rfl rfl rfl rfl ?_
  refine st1 ?_
  refine t_same 124 (v := .bool false) rfl (congrArg Value.bool (decide_eq_false (by omega))) ?_
  refine go ?_
  refine t_subS ((codeP (nth ns i % 1000000001)).length) (((remsP (ns.drop i))).length) underlying9 rfl rfl rfl (.inl ⟨rfl, rfl, by first | rfl | omega⟩) (.inr ⟨rfl, rfl⟩) (k' := .i64) (n := 0) (x2 := .tmp 0) (by omega) (by omega) (t_same 128 (v := .string (strB (remsP (ns.drop (i + 1))))) rfl (congrArg (fun z => Value.string (strB z)) (by rw [hdr, List.drop_left' rfl, List.take_of_length_le (by rw [List.length_append]; omega)])) ?_)
  refine go ?_
  exact hK43 (i + 1) (by omega)
 refine go ?_
 refine t_bo (Bo.neS (remsP (ns.drop i)) ([])) rfl rfl rfl rfl (t_same 130 (v := .bool false) rfl (congrArg Value.bool (decide_eq_false (by exact fun h => h (by rw [List.drop_of_length_le (by omega)]; rfl)))) ?_)
 refine go ?_
 refine x_c func14 rfl rfl (entries_c l al bl ol cl _ (hl.keep E46.u (fun _ h => h)) (by omega) (by omega)) ?_
 rintro _ w65 ⟨⟨ae63, ge63, ce63, rfl, hFe63⟩, u66⟩ zu66
 have lt_ge63 := hFe63.lt
 refine x_c func15 rfl rfl (WriteV_c l ae63 ge63 0 ce63 _ (hFe63.sl (fun _ => rfl)) (by omega) (by omega)) ?_
 rintro _ w70 ⟨⟨v, aL, gL, cL, rfl, hFL, hv⟩, u71⟩ zu71
 have E73 := Sc.mk ((E46.u.nx u66).nx u71)
 have lt_gL := hFL.lt
 refine go ?_
 refine q_p (fun g138 => ?_) fun g138 => ?_
 ·
  have hok0 : chkE l = 0 := by omega
  rw [if_pos hok0] at hv
  obtain ⟨hgd, hfew⟩ := fill_good (tapeP l)
  have hvf : v = fillP (tapeP l) := hv
  rw [← hvf] at hgd hfew
  have htl := tapeP_len hok0
  have hbv := bytesP_len v
  have hn13 : v.length ≤ 1300 := by omega
  have hcL := hFL.cap_le
  have hrd : readR (bytesP v) = (l, 0, 0) := by rw [hv]; exact readR_log hok0 (by rw [← hv]; exact hn13)
  have hrp : repR (bytesP v) = (bytesP v, [], 0) := (Dmg.nil v).rep hgd hn13
  refine go ?_
  refine x_l fun bk76 w77 ebk76 sbk76 B78 u79 => ?_
  refine go ?_
  have D81 := (hFL.keep u79 (fun _ h => h))
  refine t_copy (enc := encY) (z := .int .u8 0) (bytes := 1) (k := 1) (ys := (bytesP v)) underlying25 (by kernel_rfl) rfl (by decide) (fun _ => rfl) (by intro x; simp [encY, Value.oneCell']) rfl rfl rfl rfl B78 (D81.sl (fun _ => rfl)) (by omega) (by decide) (fun ao82 gb83 cp84 w85 A86 u87 gegb83 => ?_)
  have zu87 := u87.size
  have lt_gb83 := A86.lt
  refine x_c func34 rfl rfl (ReadLogE_c (bytesP v) ao82 gb83 0 cp84 _ (A86.sl (fun _ => rfl)) (by have h9 := (A86).cap_le; omega) (by omega) (by omega) l 0 0 hrd) ?_
  rintro _ w90 ⟨⟨aR, gR, cR, rfl, hFR⟩, u91⟩ zu91
  have E93 := Sc.mk (((E73.u.nx u79).next u87 (fun i hi h => by omega)).nx u91)
  have lt_gR := hFR.lt
  refine go ?_
  refine x_c func16 rfl rfl (same_c l l aR gR 0 cR al bl ol cl _ (hFR.sl (fun _ => rfl)) (hl.keep E93.u (fun _ h => h)) (by omega)) ?_
  rintro _ w97 ⟨rfl, u98⟩ zu98
  refine t_same 156 (v := .bool true) rfl (congrArg Value.bool (decide_eq_true (by rfl))) ?_
  refine go ?_
  have D102 := (hFR.keep u98 (fun _ h => h))
  refine x_c func15 rfl rfl (WriteE_c l aR gR 0 cR _ (D102.sl (fun _ => rfl)) (by omega) (by omega) (bytesP v) 0 (logP_bytes hok0 hv) hok0) ?_
  rintro _ w104 ⟨⟨aW, gW, cW, rfl, hFW⟩, u105⟩ zu105
  have lt_gW := hFW.lt
  refine go ?_
  refine x_l fun bk109 w110 ebk109 sbk109 B111 u112 => ?_
  refine go ?_
  have D114 := (((((D81.keep u87 (fun hb => show ¬ ((gL = bk76 ∧ bk76 ≤ gL)) by first | omega | assumption)).keep u91 (fun _ h => h)).keep u98 (fun _ h => h)).keep u105 (fun _ h => h)).keep u112 (fun _ h => h))
  refine t_copy (enc := encY) (z := .int .u8 0) (bytes := 1) (k := 1) (ys := (bytesP v)) underlying25 (by kernel_rfl) rfl (by decide) (fun _ => rfl) (by intro x; simp [encY, Value.oneCell']) rfl rfl rfl rfl B111 (D114.sl (fun _ => rfl)) (by omega) (by decide) (fun ao115 gb116 cp117 w118 A119 u120 gegb116 => ?_)
  have zu120 := u120.size
  have lt_gb116 := A119.lt
  refine x_c func32 rfl rfl (RepairE_c (bytesP v) ao115 gb116 0 cp117 _ (A119.sl (fun _ => rfl)) (by have h9 := (A119).cap_le; omega) (by omega) (by omega) (bytesP v) [] 0 hrp) ?_
  rintro _ w123 ⟨⟨aF, gF9, cF, aI, gI, cI, rfl, hFF, hFI⟩, u124⟩ zu124
  have E126 := Sc.mk (((((E93.u.nx u98).nx u105).nx u112).next u120 (fun i hi h => by omega)).nx u124)
  have lt_gF9 := hFF.lt
  have lt_gI := hFI.lt
  refine go ?_
  have D128 := (((hFW.keep u112 (fun _ h => h)).keep u120 (fun hb => show ¬ ((gW = bk109 ∧ bk109 ≤ gW)) by first | omega | assumption)).keep u124 (fun _ h => h))
  refine t_ofB underlying25 underlying5 underlying9 rfl rfl rfl (D128.sl (fun _ => rfl)) rfl ?_
  refine go ?_
  have D129 := ((D114.keep u120 (fun hb => show ¬ ((gL = bk109 ∧ bk109 ≤ gL)) by first | omega | assumption)).keep u124 (fun _ h => h))
  refine t_ofB underlying25 underlying5 underlying9 rfl rfl rfl (D129.sl (fun _ => rfl)) rfl (t_bo (Bo.neS (bytesP v) (bytesP v)) rfl rfl rfl rfl (t_same 183 (v := .bool false) rfl (congrArg Value.bool (decide_eq_false (by exact fun h => h rfl))) ?_))
  refine go ?_
  refine t_ofB underlying25 underlying5 underlying9 rfl rfl rfl (hFF.sl (fun _ => rfl)) rfl ?_
  refine go ?_
  refine t_ofB underlying25 underlying5 underlying9 rfl rfl rfl (D129.sl (fun _ => rfl)) rfl (t_bo (Bo.neS (bytesP v) (bytesP v)) rfl rfl rfl rfl (t_same 190 (v := .bool false) rfl (congrArg Value.bool (decide_eq_false (by exact fun h => h rfl))) ?_))
  iterate 4 refine st1 ?_
  refine t_same 194 (v := .int .i64 0) rfl rfl ?_
  refine go ?_
  refine t_rem rfl rfl rfl rfl (by omega) (by omega) ?_
  refine st1 ?_
  refine t_same 201 (v := .bool false) rfl (congrArg Value.bool (decide_eq_false (by omega))) ?_
  refine go ?_
  refine x_c func43 rfl rfl (gcopy_c gs ag bg og cg _ (hgs.keep E126.u (fun _ h => h)) (by omega) (hSG.ext E126.u) (by omega)) ?_
  rintro _ w133 ⟨⟨ys, a1G, g1G, c1G, rfl, hb1G, hA1G, hM1G⟩, u134⟩ zu134
  have E136 := Sc.mk (E126.u.nx u134)
  have lt_g1G := hA1G.lt
  have hs1G := hM1G.slG
  have hl1G := bare_lenG hb1G
  refine x_c func44 rfl rfl (WriteGauge_c ys a1G g1G 0 c1G _ (hA1G.sl (fun _ => rfl)) (hs1G.ext (Upd.refl (fun _ => False) _)) (by omega) (hT.ext E136.u) (by omega)) ?_
  rintro _ w138 ⟨rfl, u139⟩ zu139
  have E141 := Sc.mk (E136.u.nx u139)
  refine go ?_
  refine q_p (fun g214 => ?_) fun g214 => ?_
  ·
   refine go ?_
   refine x_c func45 rfl rfl (ReadGaugeT_c ys _ (by omega) (by omega) (hE.ext E141.u) (hT.ext E141.u) (by omega)) ?_
   rintro _ w145 ⟨⟨ms, a2G, g2G, c2G, rfl, hb2G, hA2G, hM2G⟩, u146⟩ zu146
   have E148 := Sc.mk (E141.u.nx u146)
   have lt_g2G := hA2G.lt
   have hs2G := hM2G.slG
   have hl2G := bare_lenG hb2G
   refine go ?_
   refine x_c func44 rfl rfl (by have h9 := WriteGauge_c ms a2G g2G 0 c2G w145 (hA2G.sl (fun _ => rfl)) (hs2G.ext (Upd.refl (fun _ => False) _)) (by omega) (hT.ext E148.u) (by omega); rw [textG_bare hb2G] at h9; exact h9) ?_
   rintro _ w151 ⟨rfl, u152⟩ zu152
   have E154 := Sc.mk (E148.u.nx u152)
   iterate 14 refine st1 ?_
   refine t_same 230 (v := .bool false) rfl (congrArg Value.bool (decide_eq_false (by omega))) ?_
   refine go ?_
   have D156 := (hA2G.keep u152 (fun _ h => h))
   refine x_c func48 rfl rfl (sameGa_c ms gs a2G g2G 0 c2G ag bg og cg _ (D156.sl (fun _ => rfl)) (hgs.keep E154.u (fun _ h => h)) (hb2G.trans hb1G) (hs2G.ext ((Upd.refl (fun _ => False) _).nx u152)) (hSG.ext E154.u) (by omega)) ?_
   rintro _ w158 ⟨rfl, u159⟩ zu159
   have E161 := Sc.mk (E154.u.nx u159)
   refine go ?_
   refine t_bo (Bo.neS ((textG ys).1) ((textG ys).1)) rfl rfl rfl rfl (t_same 246 (v := .bool false) rfl (congrArg Value.bool (decide_eq_false (by exact fun h => h rfl))) ?_)
   refine go ?_
   refine x_c func37 rfl rfl (bcopy_c bs ab bb ob cb _ (hbs.keep E161.u (fun _ h => h)) (by omega) (hSB.ext E161.u) (by omega)) ?_
   rintro _ w165 ⟨⟨yb, a1B, g1B, c1B, rfl, hb1B, hA1B, hM1B⟩, u166⟩ zu166
   have E168 := Sc.mk (E161.u.nx u166)
   have lt_g1B := hA1B.lt
   have hs1B := hM1B.slB
   have hl1B := bare_len hb1B
   refine x_c func38 rfl rfl (WriteBills_c yb a1B g1B 0 c1B _ (hA1B.sl (fun _ => rfl)) (hs1B.ext (Upd.refl (fun _ => False) _)) (by omega) (hT.ext E168.u) (by omega)) ?_
   rintro _ w170 ⟨rfl, u171⟩ zu171
   have E173 := Sc.mk (E168.u.nx u171)
   refine go ?_
   refine q_p (fun g258 => ?_) fun g258 => ?_
   ·
    refine go ?_
    refine x_c func39 rfl rfl (ReadBillsT_c yb _ (by omega) (by omega) (hE.ext E173.u) (hT.ext E173.u) (by omega)) ?_
    rintro _ w177 ⟨⟨mb, a2B, g2B, c2B, rfl, hb2B, hA2B, hM2B⟩, u178⟩ zu178
    have E180 := Sc.mk (E173.u.nx u178)
    have lt_g2B := hA2B.lt
    have hs2B := hM2B.slB
    have hl2B := bare_len hb2B
    refine go ?_
    refine x_c func38 rfl rfl (by have h9 := WriteBills_c mb a2B g2B 0 c2B w177 (hA2B.sl (fun _ => rfl)) (hs2B.ext (Upd.refl (fun _ => False) _)) (by omega) (hT.ext E180.u) (by omega); rw [textP_bare hb2B] at h9; exact h9) ?_
    rintro _ w183 ⟨rfl, u184⟩ zu184
    have E186 := Sc.mk (E180.u.nx u184)
    iterate 14 refine st1 ?_
    refine t_same 274 (v := .bool false) rfl (congrArg Value.bool (decide_eq_false (by omega))) ?_
    refine go ?_
    have D188 := (hA2B.keep u184 (fun _ h => h))
    refine x_c func42 rfl rfl (sameB_c mb bs a2B g2B 0 c2B ab bb ob cb _ (D188.sl (fun _ => rfl)) (hbs.keep E186.u (fun _ h => h)) (hb2B.trans hb1B) (hs2B.ext ((Upd.refl (fun _ => False) _).nx u184)) (hSB.ext E186.u) (by omega)) ?_
    rintro _ w190 ⟨rfl, u191⟩ zu191
    refine go ?_
    refine t_bo (Bo.neS ((textP yb).1) ((textP yb).1)) rfl rfl rfl rfl (t_same 290 (v := .bool false) rfl (congrArg Value.bool (decide_eq_false (by exact fun h => h rfl))) ?_)
    refine go ?_
    refine x_c func13 rfl rfl (known_c _ (hT.ext (E186.u.nx u191)) (by omega)) ?_
    rintro _ w196 ⟨rfl, u197⟩ zu197
    refine go ?_
    refine f_1 results12 ?_
    exact ⟨rfl, u_d⟩
   refine go ?_
   refine t_bo (Bo.neS ((textP yb).1) ([])) rfl rfl rfl rfl (t_same 293 (v := .bool false) rfl (congrArg Value.bool (decide_eq_false (by exact fun h => h (textP_nil (by omega))))) ?_)
   refine go ?_
   refine x_c func13 rfl rfl (known_c _ (hT.ext E173.u) (by omega)) ?_
   rintro _ w203 ⟨rfl, u204⟩ zu204
   refine go ?_
   refine f_1 results12 ?_
   exact ⟨rfl, u_d⟩
  refine go ?_
  refine t_bo (Bo.neS ((textG ys).1) ([])) rfl rfl rfl rfl (t_same 249 (v := .bool false) rfl (congrArg Value.bool (decide_eq_false (by exact fun h => h (textG_nil (by omega))))) ?_)
  refine go ?_
  refine x_c func37 rfl rfl (bcopy_c bs ab bb ob cb _ (hbs.keep E141.u (fun _ h => h)) (by omega) (hSB.ext E141.u) (by omega)) ?_
  rintro _ w211 ⟨⟨yb, a1B, g1B, c1B, rfl, hb1B, hA1B, hM1B⟩, u212⟩ zu212
  have E214 := Sc.mk (E141.u.nx u212)
  have lt_g1B := hA1B.lt
  have hs1B := hM1B.slB
  have hl1B := bare_len hb1B
  refine x_c func38 rfl rfl (WriteBills_c yb a1B g1B 0 c1B _ (hA1B.sl (fun _ => rfl)) (hs1B.ext (Upd.refl (fun _ => False) _)) (by omega) (hT.ext E214.u) (by omega)) ?_
  rintro _ w216 ⟨rfl, u217⟩ zu217
  have E219 := Sc.mk (E214.u.nx u217)
  refine go ?_
  refine q_p (fun g258 => ?_) fun g258 => ?_
  ·
   refine go ?_
   refine x_c func39 rfl rfl (ReadBillsT_c yb _ (by omega) (by omega) (hE.ext E219.u) (hT.ext E219.u) (by omega)) ?_
   rintro _ w223 ⟨⟨mb, a2B, g2B, c2B, rfl, hb2B, hA2B, hM2B⟩, u224⟩ zu224
   have E226 := Sc.mk (E219.u.nx u224)
   have lt_g2B := hA2B.lt
   have hs2B := hM2B.slB
   have hl2B := bare_len hb2B
   refine go ?_
   refine x_c func38 rfl rfl (by have h9 := WriteBills_c mb a2B g2B 0 c2B w223 (hA2B.sl (fun _ => rfl)) (hs2B.ext (Upd.refl (fun _ => False) _)) (by omega) (hT.ext E226.u) (by omega); rw [textP_bare hb2B] at h9; exact h9) ?_
   rintro _ w229 ⟨rfl, u230⟩ zu230
   have E232 := Sc.mk (E226.u.nx u230)
   iterate 14 refine st1 ?_
   refine t_same 274 (v := .bool false) rfl (congrArg Value.bool (decide_eq_false (by omega))) ?_
   refine go ?_
   have D234 := (hA2B.keep u230 (fun _ h => h))
   refine x_c func42 rfl rfl (sameB_c mb bs a2B g2B 0 c2B ab bb ob cb _ (D234.sl (fun _ => rfl)) (hbs.keep E232.u (fun _ h => h)) (hb2B.trans hb1B) (hs2B.ext ((Upd.refl (fun _ => False) _).nx u230)) (hSB.ext E232.u) (by omega)) ?_
   rintro _ w236 ⟨rfl, u237⟩ zu237
   refine go ?_
   refine t_bo (Bo.neS ((textP yb).1) ((textP yb).1)) rfl rfl rfl rfl (t_same 290 (v := .bool false) rfl (congrArg Value.bool (decide_eq_false (by exact fun h => h rfl))) ?_)
   refine go ?_
   refine x_c func13 rfl rfl (known_c _ (hT.ext (E232.u.nx u237)) (by omega)) ?_
   rintro _ w242 ⟨rfl, u243⟩ zu243
   refine go ?_
   refine f_1 results12 ?_
   exact ⟨rfl, u_d⟩
  refine go ?_
  refine t_bo (Bo.neS ((textP yb).1) ([])) rfl rfl rfl rfl (t_same 293 (v := .bool false) rfl (congrArg Value.bool (decide_eq_false (by exact fun h => h (textP_nil (by omega))))) ?_)
  refine go ?_
  refine x_c func13 rfl rfl (known_c _ (hT.ext E219.u) (by omega)) ?_
  rintro _ w249 ⟨rfl, u250⟩ zu250
  refine go ?_
  refine f_1 results12 ?_
  exact ⟨rfl, u_d⟩
 have hne0 : ¬ chkE l = 0 := by omega
 rw [if_neg hne0] at hv
 have hb0 : (bytesP v).length = 0 := by rw [hv]; rfl
 iterate 5 refine st1 ?_
 refine t_same 205 (v := .bool false) rfl (congrArg Value.bool (decide_eq_false (by omega))) ?_
 refine go ?_
 refine x_c func43 rfl rfl (gcopy_c gs ag bg og cg _ (hgs.keep E73.u (fun _ h => h)) (by omega) (hSG.ext E73.u) (by omega)) ?_
 rintro _ w257 ⟨⟨ys, a1G, g1G, c1G, rfl, hb1G, hA1G, hM1G⟩, u258⟩ zu258
 have E260 := Sc.mk (E73.u.nx u258)
 have lt_g1G := hA1G.lt
 have hs1G := hM1G.slG
 have hl1G := bare_lenG hb1G
 refine x_c func44 rfl rfl (WriteGauge_c ys a1G g1G 0 c1G _ (hA1G.sl (fun _ => rfl)) (hs1G.ext (Upd.refl (fun _ => False) _)) (by omega) (hT.ext E260.u) (by omega)) ?_
 rintro _ w262 ⟨rfl, u263⟩ zu263
 have E265 := Sc.mk (E260.u.nx u263)
 refine go ?_
 refine q_p (fun g214 => ?_) fun g214 => ?_
 ·
  refine go ?_
  refine x_c func45 rfl rfl (ReadGaugeT_c ys _ (by omega) (by omega) (hE.ext E265.u) (hT.ext E265.u) (by omega)) ?_
  rintro _ w269 ⟨⟨ms, a2G, g2G, c2G, rfl, hb2G, hA2G, hM2G⟩, u270⟩ zu270
  have E272 := Sc.mk (E265.u.nx u270)
  have lt_g2G := hA2G.lt
  have hs2G := hM2G.slG
  have hl2G := bare_lenG hb2G
  refine go ?_
  refine x_c func44 rfl rfl (by have h9 := WriteGauge_c ms a2G g2G 0 c2G w269 (hA2G.sl (fun _ => rfl)) (hs2G.ext (Upd.refl (fun _ => False) _)) (by omega) (hT.ext E272.u) (by omega); rw [textG_bare hb2G] at h9; exact h9) ?_
  rintro _ w275 ⟨rfl, u276⟩ zu276
  have E278 := Sc.mk (E272.u.nx u276)
  iterate 14 refine st1 ?_
  refine t_same 230 (v := .bool false) rfl (congrArg Value.bool (decide_eq_false (by omega))) ?_
  refine go ?_
  have D280 := (hA2G.keep u276 (fun _ h => h))
  refine x_c func48 rfl rfl (sameGa_c ms gs a2G g2G 0 c2G ag bg og cg _ (D280.sl (fun _ => rfl)) (hgs.keep E278.u (fun _ h => h)) (hb2G.trans hb1G) (hs2G.ext ((Upd.refl (fun _ => False) _).nx u276)) (hSG.ext E278.u) (by omega)) ?_
  rintro _ w282 ⟨rfl, u283⟩ zu283
  have E285 := Sc.mk (E278.u.nx u283)
  refine go ?_
  refine t_bo (Bo.neS ((textG ys).1) ((textG ys).1)) rfl rfl rfl rfl (t_same 246 (v := .bool false) rfl (congrArg Value.bool (decide_eq_false (by exact fun h => h rfl))) ?_)
  refine go ?_
  refine x_c func37 rfl rfl (bcopy_c bs ab bb ob cb _ (hbs.keep E285.u (fun _ h => h)) (by omega) (hSB.ext E285.u) (by omega)) ?_
  rintro _ w289 ⟨⟨yb, a1B, g1B, c1B, rfl, hb1B, hA1B, hM1B⟩, u290⟩ zu290
  have E292 := Sc.mk (E285.u.nx u290)
  have lt_g1B := hA1B.lt
  have hs1B := hM1B.slB
  have hl1B := bare_len hb1B
  refine x_c func38 rfl rfl (WriteBills_c yb a1B g1B 0 c1B _ (hA1B.sl (fun _ => rfl)) (hs1B.ext (Upd.refl (fun _ => False) _)) (by omega) (hT.ext E292.u) (by omega)) ?_
  rintro _ w294 ⟨rfl, u295⟩ zu295
  have E297 := Sc.mk (E292.u.nx u295)
  refine go ?_
  refine q_p (fun g258 => ?_) fun g258 => ?_
  ·
   refine go ?_
   refine x_c func39 rfl rfl (ReadBillsT_c yb _ (by omega) (by omega) (hE.ext E297.u) (hT.ext E297.u) (by omega)) ?_
   rintro _ w301 ⟨⟨mb, a2B, g2B, c2B, rfl, hb2B, hA2B, hM2B⟩, u302⟩ zu302
   have E304 := Sc.mk (E297.u.nx u302)
   have lt_g2B := hA2B.lt
   have hs2B := hM2B.slB
   have hl2B := bare_len hb2B
   refine go ?_
   refine x_c func38 rfl rfl (by have h9 := WriteBills_c mb a2B g2B 0 c2B w301 (hA2B.sl (fun _ => rfl)) (hs2B.ext (Upd.refl (fun _ => False) _)) (by omega) (hT.ext E304.u) (by omega); rw [textP_bare hb2B] at h9; exact h9) ?_
   rintro _ w307 ⟨rfl, u308⟩ zu308
   have E310 := Sc.mk (E304.u.nx u308)
   iterate 14 refine st1 ?_
   refine t_same 274 (v := .bool false) rfl (congrArg Value.bool (decide_eq_false (by omega))) ?_
   refine go ?_
   have D312 := (hA2B.keep u308 (fun _ h => h))
   refine x_c func42 rfl rfl (sameB_c mb bs a2B g2B 0 c2B ab bb ob cb _ (D312.sl (fun _ => rfl)) (hbs.keep E310.u (fun _ h => h)) (hb2B.trans hb1B) (hs2B.ext ((Upd.refl (fun _ => False) _).nx u308)) (hSB.ext E310.u) (by omega)) ?_
   rintro _ w314 ⟨rfl, u315⟩ zu315
   refine go ?_
   refine t_bo (Bo.neS ((textP yb).1) ((textP yb).1)) rfl rfl rfl rfl (t_same 290 (v := .bool false) rfl (congrArg Value.bool (decide_eq_false (by exact fun h => h rfl))) ?_)
   refine go ?_
   refine x_c func13 rfl rfl (known_c _ (hT.ext (E310.u.nx u315)) (by omega)) ?_
   rintro _ w320 ⟨rfl, u321⟩ zu321
   refine go ?_
   refine f_1 results12 ?_
   exact ⟨rfl, u_d⟩
  refine go ?_
  refine t_bo (Bo.neS ((textP yb).1) ([])) rfl rfl rfl rfl (t_same 293 (v := .bool false) rfl (congrArg Value.bool (decide_eq_false (by exact fun h => h (textP_nil (by omega))))) ?_)
  refine go ?_
  refine x_c func13 rfl rfl (known_c _ (hT.ext E297.u) (by omega)) ?_
  rintro _ w327 ⟨rfl, u328⟩ zu328
  refine go ?_
  refine f_1 results12 ?_
  exact ⟨rfl, u_d⟩
 refine go ?_
 refine t_bo (Bo.neS ((textG ys).1) ([])) rfl rfl rfl rfl (t_same 249 (v := .bool false) rfl (congrArg Value.bool (decide_eq_false (by exact fun h => h (textG_nil (by omega))))) ?_)
 refine go ?_
 refine x_c func37 rfl rfl (bcopy_c bs ab bb ob cb _ (hbs.keep E265.u (fun _ h => h)) (by omega) (hSB.ext E265.u) (by omega)) ?_
 rintro _ w335 ⟨⟨yb, a1B, g1B, c1B, rfl, hb1B, hA1B, hM1B⟩, u336⟩ zu336
 have E338 := Sc.mk (E265.u.nx u336)
 have lt_g1B := hA1B.lt
 have hs1B := hM1B.slB
 have hl1B := bare_len hb1B
 refine x_c func38 rfl rfl (WriteBills_c yb a1B g1B 0 c1B _ (hA1B.sl (fun _ => rfl)) (hs1B.ext (Upd.refl (fun _ => False) _)) (by omega) (hT.ext E338.u) (by omega)) ?_
 rintro _ w340 ⟨rfl, u341⟩ zu341
 have E343 := Sc.mk (E338.u.nx u341)
 refine go ?_
 refine q_p (fun g258 => ?_) fun g258 => ?_
 ·
  refine go ?_
  refine x_c func39 rfl rfl (ReadBillsT_c yb _ (by omega) (by omega) (hE.ext E343.u) (hT.ext E343.u) (by omega)) ?_
  rintro _ w347 ⟨⟨mb, a2B, g2B, c2B, rfl, hb2B, hA2B, hM2B⟩, u348⟩ zu348
  have E350 := Sc.mk (E343.u.nx u348)
  have lt_g2B := hA2B.lt
  have hs2B := hM2B.slB
  have hl2B := bare_len hb2B
  refine go ?_
  refine x_c func38 rfl rfl (by have h9 := WriteBills_c mb a2B g2B 0 c2B w347 (hA2B.sl (fun _ => rfl)) (hs2B.ext (Upd.refl (fun _ => False) _)) (by omega) (hT.ext E350.u) (by omega); rw [textP_bare hb2B] at h9; exact h9) ?_
  rintro _ w353 ⟨rfl, u354⟩ zu354
  have E356 := Sc.mk (E350.u.nx u354)
  iterate 14 refine st1 ?_
  refine t_same 274 (v := .bool false) rfl (congrArg Value.bool (decide_eq_false (by omega))) ?_
  refine go ?_
  have D358 := (hA2B.keep u354 (fun _ h => h))
  refine x_c func42 rfl rfl (sameB_c mb bs a2B g2B 0 c2B ab bb ob cb _ (D358.sl (fun _ => rfl)) (hbs.keep E356.u (fun _ h => h)) (hb2B.trans hb1B) (hs2B.ext ((Upd.refl (fun _ => False) _).nx u354)) (hSB.ext E356.u) (by omega)) ?_
  rintro _ w360 ⟨rfl, u361⟩ zu361
  refine go ?_
  refine t_bo (Bo.neS ((textP yb).1) ((textP yb).1)) rfl rfl rfl rfl (t_same 290 (v := .bool false) rfl (congrArg Value.bool (decide_eq_false (by exact fun h => h rfl))) ?_)
  refine go ?_
  refine x_c func13 rfl rfl (known_c _ (hT.ext (E356.u.nx u361)) (by omega)) ?_
  rintro _ w366 ⟨rfl, u367⟩ zu367
  refine go ?_
  refine f_1 results12 ?_
  exact ⟨rfl, u_d⟩
 refine go ?_
 refine t_bo (Bo.neS ((textP yb).1) ([])) rfl rfl rfl rfl (t_same 293 (v := .bool false) rfl (congrArg Value.bool (decide_eq_false (by exact fun h => h (textP_nil (by omega))))) ?_)
 refine go ?_
 refine x_c func13 rfl rfl (known_c _ (hT.ext E343.u) (by omega)) ?_
 rintro _ w373 ⟨rfl, u374⟩ zu374
 refine go ?_
 refine f_1 results12 ?_
 exact ⟨rfl, u_d⟩

end Go.Proofs.YtjdcpnaocjddoaaGreatDoor
namespace Go.Proofs.YtjdcpnaocjddoaaGreatDoor
open Go Go.RowKit Go.Proofs.Tryz
end Go.Proofs.YtjdcpnaocjddoaaGreatDoor
namespace Go.Proofs.YtjdcpnaocjddoaaGreatDoor
open Go Go.RowKit
/-! ### the witness: a world in which the listed variables hold what is told of them -/
def litC : DataW Unit → Value
  | .lit (.int k n) => .int k n
  | _ => .int .i64 0
def aggC : DataW Unit → List Value
  | .agg l => l.map litC
  | _ => []
def aggD : DataW Unit → List Value
  | .agg l => l.flatMap aggC
  | _ => []
def strC : DataW Unit → Value
  | .iface _ (.ptr (.agg [.lit (.string s)])) => .string ⟨s.toArray⟩
  | _ => .int .i64 0
def setC (cs : List Value) : Obj → Obj
  | .cells _ t f => .cells cs.toArray t f
  | o => o
noncomputable def laidWorld (os : Os) : World :=
  { World.holding Tryz.prog os ⟨#[], #[], []⟩ with heap := (((((((((World.holding Tryz.prog os ⟨#[], #[], []⟩).heap.modify 6 (setC (aggC Rows.laid_math_bits_deBruijn32tab))).modify 7 (setC (aggC Rows.laid_math_bits_deBruijn64tab))).modify 5 (setC (aggC Rows.laid_internal_strconv_uint64pow10))).modify 4 (setC (aggD Rows.laid_unicode_utf8_acceptRanges))).modify 3 (setC (aggC Rows.laid_unicode_utf8_first))).modify 2 (setC [.iface 261 (.pointer (some ⟨13, 0, none⟩))])).modify 1 (setC [.iface 261 (.pointer (some ⟨14, 0, none⟩))])).push (.cells #[strC Rows.laid_strconv_ErrRange] 263 (0, 0))).push (.cells #[strC Rows.laid_strconv_ErrSyntax] 263 (0, 0)) }
theorem laid_met (os : Os) (args : Array Value) : laidMet Tryz.prog Rows.logsCodesRow.laid ((laidWorld os).forCall (fun _ _ => 0) ⟨#[], args, []⟩).memory :=
  laidMet_of_run' 8 (by kernel_rfl) (by kernel_rfl)
theorem glob5 : Tryz.prog.globalNamed "internal/strconv.uint64pow10" = some 5 := by kernel_rfl
theorem glob5t : (Tryz.prog.globals[5]?).map (·.type) = some 266 := by kernel_rfl
theorem tab_of_laid {W : World} (h : laidMet Tryz.prog Rows.logsCodesRow.laid W) : Tab10 W := by
  have e : (Rows.laid_internal_strconv_uint64pow10 : DataW Unit) = Lib.tabData .u64 Lib.pow10Tab := by kernel_rfl
  obtain ⟨ps, ⟨_, _, _, _, _, _, _, _, _, _, ⟨_, _, _, _, _, _, _, _, _, _, ⟨g', t', cs, fuel, p, q, hg', ht', hvar, hd, _, _⟩, _⟩, _⟩, _⟩ := h
  obtain rfl := Option.some.inj (glob5.symm.trans hg')
  obtain rfl := Option.some.inj (glob5t.symm.trans ht')
  unfold Tab10 Lib.TabIs
  rw [hvar, ← Lib.cells_of_tab (t := 266) (e := 214) (n := 20) (k := .u64) (zs := Lib.pow10Tab) Tryz.underlying266 Tryz.underlying214 (by kernel_rfl) (by kernel_rfl) (by rw [← e]; exact hd)]
theorem tab_pos {w : World} (h : Tab10 w) : 0 < w.heap.size := by
  unfold Tab10 Lib.TabIs World.var? at h
  rw [glob5] at h
  simp only [Option.bind_some] at h
  rcases Nat.lt_or_ge 5 w.heap.size with q | q
  · omega
  · rw [Array.getElem?_eq_none q] at h; cases h

end Go.Proofs.YtjdcpnaocjddoaaGreatDoor
namespace Go.Proofs.YtjdcpnaocjddoaaGreatDoor
open Go Go.RowKit
theorem iface_of {W : World} {t : TypeId} {ms : Array (String × TypeId)} (ht : Tryz.prog.underlying t = some (.interface ms)) {sp : Nat → Bool} {n : Nat} {cs : List Value} {d : DataW Unit} {p : List MemPlace} (h : DataW.trod (fun _ => ()) Tryz.prog W 0 sp false n t cs = some (d, p)) : ∃ E, cs = [E] ∧ (E = .nilIface ∨ ∃ te pe, E = .iface te pe) := by
  cases n with
  | zero => simp [DataW.trod] at h
  | succ n =>
    cases cs with
    | nil => simp [DataW.trod, ht] at h
    | cons E r =>
      cases r with
      | nil =>
        refine ⟨E, rfl, ?_⟩
        cases E with
        | nilIface => exact .inl rfl
        | iface u v => exact .inr ⟨u, v, rfl⟩
        | _ => simp [DataW.trod, ht] at h
      | cons E2 r => simp [DataW.trod, ht] at h
theorem var_cell {W : World} {n : String} {g : Nat} {cs : Array Value} {E : Value} (hg : Tryz.prog.globalNamed n = some g) (hv : W.var? Tryz.prog n = some cs) (he : cs.toList = [E]) : W.cell? ⟨g, 0, none⟩ = some E := by
  unfold World.var? at hv
  rw [hg] at hv
  have hv : (match W.heap[g]? with | some (.cells cs _ _) => some cs | _ => none) = some cs := hv
  cases hh : W.heap[g]? with
  | none => rw [hh] at hv; cases hv
  | some o =>
    rw [hh] at hv
    cases o with
    | cells c t f =>
      injection hv with hv
      subst hv
      have h0 : c[0]? = some E := by rw [← Array.getElem?_toList, he]; rfl
      simp [World.cell?, hh, h0]
    | _ => cases hv
theorem globS : Tryz.prog.globalNamed "strconv.ErrSyntax" = some (layAtoi_ren.g 15) := by kernel_rfl
theorem globR : Tryz.prog.globalNamed "strconv.ErrRange" = some (layAtoi_ren.g 16) := by kernel_rfl
theorem globSt : (Tryz.prog.globals[layAtoi_ren.g 15]?).map (·.type) = some 192 := by kernel_rfl
theorem globRt : (Tryz.prog.globals[layAtoi_ren.g 16]?).map (·.type) = some 192 := by kernel_rfl
theorem err_of_laid {W : World} (h : laidMet Tryz.prog Rows.logsCodesRow.laid W) : ErrV W := by
  obtain ⟨ps, ⟨_, _, _, _, _, _, _, _, _, _, ⟨_, _, _, _, _, _, _, _, _, _, ⟨_, _, _, _, _, _, _, _, _, _, ⟨_, _, _, _, _, _, _, _, _, _, ⟨g', t', cs, fuel, p, q, hg', ht', hvar, hd, ⟨g2, t2, cs2, fuel2, p2, q2, hg2, ht2, hvar2, hd2, _, _⟩, _⟩, _⟩, _⟩, _⟩, _⟩, _⟩ := h
  obtain rfl := Option.some.inj (globR.symm.trans hg')
  obtain rfl := Option.some.inj (globRt.symm.trans ht')
  obtain rfl := Option.some.inj (globS.symm.trans hg2)
  obtain rfl := Option.some.inj (globSt.symm.trans ht2)
  obtain ⟨E1, e1, f1⟩ := iface_of Tryz.underlying192 hd
  obtain ⟨E2, e2, f2⟩ := iface_of Tryz.underlying192 hd2
  exact ⟨E2, E1, var_cell globS hvar2 e2, f2, var_cell globR hvar e1, f1⟩

end Go.Proofs.YtjdcpnaocjddoaaGreatDoor
namespace Go.Proofs.YtjdcpnaocjddoaaGreatDoor
open Go Go.RowKit Go.ChangeShapes Go.WideShapes Go.ChangeAt
/-! ### what came in, with its sizes -/
section
variable {H : Type} {enc : TypeId × Value → H} {P : Program} {w : World} {t e : TypeId} {cs : List Value}
def Rs (enc : TypeId × Value → H) (P : Program) (w : World) (t : TypeId) (cs : List Value) : Prop := ∃ fuel d p, DataW.trod enc P w 0 (fun _ => true) true fuel t cs = some (d, p) ∧ ∀ n ∈ d.weights P t, n ≤ reachBytes
theorem Rs.rd (h : Rs enc P w t cs) : Rd enc P w t cs := by
  obtain ⟨f, d, p, h, _⟩ := h
  exact ⟨f, _, h⟩
theorem Rs.of {v : Value} {d : DataW H} {p : List MemPlace} (h : DataW.Trod enc P w 0 (fun _ => true) true t v d p) (hs : ∀ n ∈ d.weights P t, n ≤ reachBytes) : Rs enc P w t v.cells.toList := by
  obtain ⟨fuel, hf⟩ := h
  exact ⟨fuel, d, p, hf, hs⟩
theorem Rs.int (ht : P.underlying t = some (.int .i64)) (h : Rs enc P w t cs) : ∃ n : Int, cs = [.int .i64 n] ∧ (-9223372036854775808 ≤ n ∧ n ≤ 9223372036854775807) := h.rd.int ht
theorem Rs.intu32 (ht : P.underlying t = some (.int .u32)) (h : Rs enc P w t cs) : ∃ n : Int, cs = [.int .u32 n] ∧ (0 ≤ n ∧ n ≤ 4294967295) := by
  obtain ⟨fuel, d, p, hf, _⟩ := h
  obtain ⟨n, h1, _, h2⟩ := DataW.trod_int ht hf
  refine ⟨n, h1, ?_⟩
  simp [Lit.wf] at h2
  have e : IntKind.u32.min = 0 := rfl
  have e2 : IntKind.u32.max = 4294967295 := rfl
  omega
theorem Rs.struct {fs : Array Field} (ht : P.underlying t = some (.struct fs)) (h : Rs enc P w t cs) : cs.length = P.cellsOf t ∧ ∀ (i : Nat) (f : Field), fs[i]? = some f → Rs enc P w f.type ((cs.drop f.offset).take (P.cellsOf f.type)) := by
  obtain ⟨fuel, d, p, hf, hs⟩ := h
  obtain ⟨xs, n, _, hx, h1, h2, h3⟩ := DataW.trod_struct ht hf
  injection hx with hd _
  subst hd
  refine ⟨h1, fun i f hi => ?_⟩
  have h4 := h3 i f hi
  have hlt : i < xs.length := by rw [h2]; exact (Array.getElem?_eq_some_iff.1 hi).1
  refine ⟨n, xs[i].1, xs[i].2, by rw [h4, List.getElem?_eq_getElem hlt], fun m hm => hs m ?_⟩
  have hw : DataW.weights P t (.agg (xs.map (·.1))) = DataW.weightsEach P (fs.toList.map (·.type)) (xs.map (·.1)) := by simp only [DataW.weights, ht]
  rw [hw]
  exact DataW.weights_mem_each (j := i) (t := f.type) (d := xs[i].1) (by rw [List.getElem?_map, Array.getElem?_toList, hi]; rfl) (by rw [List.getElem?_map, List.getElem?_eq_getElem hlt]; rfl) m hm
theorem Rs.fld {fs : Array Field} {f : Field} {u : TypeId} {o n : Nat} (ht : P.underlying t = some (.struct fs)) (h : Rs enc P w t cs) (i : Nat) (hi : fs[i]? = some f) (hu : f.type = u) (ho : f.offset = o) (hn : P.cellsOf u = n) : Rs enc P w u ((cs.drop o).take n) := by
  subst hu ho hn; exact (h.struct ht).2 i f hi
theorem weightsAll_mem' : ∀ {l : List (DataW H)} {d : DataW H}, d ∈ l → ∀ n ∈ d.weights P e, n ∈ DataW.weightsAll P e l
  | [], _, h, _, _ => by cases h
  | x :: l, d, h, n, hn => by
    simp only [DataW.weightsAll, List.mem_append]
    rcases List.mem_cons.1 h with rfl | h
    · exact .inl hn
    · exact .inr (weightsAll_mem' h n hn)
theorem Rs.slice (ht : P.underlying t = some (.slice e)) (hk : 0 < P.cellsOf e) (h : Rs enc P w t cs) : ∃ ao len cap, cs = [.slice ao len cap] ∧ len ≤ cap ∧ (cap ≤ maxLen ∧ cap * P.bytesOf e ≤ reachBytes) ∧
    (0 < len → ∃ b o, ao = some ⟨b, o, none⟩ ∧ b < w.heap.size ∧ ∀ i, i < len → ∃ cs', cs'.length = P.cellsOf e ∧ At w b (o + i * P.cellsOf e) cs' ∧ Rs enc P w e cs') := by
  obtain ⟨fuel, d, p, hf, hs⟩ := h
  rcases Go.Deep.open_slice ht hf with ⟨h1, _⟩ | ⟨a, len, cap, m, n, D, Pl, h1, _, h2, h3, hm, hx, h4⟩
  · exact ⟨none, 0, 0, h1, Nat.le_refl _, ⟨by decide, by rw [Nat.zero_mul]; exact Nat.zero_le _⟩, fun h => absurd h (Nat.lt_irrefl _)⟩
  · have hmc : m = cap := by rw [hm]; simp
    injection hx with hd _
    have hw : DataW.weights P t d = (((List.range len).map D).length + ((List.range (m - len)).map fun j => D (len + j)).length) * P.bytesOf e :: (DataW.weightsAll P e ((List.range len).map D) ++ DataW.weightsAll P e ((List.range (m - len)).map fun j => D (len + j))) := by rw [hd]; simp only [DataW.weights, ht]
    have hc := hs _ (by rw [hw]; exact List.mem_cons_self ..)
    rw [List.length_map, List.length_map, List.length_range, List.length_range, show len + (m - len) = cap by omega] at hc
    refine ⟨some a, len, cap, h1, h2, ⟨h3, hc⟩, fun hp => ?_⟩
    have cell : ∀ i, i < len → ∃ cs', w.cells? 0 (a.add (i * P.cellsOf e)) (P.cellsOf e) = some cs' ∧ Rs enc P w e cs' := fun i hi => by
      obtain ⟨cs', q1, q2⟩ := h4 i (by omega)
      refine ⟨cs', q1, n, _, _, q2, fun k hk => hs k ?_⟩
      rw [hw]
      exact List.mem_cons_of_mem _ (List.mem_append_left _ (weightsAll_mem' (List.mem_map.2 ⟨i, List.mem_range.2 hi, rfl⟩) k hk))
    obtain ⟨c0, q1, _⟩ := cell 0 hp
    obtain ⟨_, hl0, hc0⟩ := World.cells?_some q1
    have hfirst : w.cell? a = c0[0]? := by
      have := hc0 0 hk
      simpa [Addr.add] using this
    have hsp : a.spot = none := World.cell?_spot (by rw [hfirst]; exact List.getElem?_eq_getElem (by omega))
    obtain ⟨b, o, sp⟩ := a
    obtain rfl : sp = none := hsp
    refine ⟨b, o, rfl, World.cells?_block (by simpa [addr_add] using q1) hk, fun i hi => ?_⟩
    obtain ⟨cs', r1, r2⟩ := cell i hi
    obtain ⟨_, hl1, hc1⟩ := World.cells?_some r1
    refine ⟨cs', hl1, fun j v hj => ?_, r2⟩
    have hjl : j < P.cellsOf e := by rw [← hl1]; exact (List.getElem?_eq_some_iff.1 hj).1
    have := hc1 j hjl
    rw [addr_add, addr_add] at this
    rw [this, hj]
theorem Rs.sl {α : Type} [Inhabited α] {enc' : α → List Value} {k : Nat} {R : α → Prop} (hk : P.cellsOf e = k) (hk0 : 0 < k) (ht : P.underlying t = some (.slice e)) (he : ∀ cs, Rs enc P w e cs → ∃ x, cs = enc' x ∧ R x) (h : Rs enc P w t cs) :
    ∃ (ao : Option Addr) (b o cap : Nat) (xs : List α), cs = [.slice ao xs.length cap] ∧ xs.length ≤ cap ∧ (cap ≤ maxLen ∧ cap * P.bytesOf e ≤ reachBytes) ∧ Sl enc' k w ao b o xs ∧ ∀ x ∈ xs, R x := by
  subst hk
  obtain ⟨ao, len, cap, h1, h2, h3, h4⟩ := h.slice ht hk0
  rcases Nat.eq_zero_or_pos len with h0 | h0
  · subst h0
    exact ⟨ao, 0, 0, cap, [], h1, h2, h3, Sl.nil _ _ _ _ _ _, fun x hx => by cases hx⟩
  · obtain ⟨b, o, hao, hb, hel⟩ := h4 h0
    have key : ∀ n, n ≤ len → ∃ xs : List α, xs.length = n ∧ (∀ i, i < n → At w b (o + i * P.cellsOf e) (enc' (nth xs i))) ∧ ∀ x ∈ xs, R x := by
      intro n
      induction n with
      | zero => exact fun _ => ⟨[], rfl, fun i hi => by omega, fun x hx => by cases hx⟩
      | succ n ih =>
        intro hn
        obtain ⟨xs, q1, q2, q3⟩ := ih (by omega)
        obtain ⟨cs', r1, r2, r3⟩ := hel n (by omega)
        obtain ⟨x, rfl, hx⟩ := he _ r3
        refine ⟨xs ++ [x], by simp [q1], fun i hi => ?_, fun y hy => ?_⟩
        · by_cases e : i = n
          · subst e
            have : nth (xs ++ [x]) i = x := by simp [nth, List.getD_eq_getElem?_getD, q1]
            rw [this]; exact r2
          · have : nth (xs ++ [x]) i = nth xs i := by simp [nth, List.getD_eq_getElem?_getD, List.getElem?_append_left (show i < xs.length by omega)]
            rw [this]; exact q2 i (by omega)
        · rcases List.mem_append.1 hy with hy | hy
          · exact q3 y hy
          · have : y = x := by simpa using hy
            subst this; exact hx
    obtain ⟨xs, q1, q2, q3⟩ := key len (Nat.le_refl _)
    subst q1
    exact ⟨ao, b, o, cap, xs, h1, h2, h3, ⟨fun _ => hao, fun _ => hb, q2⟩, q3⟩
theorem cap_of_bytes {cap : Nat} (h : cap * 8 ≤ reachBytes) : cap ≤ 17592186044416 := by
  have e : reachBytes = 140737488351232 := rfl
  omega
end

end Go.Proofs.YtjdcpnaocjddoaaGreatDoor
namespace Go.Proofs.YtjdcpnaocjddoaaGreatDoor
open Go Go.RowKit

end Go.Proofs.YtjdcpnaocjddoaaGreatDoor
