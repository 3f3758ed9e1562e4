/-
  The reference: Short; members left out. Conditions: none.
-/
import Derived.Test.YtagmodjadmecdaaGreatHB6
import Derived.Test.YtagmodjadmecdaaGreatHA29
namespace Go.Proofs.YtagmodjadmecdaaGreat
open Go Go.RowKit Tryz

theorem asc_iff {n : Nat} : ∀ {l : List Nat} {i : Nat}, AscN i n l ↔ l.Pairwise (· < ·) ∧ ∀ k ∈ l, i ≤ k ∧ k < n
  | [], i => by simp [AscN]
  | k :: l, i => by
    rw [List.pairwise_cons]
    constructor
    · intro h
      have h2 := asc_iff.1 h.2.2
      refine ⟨⟨fun a ha => (h2.2 a ha).1, h2.1⟩, fun a ha => ?_⟩
      rcases List.mem_cons.1 ha with e | ha
      · rw [e]; exact ⟨h.1, h.2.1⟩
      · have := h2.2 a ha; have := h.1; omega
    · rintro ⟨⟨h1, h2⟩, h3⟩
      have h4 := h3 k (by simp)
      exact ⟨h4.1, h4.2, asc_iff.2 ⟨h2, fun a ha => ⟨h1 a ha, (h3 a (by simp [ha])).2⟩⟩⟩
def upN (i j : Nat) : Nat := if j < i then j else j + 1
def dnN (i j : Nat) : Nat := if j < i then j else j - 1
theorem upN_lt {i a b : Nat} : upN i a < upN i b ↔ a < b := by unfold upN; split <;> split <;> omega
theorem upN_dn {i k : Nat} (h : k ≠ i) : upN i (dnN i k) = k := by unfold upN dnN; (repeat' split) <;> omega
theorem upN_ne {i k : Nat} : upN i k ≠ i := by unfold upN; split <;> omega
structure RelO (i : Nat) (mb md : List Mb) : Prop where
  len : mb.length = md.length + 1
  hi : i ≤ md.length
  at_ : ∀ j, j < md.length → nth mb (upN i j) = nth md j
  out : (nth mb i).u = -1
theorem upN_bd {i n k : Nat} (hi : i ≤ n) : upN i k < n + 1 ↔ k < n := by unfold upN; split <;> omega
theorem can_u {r : Rul} {x : Leg} {m : Mb} (hx : okLeg x = true) (h : m.u = -1) : canM r x m = false := by
  have h1 := (okLeg_ok hx).1
  unfold okDty at h1
  rw [decide_eq_true_eq] at h1
  unfold canM canB winM
  rw [h, decide_eq_false (by omega), Bool.false_and]
theorem plt_rel {i : Nat} {x : Leg} {mb md : List Mb} (hR : RelO i mb md) : ∀ {l : List Nat}, (∀ k ∈ l, k < md.length) → pltN x mb (l.map (upN i)) = pltN x md l
  | [], _ => rfl
  | k :: l, h => by
    rw [List.map_cons, pltN, pltN, plt_rel hR fun j hj => h j (by simp [hj]), hR.at_ k (h k (by simp))]
theorem team_rel {r : Rul} {x : Leg} {i h : Nat} {mb md : List Mb} {l : List Nat} (hR : RelO i mb md) : TeamN r x mb h 0 0 (l.map (upN i)) ↔ TeamN r x md h 0 0 l := by
  constructor
  · intro hT
    have ha := asc_iff.1 hT.asc
    rw [List.pairwise_map] at ha
    have hb : ∀ k ∈ l, k < md.length := fun k hk => by
      have := (ha.2 (upN i k) (List.mem_map.2 ⟨k, hk, rfl⟩)).2
      rw [hR.len] at this; exact (upN_bd hR.hi).1 this
    refine ⟨by rw [← hT.len, List.length_map], asc_iff.2 ⟨ha.1.imp fun {a b} h => upN_lt.1 h, fun k hk => ⟨Nat.zero_le _, hb k hk⟩⟩, fun k hk => ?_, by rw [← plt_rel hR hb]; exact hT.plt⟩
    rw [← hR.at_ k (hb k hk)]; exact hT.can _ (List.mem_map.2 ⟨k, hk, rfl⟩)
  · intro hT
    have ha := asc_iff.1 hT.asc
    have hb : ∀ k ∈ l, k < md.length := fun k hk => (ha.2 k hk).2
    refine ⟨by rw [← hT.len, List.length_map], asc_iff.2 ⟨?_, fun k hk => ?_⟩, fun k hk => ?_, by rw [plt_rel hR hb]; exact hT.plt⟩
    · rw [List.pairwise_map]; exact ha.1.imp fun {a b} h => upN_lt.2 h
    · obtain ⟨j, hj, rfl⟩ := List.mem_map.1 hk
      rw [hR.len]; exact ⟨Nat.zero_le _, (upN_bd hR.hi).2 (hb j hj)⟩
    · obtain ⟨j, hj, rfl⟩ := List.mem_map.1 hk
      rw [hR.at_ j (hb j hj)]; exact hT.can j hj
theorem aft_rel {r : Rul} {x : Leg} {i h : Nat} {mb md : List Mb} {l : List Nat} (hR : RelO i mb md) (hT : TeamN r x md h 0 0 l) : RelO i (aftN x (l.map (upN i)) mb) (aftN x l md) := by
  have hB := (team_rel hR).2 hT
  have e1 : ∀ j, nth (aftN x (l.map (upN i)) mb) j = if j ∈ l.map (upN i) then aftM x (nth mb j) else nth mb j := fun j => aftN_at hB.asc.nodup (fun k hk => (hB.asc.mem hk).2)
  have e2 : ∀ j, nth (aftN x l md) j = if j ∈ l then aftM x (nth md j) else nth md j := fun j => aftN_at hT.asc.nodup (fun k hk => (hT.asc.mem hk).2)
  refine ⟨by rw [aftN_len, aftN_len]; exact hR.len, by rw [aftN_len]; exact hR.hi, fun j hj => ?_, ?_⟩
  · rw [aftN_len] at hj
    rw [e1, e2, hR.at_ j hj]
    by_cases q : j ∈ l
    · rw [if_pos q, if_pos (List.mem_map.2 ⟨j, q, rfl⟩)]
    · rw [if_neg q, if_neg fun h => by
        obtain ⟨k, hk, e⟩ := List.mem_map.1 h
        have : k = j := by
          rcases Nat.lt_trichotomy k j with h | h | h
          · have := upN_lt (i := i).2 h; omega
          · exact h
          · have := upN_lt (i := i).2 h; omega
        rw [this] at hk; exact q hk]
  · rw [e1, if_neg fun h => by obtain ⟨k, _, e⟩ := List.mem_map.1 h; exact upN_ne e]; exact hR.out
theorem Fe_rel {r : Rul} {i : Nat} : ∀ {xs : List Leg} {mb md : List Mb}, RelO i mb md → (∀ x ∈ xs, okLeg x = true) → (Fe r xs mb ↔ Fe r xs md)
  | [], _, _, _, _ => ⟨fun _ => Fe_nil, fun _ => Fe_nil⟩
  | x :: xs, mb, md, hR, hx => by
    have hx2 : ∀ y ∈ xs, okLeg y = true := fun y hy => hx y (by simp [hy])
    constructor
    · rintro ⟨p, ns, p', rfl, hT, h2⟩
      have hne : ∀ k ∈ ns, k ≠ i := fun k hk e => by
        have := hT.can k hk
        rw [e, can_u (hx x (by simp)) hR.out] at this; cases this
      have hm : (ns.map (dnN i)).map (upN i) = ns := by
        rw [List.map_map]
        conv => rhs; rw [← List.map_id ns]
        exact List.map_congr_left fun k hk => upN_dn (hne k hk)
      rw [← hm] at hT h2
      have hD := (team_rel hR).1 hT
      obtain ⟨q, hq⟩ := (Fe_rel (aft_rel hR hD) hx2).1 ⟨p', h2⟩
      exact ⟨_, _, q, rfl, hD, hq⟩
    · rintro ⟨p, ns, p', rfl, hT, h2⟩
      obtain ⟨q, hq⟩ := (Fe_rel (aft_rel hR hT) hx2).2 ⟨p', h2⟩
      exact ⟨_, _, q, rfl, (team_rel hR).2 hT, hq⟩
theorem sf_out {r : Rul} {xs : List Leg} {ss : List Slr} {i : Nat} (hi : i < ss.length) (hx : ∀ x ∈ xs, okLeg x = true) : sfP r xs (mbO ((List.replicate ss.length false).set i true) ss) = sfP r xs ((ss.map boardP).take i ++ (ss.map boardP).drop (i + 1)) := by
  have hl : ((List.replicate ss.length false).set i true).length = ss.length := by rw [List.length_set, List.length_replicate]
  have ho : ∀ j, j < ss.length → nth ((List.replicate ss.length false).set i true) j = decide (j = i) := fun j hj => by
    rw [nth_set' (by rw [List.length_replicate]; exact hi)]
    by_cases e : j = i
    · rw [if_pos e, decide_eq_true e]
    · rw [if_neg e, decide_eq_false e, nth_eq (by rw [List.length_replicate]; exact hj)]; simp
  have hR : RelO i (mbO ((List.replicate ss.length false).set i true) ss) ((ss.map boardP).take i ++ (ss.map boardP).drop (i + 1)) := by
    refine ⟨?_, ?_, fun j hj => ?_, ?_⟩
    · rw [mbO_len hl, List.length_append, List.length_take, List.length_drop, List.length_map]; omega
    · rw [List.length_append, List.length_take, List.length_drop, List.length_map]; omega
    · rw [List.length_append, List.length_take, List.length_drop, List.length_map] at hj
      have hu : upN i j < ss.length := by unfold upN; split <;> omega
      rw [mbO_at hl hu, ho _ hu, decide_eq_false upN_ne]
      show boardP (nth ss (upN i j)) = _
      unfold upN
      by_cases e : j < i
      · rw [if_pos e, nth_apL (by rw [List.length_take, List.length_map]; omega)]
        have : nth (ss.map boardP) j = boardP (nth ss j) := nth_map2 _ (by omega)
        rw [← this]
        simp [nth, List.getD_eq_getElem?_getD, List.getElem?_take, e]
      · rw [if_neg e]
        have : nth (ss.map boardP) (j + 1) = boardP (nth ss (j + 1)) := nth_map2 _ (by omega)
        rw [← this]
        simp only [nth, List.getD_eq_getElem?_getD]
        rw [List.getElem?_append_right (by rw [List.length_take, List.length_map]; omega), List.getElem?_drop, List.length_take, List.length_map, Nat.min_eq_left (by omega), show i + 1 + (j - i) = j + 1 by omega]
    · rw [mbO_at hl hi, ho i hi, decide_eq_true rfl]; rfl
  cases h1 : sfP r xs (mbO ((List.replicate ss.length false).set i true) ss) with
  | true => exact (sf_iff.2 ((Fe_rel hR hx).1 (sf_iff.1 h1))).symm
  | false =>
    cases h2 : sfP r xs ((ss.map boardP).take i ++ (ss.map boardP).drop (i + 1)) with
    | false => rfl
    | true => rw [sf_iff.2 ((Fe_rel hR hx).2 (sf_iff.1 h2))] at h1; cases h1
theorem fs_none {r : Rul} {xs : List Leg} {ms : List Mb} {L : List (List Int)} (h : fsN r xs ms L = none) : ∀ l ∈ L, sfP r (pickL xs l) ms = true := fun l hl => by
  have := List.find?_eq_none.1 h l hl; simpa using this
theorem fs_some {r : Rul} {xs : List Leg} {ms : List Mb} {L : List (List Int)} {l : List Int} (h : fsN r xs ms L = some l) : l ∈ L ∧ sfP r (pickL xs l) ms = false :=
  ⟨List.mem_of_find?_eq_some h, by have := List.find?_some h; simpa using this⟩
def RShA (r : Rul) (xs : List Leg) (ms : List Mb) : Prop := ∀ m, 1 ≤ m → m ≤ xs.length → fsN r xs ms (chP xs.length m 0) = none
def RShB (r : Rul) (xs : List Leg) (ms : List Mb) (l : List Int) : Prop := ∃ m, (1 ≤ m ∧ m ≤ xs.length) ∧ fsN r xs ms (chP xs.length m 0) = some l ∧ ∀ q, 1 ≤ q → q < m → fsN r xs ms (chP xs.length q 0) = none
theorem all_in (n : Nat) : castL (List.range' 0 n) ∈ chP n n 0 := mem_ch.2 ⟨_, AscN_range n 0 (by omega), by simp, rfl⟩
theorem short_A {r : Rul} {ss : List Slr} {xs : List Leg} {l : List Int} {e : Int} (h : ShortR r ss xs l e) (h0 : openE r ss xs = 0) (hA : RShA r xs (ss.map boardP)) : (l = [] ∧ e = 9) ∧ sfP r xs (ss.map boardP) = true := by
  have hs : sfP r xs (ss.map boardP) = true := by
    rcases Nat.eq_zero_or_pos xs.length with q | q
    · rw [List.length_eq_zero_iff.1 q]; exact sf_iff.2 Fe_nil
    · have := fs_none (hA xs.length q (Nat.le_refl _)) _ (all_in xs.length)
      rwa [pick_castL, pick_all] at this
  exact ⟨short_ok h h0 hs, hs⟩
theorem short_B {r : Rul} {ss : List Slr} {xs : List Leg} {l l' : List Int} {e : Int} (h : ShortR r ss xs l e) (h0 : openE r ss xs = 0) (hB : RShB r xs (ss.map boardP) l') : (l = l' ∧ e = 0) ∧ sfP r xs (ss.map boardP) = false := by
  obtain ⟨hr, _, hos, _, hox⟩ := openE_ok h0
  obtain ⟨m, ⟨hm1, hm2⟩, h1, h2⟩ := hB
  obtain ⟨h3, h4⟩ := fs_some h1
  have hs : sfP r xs (ss.map boardP) = false := by
    cases q : sfP r xs (ss.map boardP) with
    | false => rfl
    | true =>
      obtain ⟨ns, a1, _, rfl⟩ := mem_ch.1 h3
      have := Fe_ez hr (Ez_pick a1) (Dom.self hos) (fun x hx => hox x (List.mem_of_mem_drop hx)) (by rw [List.drop_zero]; exact sf_iff.1 q)
      rw [pick_castL, sf_iff.2 this] at h4; cases h4
  refine ⟨?_, hs⟩
  rcases h with ⟨h, _⟩ | ⟨_, h, _⟩ | ⟨_, _, he, many, pre, post, hm, hf, hc, hp, hl⟩ | ⟨_, _, hf, _⟩
  · exact absurd h0 h
  · rw [hs] at h; cases h
  · have hlm : l ∈ chP xs.length many 0 := by rw [hc]; simp
    have e1 : many = m := by
      rcases Nat.lt_trichotomy many m with q | q | q
      · rcases Nat.eq_zero_or_pos many with z | z
        · rw [z, chP, List.mem_singleton] at hlm
          rw [hlm] at hl
          have : sfP r (pickL xs []) (ss.map boardP) = true := sf_iff.2 Fe_nil
          rw [this] at hl; cases hl
        · have := fs_none (h2 many z q) l hlm
          rw [this] at hl; cases hl
      · exact q
      · have := hf m q l' h3
        rw [this] at h4; cases h4
    subst e1
    rw [hc] at h1
    unfold fsN at h1
    rw [List.find?_append, List.find?_eq_none.2 (fun q hq => by rw [hp q hq]; simp), List.find?_cons, hl] at h1
    simp at h1
    exact ⟨h1, he⟩
  · have := hf xs.length (Nat.lt_succ_self _) _ (all_in xs.length)
    rw [pick_castL, pick_all, hs] at this; cases this


theorem rShort_c (r : Rul) (hs : List HS) (al : Option Addr) (bl ol cl : Nat) (ss : List Slr) (xs : List Leg) (ax : Option Addr) (bx ox cx : Nat) (w0 : World) (hc : CrwP r hs al bl ol cl ss w0) (hxs : Sl encLeg 7 w0 ax bx ox xs) (hxl : xs.length ≤ 8) (hox : ∀ x ∈ xs, okLeg x = true) (hpos : 0 < w0.heap.size) :
    CallsV Tryz.prog 39 [.agg #[.int .i64 r.rest, .int .i64 r.span, .int .i64 r.work, .int .i64 r.week, .int .i64 r.ww], .slice al hs.length cl, .slice ax xs.length cx] w0 (fun v w' => (∃ ao k c, v = .tuple #[.slice ao k c, .bool false] ∧ RShA r xs (ss.map boardP) ∧ Ext w0 w') ∨ (∃ ao g o c l, v = .tuple #[.slice ao (List.length l) c, .bool true] ∧ RShB r xs (ss.map boardP) l ∧ Sl encI 1 w' ao g o l ∧ Ext w0 w')) := by
 refine f_enter (N := 27) func39 rfl rfl rfl (c_seq fun K1 hK1 => (c_region (t_box (cs := [.int .i64 r.rest, .int .i64 r.span, .int .i64 r.work, .int .i64 r.week, .int .i64 r.ww]) rfl rfl rfl rfl (fun bk2 w3 ebk2 sbk2 B4 u5 => ?_))))
 have zu5 := u5.size
 refine t_assign rfl rfl rfl (t_assign rfl rfl rfl (t_nil' (hK1 _ _ (c_seq fun K7 hK7 => (c_seq fun K8 hK8 => (c_region (t_assign rfl rfl rfl (t_nil' (hK8 _ _ (c_block (c_loop (γ := Nat) (fun m => [(1, .slice al hs.length cl), (2, .slice ax xs.length cx), (3, .pointer (some ⟨bk2, 0, none⟩)), (8, .int .i64 (m : Int))]) (fun m w => Upd (fun _ => False) w3 w ∧ (1 ≤ m ∧ m ≤ xs.length + 1) ∧ (∀ q, 1 ≤ q → q < m → (fsN r xs (ss.map boardP) (chP xs.length q 0)) = none)) (fun m => xs.length + 1 - m) 1 ⟨rfl, rfl, rfl, rfl, trivial⟩ ⟨Upd.refl _ _, (by omega), (fun q h1 h2 => by omega)⟩ ?_)))))))))))
 intro m w10 hW K9 hK9
 obtain ⟨u11, I12, I13⟩ := hW
 have zu11 := u11.size
 have E14 := ((Upd.refl (fun _ => False) w0).nx u5).nx u11
 have hm := I12; clear I12
 have hfq := I13; clear I13
 refine c_seq fun K15 hK15 => (c_seq fun K16 hK16 => (c_region (t_move rfl rfl rfl (t_move rfl rfl rfl (t_len underlying55 rfl rfl rfl rfl (t_cmp rfl rfl rfl rfl rfl (t_nil' (hK16 _ _ (c_condp rfl (fun g14 => ?_) (fun g14 => ?_))))))))))
 ·
  refine c_skip (hK15 _ _ (c_seq fun K17 hK17 => (c_block (c_seq fun K18 hK18 => (c_region ?_)))))
  have B19 := (B4.kx u11)
  refine t_loadN (vs := [.int .i64 r.rest, .int .i64 r.span, .int .i64 r.work, .int .i64 r.week, .int .i64 r.ww]) isAgg23 sizeOf23 rfl rfl rfl (B19.at.sub 0 5) rfl (t_move rfl rfl rfl (t_move rfl rfl rfl (t_move rfl rfl rfl ?_)))
  have hTk20 : ShtP r hs al bl ol cl ss xs ax bx ox cx [] none 0 0 0 0 m m w10 := { hc := hc.ext E14, hxs := hxs.keep E14 (fun _ z => z), hxl := hxl, hox := hox, hn := Sl.nil _ _ _ _ _ _, hns := fun i hi => (by cases hi), hi := .inl ⟨rfl, rfl⟩, hi8 := Nat.zero_le _, hmn := Nat.zero_add m, hm8 := by omega, hpos := by omega }
  refine t_call own73 rfl rfl rfl rfl (rshort_c m r hs al bl ol cl ss xs ax bx ox cx [] none 0 0 0 0 m _ hTk20) (fun v21 w22 r24 => ?_)
  rcases r24 with ⟨aok20, kk20, ck20, rfl, hnkk20, u23⟩ | ⟨aok20, gk20, ok20, ck20, lk20, rfl, hnkk20, hSk20, u23⟩
  ·
   have zu23 := u23.size
   have hnmk20 := hnkk20
   rw [show (fun x : List Int => [] ++ x) = id from funext fun x => rfl, List.map_id] at hnmk20
   refine t_move rfl rfl rfl (t_extract rfl rfl rfl rfl (t_extract rfl rfl rfl rfl (t_assign rfl rfl rfl (t_assign rfl rfl rfl (t_nil' (hK18 _ _ (c_seq fun K26 hK26 => (c_region (t_move rfl rfl rfl (t_nil' (hK26 _ _ (c_cond_f rfl (c_skip (hK17 _ _ (c_region (t_move rfl rfl rfl (t_ari rfl rfl rfl rfl rfl (by omega) (t_assign rfl rfl rfl (t_nil' ?_)))))))))))))))))))
   exact hK9 (m + 1) _ _ (by omega) ⟨rfl, rfl, rfl, rfl, trivial⟩ ⟨(u11.nx u23), (by show 1 ≤ m + 1 ∧ m + 1 ≤ xs.length + 1; omega), (fun q h1 h2 => by
     rcases Nat.lt_or_ge q m with h | h
     · exact hfq q h1 h
     · rw [show q = m by omega]; exact hnmk20)⟩
  have zu23 := u23.size
  have hnmk20 := hnkk20
  rw [show (fun x : List Int => [] ++ x) = id from funext fun x => rfl, List.map_id] at hnmk20
  refine t_move rfl rfl rfl (t_extract rfl rfl rfl rfl (t_extract rfl rfl rfl rfl (t_assign rfl rfl rfl (t_assign rfl rfl rfl (t_nil' (hK18 _ _ (c_seq fun K28 hK28 => (c_region (t_move rfl rfl rfl (t_nil' (hK28 _ _ (c_cond_t rfl (c_seq fun K29 hK29 => (c_region (t_move rfl rfl rfl (t_assign rfl rfl rfl (t_assign rfl rfl rfl (t_nil' (hK29 _ _ (c_ret (f_ret2 (v1 := .slice aok20 lk20.length ck20) (v2 := .bool true) results39 rfl rfl ?_)))))))))))))))))))))
  exact .inr ⟨_, _, _, _, lk20, rfl, ⟨m, ⟨by omega, by omega⟩, hnmk20, hfq⟩, hSk20.keep (Upd.refl (fun _ => False) _) (fun _ z => z), (E14.nx u23)⟩
 refine c_exit (hK7 _ _ (c_seq fun K30 hK30 => (c_region (t_assign rfl rfl rfl (t_assign rfl rfl rfl (t_nil' (hK30 _ _ (c_ret (f_ret2 (v1 := .slice none 0 0) (v2 := .bool false) results39 rfl rfl ?_)))))))))
 exact .inl ⟨_, _, _, rfl, fun q h1 h2 => hfq q h1 (by omega), E14⟩

end Go.Proofs.YtagmodjadmecdaaGreat
