/-
  Contracts of copies and comparisons of voyages, and of the reference's functions on voyages. Conditions: none.
-/
import Derived.Test.YtmicjleiheoieaaOA8
import Derived.Test.YtmicjleiheoieaaOR1
import Derived.Test.YtmicjleiheoieaaOApp
import Derived.Test.YtmicjleiheoieaaOEq
import Derived.Test.YtmicjleiheoieaaOA12
namespace Go.Proofs.Ytmicjleiheoieaa
open Go Go.RowKit
def refTo (r : Run) (p : Int) : Int := if min r.frm r.to ≤ p ∧ p ≤ max r.frm r.to then p else r.to
def refGo (p : Int) : List Run → Bnd → Bnd
  | [], t => t
  | r :: rs, t => if p = r.frm then t else
    if refTo r p = p then ⟨t.lo + (r.wt.lo + tak (refTo r p - r.frm) r.sp.hi), t.hi + (r.wt.hi + tak (refTo r p - r.frm) r.sp.lo)⟩
    else refGo p rs ⟨t.lo + (r.wt.lo + tak (refTo r p - r.frm) r.sp.hi), t.hi + (r.wt.hi + tak (refTo r p - r.frm) r.sp.lo)⟩
theorem refGo_eq {p way : Int} : ∀ (rs : List Run) (a : Int) (t : Bnd), okRuns way a rs = true → (way = 1 → a ≤ p) → (way = -1 → p ≤ a) → refGo p rs t = arrGo p rs t
  | [], _, _, _, _, _ => rfl
  | r :: rs, a, t, h, h1, h2 => by
    simp only [okRuns, Bool.and_eq_true] at h
    obtain ⟨hr, hrs⟩ := h
    unfold okRun at hr
    rw [decide_eq_true_eq] at hr
    obtain ⟨_, e1, e2, e3, _, _⟩ := hr
    unfold refGo arrGo
    by_cases hp : p = r.frm
    · rw [if_pos hp, if_pos hp.symm]
    · rw [if_neg hp, if_neg (show ¬ r.frm = p from fun h => hp h.symm)]
      unfold sgn at e3
      have hw : refTo r p - r.frm = wayTo r p := by
        unfold refTo wayTo
        split at e3 <;> split <;> split <;> omega
      have hc : (refTo r p = p) ↔ (r.frm + wayTo r p = p) := by rw [← hw]; omega
      rw [hw]
      by_cases hq : refTo r p = p
      · rw [if_pos hq, if_pos (hc.1 hq)]
      · rw [if_neg hq, if_neg (fun h => hq (hc.2 h))]
        have hq' : ¬ (min r.frm r.to ≤ p ∧ p ≤ max r.frm r.to) := fun h => hq (by unfold refTo; rw [if_pos h])
        exact refGo_eq rs r.to _ hrs (fun e => by split at e3 <;> omega) (fun e => by split at e3 <;> omega)
theorem sgn_or (a b : Int) : sgn a b = 1 ∨ sgn a b = -1 := by unfold sgn; split <;> simp
/-- The last place of valid runs lies ahead of the first one. -/
theorem okRuns_last {way : Int} : ∀ (rs : List Run) (a : Int), okRuns way a rs = true → 0 < rs.length → (way = 1 → a < (rs.map (·.to)).getLastD 0) ∧ (way = -1 → (rs.map (·.to)).getLastD 0 < a)
  | [], _, _, h => absurd h (by simp)
  | [r], a, h, _ => by
    simp only [okRuns, Bool.and_true] at h
    unfold okRun at h
    rw [decide_eq_true_eq] at h
    obtain ⟨_, e1, e2, e3, _, _⟩ := h
    unfold sgn at e3
    simp only [List.map, List.getLastD]
    split at e3 <;> simp <;> omega
  | r :: s :: rs, a, h, _ => by
    have h' := h
    simp only [okRuns, Bool.and_eq_true] at h
    obtain ⟨hr, hrs⟩ := h
    have ih := okRuns_last (s :: rs) r.to (by simp only [okRuns, Bool.and_eq_true]; exact hrs) (by simp)
    unfold okRun at hr
    rw [decide_eq_true_eq] at hr
    obtain ⟨_, e1, e2, e3, _, _⟩ := hr
    unfold sgn at e3
    have e4 : ((r :: s :: rs).map (·.to)).getLastD 0 = ((s :: rs).map (·.to)).getLastD 0 := by simp
    rw [e4]
    split at e3 <;> omega
theorem way0_cases {v : Voy} (h : okVoy v = true) : (way0 v = 1 ∧ frst v < lst v) ∨ (way0 v = -1 ∧ lst v < frst v) := by
  have h' := h
  unfold okVoy at h
  rw [Bool.and_eq_true] at h
  have hp := (okVoy_rng h').pos
  have h2 := okRuns_last v.runs (frst v) h.2 hp
  rcases sgn_or (frst v) ((v.runs.map (·.to)).headD 0) with e | e
  · exact .inl ⟨e, h2.1 e⟩
  · exact .inr ⟨e, h2.2 e⟩
theorem ref_arr {v : Voy} {p : Int} (h : okVoy v = true) (ho : onWay v [p] = true) : refGo p v.runs v.st = arr v p := by
  have h' := h
  unfold okVoy at h
  rw [Bool.and_eq_true] at h
  have hr := onWay_rng ho
  rcases way0_cases h' with ⟨e, e1⟩ | ⟨e, e1⟩
  · exact refGo_eq v.runs _ _ h.2 (fun _ => by omega) (fun e2 => by omega)
  · exact refGo_eq v.runs _ _ h.2 (fun e2 => by omega) (fun _ => by omega)

theorem own28 : Own Try.prog 28 := ⟨Try.f28, Try.func28, by kernel_rfl, by kernel_rfl⟩
theorem own32 : Own Try.prog 32 := ⟨Try.f32, Try.func32, by kernel_rfl, by kernel_rfl⟩
theorem own33 : Own Try.prog 33 := ⟨Try.f33, Try.func33, by kernel_rfl, by kernel_rfl⟩
theorem own34 : Own Try.prog 34 := ⟨Try.f34, Try.func34, by kernel_rfl, by kernel_rfl⟩
theorem own72 : Own Try.prog 72 := ⟨Try.f72, Try.func72, by kernel_rfl, by kernel_rfl⟩
theorem own73 : Own Try.prog 73 := ⟨Try.f73, Try.func73, by kernel_rfl, by kernel_rfl⟩
theorem own74 : Own Try.prog 74 := ⟨Try.f74, Try.func74, by kernel_rfl, by kernel_rfl⟩

theorem eqIn45 (n : Nat) (a0 : Int) (a1 : Int) (b0 : Int) (b1 : Int) (w : World) : (Op.equalIn (n + 2) 45 (.agg #[.int .i64 a0, .int .i64 a1]) (.agg #[.int .i64 b0, .int .i64 b1])).run Try.prog w = .ok (decide (a0 = b0) && decide (a1 = b1)) w := by
  have hS : Try.prog.underlying 45 = some (.struct (Try.prog.fieldsOf 45)) := by kernel_rfl
  have hp : Try.prog.stoodInHeld 45 = false := by kernel_rfl
  have p0 : ∀ (a0 : Int) (a1 : Int), (part 3 #[.int .i64 a0, .int .i64 a1] 0).run Try.prog w = .ok (.int .i64 a0) w := fun _ _ => by simp [part, Try.isAgg3]
  have p1 : ∀ (a0 : Int) (a1 : Int), (part 3 #[.int .i64 a0, .int .i64 a1] 1).run Try.prog w = .ok (.int .i64 a1) w := fun _ _ => by simp [part, Try.isAgg3]
  have e3 := fun a b w => equal_i64 Try.underlying3 (n + 0) a b w
  rw [run_equalIn_struct w (n + 1) 45 _ _ hS hp]
  simp only [Program.fieldsOf, Try.underlying45]
  simp only [Op.eqFields, Sem.run_bind, Sem.run_ite, p0, p1, e3, Result.andThen_ok]
  by_cases h0 : a0 = b0 <;> by_cases h1 : a1 = b1 <;> simp [h0, h1, p0, p1, e3]
theorem copied_c (v : Voy) (ao : Option Addr) (b o cap : Nat) (w0 : World) (hs : Sl encRun 6 w0 ao b o v.runs) (hl : v.runs.length ≤ 1000000) :
    CallsV Try.prog 28 [.agg #[.int .i64 v.st.lo, .int .i64 v.st.hi, .slice ao ((v.runs).length) cap, .int .i64 v.len, .int .i64 v.wid]] w0 (fun x w' => (∃ ao' b' cap', x = .agg #[.int .i64 v.st.lo, .int .i64 v.st.hi, .slice ao' v.runs.length cap', .int .i64 v.len, .int .i64 v.wid] ∧ Sl encRun 6 w' ao' b' 0 v.runs ∧ w0.heap.size ≤ b') ∧ Ext w0 w') := by
 have E0 := Upd.refl (fun _ => False) w0
 refine f_enter (N := 9) Try.func28 rfl rfl rfl ?_
 change WC _ _ _ _ _ _ [(0, .agg #[.int .i64 v.st.lo, .int .i64 v.st.hi, .slice ao ((v.runs).length) cap, .int .i64 v.len, .int .i64 v.wid])] _
 refine c_seq fun K1 hK1 => (c_region (t_box (cs := [.int .i64 v.st.lo, .int .i64 v.st.hi, .slice ao ((v.runs).length) cap, .int .i64 v.len, .int .i64 v.wid]) rfl rfl rfl rfl (fun bk2 w3 ebk2 sbk2 B4 u5 => ?_)))
 have zu5 := u5.size
 have E6 := E0.next u5 (fun _ _ h => h.elim)
 refine t_alloc (cs := [.int .i64 0, .int .i64 0, .slice none 0 0, .int .i64 0, .int .i64 0]) Try.zeroValue48 rfl rfl rfl (fun bk7 w8 ebk7 sbk7 B9 u10 => ?_)
 have zu10 := u10.size
 have E11 := E6.next u10 (fun _ _ h => h.elim)
 refine t_nil' (hK1 _ _ (c_seq fun K12 hK12 => (c_region (t_bslice (ps := []) (cs := []) (e := 59) rfl rfl ⟨rfl, rfl⟩ (fun w => by kernel_rfl) (fun bk13 w14 ebk13 sbk13 B15 u16 => ?_)))))
 have zu16 := u16.size
 have E17 := E11.next u16 (fun _ _ h => h.elim)
 refine t_field Try.underlying48 rfl Try.sizeOf46 (2) rfl rfl rfl rfl ?_
 have B18 := ((B4.keep u10 (fun h => h)).keep u16 (fun h => h))
 refine t_load Try.isAgg46 rfl rfl rfl (B18.get rfl) (t_copy (enc := encRun) (z := .agg #[.int .i64 0, .int .i64 0, .int .i64 0, .int .i64 0, .int .i64 0, .int .i64 0]) (bytes := 48) (k := 6) (ys := v.runs) Try.underlying46 (by kernel_rfl) rfl (by decide) (fun _ => rfl) (by intro x; simp [encRun, Value.oneCell']) rfl rfl rfl rfl B15 (hs.keep E17 (fun _ h => h)) (by omega) (by decide) (fun ao19 gb20 cp21 w22 A23 u24 gegb20 => ?_))
 have zu24 := u24.size
 have E25 := E17.next u24 (fun i hi (h : (i = bk13 ∧ bk13 ≤ i)) => show False by first | omega | assumption)
 have lt_gb20 := A23.lt
 refine t_field Try.underlying48 rfl Try.sizeOf46 (2) rfl rfl rfl rfl ?_
 have B26 := (B18.keep u24 (show ¬ ((bk2 = bk13 ∧ bk13 ≤ bk2)) by first | omega | assumption))
 refine t_store (vs := [.slice ao19 v.runs.length cp21]) Try.sizeOf46 rfl rfl rfl B26 rfl rfl (Nat.le_of_ble_eq_true rfl) (by simp [Value.oneCell']) (fun w27 sw27 B29 u28 => ?_)
 have zu28 := u28.size
 have E30 := E25.next u28 (fun i hi (h : i = bk2) => show False by first | omega | assumption)
 have B29 : Blk w27 bk2 48 [.int .i64 v.st.lo, .int .i64 v.st.hi, .slice ao19 v.runs.length cp21, .int .i64 v.len, .int .i64 v.wid] := B29
 refine t_nil' (hK12 _ _ (c_seq fun K31 hK31 => (c_region (t_loadN (vs := [.int .i64 v.st.lo, .int .i64 v.st.hi, .slice ao19 v.runs.length cp21, .int .i64 v.len, .int .i64 v.wid]) Try.isAgg48 Try.sizeOf48 rfl rfl rfl (B29.at.sub 0 5) rfl ?_))))
 have B32 := (((B9.keep u16 (fun h => h)).keep u24 (show ¬ ((bk7 = bk13 ∧ bk13 ≤ bk7)) by first | omega | assumption)).keep u28 (show ¬ (bk7 = bk2) by first | omega | assumption))
 refine t_store (vs := [.int .i64 v.st.lo, .int .i64 v.st.hi, .slice ao19 v.runs.length cp21, .int .i64 v.len, .int .i64 v.wid]) Try.sizeOf48 rfl rfl rfl B32 rfl rfl (Nat.le_of_ble_eq_true rfl) (by simp [Value.oneCell']) (fun w33 sw33 B35 u34 => ?_)
 have zu34 := u34.size
 have E36 := E30.next u34 (fun i hi (h : i = bk7) => show False by first | omega | assumption)
 have B35 : Blk w33 bk7 48 [.int .i64 v.st.lo, .int .i64 v.st.hi, .slice ao19 v.runs.length cp21, .int .i64 v.len, .int .i64 v.wid] := B35
 refine t_nil' (hK31 _ _ (c_ret (f_ret1 (v := .agg #[.int .i64 v.st.lo, .int .i64 v.st.hi, .slice ao19 v.runs.length cp21, .int .i64 v.len, .int .i64 v.wid]) Try.results28 ⟨_, _, rfl, run_loadVarN (vs := [.int .i64 v.st.lo, .int .i64 v.st.hi, .slice ao19 v.runs.length cp21, .int .i64 v.len, .int .i64 v.wid]) Try.isAgg48 Try.sizeOf48 rfl (B35.at.sub 0 5)⟩ ?_)))
 have D37 := ((A23.keep u28 (fun hb => show ¬ (gb20 = bk2) by first | omega | assumption)).keep u34 (fun hb => show ¬ (gb20 = bk7) by first | omega | assumption))
 exact ⟨⟨_, gb20, _, rfl, (D37.sl (fun _ => rfl)), by omega⟩, E36⟩

theorem between_c (p a b : Int) (w0 : World) :
    CallsV Try.prog 73 [.int .i64 p, .int .i64 a, .int .i64 b] w0 (fun v w' => v = .bool (decide (min a b ≤ p ∧ p ≤ max a b)) ∧ Ext w0 w') := by
 have E0 := Upd.refl (fun _ => False) w0
 refine f_enter (N := 19) Try.func73 rfl rfl rfl ?_
 change WC _ _ _ _ _ _ [(0, .int .i64 p), (1, .int .i64 a), (2, .int .i64 b)] _
 refine c_seq fun K1 hK1 => (c_region (t_assign rfl rfl rfl (t_nil' (hK1 _ _ (c_seq fun K2 hK2 => (c_region (t_move rfl rfl rfl (t_move rfl rfl rfl (t_move rfl rfl rfl (t_min rfl rfl rfl rfl (t_cmp rfl rfl rfl rfl rfl (t_move rfl rfl rfl (t_splitp 12 rfl (fun g12 => ?_) (fun g12 => ?_))))))))))))))
 ·
  refine t_move rfl rfl rfl (t_move rfl rfl rfl (t_move rfl rfl rfl (t_max rfl rfl rfl rfl (t_cmp rfl rfl rfl rfl rfl (t_pick_t rfl rfl rfl rfl (t_assign rfl rfl rfl (t_nil' (hK2 _ _ (c_ret (f_ret1 (v := .bool (decide (p ≤ (max a b)))) Try.results73 rfl ?_))))))))))
  exact ⟨by simp [*], E0⟩
 ·
  refine t_skip rfl rfl rfl (t_skip rfl rfl rfl (t_skip rfl rfl rfl (t_skip rfl rfl rfl (t_skip rfl rfl rfl (t_pick_f rfl rfl rfl rfl (t_assign rfl rfl rfl (t_nil' (hK2 _ _ (c_ret (f_ret1 (v := .bool false) Try.results73 rfl ?_))))))))))
  exact ⟨by simp [*], E0⟩

theorem minutes_c (a b s : Int) (w0 : World) (h1 : -10000000 ≤ a ∧ a ≤ 10000000) (h2 : -10000000 ≤ b ∧ b ≤ 10000000) (h3 : 1 ≤ s ∧ s ≤ 1000000000) :
    CallsV Try.prog 74 [.int .i64 a, .int .i64 b, .int .i64 s] w0 (fun v w' => v = .int .i64 (tak (b - a) s) ∧ Ext w0 w') := by
 have E0 := Upd.refl (fun _ => False) w0
 refine f_enter (N := 22) Try.func74 rfl rfl rfl ?_
 change WC _ _ _ _ _ _ [(0, .int .i64 a), (1, .int .i64 b), (2, .int .i64 s)] _
 refine c_seq fun K1 hK1 => (c_region (t_assign rfl rfl rfl (t_nil' (hK1 _ _ (c_seq fun K2 hK2 => (c_region (t_move rfl rfl rfl (t_move rfl rfl rfl (t_ari rfl rfl rfl rfl rfl (by omega) (t_move rfl rfl rfl (t_move rfl rfl rfl (t_ari rfl rfl rfl rfl rfl (by omega) (t_max rfl rfl rfl rfl (t_assign rfl rfl rfl (t_nil' (hK2 _ _ (c_seq fun K3 hK3 => (c_region (t_move rfl rfl rfl (t_ari rfl rfl rfl rfl rfl (by omega) (t_move rfl rfl rfl (t_ari rfl rfl rfl rfl rfl (by omega) (t_ari rfl rfl rfl rfl rfl (by omega) ?_)))))))))))))))))))))))
 refine t_move rfl rfl rfl (t_quo rfl rfl rfl rfl (by omega) (by omega) (t_assign rfl rfl rfl (t_nil' (hK3 _ _ (c_ret (f_ret1 (v := .int .i64 ((((60 * (max (a - b) (b - a))) + s) - 1) / s)) Try.results74 rfl ?_))))))
 exact ⟨by unfold tak; rw [show max (a - b) (b - a) = max (b - a) (-(b - a)) by omega], E0⟩

theorem Ends_c (v : Voy) (ao : Option Addr) (b o cap : Nat) (w0 : World) (hs : Sl encRun 6 w0 ao b o v.runs) (hp : 0 < v.runs.length) (hl : v.runs.length ≤ 1000000) :
    CallsV Try.prog 72 [.agg #[.int .i64 v.st.lo, .int .i64 v.st.hi, .slice ao ((v.runs).length) cap, .int .i64 v.len, .int .i64 v.wid]] w0 (fun x w' => x = .tuple #[.int .i64 (frst v), .int .i64 (lst v)] ∧ Ext w0 w') := by
 have E0 := Upd.refl (fun _ => False) w0
 refine f_enter (N := 18) Try.func72 rfl rfl rfl ?_
 change WC _ _ _ _ _ _ [(0, .agg #[.int .i64 v.st.lo, .int .i64 v.st.hi, .slice ao ((v.runs).length) cap, .int .i64 v.len, .int .i64 v.wid])] _
 refine c_seq fun K1 hK1 => (c_region (t_box (cs := [.int .i64 v.st.lo, .int .i64 v.st.hi, .slice ao ((v.runs).length) cap, .int .i64 v.len, .int .i64 v.wid]) rfl rfl rfl rfl (fun bk2 w3 ebk2 sbk2 B4 u5 => ?_)))
 have zu5 := u5.size
 have E6 := E0.next u5 (fun _ _ h => h.elim)
 refine t_assign rfl rfl rfl (t_assign rfl rfl rfl (t_nil' (hK1 _ _ (c_seq fun K7 hK7 => (WC.weak [(1, .pointer (some ⟨bk2, 0, none⟩))] ⟨rfl, trivial⟩ (c_drawn follows 16 [some (4, some (.pointer (some ⟨bk2, 2, none⟩))), some (5, some (.slice ao ((v.runs).length) cap)), some (6, some (.pointer (some ⟨b, o + 0 * 6, none⟩))), some (7, some (.pointer (some ⟨b, o + 0 * 6 + 0, none⟩))), some (8, some (.int .i64 ((nth v.runs 0).frm))), some (9, some (.pointer (some ⟨bk2, 2, none⟩))), some (10, some (.slice ao ((v.runs).length) cap)), some (11, some (.pointer (some ⟨bk2, 2, none⟩))), some (12, some (.slice ao ((v.runs).length) cap)), some (13, some (.int .i64 ((v.runs).length : Int))), some (14, some (.int .i64 (((v.runs).length : Int) - 1))), some (15, some (.pointer (some ⟨b, o + (v.runs.length - 1) * 6, none⟩))), some (16, some (.pointer (some ⟨b, o + (v.runs.length - 1) * 6 + 1, none⟩))), some (17, some (.int .i64 ((nth v.runs (v.runs.length - 1)).to))), some (2, some (.int .i64 ((nth v.runs 0).frm))), some (3, some (.int .i64 ((nth v.runs (v.runs.length - 1)).to)))] [[],[0],[1],[2],[3],[],[5],[],[7],[8],[9],[6,10],[11],[12],[4,0,1,2,3,4],[13,14,0,1,2,3,4,5,6,7,8,9,10,11,12,13,14]] (fun _ _ w => Upd (fun _ => False) w3 w) rfl rfl rfl (by kernel_rfl) (by kernel_rfl) (Upd.drew _).to ⟨?_, ?_, ?_, ?_, ?_, ?_, ?_, ?_, ?_, ?_, ?_, ?_, ?_, ?_, ?_, ?_, trivial⟩ ?_))))))
 · exact pzf Try.underlying48 rfl Try.sizeOf46 (2) rfl rfl rfl rfl rfl fun _ _ _ h => h
 ·
  intro D ρ w10 hcD hnD hdD hW
  have zhW := hW.size
  refine ⟨_, kf_fr [4], fun Lr => ?_⟩
  have B13 := (B4.keep hW (fun h => h))
  refine t_load Try.isAgg46 rfl rfl rfl (B13.get rfl) ?_
  exact dz rfl hW
 ·
  intro D ρ w14 hcD hnD hdD hW
  have zhW := hW.size
  have E16 := E6.next hW (fun _ _ h => h.elim)
  refine ⟨_, kf_fr [5], fun Lr => ?_⟩
  have i17 : 0 < v.runs.length := (by omega)
  refine t_index (j := 0) Try.underlying46 Try.sizeOf59 rfl rfl rfl rfl ((hs.keep E16 (fun _ h => h)).addr (by omega)) rfl i17 ?_
  exact dz rfl hW
 · exact pzf Try.underlying59 rfl Try.sizeOf3 (o + 0 * 6 + 0) rfl rfl rfl rfl rfl fun _ _ _ h => h
 ·
  intro D ρ w18 hcD hnD hdD hW
  have zhW := hW.size
  have E20 := E6.next hW (fun _ _ h => h.elim)
  refine ⟨_, kf_fr [7], fun Lr => ?_⟩
  refine t_load Try.isAgg3 rfl rfl rfl (((hs.keep E20 (fun _ h => h)).at_ 0 (by omega)) 0 _ rfl) ?_
  exact dz rfl hW
 · exact pzf Try.underlying48 rfl Try.sizeOf46 (2) rfl rfl rfl rfl rfl fun _ _ _ h => h
 ·
  intro D ρ w21 hcD hnD hdD hW
  have zhW := hW.size
  refine ⟨_, kf_fr [9], fun Lr => ?_⟩
  have B24 := (B4.keep hW (fun h => h))
  refine t_load Try.isAgg46 rfl rfl rfl (B24.get rfl) ?_
  exact dz rfl hW
 · exact pzf Try.underlying48 rfl Try.sizeOf46 (2) rfl rfl rfl rfl rfl fun _ _ _ h => h
 ·
  intro D ρ w25 hcD hnD hdD hW
  have zhW := hW.size
  refine ⟨_, kf_fr [11], fun Lr => ?_⟩
  have B28 := (B4.keep hW (fun h => h))
  refine t_load Try.isAgg46 rfl rfl rfl (B28.get rfl) ?_
  exact dz rfl hW
 ·
  intro D ρ w29 hcD hnD hdD hW
  have zhW := hW.size
  refine ⟨_, kf_fr [12], fun Lr => ?_⟩
  refine t_len Try.underlying46 rfl rfl rfl rfl ?_
  exact dz rfl hW
 ·
  intro D ρ w32 hcD hnD hdD hW
  have zhW := hW.size
  refine ⟨_, kf_fr [13], fun Lr => ?_⟩
  refine t_ari rfl rfl rfl rfl rfl (by omega) ?_
  exact dz rfl hW
 ·
  intro D ρ w35 hcD hnD hdD hW
  have zhW := hW.size
  have E37 := E6.next hW (fun _ _ h => h.elim)
  refine ⟨_, kf_fr [10, 14], fun Lr => ?_⟩
  have i38 : (v.runs.length - 1) < v.runs.length := (by omega)
  refine t_index (j := (v.runs.length - 1)) Try.underlying46 Try.sizeOf59 rfl rfl rfl rfl ((hs.keep E37 (fun _ h => h)).addr (by omega)) (by omega) i38 ?_
  exact dz rfl hW
 · exact pzf Try.underlying59 rfl Try.sizeOf3 (o + (v.runs.length - 1) * 6 + 1) rfl rfl rfl rfl rfl fun _ _ _ h => h
 ·
  intro D ρ w39 hcD hnD hdD hW
  have zhW := hW.size
  have E41 := E6.next hW (fun _ _ h => h.elim)
  refine ⟨_, kf_fr [16], fun Lr => ?_⟩
  refine t_load Try.isAgg3 rfl rfl rfl (((hs.keep E41 (fun _ h => h)).at_ (v.runs.length - 1) (by omega)) 1 _ rfl) ?_
  exact dz rfl hW
 · exact pz rfl rfl rfl rfl fun _ _ _ h => h
 · exact pz rfl rfl rfl rfl fun _ _ _ h => h
 intro ρ w42 hW
 have u43 : Upd (fun _ => False) w3 w42 := hW
 have zu43 := u43.size
 have E44 := E6.next u43 (fun _ _ h => h.elim)
 refine QK.weak [(2, .int .i64 ((nth v.runs 0).frm)), (3, .int .i64 ((nth v.runs (v.runs.length - 1)).to))] ⟨rfl, rfl, trivial⟩ (hK7 _ _ (c_ret (f_ret2 (v1 := .int .i64 ((nth v.runs 0).frm)) (v2 := .int .i64 ((nth v.runs (v.runs.length - 1)).to)) Try.results72 rfl rfl ?_)))
 exact ⟨by rw [frst_eq hp, lst_eq (by omega)], E44⟩

theorem On_c (v : Voy) (ao : Option Addr) (b o cap : Nat) (p : Int) (w0 : World) (hs : Sl encRun 6 w0 ao b o v.runs) (hp : 0 < v.runs.length) (hl : v.runs.length ≤ 1000000) :
    CallsV Try.prog 33 [.agg #[.int .i64 v.st.lo, .int .i64 v.st.hi, .slice ao ((v.runs).length) cap, .int .i64 v.len, .int .i64 v.wid], .int .i64 p] w0 (fun x w' => x = .bool (onWay v [p]) ∧ Ext w0 w') := by
 have E0 := Upd.refl (fun _ => False) w0
 refine f_enter (N := 16) Try.func33 rfl rfl rfl ?_
 change WC _ _ _ _ _ _ [(0, .agg #[.int .i64 v.st.lo, .int .i64 v.st.hi, .slice ao ((v.runs).length) cap, .int .i64 v.len, .int .i64 v.wid]), (1, .int .i64 p)] _
 refine c_seq fun K1 hK1 => (c_region (t_box (cs := [.int .i64 v.st.lo, .int .i64 v.st.hi, .slice ao ((v.runs).length) cap, .int .i64 v.len, .int .i64 v.wid]) rfl rfl rfl rfl (fun bk2 w3 ebk2 sbk2 B4 u5 => ?_)))
 have zu5 := u5.size
 have E6 := E0.next u5 (fun _ _ h => h.elim)
 refine t_assign rfl rfl rfl (t_nil' (hK1 _ _ (c_seq fun K7 hK7 => (c_region (t_loadN (vs := [.int .i64 v.st.lo, .int .i64 v.st.hi, .slice ao ((v.runs).length) cap, .int .i64 v.len, .int .i64 v.wid]) Try.isAgg48 Try.sizeOf48 rfl rfl rfl (B4.at.sub 0 5) rfl (t_call (vs := [.agg #[.int .i64 v.st.lo, .int .i64 v.st.hi, .slice ao ((v.runs).length) cap, .int .i64 v.len, .int .i64 v.wid]]) own72 rfl rfl rfl rfl (Ends_c v ao b o cap _ (hs.keep E6 (fun _ h => h)) (by omega) (by omega)) (fun v8 w9 r11 => ?_)))))))
 obtain ⟨rfl, u10⟩ := r11
 have zu10 := u10.size
 have E12 := E6.next u10 (fun _ _ h => h.elim)
 refine t_move rfl rfl rfl (t_extract (vs := [.int .i64 (frst v), .int .i64 (lst v)]) rfl rfl rfl rfl (t_extract (vs := [.int .i64 (frst v), .int .i64 (lst v)]) rfl rfl rfl rfl (t_assign rfl rfl rfl (t_assign rfl rfl rfl (t_nil' (hK7 _ _ (c_seq fun K13 hK13 => (c_region (t_move rfl rfl rfl (t_move rfl rfl rfl (t_move rfl rfl rfl (t_call (vs := [.int .i64 p, .int .i64 (frst v), .int .i64 (lst v)]) own73 rfl rfl rfl rfl (between_c p (frst v) (lst v) _) (fun v14 w15 r17 => ?_)))))))))))))
 obtain ⟨rfl, u16⟩ := r17
 have zu16 := u16.size
 have E18 := E12.next u16 (fun _ _ h => h.elim)
 refine t_assign rfl rfl rfl (t_nil' (hK13 _ _ (c_ret (f_ret1 (v := .bool (decide (min (frst v) (lst v) ≤ p ∧ p ≤ max (frst v) (lst v)))) Try.results33 rfl ?_))))
 exact ⟨by simp [onWay], E18⟩

end Go.Proofs.Ytmicjleiheoieaa
