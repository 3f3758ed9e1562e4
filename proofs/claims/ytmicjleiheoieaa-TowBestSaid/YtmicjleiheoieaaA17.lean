/-
  Contracts of copies and comparisons of voyages, and of the reference's functions on voyages. Conditions: none.
-/
import Derived.Test.YtmicjleiheoieaaA8
import Derived.Test.YtmicjleiheoieaaR1
import Derived.Test.YtmicjleiheoieaaApp
import Derived.Test.YtmicjleiheoieaaEq
import Derived.Test.YtmicjleiheoieaaA12
namespace Go.Proofs.Ytmicjleiheoieaa
open Go Go.RowKit
def refTo (r : Run) (p : Int) : Int := if min r.frm r.to ≤ p ∧ p ≤ max r.frm r.to then p else r.to
def refGo (p : Int) : List Run → Bnd → Bnd
  | [], t => t
  | r :: rs, t => if p = r.frm then t else
    if refTo r p = p then ⟨t.lo + (r.wt.lo + tak (refTo r p - r.frm) r.sp.hi), t.hi + (r.wt.hi + tak (refTo r p - r.frm) r.sp.lo)⟩
    else refGo p rs ⟨t.lo + (r.wt.lo + tak (refTo r p - r.frm) r.sp.hi), t.hi + (r.wt.hi + tak (refTo r p - r.frm) r.sp.lo)⟩
theorem refGo_eq {p way : Int} : ∀ (rs : List Run) (a : Int) (t : Bnd), okRuns way a rs = true → (way = 1 → a ≤ p) → (way = -1 → p ≤ a) → refGo p rs t = arrGo p rs t
  | [], _, _, _, _, _ => rfl
  | r :: rs, a, t, h, h1, h2 => by
    simp only [okRuns, Bool.and_eq_true] at h
    obtain ⟨hr, hrs⟩ := h
    unfold okRun at hr
    rw [decide_eq_true_eq] at hr
    obtain ⟨_, e1, e2, e3, _, _⟩ := hr
    unfold refGo arrGo
    by_cases hp : p = r.frm
    · rw [if_pos hp, if_pos hp.symm]
    · rw [if_neg hp, if_neg (show ¬ r.frm = p from fun h => hp h.symm)]
      unfold sgn at e3
      have hw : refTo r p - r.frm = wayTo r p := by
        unfold refTo wayTo
        split at e3 <;> split <;> split <;> omega
      have hc : (refTo r p = p) ↔ (r.frm + wayTo r p = p) := by rw [← hw]; omega
      rw [hw]
      by_cases hq : refTo r p = p
      · rw [if_pos hq, if_pos (hc.1 hq)]
      · rw [if_neg hq, if_neg (fun h => hq (hc.2 h))]
        have hq' : ¬ (min r.frm r.to ≤ p ∧ p ≤ max r.frm r.to) := fun h => hq (by unfold refTo; rw [if_pos h])
        exact refGo_eq rs r.to _ hrs (fun e => by split at e3 <;> omega) (fun e => by split at e3 <;> omega)
theorem sgn_or (a b : Int) : sgn a b = 1 ∨ sgn a b = -1 := by unfold sgn; split <;> simp
/-- The last place of valid runs lies ahead of the first one. -/
theorem okRuns_last {way : Int} : ∀ (rs : List Run) (a : Int), okRuns way a rs = true → 0 < rs.length → (way = 1 → a < (rs.map (·.to)).getLastD 0) ∧ (way = -1 → (rs.map (·.to)).getLastD 0 < a)
  | [], _, _, h => absurd h (by simp)
  | [r], a, h, _ => by
    simp only [okRuns, Bool.and_true] at h
    unfold okRun at h
    rw [decide_eq_true_eq] at h
    obtain ⟨_, e1, e2, e3, _, _⟩ := h
    unfold sgn at e3
    simp only [List.map, List.getLastD]
    split at e3 <;> simp <;> omega
  | r :: s :: rs, a, h, _ => by
    have h' := h
    simp only [okRuns, Bool.and_eq_true] at h
    obtain ⟨hr, hrs⟩ := h
    have ih := okRuns_last (s :: rs) r.to (by simp only [okRuns, Bool.and_eq_true]; exact hrs) (by simp)
    unfold okRun at hr
    rw [decide_eq_true_eq] at hr
    obtain ⟨_, e1, e2, e3, _, _⟩ := hr
    unfold sgn at e3
    have e4 : ((r :: s :: rs).map (·.to)).getLastD 0 = ((s :: rs).map (·.to)).getLastD 0 := by simp
    rw [e4]
    split at e3 <;> omega
theorem way0_cases {v : Voy} (h : okVoy v = true) : (way0 v = 1 ∧ frst v < lst v) ∨ (way0 v = -1 ∧ lst v < frst v) := by
  have h' := h
  unfold okVoy at h
  rw [Bool.and_eq_true] at h
  have hp := (okVoy_rng h').pos
  have h2 := okRuns_last v.runs (frst v) h.2 hp
  rcases sgn_or (frst v) ((v.runs.map (·.to)).headD 0) with e | e
  · exact .inl ⟨e, h2.1 e⟩
  · exact .inr ⟨e, h2.2 e⟩
theorem ref_arr {v : Voy} {p : Int} (h : okVoy v = true) (ho : onWay v [p] = true) : refGo p v.runs v.st = arr v p := by
  have h' := h
  unfold okVoy at h
  rw [Bool.and_eq_true] at h
  have hr := onWay_rng ho
  rcases way0_cases h' with ⟨e, e1⟩ | ⟨e, e1⟩
  · exact refGo_eq v.runs _ _ h.2 (fun _ => by omega) (fun e2 => by omega)
  · exact refGo_eq v.runs _ _ h.2 (fun e2 => by omega) (fun _ => by omega)

theorem own28 : Own Try.prog 28 := ⟨Try.f28, Try.func28, by kernel_rfl, by kernel_rfl⟩
theorem own31 : Own Try.prog 31 := ⟨Try.f31, Try.func31, by kernel_rfl, by kernel_rfl⟩
theorem own32 : Own Try.prog 32 := ⟨Try.f32, Try.func32, by kernel_rfl, by kernel_rfl⟩
theorem own33 : Own Try.prog 33 := ⟨Try.f33, Try.func33, by kernel_rfl, by kernel_rfl⟩
theorem own34 : Own Try.prog 34 := ⟨Try.f34, Try.func34, by kernel_rfl, by kernel_rfl⟩
theorem own72 : Own Try.prog 72 := ⟨Try.f72, Try.func72, by kernel_rfl, by kernel_rfl⟩
theorem own73 : Own Try.prog 73 := ⟨Try.f73, Try.func73, by kernel_rfl, by kernel_rfl⟩
theorem own74 : Own Try.prog 74 := ⟨Try.f74, Try.func74, by kernel_rfl, by kernel_rfl⟩

theorem eqIn45 (n : Nat) (a0 : Int) (a1 : Int) (b0 : Int) (b1 : Int) (w : World) : (Op.equalIn (n + 2) 45 (.agg #[.int .i64 a0, .int .i64 a1]) (.agg #[.int .i64 b0, .int .i64 b1])).run Try.prog w = .ok (decide (a0 = b0) && decide (a1 = b1)) w := by
  have hS : Try.prog.underlying 45 = some (.struct (Try.prog.fieldsOf 45)) := by kernel_rfl
  have hp : Try.prog.stoodInHeld 45 = false := by kernel_rfl
  have p0 : ∀ (a0 : Int) (a1 : Int), (part 3 #[.int .i64 a0, .int .i64 a1] 0).run Try.prog w = .ok (.int .i64 a0) w := fun _ _ => by simp [part, Try.isAgg3]
  have p1 : ∀ (a0 : Int) (a1 : Int), (part 3 #[.int .i64 a0, .int .i64 a1] 1).run Try.prog w = .ok (.int .i64 a1) w := fun _ _ => by simp [part, Try.isAgg3]
  have e3 := fun a b w => equal_i64 Try.underlying3 (n + 0) a b w
  rw [run_equalIn_struct w (n + 1) 45 _ _ hS hp]
  simp only [Program.fieldsOf, Try.underlying45]
  simp only [Op.eqFields, Sem.run_bind, Sem.run_ite, p0, p1, e3, Result.andThen_ok]
  by_cases h0 : a0 = b0 <;> by_cases h1 : a1 = b1 <;> simp [h0, h1, p0, p1, e3]
theorem eqIn59 (n : Nat) (a0 : Int) (a1 : Int) (a2 : Int) (a3 : Int) (a4 : Int) (a5 : Int) (b0 : Int) (b1 : Int) (b2 : Int) (b3 : Int) (b4 : Int) (b5 : Int) (w : World) : (Op.equalIn (n + 3) 59 (.agg #[.int .i64 a0, .int .i64 a1, .int .i64 a2, .int .i64 a3, .int .i64 a4, .int .i64 a5]) (.agg #[.int .i64 b0, .int .i64 b1, .int .i64 b2, .int .i64 b3, .int .i64 b4, .int .i64 b5])).run Try.prog w = .ok (decide (a0 = b0) && decide (a1 = b1) && (decide (a2 = b2) && decide (a3 = b3)) && (decide (a4 = b4) && decide (a5 = b5))) w := by
  have hS : Try.prog.underlying 59 = some (.struct (Try.prog.fieldsOf 59)) := by kernel_rfl
  have hp : Try.prog.stoodInHeld 59 = false := by kernel_rfl
  have p0 : ∀ (a0 : Int) (a1 : Int) (a2 : Int) (a3 : Int) (a4 : Int) (a5 : Int), (part 3 #[.int .i64 a0, .int .i64 a1, .int .i64 a2, .int .i64 a3, .int .i64 a4, .int .i64 a5] 0).run Try.prog w = .ok (.int .i64 a0) w := fun _ _ _ _ _ _ => by simp [part, Try.isAgg3]
  have p1 : ∀ (a0 : Int) (a1 : Int) (a2 : Int) (a3 : Int) (a4 : Int) (a5 : Int), (part 3 #[.int .i64 a0, .int .i64 a1, .int .i64 a2, .int .i64 a3, .int .i64 a4, .int .i64 a5] 1).run Try.prog w = .ok (.int .i64 a1) w := fun _ _ _ _ _ _ => by simp [part, Try.isAgg3]
  have p2 : ∀ (a0 : Int) (a1 : Int) (a2 : Int) (a3 : Int) (a4 : Int) (a5 : Int), (part 45 #[.int .i64 a0, .int .i64 a1, .int .i64 a2, .int .i64 a3, .int .i64 a4, .int .i64 a5] 2).run Try.prog w = .ok (.agg #[.int .i64 a2, .int .i64 a3]) w := fun _ _ _ _ _ _ => by simp [part, Try.isAgg45, Try.sizeOf45]
  have p3 : ∀ (a0 : Int) (a1 : Int) (a2 : Int) (a3 : Int) (a4 : Int) (a5 : Int), (part 45 #[.int .i64 a0, .int .i64 a1, .int .i64 a2, .int .i64 a3, .int .i64 a4, .int .i64 a5] 4).run Try.prog w = .ok (.agg #[.int .i64 a4, .int .i64 a5]) w := fun _ _ _ _ _ _ => by simp [part, Try.isAgg45, Try.sizeOf45]
  have e3 := fun a b w => equal_i64 Try.underlying3 (n + 1) a b w
  have e45 := eqIn45 (n + 0)
  rw [run_equalIn_struct w (n + 2) 59 _ _ hS hp]
  simp only [Program.fieldsOf, Try.underlying59]
  simp only [Op.eqFields, Sem.run_bind, Sem.run_ite, p0, p1, p2, p3, e3, e45, Result.andThen_ok]
  by_cases h0 : a0 = b0 <;> by_cases h1 : a1 = b1 <;> by_cases h2 : (decide (a2 = b2) && decide (a3 = b3)) = true <;> by_cases h3 : (decide (a4 = b4) && decide (a5 = b5)) = true <;> simp [h0, h1, h2, h3, p0, p1, p2, p3, e3, e45]

theorem copied_c (v : Voy) (ao : Option Addr) (b o cap : Nat) (w0 : World) (hs : Sl encRun 6 w0 ao b o v.runs) (hl : v.runs.length ≤ 1000000) :
    CallsV Try.prog 28 [.agg #[.int .i64 v.st.lo, .int .i64 v.st.hi, .slice ao ((v.runs).length) cap, .int .i64 v.len, .int .i64 v.wid]] w0 (fun x w' => (∃ ao' b' cap', x = .agg #[.int .i64 v.st.lo, .int .i64 v.st.hi, .slice ao' v.runs.length cap', .int .i64 v.len, .int .i64 v.wid] ∧ Sl encRun 6 w' ao' b' 0 v.runs ∧ w0.heap.size ≤ b') ∧ Ext w0 w') := by
 have E0 := Upd.refl (fun _ => False) w0
 refine f_enter (N := 9) Try.func28 rfl rfl rfl ?_
 change WC _ _ _ _ _ _ [(0, .agg #[.int .i64 v.st.lo, .int .i64 v.st.hi, .slice ao ((v.runs).length) cap, .int .i64 v.len, .int .i64 v.wid])] _
 refine c_seq fun K1 hK1 => (c_region (t_box (cs := [.int .i64 v.st.lo, .int .i64 v.st.hi, .slice ao ((v.runs).length) cap, .int .i64 v.len, .int .i64 v.wid]) rfl rfl rfl rfl (fun bk2 w3 ebk2 sbk2 B4 u5 => ?_)))
 have zu5 := u5.size
 have E6 := E0.next u5 (fun _ _ h => h.elim)
 refine t_alloc (cs := [.int .i64 0, .int .i64 0, .slice none 0 0, .int .i64 0, .int .i64 0]) Try.zeroValue48 rfl rfl rfl (fun bk7 w8 ebk7 sbk7 B9 u10 => ?_)
 have zu10 := u10.size
 have E11 := E6.next u10 (fun _ _ h => h.elim)
 refine t_nil' (hK1 _ _ (c_seq fun K12 hK12 => (c_region (t_bslice (ps := []) (cs := []) (e := 59) rfl rfl ⟨rfl, rfl⟩ (fun w => by kernel_rfl) (fun bk13 w14 ebk13 sbk13 B15 u16 => ?_)))))
 have zu16 := u16.size
 have E17 := E11.next u16 (fun _ _ h => h.elim)
 refine t_field Try.underlying48 rfl Try.sizeOf46 (2) rfl rfl rfl rfl ?_
 have B18 := ((B4.keep u10 (fun h => h)).keep u16 (fun h => h))
 refine t_load Try.isAgg46 rfl rfl rfl (B18.get rfl) (t_copy (enc := encRun) (z := .agg #[.int .i64 0, .int .i64 0, .int .i64 0, .int .i64 0, .int .i64 0, .int .i64 0]) (bytes := 48) (k := 6) (ys := v.runs) Try.underlying46 (by kernel_rfl) rfl (by decide) (fun _ => rfl) (by intro x; simp [encRun, Value.oneCell']) rfl rfl rfl rfl B15 (hs.keep E17 (fun _ h => h)) (by omega) (by decide) (fun ao19 gb20 cp21 w22 A23 u24 gegb20 => ?_))
 have zu24 := u24.size
 have E25 := E17.next u24 (fun i hi (h : (i = bk13 ∧ bk13 ≤ i)) => show False by first | omega | assumption)
 have lt_gb20 := A23.lt
 refine t_field Try.underlying48 rfl Try.sizeOf46 (2) rfl rfl rfl rfl ?_
 have B26 := (B18.keep u24 (show ¬ ((bk2 = bk13 ∧ bk13 ≤ bk2)) by first | omega | assumption))
 refine t_store (vs := [.slice ao19 v.runs.length cp21]) Try.sizeOf46 rfl rfl rfl B26 rfl rfl (Nat.le_of_ble_eq_true rfl) (by simp [Value.oneCell']) (fun w27 sw27 B29 u28 => ?_)
 have zu28 := u28.size
 have E30 := E25.next u28 (fun i hi (h : i = bk2) => show False by first | omega | assumption)
 have B29 : Blk w27 bk2 48 [.int .i64 v.st.lo, .int .i64 v.st.hi, .slice ao19 v.runs.length cp21, .int .i64 v.len, .int .i64 v.wid] := B29
 refine t_nil' (hK12 _ _ (c_seq fun K31 hK31 => (c_region (t_loadN (vs := [.int .i64 v.st.lo, .int .i64 v.st.hi, .slice ao19 v.runs.length cp21, .int .i64 v.len, .int .i64 v.wid]) Try.isAgg48 Try.sizeOf48 rfl rfl rfl (B29.at.sub 0 5) rfl ?_))))
 have B32 := (((B9.keep u16 (fun h => h)).keep u24 (show ¬ ((bk7 = bk13 ∧ bk13 ≤ bk7)) by first | omega | assumption)).keep u28 (show ¬ (bk7 = bk2) by first | omega | assumption))
 refine t_store (vs := [.int .i64 v.st.lo, .int .i64 v.st.hi, .slice ao19 v.runs.length cp21, .int .i64 v.len, .int .i64 v.wid]) Try.sizeOf48 rfl rfl rfl B32 rfl rfl (Nat.le_of_ble_eq_true rfl) (by simp [Value.oneCell']) (fun w33 sw33 B35 u34 => ?_)
 have zu34 := u34.size
 have E36 := E30.next u34 (fun i hi (h : i = bk7) => show False by first | omega | assumption)
 have B35 : Blk w33 bk7 48 [.int .i64 v.st.lo, .int .i64 v.st.hi, .slice ao19 v.runs.length cp21, .int .i64 v.len, .int .i64 v.wid] := B35
 refine t_nil' (hK31 _ _ (c_ret (f_ret1 (v := .agg #[.int .i64 v.st.lo, .int .i64 v.st.hi, .slice ao19 v.runs.length cp21, .int .i64 v.len, .int .i64 v.wid]) Try.results28 ⟨_, _, rfl, run_loadVarN (vs := [.int .i64 v.st.lo, .int .i64 v.st.hi, .slice ao19 v.runs.length cp21, .int .i64 v.len, .int .i64 v.wid]) Try.isAgg48 Try.sizeOf48 rfl (B35.at.sub 0 5)⟩ ?_)))
 have D37 := ((A23.keep u28 (fun hb => show ¬ (gb20 = bk2) by first | omega | assumption)).keep u34 (fun hb => show ¬ (gb20 = bk7) by first | omega | assumption))
 exact ⟨⟨_, gb20, _, rfl, (D37.sl (fun _ => rfl)), by omega⟩, E36⟩

theorem unchanged_c (us vs : List HVoy) (au av : Option Addr) (bu ou bv ov cu cv : Nat) (w0 : World) (hu : Sl encHVoy 5 w0 au bu ou us) (hv : Sl encHVoy 5 w0 av bv ov vs) (hur : ∀ x ∈ us, Sl encRun 6 w0 x.ao x.b x.o x.v.runs) (hvr : ∀ x ∈ vs, Sl encRun 6 w0 x.ao x.b x.o x.v.runs) (hlen : us.length = vs.length) (heq : ∀ i, i < us.length → (nth us i).v = (nth vs i).v) (hul : us.length ≤ 1000000) (hrl : ∀ x ∈ us, x.v.runs.length ≤ 1000000) :
    CallsV Try.prog 31 [.slice au us.length cu, .slice av vs.length cv] w0 (fun v w' => v = .bool true ∧ Ext w0 w') := by
 have E0 := Upd.refl (fun _ => False) w0
 refine f_enter (N := 97) Try.func31 rfl rfl rfl ?_
 change WC _ _ _ _ _ _ [(0, .slice au us.length cu), (1, .slice av vs.length cv)] _
 refine c_seq fun K1 hK1 => (c_region (t_assign rfl rfl rfl (t_nil' (hK1 _ _ (c_seq fun K2 hK2 => (c_seq fun K3 hK3 => (c_region (t_move rfl rfl rfl (t_len Try.underlying34 rfl rfl rfl rfl (t_move rfl rfl rfl (t_len Try.underlying34 rfl rfl rfl rfl (t_cmp rfl rfl rfl rfl rfl (t_nil' (hK3 _ _ (c_condp rfl (fun g11 => ?_) (fun g11 => ?_))))))))))))))))
 ·
  refine c_seq fun K4 hK4 => (c_region (t_assign rfl rfl rfl (t_nil' (hK4 _ _ (c_ret (f_ret1 (v := .bool false) Try.results31 rfl ?_))))))
  exact absurd (by omega) g11
 ·
  refine c_skip (hK2 _ _ (c_seq fun K5 hK5 => (c_seq fun K6 hK6 => (c_region (t_assign rfl rfl rfl (t_nil' (hK6 _ _ (c_block (c_loop (γ := Nat) (fun k => [(0, .slice au us.length cu), (1, .slice av vs.length cv), (5, .int .i64 (k : Int))]) (fun k w => Upd (fun _ => False) w0 w ∧ (k ≤ us.length)) (fun k => us.length - k) 0 ⟨rfl, rfl, rfl, trivial⟩ ⟨Upd.refl _ _, Nat.zero_le _⟩ ?_)))))))))
  intro k w8 hW K7 hK7
  obtain ⟨u9, I10⟩ := hW
  have zu9 := u9.size
  have E11 := E0.next u9 (fun _ _ h => h.elim)
  have hk := I10; clear I10
  refine c_seq fun K12 hK12 => (c_seq fun K13 hK13 => (c_region (t_move rfl rfl rfl (t_move rfl rfl rfl (t_len Try.underlying34 rfl rfl rfl rfl (t_cmp rfl rfl rfl rfl rfl (t_nil' (hK13 _ _ (c_condp rfl (fun g15 => ?_) (fun g15 => ?_))))))))))
  ·
   refine c_skip (hK12 _ _ (c_seq fun K14 hK14 => (c_block (c_seq fun K15 hK15 => (c_seq fun K16 hK16 => ?_)))))
   have hq : (nth us k).v = (nth vs k).v := heq k (by omega)
   have hrk := hrl _ (nth_mem (xs := us) (i := k) (by omega))
   refine WC.weak [(0, .slice au us.length cu), (1, .slice av vs.length cv), (5, .int .i64 (k : Int))] ⟨rfl, rfl, rfl, trivial⟩ (c_drawn follows 52 [some (18, some (.slice au us.length cu)), some (19, some (.int .i64 (k : Int))), some (20, some (.pointer (some ⟨bu, ou + k * 5, none⟩))), some (21, some (.pointer (some ⟨bu, ou + k * 5 + 0, none⟩))), some (22, some (.agg #[.int .i64 ((nth us k).v.st.lo), .int .i64 ((nth us k).v.st.hi)])), some (23, some (.slice av vs.length cv)), some (24, some (.int .i64 (k : Int))), some (25, some (.pointer (some ⟨bv, ov + k * 5, none⟩))), some (26, some (.pointer (some ⟨bv, ov + k * 5 + 0, none⟩))), some (27, some (.agg #[.int .i64 ((nth vs k).v.st.lo), .int .i64 ((nth vs k).v.st.hi)])), some (28, some (.bool false)), some (29, some (.bool false)), some (30, some (.slice au us.length cu)), some (31, some (.int .i64 (k : Int))), some (32, some (.pointer (some ⟨bu, ou + k * 5, none⟩))), some (33, some (.pointer (some ⟨bu, ou + k * 5 + 3, none⟩))), some (34, some (.int .i64 ((nth us k).v.len))), some (35, some (.slice av vs.length cv)), some (36, some (.int .i64 (k : Int))), some (37, some (.pointer (some ⟨bv, ov + k * 5, none⟩))), some (38, some (.pointer (some ⟨bv, ov + k * 5 + 3, none⟩))), some (39, some (.int .i64 ((nth vs k).v.len))), some (40, some (.bool false)), some (41, some (.bool false)), some (42, some (.bool false)), some (43, some (.slice au us.length cu)), some (44, some (.int .i64 (k : Int))), some (45, some (.pointer (some ⟨bu, ou + k * 5, none⟩))), some (46, some (.pointer (some ⟨bu, ou + k * 5 + 4, none⟩))), some (47, some (.int .i64 ((nth us k).v.wid))), some (48, some (.slice av vs.length cv)), some (49, some (.int .i64 (k : Int))), some (50, some (.pointer (some ⟨bv, ov + k * 5, none⟩))), some (51, some (.pointer (some ⟨bv, ov + k * 5 + 4, none⟩))), some (52, some (.int .i64 ((nth vs k).v.wid))), some (53, some (.bool false)), some (54, some (.bool false)), some (55, some (.bool false)), some (56, some (.slice au us.length cu)), some (57, some (.int .i64 (k : Int))), some (58, some (.pointer (some ⟨bu, ou + k * 5, none⟩))), some (59, some (.pointer (some ⟨bu, ou + k * 5 + 2, none⟩))), some (60, some (.slice ((nth us k).ao) (((nth us k).v.runs).length) ((nth us k).cap))), some (61, some (.int .i64 (((nth us k).v.runs).length : Int))), some (62, some (.slice av vs.length cv)), some (63, some (.int .i64 (k : Int))), some (64, some (.pointer (some ⟨bv, ov + k * 5, none⟩))), some (65, some (.pointer (some ⟨bv, ov + k * 5 + 2, none⟩))), some (66, some (.slice ((nth vs k).ao) (((nth vs k).v.runs).length) ((nth vs k).cap))), some (67, some (.int .i64 (((nth vs k).v.runs).length : Int))), some (68, some (.bool false)), some (69, some (.bool false))] [[],[],[0,1],[2],[3],[],[],[5,6],[7],[8],[4,9],[10],[11],[11],[12,13,11],[14,11],[15,11],[11],[11],[17,18,11],[19,11],[20,11],[16,21,11],[11,22],[23,11],[24],[24],[25,26,24],[27,24],[28,24],[24],[24],[30,31,24],[32,24],[33,24],[29,34,24],[24,35],[36,24],[37],[37],[38,39,37],[40,37],[41,37],[42,37],[37],[37],[44,45,37],[46,37],[47,37],[48,37],[43,49,37],[37,50]] (fun _ _ w => Upd (fun _ => False) w8 w) rfl rfl rfl (by kernel_rfl) (by kernel_rfl) (Upd.drew _).to ⟨?_, ?_, ?_, ?_, ?_, ?_, ?_, ?_, ?_, ?_, ?_, ?_, ?_, ?_, ?_, ?_, ?_, ?_, ?_, ?_, ?_, ?_, ?_, ?_, ?_, ?_, ?_, ?_, ?_, ?_, ?_, ?_, ?_, ?_, ?_, ?_, ?_, ?_, ?_, ?_, ?_, ?_, ?_, ?_, ?_, ?_, ?_, ?_, ?_, ?_, ?_, ?_, trivial⟩ ?_)
   · exact pz rfl rfl rfl rfl fun _ _ _ h => h
   · exact pz rfl rfl rfl rfl fun _ _ _ h => h
   ·
    intro D ρ w25 hcD hnD hdD hW
    have zhW := hW.size
    have E27 := E11.next hW (fun _ _ h => h.elim)
    refine ⟨_, kf_fr [18, 19], fun Lr => ?_⟩
    have i28 : k < us.length := (by omega)
    refine t_index (j := k) Try.underlying34 Try.sizeOf48 rfl rfl rfl rfl ((hu.keep E27 (fun _ h => h)).addr (by omega)) rfl i28 ?_
    exact dz rfl hW
   · exact pzf Try.underlying48 rfl Try.sizeOf45 (ou + k * 5 + 0) rfl rfl rfl rfl rfl fun _ _ _ h => h
   ·
    intro D ρ w29 hcD hnD hdD hW
    have zhW := hW.size
    have E31 := E11.next hW (fun _ _ h => h.elim)
    refine ⟨_, kf_fr [21], fun Lr => ?_⟩
    refine t_loadN (vs := [.int .i64 ((nth us k).v.st.lo), .int .i64 ((nth us k).v.st.hi)]) Try.isAgg45 Try.sizeOf45 rfl rfl rfl (((hu.keep E31 (fun _ h => h)).at_ k (by omega)).sub 0 2) rfl ?_
    exact dz rfl hW
   · exact pz rfl rfl rfl rfl fun _ _ _ h => h
   · exact pz rfl rfl rfl rfl fun _ _ _ h => h
   ·
    intro D ρ w32 hcD hnD hdD hW
    have zhW := hW.size
    have E34 := E11.next hW (fun _ _ h => h.elim)
    refine ⟨_, kf_fr [23, 24], fun Lr => ?_⟩
    have i35 : k < vs.length := (by omega)
    refine t_index (j := k) Try.underlying34 Try.sizeOf48 rfl rfl rfl rfl ((hv.keep E34 (fun _ h => h)).addr (by omega)) rfl i35 ?_
    exact dz rfl hW
   · exact pzf Try.underlying48 rfl Try.sizeOf45 (ov + k * 5 + 0) rfl rfl rfl rfl rfl fun _ _ _ h => h
   ·
    intro D ρ w36 hcD hnD hdD hW
    have zhW := hW.size
    have E38 := E11.next hW (fun _ _ h => h.elim)
    refine ⟨_, kf_fr [26], fun Lr => ?_⟩
    refine t_loadN (vs := [.int .i64 ((nth vs k).v.st.lo), .int .i64 ((nth vs k).v.st.hi)]) Try.isAgg45 Try.sizeOf45 rfl rfl rfl (((hv.keep E38 (fun _ h => h)).at_ k (by omega)).sub 0 2) rfl ?_
    exact dz rfl hW
   · exact fun D ρ w _ _ _ hW => ⟨[(22, .agg #[.int .i64 ((nth us k).v.st.lo), .int .i64 ((nth us k).v.st.hi)]), (27, .agg #[.int .i64 ((nth vs k).v.st.lo), .int .i64 ((nth vs k).v.st.hi)])], ⟨fi 4 rfl rfl rfl, fi 9 rfl rfl rfl, trivial⟩, fun Lr => t_neS (xs := [.int .i64 ((nth us k).v.st.lo), .int .i64 ((nth us k).v.st.hi)]) (ys := [.int .i64 ((nth vs k).v.st.lo), .int .i64 ((nth vs k).v.st.hi)]) (by kernel_rfl) (eqIn45 9998 ((nth us k).v.st.lo) ((nth us k).v.st.hi) ((nth vs k).v.st.lo) ((nth vs k).v.st.hi)) rfl rfl rfl rfl (t_samehd (v := .bool false) (by simp [hq]) (dz rfl hW))⟩
   · exact pz rfl rfl rfl rfl fun _ _ _ h => h
   · exact pz rfl rfl rfl rfl fun _ _ _ h => h
   · exact pz rfl rfl rfl rfl fun _ _ _ h => h
   ·
    intro D ρ w39 hcD hnD hdD hW
    have zhW := hW.size
    have E41 := E11.next hW (fun _ _ h => h.elim)
    refine ⟨_, kf_fr [29, 30, 31], fun Lr => ?_⟩
    have i42 : k < us.length := (by omega)
    refine t_index (j := k) Try.underlying34 Try.sizeOf48 rfl rfl rfl rfl ((hu.keep E41 (fun _ h => h)).addr (by omega)) rfl i42 ?_
    exact dz rfl hW
   · exact pzf Try.underlying48 rfl Try.sizeOf3 (ou + k * 5 + 3) rfl rfl rfl rfl rfl fun _ _ _ h => h
   ·
    intro D ρ w43 hcD hnD hdD hW
    have zhW := hW.size
    have E45 := E11.next hW (fun _ _ h => h.elim)
    refine ⟨_, kf_fr [29, 33], fun Lr => ?_⟩
    refine t_load Try.isAgg3 rfl rfl rfl (((hu.keep E45 (fun _ h => h)).at_ k (by omega)) 3 _ rfl) ?_
    exact dz rfl hW
   · exact pz rfl rfl rfl rfl fun _ _ _ h => h
   · exact pz rfl rfl rfl rfl fun _ _ _ h => h
   ·
    intro D ρ w46 hcD hnD hdD hW
    have zhW := hW.size
    have E48 := E11.next hW (fun _ _ h => h.elim)
    refine ⟨_, kf_fr [29, 35, 36], fun Lr => ?_⟩
    have i49 : k < vs.length := (by omega)
    refine t_index (j := k) Try.underlying34 Try.sizeOf48 rfl rfl rfl rfl ((hv.keep E48 (fun _ h => h)).addr (by omega)) rfl i49 ?_
    exact dz rfl hW
   · exact pzf Try.underlying48 rfl Try.sizeOf3 (ov + k * 5 + 3) rfl rfl rfl rfl rfl fun _ _ _ h => h
   ·
    intro D ρ w50 hcD hnD hdD hW
    have zhW := hW.size
    have E52 := E11.next hW (fun _ _ h => h.elim)
    refine ⟨_, kf_fr [29, 38], fun Lr => ?_⟩
    refine t_load Try.isAgg3 rfl rfl rfl (((hv.keep E52 (fun _ h => h)).at_ k (by omega)) 3 _ rfl) ?_
    exact dz rfl hW
   · exact fun D ρ w _ _ _ hW => ⟨[(29, .bool false), (34, .int .i64 ((nth us k).v.len)), (39, .int .i64 ((nth vs k).v.len))], ⟨fi 11 rfl rfl rfl, fi 16 rfl rfl rfl, fi 21 rfl rfl rfl, trivial⟩, fun Lr => t_cmp rfl rfl rfl rfl rfl (t_samehd (v := .bool false) (by simp [hq]) (dz rfl hW))⟩
   · exact pz rfl rfl rfl rfl fun _ _ _ h => h
   · exact pz rfl rfl rfl rfl fun _ _ _ h => h
   · exact pz rfl rfl rfl rfl fun _ _ _ h => h
   · exact pz rfl rfl rfl rfl fun _ _ _ h => h
   ·
    intro D ρ w53 hcD hnD hdD hW
    have zhW := hW.size
    have E55 := E11.next hW (fun _ _ h => h.elim)
    refine ⟨_, kf_fr [42, 43, 44], fun Lr => ?_⟩
    have i56 : k < us.length := (by omega)
    refine t_index (j := k) Try.underlying34 Try.sizeOf48 rfl rfl rfl rfl ((hu.keep E55 (fun _ h => h)).addr (by omega)) rfl i56 ?_
    exact dz rfl hW
   · exact pzf Try.underlying48 rfl Try.sizeOf3 (ou + k * 5 + 4) rfl rfl rfl rfl rfl fun _ _ _ h => h
   ·
    intro D ρ w57 hcD hnD hdD hW
    have zhW := hW.size
    have E59 := E11.next hW (fun _ _ h => h.elim)
    refine ⟨_, kf_fr [42, 46], fun Lr => ?_⟩
    refine t_load Try.isAgg3 rfl rfl rfl (((hu.keep E59 (fun _ h => h)).at_ k (by omega)) 4 _ rfl) ?_
    exact dz rfl hW
   · exact pz rfl rfl rfl rfl fun _ _ _ h => h
   · exact pz rfl rfl rfl rfl fun _ _ _ h => h
   ·
    intro D ρ w60 hcD hnD hdD hW
    have zhW := hW.size
    have E62 := E11.next hW (fun _ _ h => h.elim)
    refine ⟨_, kf_fr [42, 48, 49], fun Lr => ?_⟩
    have i63 : k < vs.length := (by omega)
    refine t_index (j := k) Try.underlying34 Try.sizeOf48 rfl rfl rfl rfl ((hv.keep E62 (fun _ h => h)).addr (by omega)) rfl i63 ?_
    exact dz rfl hW
   · exact pzf Try.underlying48 rfl Try.sizeOf3 (ov + k * 5 + 4) rfl rfl rfl rfl rfl fun _ _ _ h => h
   ·
    intro D ρ w64 hcD hnD hdD hW
    have zhW := hW.size
    have E66 := E11.next hW (fun _ _ h => h.elim)
    refine ⟨_, kf_fr [42, 51], fun Lr => ?_⟩
    refine t_load Try.isAgg3 rfl rfl rfl (((hv.keep E66 (fun _ h => h)).at_ k (by omega)) 4 _ rfl) ?_
    exact dz rfl hW
   · exact fun D ρ w _ _ _ hW => ⟨[(42, .bool false), (47, .int .i64 ((nth us k).v.wid)), (52, .int .i64 ((nth vs k).v.wid))], ⟨fi 24 rfl rfl rfl, fi 29 rfl rfl rfl, fi 34 rfl rfl rfl, trivial⟩, fun Lr => t_cmp rfl rfl rfl rfl rfl (t_samehd (v := .bool false) (by simp [hq]) (dz rfl hW))⟩
   · exact pz rfl rfl rfl rfl fun _ _ _ h => h
   · exact pz rfl rfl rfl rfl fun _ _ _ h => h
   · exact pz rfl rfl rfl rfl fun _ _ _ h => h
   · exact pz rfl rfl rfl rfl fun _ _ _ h => h
   ·
    intro D ρ w67 hcD hnD hdD hW
    have zhW := hW.size
    have E69 := E11.next hW (fun _ _ h => h.elim)
    refine ⟨_, kf_fr [55, 56, 57], fun Lr => ?_⟩
    have i70 : k < us.length := (by omega)
    refine t_index (j := k) Try.underlying34 Try.sizeOf48 rfl rfl rfl rfl ((hu.keep E69 (fun _ h => h)).addr (by omega)) rfl i70 ?_
    exact dz rfl hW
   · exact pzf Try.underlying48 rfl Try.sizeOf46 (ou + k * 5 + 2) rfl rfl rfl rfl rfl fun _ _ _ h => h
   ·
    intro D ρ w71 hcD hnD hdD hW
    have zhW := hW.size
    have E73 := E11.next hW (fun _ _ h => h.elim)
    refine ⟨_, kf_fr [55, 59], fun Lr => ?_⟩
    refine t_load Try.isAgg46 rfl rfl rfl (((hu.keep E73 (fun _ h => h)).at_ k (by omega)) 2 _ rfl) ?_
    exact dz rfl hW
   ·
    intro D ρ w74 hcD hnD hdD hW
    have zhW := hW.size
    refine ⟨_, kf_fr [55, 60], fun Lr => ?_⟩
    refine t_len Try.underlying46 rfl rfl rfl rfl ?_
    exact dz rfl hW
   · exact pz rfl rfl rfl rfl fun _ _ _ h => h
   · exact pz rfl rfl rfl rfl fun _ _ _ h => h
   ·
    intro D ρ w77 hcD hnD hdD hW
    have zhW := hW.size
    have E79 := E11.next hW (fun _ _ h => h.elim)
    refine ⟨_, kf_fr [55, 62, 63], fun Lr => ?_⟩
    have i80 : k < vs.length := (by omega)
    refine t_index (j := k) Try.underlying34 Try.sizeOf48 rfl rfl rfl rfl ((hv.keep E79 (fun _ h => h)).addr (by omega)) rfl i80 ?_
    exact dz rfl hW
   · exact pzf Try.underlying48 rfl Try.sizeOf46 (ov + k * 5 + 2) rfl rfl rfl rfl rfl fun _ _ _ h => h
   ·
    intro D ρ w81 hcD hnD hdD hW
    have zhW := hW.size
    have E83 := E11.next hW (fun _ _ h => h.elim)
    refine ⟨_, kf_fr [55, 65], fun Lr => ?_⟩
    refine t_load Try.isAgg46 rfl rfl rfl (((hv.keep E83 (fun _ h => h)).at_ k (by omega)) 2 _ rfl) ?_
    exact dz rfl hW
   ·
    intro D ρ w84 hcD hnD hdD hW
    have zhW := hW.size
    refine ⟨_, kf_fr [55, 66], fun Lr => ?_⟩
    refine t_len Try.underlying46 rfl rfl rfl rfl ?_
    exact dz rfl hW
   · exact fun D ρ w _ _ _ hW => ⟨[(55, .bool false), (61, .int .i64 (((nth us k).v.runs).length : Int)), (67, .int .i64 (((nth vs k).v.runs).length : Int))], ⟨fi 37 rfl rfl rfl, fi 43 rfl rfl rfl, fi 49 rfl rfl rfl, trivial⟩, fun Lr => t_cmp rfl rfl rfl rfl rfl (t_samehd (v := .bool false) (by simp [hq]) (dz rfl hW))⟩
   · exact pz rfl rfl rfl rfl fun _ _ _ h => h
   intro ρ w87 hW
   have u88 : Upd (fun _ => False) w8 w87 := hW
   have zu88 := u88.size
   have E89 := E11.next u88 (fun _ _ h => h.elim)
   refine QK.weak [(0, .slice au us.length cu), (1, .slice av vs.length cv), (5, .int .i64 (k : Int)), (69, .bool false)] ⟨rfl, rfl, rfl, rfl, trivial⟩ (hK16 _ _ (c_cond_f rfl (c_skip (hK15 _ _ (c_seq fun K90 hK90 => (c_region (t_assign rfl rfl rfl (t_nil' (hK90 _ _ (c_block (c_loop (γ := Nat) (fun j => [(0, .slice au us.length cu), (1, .slice av vs.length cv), (5, .int .i64 (k : Int)), (6, .int .i64 (j : Int))]) (fun j w => Upd (fun _ => False) w87 w ∧ (j ≤ (nth us k).v.runs.length)) (fun j => (nth us k).v.runs.length - j) 0 ⟨rfl, rfl, rfl, rfl, trivial⟩ ⟨Upd.refl _ _, Nat.zero_le _⟩ ?_)))))))))))
   intro j w92 hW K91 hK91
   obtain ⟨u93, I94⟩ := hW
   have zu93 := u93.size
   have E95 := E89.next u93 (fun _ _ h => h.elim)
   have hj := I94; clear I94
   refine c_seq fun K96 hK96 => (c_seq fun K97 hK97 => (c_region (t_move rfl rfl rfl (t_move rfl rfl rfl (t_move rfl rfl rfl ?_)))))
   have i98 : k < us.length := (by omega)
   refine t_index (j := k) Try.underlying34 Try.sizeOf48 rfl rfl rfl rfl ((hu.keep E95 (fun _ h => h)).addr (by omega)) rfl i98 (t_field Try.underlying48 rfl Try.sizeOf46 (ou + k * 5 + 2) rfl rfl rfl rfl (t_load Try.isAgg46 rfl rfl rfl (((hu.keep E95 (fun _ h => h)).at_ k (by omega)) 2 _ rfl) (t_len Try.underlying46 rfl rfl rfl rfl (t_cmp rfl rfl rfl rfl rfl (t_nil' (hK97 _ _ (c_condp rfl (fun g77 => ?_) (fun g77 => ?_))))))))
   ·
    refine c_skip (hK96 _ _ (c_seq fun K99 hK99 => (c_block (c_seq fun K100 hK100 => (WC.weak [(0, .slice au us.length cu), (1, .slice av vs.length cv), (5, .int .i64 (k : Int)), (6, .int .i64 (j : Int))] ⟨rfl, rfl, rfl, rfl, trivial⟩ (c_drawn follows 17 [some (80, some (.slice au us.length cu)), some (81, some (.int .i64 (k : Int))), some (82, some (.pointer (some ⟨bu, ou + k * 5, none⟩))), some (83, some (.pointer (some ⟨bu, ou + k * 5 + 2, none⟩))), some (84, some (.slice ((nth us k).ao) (((nth us k).v.runs).length) ((nth us k).cap))), some (85, some (.int .i64 (j : Int))), some (86, some (.pointer (some ⟨(nth us k).b, (nth us k).o + j * 6, none⟩))), some (87, some (.agg #[.int .i64 ((nth ((nth us k).v.runs) j).frm), .int .i64 ((nth ((nth us k).v.runs) j).to), .int .i64 ((nth ((nth us k).v.runs) j).sp.lo), .int .i64 ((nth ((nth us k).v.runs) j).sp.hi), .int .i64 ((nth ((nth us k).v.runs) j).wt.lo), .int .i64 ((nth ((nth us k).v.runs) j).wt.hi)])), some (88, some (.slice av vs.length cv)), some (89, some (.int .i64 (k : Int))), some (90, some (.pointer (some ⟨bv, ov + k * 5, none⟩))), some (91, some (.pointer (some ⟨bv, ov + k * 5 + 2, none⟩))), some (92, some (.slice ((nth vs k).ao) (((nth vs k).v.runs).length) ((nth vs k).cap))), some (93, some (.int .i64 (j : Int))), some (94, some (.pointer (some ⟨(nth vs k).b, (nth vs k).o + j * 6, none⟩))), some (95, some (.agg #[.int .i64 ((nth ((nth vs k).v.runs) j).frm), .int .i64 ((nth ((nth vs k).v.runs) j).to), .int .i64 ((nth ((nth vs k).v.runs) j).sp.lo), .int .i64 ((nth ((nth vs k).v.runs) j).sp.hi), .int .i64 ((nth ((nth vs k).v.runs) j).wt.lo), .int .i64 ((nth ((nth vs k).v.runs) j).wt.hi)])), some (96, some (.bool false))] [[],[],[0,1],[2],[3],[],[4,5],[6],[],[],[8,9],[10],[11],[],[12,13],[14],[7,15]] (fun _ _ w => Upd (fun _ => False) w92 w) rfl rfl rfl (by kernel_rfl) (by kernel_rfl) (Upd.drew _).to ⟨?_, ?_, ?_, ?_, ?_, ?_, ?_, ?_, ?_, ?_, ?_, ?_, ?_, ?_, ?_, ?_, ?_, trivial⟩ ?_))))))
    · exact pz rfl rfl rfl rfl fun _ _ _ h => h
    · exact pz rfl rfl rfl rfl fun _ _ _ h => h
    ·
     intro D ρ w105 hcD hnD hdD hW
     have zhW := hW.size
     have E107 := E95.next hW (fun _ _ h => h.elim)
     refine ⟨_, kf_fr [80, 81], fun Lr => ?_⟩
     have i108 : k < us.length := (by omega)
     refine t_index (j := k) Try.underlying34 Try.sizeOf48 rfl rfl rfl rfl ((hu.keep E107 (fun _ h => h)).addr (by omega)) rfl i108 ?_
     exact dz rfl hW
    · exact pzf Try.underlying48 rfl Try.sizeOf46 (ou + k * 5 + 2) rfl rfl rfl rfl rfl fun _ _ _ h => h
    ·
     intro D ρ w109 hcD hnD hdD hW
     have zhW := hW.size
     have E111 := E95.next hW (fun _ _ h => h.elim)
     refine ⟨_, kf_fr [83], fun Lr => ?_⟩
     refine t_load Try.isAgg46 rfl rfl rfl (((hu.keep E111 (fun _ h => h)).at_ k (by omega)) 2 _ rfl) ?_
     exact dz rfl hW
    · exact pz rfl rfl rfl rfl fun _ _ _ h => h
    ·
     intro D ρ w112 hcD hnD hdD hW
     have zhW := hW.size
     have E114 := E95.next hW (fun _ _ h => h.elim)
     refine ⟨_, kf_fr [84, 85], fun Lr => ?_⟩
     have i115 : j < (nth us k).v.runs.length := (by omega)
     refine t_index (j := j) Try.underlying46 Try.sizeOf59 rfl rfl rfl rfl (((hur (nth us k) (nth_mem (by omega))).keep E114 (fun _ h => h)).addr (by omega)) rfl i115 ?_
     exact dz rfl hW
    ·
     intro D ρ w116 hcD hnD hdD hW
     have zhW := hW.size
     have E118 := E95.next hW (fun _ _ h => h.elim)
     refine ⟨_, kf_fr [86], fun Lr => ?_⟩
     refine t_loadN (vs := [.int .i64 ((nth ((nth us k).v.runs) j).frm), .int .i64 ((nth ((nth us k).v.runs) j).to), .int .i64 ((nth ((nth us k).v.runs) j).sp.lo), .int .i64 ((nth ((nth us k).v.runs) j).sp.hi), .int .i64 ((nth ((nth us k).v.runs) j).wt.lo), .int .i64 ((nth ((nth us k).v.runs) j).wt.hi)]) Try.isAgg59 Try.sizeOf59 rfl rfl rfl ((((hur (nth us k) (nth_mem (by omega))).keep E118 (fun _ h => h)).at_ j (by omega)).sub 0 6) rfl ?_
     exact dz rfl hW
    · exact pz rfl rfl rfl rfl fun _ _ _ h => h
    · exact pz rfl rfl rfl rfl fun _ _ _ h => h
    ·
     intro D ρ w119 hcD hnD hdD hW
     have zhW := hW.size
     have E121 := E95.next hW (fun _ _ h => h.elim)
     refine ⟨_, kf_fr [88, 89], fun Lr => ?_⟩
     have i122 : k < vs.length := (by omega)
     refine t_index (j := k) Try.underlying34 Try.sizeOf48 rfl rfl rfl rfl ((hv.keep E121 (fun _ h => h)).addr (by omega)) rfl i122 ?_
     exact dz rfl hW
    · exact pzf Try.underlying48 rfl Try.sizeOf46 (ov + k * 5 + 2) rfl rfl rfl rfl rfl fun _ _ _ h => h
    ·
     intro D ρ w123 hcD hnD hdD hW
     have zhW := hW.size
     have E125 := E95.next hW (fun _ _ h => h.elim)
     refine ⟨_, kf_fr [91], fun Lr => ?_⟩
     refine t_load Try.isAgg46 rfl rfl rfl (((hv.keep E125 (fun _ h => h)).at_ k (by omega)) 2 _ rfl) ?_
     exact dz rfl hW
    · exact pz rfl rfl rfl rfl fun _ _ _ h => h
    ·
     intro D ρ w126 hcD hnD hdD hW
     have zhW := hW.size
     have E128 := E95.next hW (fun _ _ h => h.elim)
     refine ⟨_, kf_fr [92, 93], fun Lr => ?_⟩
     have i129 : j < (nth vs k).v.runs.length := (by rw [← hq]; omega)
     refine t_index (j := j) Try.underlying46 Try.sizeOf59 rfl rfl rfl rfl (((hvr (nth vs k) (nth_mem (by omega))).keep E128 (fun _ h => h)).addr (by omega)) rfl i129 ?_
     exact dz rfl hW
    ·
     intro D ρ w130 hcD hnD hdD hW
     have zhW := hW.size
     have E132 := E95.next hW (fun _ _ h => h.elim)
     refine ⟨_, kf_fr [94], fun Lr => ?_⟩
     refine t_loadN (vs := [.int .i64 ((nth ((nth vs k).v.runs) j).frm), .int .i64 ((nth ((nth vs k).v.runs) j).to), .int .i64 ((nth ((nth vs k).v.runs) j).sp.lo), .int .i64 ((nth ((nth vs k).v.runs) j).sp.hi), .int .i64 ((nth ((nth vs k).v.runs) j).wt.lo), .int .i64 ((nth ((nth vs k).v.runs) j).wt.hi)]) Try.isAgg59 Try.sizeOf59 rfl rfl rfl ((((hvr (nth vs k) (nth_mem (by omega))).keep E132 (fun _ h => h)).at_ j (by rw [← hq]; omega)).sub 0 6) rfl ?_
     exact dz rfl hW
    · exact fun D ρ w _ _ _ hW => ⟨[(87, .agg #[.int .i64 ((nth ((nth us k).v.runs) j).frm), .int .i64 ((nth ((nth us k).v.runs) j).to), .int .i64 ((nth ((nth us k).v.runs) j).sp.lo), .int .i64 ((nth ((nth us k).v.runs) j).sp.hi), .int .i64 ((nth ((nth us k).v.runs) j).wt.lo), .int .i64 ((nth ((nth us k).v.runs) j).wt.hi)]), (95, .agg #[.int .i64 ((nth ((nth vs k).v.runs) j).frm), .int .i64 ((nth ((nth vs k).v.runs) j).to), .int .i64 ((nth ((nth vs k).v.runs) j).sp.lo), .int .i64 ((nth ((nth vs k).v.runs) j).sp.hi), .int .i64 ((nth ((nth vs k).v.runs) j).wt.lo), .int .i64 ((nth ((nth vs k).v.runs) j).wt.hi)])], ⟨fi 7 rfl rfl rfl, fi 15 rfl rfl rfl, trivial⟩, fun Lr => t_neS (xs := [.int .i64 ((nth ((nth us k).v.runs) j).frm), .int .i64 ((nth ((nth us k).v.runs) j).to), .int .i64 ((nth ((nth us k).v.runs) j).sp.lo), .int .i64 ((nth ((nth us k).v.runs) j).sp.hi), .int .i64 ((nth ((nth us k).v.runs) j).wt.lo), .int .i64 ((nth ((nth us k).v.runs) j).wt.hi)]) (ys := [.int .i64 ((nth ((nth vs k).v.runs) j).frm), .int .i64 ((nth ((nth vs k).v.runs) j).to), .int .i64 ((nth ((nth vs k).v.runs) j).sp.lo), .int .i64 ((nth ((nth vs k).v.runs) j).sp.hi), .int .i64 ((nth ((nth vs k).v.runs) j).wt.lo), .int .i64 ((nth ((nth vs k).v.runs) j).wt.hi)]) (by kernel_rfl) (eqIn59 9997 ((nth ((nth us k).v.runs) j).frm) ((nth ((nth us k).v.runs) j).to) ((nth ((nth us k).v.runs) j).sp.lo) ((nth ((nth us k).v.runs) j).sp.hi) ((nth ((nth us k).v.runs) j).wt.lo) ((nth ((nth us k).v.runs) j).wt.hi) ((nth ((nth vs k).v.runs) j).frm) ((nth ((nth vs k).v.runs) j).to) ((nth ((nth vs k).v.runs) j).sp.lo) ((nth ((nth vs k).v.runs) j).sp.hi) ((nth ((nth vs k).v.runs) j).wt.lo) ((nth ((nth vs k).v.runs) j).wt.hi)) rfl rfl rfl rfl (t_samehd (v := .bool false) (by simp [hq]) (dz rfl hW))⟩
    intro ρ w133 hW
    have u134 : Upd (fun _ => False) w92 w133 := hW
    have zu134 := u134.size
    refine QK.weak [(0, .slice au us.length cu), (1, .slice av vs.length cv), (5, .int .i64 (k : Int)), (6, .int .i64 (j : Int)), (96, .bool false)] ⟨rfl, rfl, rfl, rfl, rfl, trivial⟩ (hK100 _ _ (c_cond_f rfl (c_skip (hK99 _ _ (c_region (t_move rfl rfl rfl (t_ari rfl rfl rfl rfl rfl (by omega) (t_assign rfl rfl rfl (t_nil' ?_)))))))))
    exact hK91 (j + 1) _ _ (by omega) ⟨rfl, rfl, rfl, rfl, trivial⟩ ⟨(u93.next u134 (fun _ _ h => h.elim)), (by omega)⟩
   ·
    refine c_exit (hK14 _ _ (c_region (t_move rfl rfl rfl (t_ari rfl rfl rfl rfl rfl (by omega) (t_assign rfl rfl rfl (t_nil' ?_))))))
    exact hK7 (k + 1) _ _ (by omega) ⟨rfl, rfl, rfl, trivial⟩ ⟨((u9.next u88 (fun _ _ h => h.elim)).next u93 (fun _ _ h => h.elim)), (by omega)⟩
  ·
   refine c_exit (hK5 _ _ (c_seq fun K136 hK136 => (c_region (t_assign rfl rfl rfl (t_nil' (hK136 _ _ (c_ret (f_ret1 (v := .bool true) Try.results31 rfl ?_))))))))
   exact ⟨rfl, E11⟩


theorem forall_one {α : Type} {p : α → Prop} {u : α} (h : p u) : ∀ x ∈ [u], p x := by simpa using h
theorem unchanged1_c (u v : HVoy) (b1 b2 : Nat) (t1 t2 : TypeId) (w : World) (h1 : Blk w b1 t1 (encHVoy u)) (h2 : Blk w b2 t2 (encHVoy v)) (hu : Sl encRun 6 w u.ao u.b u.o u.v.runs) (hv : Sl encRun 6 w v.ao v.b v.o v.v.runs) (he : u.v = v.v) (hl : u.v.runs.length ≤ 1000000) :
    CallsV Try.prog 31 [.slice (some ⟨b1, 0, none⟩) 1 1, .slice (some ⟨b2, 0, none⟩) 1 1] w (fun v w' => v = .bool true ∧ Ext w w') :=
  unchanged_c [u] [v] _ _ b1 0 b2 0 1 1 w (Sl.ofBlk (enc := encHVoy) (xs := [u]) (fun _ => rfl) (by simpa using h1)) (Sl.ofBlk (enc := encHVoy) (xs := [v]) (fun _ => rfl) (by simpa using h2)) (forall_one hu) (forall_one hv) rfl
    (fun i hi => by match i, hi with | 0, _ => exact he) (by simp) (forall_one hl)

theorem between_c (p a b : Int) (w0 : World) :
    CallsV Try.prog 73 [.int .i64 p, .int .i64 a, .int .i64 b] w0 (fun v w' => v = .bool (decide (min a b ≤ p ∧ p ≤ max a b)) ∧ Ext w0 w') := by
 have E0 := Upd.refl (fun _ => False) w0
 refine f_enter (N := 19) Try.func73 rfl rfl rfl ?_
 change WC _ _ _ _ _ _ [(0, .int .i64 p), (1, .int .i64 a), (2, .int .i64 b)] _
 refine c_seq fun K1 hK1 => (c_region (t_assign rfl rfl rfl (t_nil' (hK1 _ _ (c_seq fun K2 hK2 => (c_region (t_move rfl rfl rfl (t_move rfl rfl rfl (t_move rfl rfl rfl (t_min rfl rfl rfl rfl (t_cmp rfl rfl rfl rfl rfl (t_move rfl rfl rfl (t_splitp 12 rfl (fun g12 => ?_) (fun g12 => ?_))))))))))))))
 ·
  refine t_move rfl rfl rfl (t_move rfl rfl rfl (t_move rfl rfl rfl (t_max rfl rfl rfl rfl (t_cmp rfl rfl rfl rfl rfl (t_pick_t rfl rfl rfl rfl (t_assign rfl rfl rfl (t_nil' (hK2 _ _ (c_ret (f_ret1 (v := .bool (decide (p ≤ (max a b)))) Try.results73 rfl ?_))))))))))
  exact ⟨by simp [*], E0⟩
 ·
  refine t_skip rfl rfl rfl (t_skip rfl rfl rfl (t_skip rfl rfl rfl (t_skip rfl rfl rfl (t_skip rfl rfl rfl (t_pick_f rfl rfl rfl rfl (t_assign rfl rfl rfl (t_nil' (hK2 _ _ (c_ret (f_ret1 (v := .bool false) Try.results73 rfl ?_))))))))))
  exact ⟨by simp [*], E0⟩

theorem minutes_c (a b s : Int) (w0 : World) (h1 : -10000000 ≤ a ∧ a ≤ 10000000) (h2 : -10000000 ≤ b ∧ b ≤ 10000000) (h3 : 1 ≤ s ∧ s ≤ 1000000000) :
    CallsV Try.prog 74 [.int .i64 a, .int .i64 b, .int .i64 s] w0 (fun v w' => v = .int .i64 (tak (b - a) s) ∧ Ext w0 w') := by
 have E0 := Upd.refl (fun _ => False) w0
 refine f_enter (N := 22) Try.func74 rfl rfl rfl ?_
 change WC _ _ _ _ _ _ [(0, .int .i64 a), (1, .int .i64 b), (2, .int .i64 s)] _
 refine c_seq fun K1 hK1 => (c_region (t_assign rfl rfl rfl (t_nil' (hK1 _ _ (c_seq fun K2 hK2 => (c_region (t_move rfl rfl rfl (t_move rfl rfl rfl (t_ari rfl rfl rfl rfl rfl (by omega) (t_move rfl rfl rfl (t_move rfl rfl rfl (t_ari rfl rfl rfl rfl rfl (by omega) (t_max rfl rfl rfl rfl (t_assign rfl rfl rfl (t_nil' (hK2 _ _ (c_seq fun K3 hK3 => (c_region (t_move rfl rfl rfl (t_ari rfl rfl rfl rfl rfl (by omega) (t_move rfl rfl rfl (t_ari rfl rfl rfl rfl rfl (by omega) (t_ari rfl rfl rfl rfl rfl (by omega) ?_)))))))))))))))))))))))
 refine t_move rfl rfl rfl (t_quo rfl rfl rfl rfl (by omega) (by omega) (t_assign rfl rfl rfl (t_nil' (hK3 _ _ (c_ret (f_ret1 (v := .int .i64 ((((60 * (max (a - b) (b - a))) + s) - 1) / s)) Try.results74 rfl ?_))))))
 exact ⟨by unfold tak; rw [show max (a - b) (b - a) = max (b - a) (-(b - a)) by omega], E0⟩

theorem Ends_c (v : Voy) (ao : Option Addr) (b o cap : Nat) (w0 : World) (hs : Sl encRun 6 w0 ao b o v.runs) (hp : 0 < v.runs.length) (hl : v.runs.length ≤ 1000000) :
    CallsV Try.prog 72 [.agg #[.int .i64 v.st.lo, .int .i64 v.st.hi, .slice ao ((v.runs).length) cap, .int .i64 v.len, .int .i64 v.wid]] w0 (fun x w' => x = .tuple #[.int .i64 (frst v), .int .i64 (lst v)] ∧ Ext w0 w') := by
 have E0 := Upd.refl (fun _ => False) w0
 refine f_enter (N := 18) Try.func72 rfl rfl rfl ?_
 change WC _ _ _ _ _ _ [(0, .agg #[.int .i64 v.st.lo, .int .i64 v.st.hi, .slice ao ((v.runs).length) cap, .int .i64 v.len, .int .i64 v.wid])] _
 refine c_seq fun K1 hK1 => (c_region (t_box (cs := [.int .i64 v.st.lo, .int .i64 v.st.hi, .slice ao ((v.runs).length) cap, .int .i64 v.len, .int .i64 v.wid]) rfl rfl rfl rfl (fun bk2 w3 ebk2 sbk2 B4 u5 => ?_)))
 have zu5 := u5.size
 have E6 := E0.next u5 (fun _ _ h => h.elim)
 refine t_assign rfl rfl rfl (t_assign rfl rfl rfl (t_nil' (hK1 _ _ (c_seq fun K7 hK7 => (WC.weak [(1, .pointer (some ⟨bk2, 0, none⟩))] ⟨rfl, trivial⟩ (c_drawn follows 16 [some (4, some (.pointer (some ⟨bk2, 2, none⟩))), some (5, some (.slice ao ((v.runs).length) cap)), some (6, some (.pointer (some ⟨b, o + 0 * 6, none⟩))), some (7, some (.pointer (some ⟨b, o + 0 * 6 + 0, none⟩))), some (8, some (.int .i64 ((nth v.runs 0).frm))), some (9, some (.pointer (some ⟨bk2, 2, none⟩))), some (10, some (.slice ao ((v.runs).length) cap)), some (11, some (.pointer (some ⟨bk2, 2, none⟩))), some (12, some (.slice ao ((v.runs).length) cap)), some (13, some (.int .i64 ((v.runs).length : Int))), some (14, some (.int .i64 (((v.runs).length : Int) - 1))), some (15, some (.pointer (some ⟨b, o + (v.runs.length - 1) * 6, none⟩))), some (16, some (.pointer (some ⟨b, o + (v.runs.length - 1) * 6 + 1, none⟩))), some (17, some (.int .i64 ((nth v.runs (v.runs.length - 1)).to))), some (2, some (.int .i64 ((nth v.runs 0).frm))), some (3, some (.int .i64 ((nth v.runs (v.runs.length - 1)).to)))] [[],[0],[1],[2],[3],[],[5],[],[7],[8],[9],[6,10],[11],[12],[4,0,1,2,3,4],[13,14,0,1,2,3,4,5,6,7,8,9,10,11,12,13,14]] (fun _ _ w => Upd (fun _ => False) w3 w) rfl rfl rfl (by kernel_rfl) (by kernel_rfl) (Upd.drew _).to ⟨?_, ?_, ?_, ?_, ?_, ?_, ?_, ?_, ?_, ?_, ?_, ?_, ?_, ?_, ?_, ?_, trivial⟩ ?_))))))
 · exact pzf Try.underlying48 rfl Try.sizeOf46 (2) rfl rfl rfl rfl rfl fun _ _ _ h => h
 ·
  intro D ρ w10 hcD hnD hdD hW
  have zhW := hW.size
  refine ⟨_, kf_fr [4], fun Lr => ?_⟩
  have B13 := (B4.keep hW (fun h => h))
  refine t_load Try.isAgg46 rfl rfl rfl (B13.get rfl) ?_
  exact dz rfl hW
 ·
  intro D ρ w14 hcD hnD hdD hW
  have zhW := hW.size
  have E16 := E6.next hW (fun _ _ h => h.elim)
  refine ⟨_, kf_fr [5], fun Lr => ?_⟩
  have i17 : 0 < v.runs.length := (by omega)
  refine t_index (j := 0) Try.underlying46 Try.sizeOf59 rfl rfl rfl rfl ((hs.keep E16 (fun _ h => h)).addr (by omega)) rfl i17 ?_
  exact dz rfl hW
 · exact pzf Try.underlying59 rfl Try.sizeOf3 (o + 0 * 6 + 0) rfl rfl rfl rfl rfl fun _ _ _ h => h
 ·
  intro D ρ w18 hcD hnD hdD hW
  have zhW := hW.size
  have E20 := E6.next hW (fun _ _ h => h.elim)
  refine ⟨_, kf_fr [7], fun Lr => ?_⟩
  refine t_load Try.isAgg3 rfl rfl rfl (((hs.keep E20 (fun _ h => h)).at_ 0 (by omega)) 0 _ rfl) ?_
  exact dz rfl hW
 · exact pzf Try.underlying48 rfl Try.sizeOf46 (2) rfl rfl rfl rfl rfl fun _ _ _ h => h
 ·
  intro D ρ w21 hcD hnD hdD hW
  have zhW := hW.size
  refine ⟨_, kf_fr [9], fun Lr => ?_⟩
  have B24 := (B4.keep hW (fun h => h))
  refine t_load Try.isAgg46 rfl rfl rfl (B24.get rfl) ?_
  exact dz rfl hW
 · exact pzf Try.underlying48 rfl Try.sizeOf46 (2) rfl rfl rfl rfl rfl fun _ _ _ h => h
 ·
  intro D ρ w25 hcD hnD hdD hW
  have zhW := hW.size
  refine ⟨_, kf_fr [11], fun Lr => ?_⟩
  have B28 := (B4.keep hW (fun h => h))
  refine t_load Try.isAgg46 rfl rfl rfl (B28.get rfl) ?_
  exact dz rfl hW
 ·
  intro D ρ w29 hcD hnD hdD hW
  have zhW := hW.size
  refine ⟨_, kf_fr [12], fun Lr => ?_⟩
  refine t_len Try.underlying46 rfl rfl rfl rfl ?_
  exact dz rfl hW
 ·
  intro D ρ w32 hcD hnD hdD hW
  have zhW := hW.size
  refine ⟨_, kf_fr [13], fun Lr => ?_⟩
  refine t_ari rfl rfl rfl rfl rfl (by omega) ?_
  exact dz rfl hW
 ·
  intro D ρ w35 hcD hnD hdD hW
  have zhW := hW.size
  have E37 := E6.next hW (fun _ _ h => h.elim)
  refine ⟨_, kf_fr [10, 14], fun Lr => ?_⟩
  have i38 : (v.runs.length - 1) < v.runs.length := (by omega)
  refine t_index (j := (v.runs.length - 1)) Try.underlying46 Try.sizeOf59 rfl rfl rfl rfl ((hs.keep E37 (fun _ h => h)).addr (by omega)) (by omega) i38 ?_
  exact dz rfl hW
 · exact pzf Try.underlying59 rfl Try.sizeOf3 (o + (v.runs.length - 1) * 6 + 1) rfl rfl rfl rfl rfl fun _ _ _ h => h
 ·
  intro D ρ w39 hcD hnD hdD hW
  have zhW := hW.size
  have E41 := E6.next hW (fun _ _ h => h.elim)
  refine ⟨_, kf_fr [16], fun Lr => ?_⟩
  refine t_load Try.isAgg3 rfl rfl rfl (((hs.keep E41 (fun _ h => h)).at_ (v.runs.length - 1) (by omega)) 1 _ rfl) ?_
  exact dz rfl hW
 · exact pz rfl rfl rfl rfl fun _ _ _ h => h
 · exact pz rfl rfl rfl rfl fun _ _ _ h => h
 intro ρ w42 hW
 have u43 : Upd (fun _ => False) w3 w42 := hW
 have zu43 := u43.size
 have E44 := E6.next u43 (fun _ _ h => h.elim)
 refine QK.weak [(2, .int .i64 ((nth v.runs 0).frm)), (3, .int .i64 ((nth v.runs (v.runs.length - 1)).to))] ⟨rfl, rfl, trivial⟩ (hK7 _ _ (c_ret (f_ret2 (v1 := .int .i64 ((nth v.runs 0).frm)) (v2 := .int .i64 ((nth v.runs (v.runs.length - 1)).to)) Try.results72 rfl rfl ?_)))
 exact ⟨by rw [frst_eq hp, lst_eq (by omega)], E44⟩

theorem On_c (v : Voy) (ao : Option Addr) (b o cap : Nat) (p : Int) (w0 : World) (hs : Sl encRun 6 w0 ao b o v.runs) (hp : 0 < v.runs.length) (hl : v.runs.length ≤ 1000000) :
    CallsV Try.prog 33 [.agg #[.int .i64 v.st.lo, .int .i64 v.st.hi, .slice ao ((v.runs).length) cap, .int .i64 v.len, .int .i64 v.wid], .int .i64 p] w0 (fun x w' => x = .bool (onWay v [p]) ∧ Ext w0 w') := by
 have E0 := Upd.refl (fun _ => False) w0
 refine f_enter (N := 16) Try.func33 rfl rfl rfl ?_
 change WC _ _ _ _ _ _ [(0, .agg #[.int .i64 v.st.lo, .int .i64 v.st.hi, .slice ao ((v.runs).length) cap, .int .i64 v.len, .int .i64 v.wid]), (1, .int .i64 p)] _
 refine c_seq fun K1 hK1 => (c_region (t_box (cs := [.int .i64 v.st.lo, .int .i64 v.st.hi, .slice ao ((v.runs).length) cap, .int .i64 v.len, .int .i64 v.wid]) rfl rfl rfl rfl (fun bk2 w3 ebk2 sbk2 B4 u5 => ?_)))
 have zu5 := u5.size
 have E6 := E0.next u5 (fun _ _ h => h.elim)
 refine t_assign rfl rfl rfl (t_nil' (hK1 _ _ (c_seq fun K7 hK7 => (c_region (t_loadN (vs := [.int .i64 v.st.lo, .int .i64 v.st.hi, .slice ao ((v.runs).length) cap, .int .i64 v.len, .int .i64 v.wid]) Try.isAgg48 Try.sizeOf48 rfl rfl rfl (B4.at.sub 0 5) rfl (t_call (vs := [.agg #[.int .i64 v.st.lo, .int .i64 v.st.hi, .slice ao ((v.runs).length) cap, .int .i64 v.len, .int .i64 v.wid]]) own72 rfl rfl rfl rfl (Ends_c v ao b o cap _ (hs.keep E6 (fun _ h => h)) (by omega) (by omega)) (fun v8 w9 r11 => ?_)))))))
 obtain ⟨rfl, u10⟩ := r11
 have zu10 := u10.size
 have E12 := E6.next u10 (fun _ _ h => h.elim)
 refine t_move rfl rfl rfl (t_extract (vs := [.int .i64 (frst v), .int .i64 (lst v)]) rfl rfl rfl rfl (t_extract (vs := [.int .i64 (frst v), .int .i64 (lst v)]) rfl rfl rfl rfl (t_assign rfl rfl rfl (t_assign rfl rfl rfl (t_nil' (hK7 _ _ (c_seq fun K13 hK13 => (c_region (t_move rfl rfl rfl (t_move rfl rfl rfl (t_move rfl rfl rfl (t_call (vs := [.int .i64 p, .int .i64 (frst v), .int .i64 (lst v)]) own73 rfl rfl rfl rfl (between_c p (frst v) (lst v) _) (fun v14 w15 r17 => ?_)))))))))))))
 obtain ⟨rfl, u16⟩ := r17
 have zu16 := u16.size
 have E18 := E12.next u16 (fun _ _ h => h.elim)
 refine t_assign rfl rfl rfl (t_nil' (hK13 _ _ (c_ret (f_ret1 (v := .bool (decide (min (frst v) (lst v) ≤ p ∧ p ≤ max (frst v) (lst v)))) Try.results33 rfl ?_))))
 exact ⟨by simp [onWay], E18⟩

end Go.Proofs.Ytmicjleiheoieaa
