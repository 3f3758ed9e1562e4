/-
  Contracts of the functions on arrivals, narrows and meetings. Conditions: none.
-/
import Derived.Test.YtmicjleiheoieaaA2
namespace Go.Proofs.Ytmicjleiheoieaa
open Go Go.RowKit
/-- A run whose numbers are in range. -/
def rngRun (r : Run) : Prop := (0 ≤ r.frm ∧ r.frm ≤ 100000) ∧ (0 ≤ r.to ∧ r.to ≤ 100000) ∧ (1 ≤ r.sp.lo ∧ r.sp.lo ≤ 400) ∧ (1 ≤ r.sp.hi ∧ r.sp.hi ≤ 400) ∧ (0 ≤ r.wt.lo ∧ r.wt.lo ≤ 5000) ∧ (0 ≤ r.wt.hi ∧ r.wt.hi ≤ 5000)
def wayTo (r : Run) (p : Int) : Int := if max (p - r.frm) (-(p - r.frm)) < max (r.to - r.frm) (-(r.to - r.frm)) then p - r.frm else r.to - r.frm
def arrGo (p : Int) : List Run → Bnd → Bnd
  | [], t => t
  | r :: rs, t => if r.frm = p then t else
    if r.frm + wayTo r p = p then ⟨t.lo + (r.wt.lo + tak (wayTo r p) r.sp.hi), t.hi + (r.wt.hi + tak (wayTo r p) r.sp.lo)⟩
    else arrGo p rs ⟨t.lo + (r.wt.lo + tak (wayTo r p) r.sp.hi), t.hi + (r.wt.hi + tak (wayTo r p) r.sp.lo)⟩
def arr (v : Voy) (p : Int) : Bnd := arrGo p v.runs v.st
theorem tak_rng {a s : Int} (h : max a (-a) ≤ 100000) (h1 : 1 ≤ s) (h2 : s ≤ 400) : 0 ≤ tak a s ∧ tak a s ≤ 6000400 := by
  unfold tak
  have h0 : 0 ≤ max a (-a) := by omega
  constructor
  · exact Int.ediv_nonneg (by omega) (by omega)
  · exact Int.le_trans (Int.ediv_le_self _ (by omega)) (by omega)
theorem wayTo_rng {r : Run} {p : Int} (h : rngRun r) : max (wayTo r p) (-(wayTo r p)) ≤ 100000 := by
  obtain ⟨h1, h2, _⟩ := h
  unfold wayTo
  split <;> omega
theorem arr_here {p : Int} {rs : List Run} {k : Nat} {t u : Bnd} (hi : u = arrGo p (rs.drop k) t) (h : k < rs.length) (hb : (nth rs k).frm = p) : u = t := by
  rw [hi, drop_nth h]; simp [arrGo, hb]
theorem arr_stop {p : Int} {rs : List Run} {k : Nat} {t u : Bnd} (hi : u = arrGo p (rs.drop k) t) (h : k < rs.length) (hb : ¬ (nth rs k).frm = p) (hc : (nth rs k).frm + wayTo (nth rs k) p = p) :
    u = ⟨t.lo + ((nth rs k).wt.lo + tak (wayTo (nth rs k) p) (nth rs k).sp.hi), t.hi + ((nth rs k).wt.hi + tak (wayTo (nth rs k) p) (nth rs k).sp.lo)⟩ := by
  rw [hi, drop_nth h]; simp [arrGo, hb, hc]
theorem arr_next {p : Int} {rs : List Run} {k : Nat} {t u : Bnd} (hi : u = arrGo p (rs.drop k) t) (h : k < rs.length) (hb : ¬ (nth rs k).frm = p) (hc : ¬ (nth rs k).frm + wayTo (nth rs k) p = p) :
    u = arrGo p (rs.drop (k + 1)) ⟨t.lo + ((nth rs k).wt.lo + tak (wayTo (nth rs k) p) (nth rs k).sp.hi), t.hi + ((nth rs k).wt.hi + tak (wayTo (nth rs k) p) (nth rs k).sp.lo)⟩ := by
  rw [hi, drop_nth h]; simp [arrGo, hb, hc]
theorem arr_end {p : Int} {rs : List Run} {k : Nat} {t u : Bnd} (hi : u = arrGo p (rs.drop k) t) (h : rs.length ≤ k) : u = t := by
  rw [hi, List.drop_eq_nil_of_le h]; rfl

theorem arrive_c (v : Voy) (ao : Option Addr) (b o cap : Nat) (p : Int) (w0 : World) (hs : Sl encRun 6 w0 ao b o v.runs) (hl : v.runs.length ≤ 1000) (hrun : ∀ r ∈ v.runs, rngRun r) (hst : (-1000000000 ≤ v.st.lo ∧ v.st.lo ≤ 1000000000) ∧ (-1000000000 ≤ v.st.hi ∧ v.st.hi ≤ 1000000000)) (hpl : -10000000 ≤ p ∧ p ≤ 10000000) :
    CallsV Try.prog 70 [.agg #[.int .i64 v.st.lo, .int .i64 v.st.hi, .slice ao ((v.runs).length) cap, .int .i64 v.len, .int .i64 v.wid], .int .i64 p] w0 (fun x w' => x = .agg #[.int .i64 (arr v p).lo, .int .i64 (arr v p).hi] ∧ Ext w0 w') := by
  have E0 := Upd.refl (fun _ => False) w0
  refine f_enter (N := 76) Try.func70 rfl rfl rfl ?_
  change WC _ _ _ _ _ _ [(0, .agg #[.int .i64 v.st.lo, .int .i64 v.st.hi, .slice ao ((v.runs).length) cap, .int .i64 v.len, .int .i64 v.wid]), (1, .int .i64 p)] _
  refine c_seq fun K1 hK1 => ?_
  refine c_region ?_
  refine t_box (cs := [.int .i64 v.st.lo, .int .i64 v.st.hi, .slice ao ((v.runs).length) cap, .int .i64 v.len, .int .i64 v.wid]) rfl rfl rfl rfl (fun bk2 w3 ebk2 sbk2 B4 u5 => ?_)
  have zu5 := u5.size
  have E6 := E0.next u5 (fun _ _ h => h.elim)
  refine t_alloc (cs := [.int .i64 0, .int .i64 0]) Try.zeroValue45 rfl rfl rfl (fun bk7 w8 ebk7 sbk7 B9 u10 => ?_)
  have zu10 := u10.size
  have E11 := E6.next u10 (fun _ _ h => h.elim)
  refine t_nil' ?_
  refine hK1 _ _ ?_
  refine c_seq fun K12 hK12 => ?_
  refine c_region ?_
  refine t_field Try.underlying48 rfl Try.sizeOf45 (0) rfl rfl rfl rfl ?_
  have B13 := (B4.keep u10 (fun h => h))
  refine t_loadN (vs := [.int .i64 v.st.lo, .int .i64 v.st.hi]) Try.isAgg45 Try.sizeOf45 rfl rfl rfl (B13.at.sub 0 2) rfl ?_
  refine t_alloc (cs := [.int .i64 0, .int .i64 0]) Try.zeroValue45 rfl rfl rfl (fun bk14 w15 ebk14 sbk14 B16 u17 => ?_)
  have zu17 := u17.size
  have E18 := E11.next u17 (fun _ _ h => h.elim)
  refine t_store (vs := [.int .i64 v.st.lo, .int .i64 v.st.hi]) Try.sizeOf45 rfl rfl rfl B16 rfl rfl (Nat.le_of_ble_eq_true rfl) (by simp [Value.oneCell']) (fun w19 sw19 B21 u20 => ?_)
  have zu20 := u20.size
  have E22 := E18.next u20 (fun i hi (h : i = bk14) => show False by first | omega | assumption)
  have B21 : Blk w19 bk14 45 [.int .i64 v.st.lo, .int .i64 v.st.hi] := B21
  refine t_nil' ?_
  refine hK12 _ _ ?_
  refine c_seq fun K23 hK23 => ?_
  refine c_seq fun K24 hK24 => ?_
  refine c_region ?_
  refine t_field Try.underlying48 rfl Try.sizeOf46 (2) rfl rfl rfl rfl ?_
  have B25 := ((B13.keep u17 (fun h => h)).keep u20 (show ¬ (bk2 = bk14) by first | omega | assumption))
  refine t_load Try.isAgg46 rfl rfl rfl (B25.get rfl) ?_
  refine t_len Try.underlying46 rfl rfl rfl rfl ?_
  refine t_move rfl rfl rfl ?_
  refine t_nil' ?_
  refine hK24 _ _ ?_
  refine c_block ?_
  refine c_loop (γ := Nat × Bnd) (fun gg => [(1, .int .i64 p), (4, .pointer (some ⟨bk7, 0, none⟩)), (5, .pointer (some ⟨bk14, 0, none⟩)), (13, .slice ao ((v.runs).length) cap), (14, .int .i64 ((v.runs).length : Int)), (15, .int .i64 (gg.1 : Int))]) (fun gg w => Upd (fun i => i = bk14) w19 w ∧ Blk w bk14 45 [.int .i64 gg.2.lo, .int .i64 gg.2.hi] ∧ (gg.1 ≤ v.runs.length) ∧ (arr v p = arrGo p (v.runs.drop gg.1) gg.2) ∧ (-1000000000 ≤ gg.2.lo ∧ gg.2.lo ≤ 1000000000 + 6005400 * (gg.1 : Int)) ∧ (-1000000000 ≤ gg.2.hi ∧ gg.2.hi ≤ 1000000000 + 6005400 * (gg.1 : Int))) (fun gg => v.runs.length - gg.1) (0, v.st) ⟨rfl, rfl, rfl, rfl, rfl, rfl, trivial⟩ ⟨Upd.refl _ _, B21, Nat.zero_le _, rfl, (by simp only []; omega), (by simp only []; omega)⟩ ?_
  intro gg w27 hW K26 hK26
  obtain ⟨k, t⟩ := gg
  change WC _ _ _ _ _ _ [(1, .int .i64 p), (4, .pointer (some ⟨bk7, 0, none⟩)), (5, .pointer (some ⟨bk14, 0, none⟩)), (13, .slice ao ((v.runs).length) cap), (14, .int .i64 ((v.runs).length : Int)), (15, .int .i64 (k : Int))] _
  change Upd (fun i => i = bk14) w19 w27 ∧ Blk w27 bk14 45 [.int .i64 t.lo, .int .i64 t.hi] ∧ (k ≤ v.runs.length) ∧ (arr v p = arrGo p (v.runs.drop k) t) ∧ (-1000000000 ≤ t.lo ∧ t.lo ≤ 1000000000 + 6005400 * (k : Int)) ∧ (-1000000000 ≤ t.hi ∧ t.hi ≤ 1000000000 + 6005400 * (k : Int)) at hW
  obtain ⟨u28, I29, I30, I31, I32, I33⟩ := hW
  have zu28 := u28.size
  have E34 := E22.next u28 (fun i hi (h : i = bk14) => show False by first | omega | assumption)
  have hle := I30; clear I30
  have hinv := I31; clear I31
  have hlo := I32; clear I32
  have hhi := I33; clear I33
  refine c_seq fun K35 hK35 => ?_
  refine c_region ?_
  refine t_cmp rfl rfl rfl rfl rfl ?_
  refine t_nil' ?_
  refine hK35 _ _ ?_
  refine c_seq fun K36 hK36 => ?_
  refine c_condp rfl (fun g16 => ?_) (fun g16 => ?_)
  · -- .bool (decide ((k : Int) < ((v.runs).length : Int)))
    refine c_skip ?_
    refine hK36 _ _ ?_
    refine c_seq fun K37 hK37 => ?_
    refine c_block ?_
    refine c_seq fun K38 hK38 => ?_
    refine c_region ?_
    have i39 : k < v.runs.length := (by omega)
    refine t_index (j := k) Try.underlying46 Try.sizeOf59 rfl rfl rfl rfl ((hs.keep E34 (fun _ h => h)).addr (by omega)) rfl i39 ?_
    refine t_loadN (vs := [.int .i64 ((nth v.runs k).frm), .int .i64 ((nth v.runs k).to), .int .i64 ((nth v.runs k).sp.lo), .int .i64 ((nth v.runs k).sp.hi), .int .i64 ((nth v.runs k).wt.lo), .int .i64 ((nth v.runs k).wt.hi)]) Try.isAgg59 Try.sizeOf59 rfl rfl rfl (((hs.keep E34 (fun _ h => h)).at_ k (by omega)).sub 0 6) rfl ?_
    obtain ⟨y1, y2, y3, y4, y5, y6⟩ := hrun _ (nth_mem (xs := v.runs) (i := k) (by omega))
    refine t_alloc (cs := [.int .i64 0, .int .i64 0, .int .i64 0, .int .i64 0, .int .i64 0, .int .i64 0]) Try.zeroValue59 rfl rfl rfl (fun bk40 w41 ebk40 sbk40 B42 u43 => ?_)
    have zu43 := u43.size
    have E44 := E34.next u43 (fun _ _ h => h.elim)
    refine t_store (vs := [.int .i64 ((nth v.runs k).frm), .int .i64 ((nth v.runs k).to), .int .i64 ((nth v.runs k).sp.lo), .int .i64 ((nth v.runs k).sp.hi), .int .i64 ((nth v.runs k).wt.lo), .int .i64 ((nth v.runs k).wt.hi)]) Try.sizeOf59 rfl rfl rfl B42 rfl rfl (Nat.le_of_ble_eq_true rfl) (by simp [Value.oneCell']) (fun w45 sw45 B47 u46 => ?_)
    have zu46 := u46.size
    have E48 := E44.next u46 (fun i hi (h : i = bk40) => show False by first | omega | assumption)
    have B47 : Blk w45 bk40 59 [.int .i64 ((nth v.runs k).frm), .int .i64 ((nth v.runs k).to), .int .i64 ((nth v.runs k).sp.lo), .int .i64 ((nth v.runs k).sp.hi), .int .i64 ((nth v.runs k).wt.lo), .int .i64 ((nth v.runs k).wt.hi)] := B47
    refine t_nil' ?_
    refine hK38 _ _ ?_
    refine c_seq fun K49 hK49 => ?_
    refine c_seq fun K50 hK50 => ?_
    refine c_region ?_
    refine t_field Try.underlying59 rfl Try.sizeOf3 (0) rfl rfl rfl rfl ?_
    refine t_load Try.isAgg3 rfl rfl rfl (B47.get rfl) ?_
    refine t_move rfl rfl rfl ?_
    refine t_cmp rfl rfl rfl rfl rfl ?_
    refine t_nil' ?_
    refine hK50 _ _ ?_
    refine c_condp rfl (fun g22 => ?_) (fun g22 => ?_)
    · -- .bool (decide ((nth v.runs k).frm = p))
      refine c_exit ?_
      refine hK23 _ _ ?_
      refine c_seq fun K51 hK51 => ?_
      refine c_region ?_
      have B52 := ((I29.keep u43 (fun h => h)).keep u46 (show ¬ (bk14 = bk40) by first | omega | assumption))
      refine t_loadN (vs := [.int .i64 t.lo, .int .i64 t.hi]) Try.isAgg45 Try.sizeOf45 rfl rfl rfl (B52.at.sub 0 2) rfl ?_
      have B53 := (((((B9.keep u17 (fun h => h)).keep u20 (show ¬ (bk7 = bk14) by first | omega | assumption)).keep u28 (show ¬ (bk7 = bk14) by first | omega | assumption)).keep u43 (fun h => h)).keep u46 (show ¬ (bk7 = bk40) by first | omega | assumption))
      refine t_store (vs := [.int .i64 t.lo, .int .i64 t.hi]) Try.sizeOf45 rfl rfl rfl B53 rfl rfl (Nat.le_of_ble_eq_true rfl) (by simp [Value.oneCell']) (fun w54 sw54 B56 u55 => ?_)
      have zu55 := u55.size
      have E57 := E48.next u55 (fun i hi (h : i = bk7) => show False by first | omega | assumption)
      have B56 : Blk w54 bk7 45 [.int .i64 t.lo, .int .i64 t.hi] := B56
      refine t_nil' ?_
      refine hK51 _ _ ?_
      refine c_ret ?_
      refine f_ret1 (v := .agg #[.int .i64 t.lo, .int .i64 t.hi]) Try.results70 ⟨_, _, rfl, run_loadVarN (vs := [.int .i64 t.lo, .int .i64 t.hi]) Try.isAgg45 Try.sizeOf45 rfl (B56.at.sub 0 2)⟩ ?_
      exact ⟨by rw [arr_here hinv (by omega) g22], E57⟩
    · -- not .bool (decide ((nth v.runs k).frm = p))
      refine c_skip ?_
      refine hK49 _ _ ?_
      refine c_seq fun K58 hK58 => ?_
      refine c_region ?_
      refine t_field Try.underlying59 rfl Try.sizeOf3 (1) rfl rfl rfl rfl ?_
      refine t_load Try.isAgg3 rfl rfl rfl (B47.get rfl) ?_
      refine t_field Try.underlying59 rfl Try.sizeOf3 (0) rfl rfl rfl rfl ?_
      refine t_load Try.isAgg3 rfl rfl rfl (B47.get rfl) ?_
      refine t_ari rfl rfl rfl rfl rfl (by omega) ?_
      refine t_assign rfl rfl rfl ?_
      refine t_nil' ?_
      refine hK58 _ _ ?_
      refine c_cut (γ := Unit) (fun _x => [(1, .int .i64 p), (4, .pointer (some ⟨bk7, 0, none⟩)), (5, .pointer (some ⟨bk14, 0, none⟩)), (7, .pointer (some ⟨bk40, 0, none⟩)), (8, .int .i64 (wayTo (nth v.runs k) p)), (13, .slice ao ((v.runs).length) cap), (14, .int .i64 ((v.runs).length : Int)), (15, .int .i64 (k : Int)), (16, .bool (decide ((k : Int) < ((v.runs).length : Int)))), (17, .pointer (some ⟨b, o + k * 6, none⟩)), (18, .agg #[.int .i64 ((nth v.runs k).frm), .int .i64 ((nth v.runs k).to), .int .i64 ((nth v.runs k).sp.lo), .int .i64 ((nth v.runs k).sp.hi), .int .i64 ((nth v.runs k).wt.lo), .int .i64 ((nth v.runs k).wt.hi)]), (19, .pointer (some ⟨bk40, 0, none⟩)), (20, .int .i64 ((nth v.runs k).frm)), (21, .int .i64 p), (22, .bool (decide ((nth v.runs k).frm = p))), (23, .pointer (some ⟨bk40, 1, none⟩)), (24, .int .i64 ((nth v.runs k).to)), (25, .pointer (some ⟨bk40, 0, none⟩)), (26, .int .i64 ((nth v.runs k).frm)), (27, .int .i64 (((nth v.runs k).to) - ((nth v.runs k).frm)))]) (fun _x w => Upd (fun _ => False) w45 w) (fun K60 hK60 => ?_) ?_
      · -- the piece
        refine c_seq fun K63 hK63 => ?_
        refine c_region ?_
        refine t_move rfl rfl rfl ?_
        refine t_field Try.underlying59 rfl Try.sizeOf3 (0) rfl rfl rfl rfl ?_
        refine t_load Try.isAgg3 rfl rfl rfl (B47.get rfl) ?_
        refine t_ari rfl rfl rfl rfl rfl (by omega) ?_
        refine t_assign rfl rfl rfl ?_
        refine t_nil' ?_
        refine hK63 _ _ ?_
        refine c_seq fun K64 hK64 => ?_
        refine c_region ?_
        refine t_move rfl rfl rfl ?_
        refine t_move rfl rfl rfl ?_
        refine t_neg rfl rfl rfl (by omega) ?_
        refine t_max rfl rfl rfl rfl ?_
        refine t_move rfl rfl rfl ?_
        refine t_move rfl rfl rfl ?_
        refine t_neg rfl rfl rfl (by omega) ?_
        refine t_max rfl rfl rfl rfl ?_
        refine t_cmp rfl rfl rfl rfl rfl ?_
        refine t_nil' ?_
        refine hK64 _ _ ?_
        refine c_condp rfl (fun g40 => ?_) (fun g40 => ?_)
        · -- .bool (decide ((max (p - ((nth v.runs k).frm)) (-(p - ((nth v.runs k).frm)))) < (max (((nth v.runs k).to) - ((nth v.runs k).frm)) (-(((nth v.runs k).to) - ((nth v.runs k).frm))))))
          refine c_region ?_
          refine t_move rfl rfl rfl ?_
          refine t_assign rfl rfl rfl ?_
          refine t_nil' ?_
          exact hK60 () _ _ ⟨rfl, rfl, rfl, rfl, (by exact congrArg some (by simp [wayTo, g40])), rfl, rfl, rfl, rfl, rfl, rfl, rfl, rfl, rfl, rfl, rfl, rfl, rfl, rfl, rfl, trivial⟩ (Upd.refl _ _)
        · -- not .bool (decide ((max (p - ((nth v.runs k).frm)) (-(p - ((nth v.runs k).frm)))) < (max (((nth v.runs k).to) - ((nth v.runs k).frm)) (-(((nth v.runs k).to) - ((nth v.runs k).frm))))))
          refine c_skip ?_
          exact hK60 () _ _ ⟨rfl, rfl, rfl, rfl, (by exact congrArg some (by simp [wayTo, g40])), rfl, rfl, rfl, rfl, rfl, rfl, rfl, rfl, rfl, rfl, rfl, rfl, rfl, rfl, rfl, trivial⟩ (Upd.refl _ _)
      · -- what follows
        intro _x w61 u62
        have zu62 := u62.size
        have E65 := E48.next u62 (fun _ _ h => h.elim)
        have hr := hrun _ (nth_mem (xs := v.runs) (i := k) (by omega))
        have hw := wayTo_rng (p := p) hr
        obtain ⟨r1, r2, r3, r4, r5, r6⟩ := hr
        have q1 := tak_rng hw r4.1 r4.2
        have q2 := tak_rng hw r3.1 r3.2
        have q3 : v.runs.length ≤ 1000 := hl
        refine c_seq fun K66 hK66 => ?_
        have B74 := (((I29.keep u43 (fun h => h)).keep u46 (show ¬ (bk14 = bk40) by first | omega | assumption)).keep u62 (fun h => h))
        refine WC.weak [(1, .int .i64 p), (4, .pointer (some ⟨bk7, 0, none⟩)), (5, .pointer (some ⟨bk14, 0, none⟩)), (7, .pointer (some ⟨bk40, 0, none⟩)), (8, .int .i64 (wayTo (nth v.runs k) p)), (13, .slice ao ((v.runs).length) cap), (14, .int .i64 ((v.runs).length : Int)), (15, .int .i64 (k : Int)), (16, .bool (decide ((k : Int) < ((v.runs).length : Int)))), (17, .pointer (some ⟨b, o + k * 6, none⟩)), (18, .agg #[.int .i64 ((nth v.runs k).frm), .int .i64 ((nth v.runs k).to), .int .i64 ((nth v.runs k).sp.lo), .int .i64 ((nth v.runs k).sp.hi), .int .i64 ((nth v.runs k).wt.lo), .int .i64 ((nth v.runs k).wt.hi)]), (19, .pointer (some ⟨bk40, 0, none⟩)), (20, .int .i64 ((nth v.runs k).frm)), (21, .int .i64 p), (22, .bool (decide ((nth v.runs k).frm = p))), (23, .pointer (some ⟨bk40, 1, none⟩)), (24, .int .i64 ((nth v.runs k).to)), (25, .pointer (some ⟨bk40, 0, none⟩)), (26, .int .i64 ((nth v.runs k).frm)), (27, .int .i64 (((nth v.runs k).to) - ((nth v.runs k).frm)))] ⟨rfl, rfl, rfl, rfl, rfl, rfl, rfl, rfl, rfl, rfl, rfl, rfl, rfl, rfl, rfl, rfl, rfl, rfl, rfl, rfl, trivial⟩ ?_
        refine c_drawn follows 14 [some (42, some (.pointer (some ⟨bk14, 0, none⟩))), some (43, some (.int .i64 t.lo)), some (44, some (.pointer (some ⟨bk40, 4, none⟩))), some (45, some (.pointer (some ⟨bk40, 4, none⟩))), some (46, some (.int .i64 ((nth v.runs k).wt.lo))), some (47, some (.int .i64 (wayTo (nth v.runs k) p))), some (48, some (.pointer (some ⟨bk40, 2, none⟩))), some (49, some (.pointer (some ⟨bk40, 3, none⟩))), some (50, some (.int .i64 ((nth v.runs k).sp.hi))), some (51, some (.int .i64 (tak (wayTo (nth v.runs k) p) ((nth v.runs k).sp.hi)))), some (52, some (.int .i64 ((nth v.runs k).wt.lo + (tak (wayTo (nth v.runs k) p) ((nth v.runs k).sp.hi))))), some (53, some (.int .i64 (t.lo + ((nth v.runs k).wt.lo + (tak (wayTo (nth v.runs k) p) ((nth v.runs k).sp.hi)))))), some (54, some (.pointer (some ⟨bk14, 0, none⟩))), none] [[], [0], [], [2], [3], [], [], [6], [7], [5, 8], [4, 9], [1, 10], [0, 1, 2, 3, 4, 5, 6, 7, 8, 9, 10, 11], [12, 11, 9, 0, 1, 2, 3, 4, 5, 6, 7, 8, 9, 10, 11]] (fun D _ w => Upd (fun i => i = bk14) w61 w ∧ Blk w bk14 45 [(bif D 13 then .int .i64 (t.lo + ((nth v.runs k).wt.lo + (tak (wayTo (nth v.runs k) p) ((nth v.runs k).sp.hi)))) else .int .i64 t.lo), .int .i64 t.hi]) rfl rfl rfl (by kernel_rfl) (by kernel_rfl) ⟨(Upd.drew _).to, (B74.keep (Upd.drew _) (fun h => h))⟩ ⟨?_, ?_, ?_, ?_, ?_, ?_, ?_, ?_, ?_, ?_, ?_, ?_, ?_, ?_, trivial⟩ ?_
        · exact fun D ρ w hcD hnD hdD hW => ⟨[(5, .pointer (some ⟨bk14, 0, none⟩))], ⟨.inr ⟨rfl, rfl⟩, trivial⟩, fun Lr => t_field Try.underlying45 rfl Try.sizeOf3 (0) rfl rfl rfl rfl (t_nil' fun a ha => ⟨rfl, _, (fun v' h => by cases h; rfl), ha, hW⟩)⟩
        · -- 1
          intro D ρ w75 hcD hnD hdD hW
          obtain ⟨u76, B77⟩ := hW
          have zu76 := u76.size
          have E78 := E65.next u76 (fun i hi (h : i = bk14) => show False by first | omega | assumption)
          have d13 := hcD.late 13 hnD rfl
          have B79 := B77
          simp only [d13, cond_true, cond_false] at B79
          refine ⟨[(42, .pointer (some ⟨bk14, 0, none⟩))], ⟨.inl ⟨0, some (.pointer (some ⟨bk14, 0, none⟩)), rfl, rfl, rfl⟩, trivial⟩, fun Lr => ?_⟩
          show WL _ _ _ _ _ _ _ ((42, .pointer (some ⟨bk14, 0, none⟩)) :: Lr) _
          refine t_load Try.isAgg3 rfl rfl rfl (B79.get rfl) ?_
          refine t_nil' ?_
          exact fun a ha => ⟨rfl, _, (fun v' h => by cases h; rfl), ha, ⟨u76, B77⟩⟩
        · exact fun D ρ w hcD hnD hdD hW => ⟨[(7, .pointer (some ⟨bk40, 0, none⟩))], ⟨.inr ⟨rfl, rfl⟩, trivial⟩, fun Lr => t_field Try.underlying59 rfl Try.sizeOf45 (4) rfl rfl rfl rfl (t_nil' fun a ha => ⟨rfl, _, (fun v' h => by cases h; rfl), ha, hW⟩)⟩
        · exact fun D ρ w hcD hnD hdD hW => ⟨[(44, .pointer (some ⟨bk40, 4, none⟩))], ⟨.inl ⟨2, some (.pointer (some ⟨bk40, 4, none⟩)), rfl, rfl, rfl⟩, trivial⟩, fun Lr => t_field Try.underlying45 rfl Try.sizeOf3 (4) rfl rfl rfl rfl (t_nil' fun a ha => ⟨rfl, _, (fun v' h => by cases h; rfl), ha, hW⟩)⟩
        · -- 4
          intro D ρ w80 hcD hnD hdD hW
          obtain ⟨u81, B82⟩ := hW
          have zu81 := u81.size
          have E83 := E65.next u81 (fun i hi (h : i = bk14) => show False by first | omega | assumption)
          have d13 := hcD.late 13 hnD rfl
          have B84 := B82
          simp only [d13, cond_true, cond_false] at B84
          refine ⟨[(45, .pointer (some ⟨bk40, 4, none⟩))], ⟨.inl ⟨3, some (.pointer (some ⟨bk40, 4, none⟩)), rfl, rfl, rfl⟩, trivial⟩, fun Lr => ?_⟩
          show WL _ _ _ _ _ _ _ ((45, .pointer (some ⟨bk40, 4, none⟩)) :: Lr) _
          have B85 := ((B47.keep u62 (fun h => h)).keep u81 (show ¬ (bk40 = bk14) by first | omega | assumption))
          refine t_load Try.isAgg3 rfl rfl rfl (B85.get rfl) ?_
          refine t_nil' ?_
          exact fun a ha => ⟨rfl, _, (fun v' h => by cases h; rfl), ha, ⟨u81, B82⟩⟩
        · exact fun D ρ w hcD hnD hdD hW => ⟨[(8, .int .i64 (wayTo (nth v.runs k) p))], ⟨.inr ⟨rfl, rfl⟩, trivial⟩, fun Lr => t_move rfl rfl rfl (t_nil' fun a ha => ⟨rfl, _, (fun v' h => by cases h; rfl), ha, hW⟩)⟩
        · exact fun D ρ w hcD hnD hdD hW => ⟨[(7, .pointer (some ⟨bk40, 0, none⟩))], ⟨.inr ⟨rfl, rfl⟩, trivial⟩, fun Lr => t_field Try.underlying59 rfl Try.sizeOf45 (2) rfl rfl rfl rfl (t_nil' fun a ha => ⟨rfl, _, (fun v' h => by cases h; rfl), ha, hW⟩)⟩
        · exact fun D ρ w hcD hnD hdD hW => ⟨[(48, .pointer (some ⟨bk40, 2, none⟩))], ⟨.inl ⟨6, some (.pointer (some ⟨bk40, 2, none⟩)), rfl, rfl, rfl⟩, trivial⟩, fun Lr => t_field Try.underlying45 rfl Try.sizeOf3 (3) rfl rfl rfl rfl (t_nil' fun a ha => ⟨rfl, _, (fun v' h => by cases h; rfl), ha, hW⟩)⟩
        · -- 8
          intro D ρ w86 hcD hnD hdD hW
          obtain ⟨u87, B88⟩ := hW
          have zu87 := u87.size
          have E89 := E65.next u87 (fun i hi (h : i = bk14) => show False by first | omega | assumption)
          have d13 := hcD.late 13 hnD rfl
          have B90 := B88
          simp only [d13, cond_true, cond_false] at B90
          refine ⟨[(49, .pointer (some ⟨bk40, 3, none⟩))], ⟨.inl ⟨7, some (.pointer (some ⟨bk40, 3, none⟩)), rfl, rfl, rfl⟩, trivial⟩, fun Lr => ?_⟩
          show WL _ _ _ _ _ _ _ ((49, .pointer (some ⟨bk40, 3, none⟩)) :: Lr) _
          have B91 := ((B47.keep u62 (fun h => h)).keep u87 (show ¬ (bk40 = bk14) by first | omega | assumption))
          refine t_load Try.isAgg3 rfl rfl rfl (B91.get rfl) ?_
          refine t_nil' ?_
          exact fun a ha => ⟨rfl, _, (fun v' h => by cases h; rfl), ha, ⟨u87, B88⟩⟩
        · -- 9
          intro D ρ w92 hcD hnD hdD hW
          obtain ⟨u93, B94⟩ := hW
          have zu93 := u93.size
          have E95 := E65.next u93 (fun i hi (h : i = bk14) => show False by first | omega | assumption)
          have d13 := hcD.late 13 hnD rfl
          have B96 := B94
          simp only [d13, cond_true, cond_false] at B96
          refine ⟨[(47, .int .i64 (wayTo (nth v.runs k) p)), (50, .int .i64 ((nth v.runs k).sp.hi))], ⟨.inl ⟨5, some (.int .i64 (wayTo (nth v.runs k) p)), rfl, rfl, rfl⟩, .inl ⟨8, some (.int .i64 ((nth v.runs k).sp.hi)), rfl, rfl, rfl⟩, trivial⟩, fun Lr => ?_⟩
          show WL _ _ _ _ _ _ _ ((47, .int .i64 (wayTo (nth v.runs k) p)) :: (50, .int .i64 ((nth v.runs k).sp.hi)) :: Lr) _
          refine t_call (vs := [.int .i64 (wayTo (nth v.runs k) p), .int .i64 ((nth v.runs k).sp.hi)]) own103 rfl rfl rfl rfl (take_c (wayTo (nth v.runs k) p) ((nth v.runs k).sp.hi) _ (by omega) (by omega)) (fun v97 w98 r100 => ?_)
          obtain ⟨rfl, u99⟩ := r100
          have zu99 := u99.size
          have E101 := E95.next u99 (fun _ _ h => h.elim)
          refine t_nil' ?_
          exact fun a ha => ⟨rfl, _, (fun v' h => by cases h; rfl), ha, ⟨(u93.next u99 (fun _ _ h => h.elim)), (B94.keep u99 (fun h => h))⟩⟩
        · -- 10
          intro D ρ w102 hcD hnD hdD hW
          obtain ⟨u103, B104⟩ := hW
          have zu103 := u103.size
          have E105 := E65.next u103 (fun i hi (h : i = bk14) => show False by first | omega | assumption)
          have d13 := hcD.late 13 hnD rfl
          have B106 := B104
          simp only [d13, cond_true, cond_false] at B106
          refine ⟨[(46, .int .i64 ((nth v.runs k).wt.lo)), (51, .int .i64 (tak (wayTo (nth v.runs k) p) ((nth v.runs k).sp.hi)))], ⟨.inl ⟨4, some (.int .i64 ((nth v.runs k).wt.lo)), rfl, rfl, rfl⟩, .inl ⟨9, some (.int .i64 (tak (wayTo (nth v.runs k) p) ((nth v.runs k).sp.hi))), rfl, rfl, rfl⟩, trivial⟩, fun Lr => ?_⟩
          show WL _ _ _ _ _ _ _ ((46, .int .i64 ((nth v.runs k).wt.lo)) :: (51, .int .i64 (tak (wayTo (nth v.runs k) p) ((nth v.runs k).sp.hi))) :: Lr) _
          refine t_ari rfl rfl rfl rfl rfl (by omega) ?_
          refine t_nil' ?_
          exact fun a ha => ⟨rfl, _, (fun v' h => by cases h; rfl), ha, ⟨u103, B104⟩⟩
        · -- 11
          intro D ρ w107 hcD hnD hdD hW
          obtain ⟨u108, B109⟩ := hW
          have zu108 := u108.size
          have E110 := E65.next u108 (fun i hi (h : i = bk14) => show False by first | omega | assumption)
          have d13 := hcD.late 13 hnD rfl
          have B111 := B109
          simp only [d13, cond_true, cond_false] at B111
          refine ⟨[(43, .int .i64 t.lo), (52, .int .i64 ((nth v.runs k).wt.lo + (tak (wayTo (nth v.runs k) p) ((nth v.runs k).sp.hi))))], ⟨.inl ⟨1, some (.int .i64 t.lo), rfl, rfl, rfl⟩, .inl ⟨10, some (.int .i64 ((nth v.runs k).wt.lo + (tak (wayTo (nth v.runs k) p) ((nth v.runs k).sp.hi)))), rfl, rfl, rfl⟩, trivial⟩, fun Lr => ?_⟩
          show WL _ _ _ _ _ _ _ ((43, .int .i64 t.lo) :: (52, .int .i64 ((nth v.runs k).wt.lo + (tak (wayTo (nth v.runs k) p) ((nth v.runs k).sp.hi)))) :: Lr) _
          refine t_ari rfl rfl rfl rfl rfl (by omega) ?_
          refine t_nil' ?_
          exact fun a ha => ⟨rfl, _, (fun v' h => by cases h; rfl), ha, ⟨u108, B109⟩⟩
        · exact fun D ρ w hcD hnD hdD hW => ⟨[(5, .pointer (some ⟨bk14, 0, none⟩))], ⟨.inr ⟨rfl, rfl⟩, trivial⟩, fun Lr => t_field Try.underlying45 rfl Try.sizeOf3 (0) rfl rfl rfl rfl (t_nil' fun a ha => ⟨rfl, _, (fun v' h => by cases h; rfl), ha, hW⟩)⟩
        · -- 13
          intro D ρ w112 hcD hnD hdD hW
          obtain ⟨u113, B114⟩ := hW
          have zu113 := u113.size
          have E115 := E65.next u113 (fun i hi (h : i = bk14) => show False by first | omega | assumption)
          have B116 := B114
          simp only [hnD, cond_true, cond_false] at B116
          refine ⟨[(53, .int .i64 (t.lo + ((nth v.runs k).wt.lo + (tak (wayTo (nth v.runs k) p) ((nth v.runs k).sp.hi))))), (54, .pointer (some ⟨bk14, 0, none⟩))], ⟨.inl ⟨11, some (.int .i64 (t.lo + ((nth v.runs k).wt.lo + (tak (wayTo (nth v.runs k) p) ((nth v.runs k).sp.hi))))), rfl, rfl, rfl⟩, .inl ⟨12, some (.pointer (some ⟨bk14, 0, none⟩)), rfl, rfl, rfl⟩, trivial⟩, fun Lr => ?_⟩
          show WL _ _ _ _ _ _ _ ((53, .int .i64 (t.lo + ((nth v.runs k).wt.lo + (tak (wayTo (nth v.runs k) p) ((nth v.runs k).sp.hi))))) :: (54, .pointer (some ⟨bk14, 0, none⟩)) :: Lr) _
          refine t_store (vs := [.int .i64 (t.lo + ((nth v.runs k).wt.lo + (tak (wayTo (nth v.runs k) p) ((nth v.runs k).sp.hi))))]) Try.sizeOf3 rfl rfl rfl B116 rfl rfl (Nat.le_of_ble_eq_true rfl) (by simp [Value.oneCell']) (fun w117 sw117 B119 u118 => ?_)
          have zu118 := u118.size
          have E120 := E115.next u118 (fun i hi (h : i = bk14) => show False by first | omega | assumption)
          have B119 : Blk w117 bk14 45 [.int .i64 (t.lo + ((nth v.runs k).wt.lo + (tak (wayTo (nth v.runs k) p) ((nth v.runs k).sp.hi)))), .int .i64 t.hi] := B119
          refine t_nil' ?_
          exact fun a ha => ⟨rfl, ha, ⟨(u113.next u118 (fun i hi (h : i = bk14) => show i = bk14 by first | omega | assumption)), (by show Blk w117 bk14 45 [.int .i64 (t.lo + ((nth v.runs k).wt.lo + (tak (wayTo (nth v.runs k) p) ((nth v.runs k).sp.hi)))), .int .i64 t.hi]; exact B119)⟩⟩
        intro ρ w121 hW
        obtain ⟨u122, B123⟩ := hW
        have zu122 := u122.size
        have E124 := E65.next u122 (fun i hi (h : i = bk14) => show False by first | omega | assumption)
        have B123 : Blk w121 bk14 45 [.int .i64 (t.lo + ((nth v.runs k).wt.lo + (tak (wayTo (nth v.runs k) p) ((nth v.runs k).sp.hi)))), .int .i64 t.hi] := B123
        refine QK.weak [(1, .int .i64 p), (4, .pointer (some ⟨bk7, 0, none⟩)), (5, .pointer (some ⟨bk14, 0, none⟩)), (7, .pointer (some ⟨bk40, 0, none⟩)), (8, .int .i64 (wayTo (nth v.runs k) p)), (13, .slice ao ((v.runs).length) cap), (14, .int .i64 ((v.runs).length : Int)), (15, .int .i64 (k : Int)), (16, .bool (decide ((k : Int) < ((v.runs).length : Int)))), (17, .pointer (some ⟨b, o + k * 6, none⟩)), (18, .agg #[.int .i64 ((nth v.runs k).frm), .int .i64 ((nth v.runs k).to), .int .i64 ((nth v.runs k).sp.lo), .int .i64 ((nth v.runs k).sp.hi), .int .i64 ((nth v.runs k).wt.lo), .int .i64 ((nth v.runs k).wt.hi)]), (19, .pointer (some ⟨bk40, 0, none⟩)), (20, .int .i64 ((nth v.runs k).frm)), (21, .int .i64 p), (22, .bool (decide ((nth v.runs k).frm = p))), (23, .pointer (some ⟨bk40, 1, none⟩)), (24, .int .i64 ((nth v.runs k).to)), (25, .pointer (some ⟨bk40, 0, none⟩)), (26, .int .i64 ((nth v.runs k).frm)), (27, .int .i64 (((nth v.runs k).to) - ((nth v.runs k).frm))), (42, .pointer (some ⟨bk14, 0, none⟩)), (43, .int .i64 t.lo), (44, .pointer (some ⟨bk40, 4, none⟩)), (45, .pointer (some ⟨bk40, 4, none⟩)), (46, .int .i64 ((nth v.runs k).wt.lo)), (47, .int .i64 (wayTo (nth v.runs k) p)), (48, .pointer (some ⟨bk40, 2, none⟩)), (49, .pointer (some ⟨bk40, 3, none⟩)), (50, .int .i64 ((nth v.runs k).sp.hi)), (51, .int .i64 (tak (wayTo (nth v.runs k) p) ((nth v.runs k).sp.hi))), (52, .int .i64 ((nth v.runs k).wt.lo + (tak (wayTo (nth v.runs k) p) ((nth v.runs k).sp.hi)))), (53, .int .i64 (t.lo + ((nth v.runs k).wt.lo + (tak (wayTo (nth v.runs k) p) ((nth v.runs k).sp.hi))))), (54, .pointer (some ⟨bk14, 0, none⟩))] ⟨rfl, rfl, rfl, rfl, rfl, rfl, rfl, rfl, rfl, rfl, rfl, rfl, rfl, rfl, rfl, rfl, rfl, rfl, rfl, rfl, rfl, rfl, rfl, rfl, rfl, rfl, rfl, rfl, rfl, rfl, rfl, rfl, rfl, trivial⟩ ?_
        refine hK66 _ _ ?_
        refine c_seq fun K125 hK125 => ?_
        refine WC.weak [(1, .int .i64 p), (4, .pointer (some ⟨bk7, 0, none⟩)), (5, .pointer (some ⟨bk14, 0, none⟩)), (7, .pointer (some ⟨bk40, 0, none⟩)), (8, .int .i64 (wayTo (nth v.runs k) p)), (13, .slice ao ((v.runs).length) cap), (14, .int .i64 ((v.runs).length : Int)), (15, .int .i64 (k : Int)), (16, .bool (decide ((k : Int) < ((v.runs).length : Int)))), (17, .pointer (some ⟨b, o + k * 6, none⟩)), (18, .agg #[.int .i64 ((nth v.runs k).frm), .int .i64 ((nth v.runs k).to), .int .i64 ((nth v.runs k).sp.lo), .int .i64 ((nth v.runs k).sp.hi), .int .i64 ((nth v.runs k).wt.lo), .int .i64 ((nth v.runs k).wt.hi)]), (19, .pointer (some ⟨bk40, 0, none⟩)), (20, .int .i64 ((nth v.runs k).frm)), (21, .int .i64 p), (22, .bool (decide ((nth v.runs k).frm = p))), (23, .pointer (some ⟨bk40, 1, none⟩)), (24, .int .i64 ((nth v.runs k).to)), (25, .pointer (some ⟨bk40, 0, none⟩)), (26, .int .i64 ((nth v.runs k).frm)), (27, .int .i64 (((nth v.runs k).to) - ((nth v.runs k).frm))), (42, .pointer (some ⟨bk14, 0, none⟩)), (43, .int .i64 t.lo), (44, .pointer (some ⟨bk40, 4, none⟩)), (45, .pointer (some ⟨bk40, 4, none⟩)), (46, .int .i64 ((nth v.runs k).wt.lo)), (47, .int .i64 (wayTo (nth v.runs k) p)), (48, .pointer (some ⟨bk40, 2, none⟩)), (49, .pointer (some ⟨bk40, 3, none⟩)), (50, .int .i64 ((nth v.runs k).sp.hi)), (51, .int .i64 (tak (wayTo (nth v.runs k) p) ((nth v.runs k).sp.hi))), (52, .int .i64 ((nth v.runs k).wt.lo + (tak (wayTo (nth v.runs k) p) ((nth v.runs k).sp.hi)))), (53, .int .i64 (t.lo + ((nth v.runs k).wt.lo + (tak (wayTo (nth v.runs k) p) ((nth v.runs k).sp.hi))))), (54, .pointer (some ⟨bk14, 0, none⟩))] ⟨rfl, rfl, rfl, rfl, rfl, rfl, rfl, rfl, rfl, rfl, rfl, rfl, rfl, rfl, rfl, rfl, rfl, rfl, rfl, rfl, rfl, rfl, rfl, rfl, rfl, rfl, rfl, rfl, rfl, rfl, rfl, rfl, rfl, trivial⟩ ?_
        refine c_drawn follows 14 [some (55, some (.pointer (some ⟨bk14, 1, none⟩))), some (56, some (.int .i64 t.hi)), some (57, some (.pointer (some ⟨bk40, 4, none⟩))), some (58, some (.pointer (some ⟨bk40, 5, none⟩))), some (59, some (.int .i64 ((nth v.runs k).wt.hi))), some (60, some (.int .i64 (wayTo (nth v.runs k) p))), some (61, some (.pointer (some ⟨bk40, 2, none⟩))), some (62, some (.pointer (some ⟨bk40, 2, none⟩))), some (63, some (.int .i64 ((nth v.runs k).sp.lo))), some (64, some (.int .i64 (tak (wayTo (nth v.runs k) p) ((nth v.runs k).sp.lo)))), some (65, some (.int .i64 ((nth v.runs k).wt.hi + (tak (wayTo (nth v.runs k) p) ((nth v.runs k).sp.lo))))), some (66, some (.int .i64 (t.hi + ((nth v.runs k).wt.hi + (tak (wayTo (nth v.runs k) p) ((nth v.runs k).sp.lo)))))), some (67, some (.pointer (some ⟨bk14, 1, none⟩))), none] [[], [0], [], [2], [3], [], [], [6], [7], [5, 8], [4, 9], [1, 10], [0, 1, 2, 3, 4, 5, 6, 7, 8, 9, 10, 11], [12, 11, 9, 0, 1, 2, 3, 4, 5, 6, 7, 8, 9, 10, 11]] (fun D _ w => Upd (fun i => i = bk14) w121 w ∧ Blk w bk14 45 [.int .i64 (t.lo + ((nth v.runs k).wt.lo + (tak (wayTo (nth v.runs k) p) ((nth v.runs k).sp.hi)))), (bif D 13 then .int .i64 (t.hi + ((nth v.runs k).wt.hi + (tak (wayTo (nth v.runs k) p) ((nth v.runs k).sp.lo)))) else .int .i64 t.hi)]) rfl rfl rfl (by kernel_rfl) (by kernel_rfl) ⟨(Upd.drew _).to, (B123.keep (Upd.drew _) (fun h => h))⟩ ⟨?_, ?_, ?_, ?_, ?_, ?_, ?_, ?_, ?_, ?_, ?_, ?_, ?_, ?_, trivial⟩ ?_
        · exact fun D ρ w hcD hnD hdD hW => ⟨[(5, .pointer (some ⟨bk14, 0, none⟩))], ⟨.inr ⟨rfl, rfl⟩, trivial⟩, fun Lr => t_field Try.underlying45 rfl Try.sizeOf3 (1) rfl rfl rfl rfl (t_nil' fun a ha => ⟨rfl, _, (fun v' h => by cases h; rfl), ha, hW⟩)⟩
        · -- 1
          intro D ρ w132 hcD hnD hdD hW
          obtain ⟨u133, B134⟩ := hW
          have zu133 := u133.size
          have E135 := E124.next u133 (fun i hi (h : i = bk14) => show False by first | omega | assumption)
          have d13 := hcD.late 13 hnD rfl
          have B136 := B134
          simp only [d13, cond_true, cond_false] at B136
          refine ⟨[(55, .pointer (some ⟨bk14, 1, none⟩))], ⟨.inl ⟨0, some (.pointer (some ⟨bk14, 1, none⟩)), rfl, rfl, rfl⟩, trivial⟩, fun Lr => ?_⟩
          show WL _ _ _ _ _ _ _ ((55, .pointer (some ⟨bk14, 1, none⟩)) :: Lr) _
          refine t_load Try.isAgg3 rfl rfl rfl (B136.get rfl) ?_
          refine t_nil' ?_
          exact fun a ha => ⟨rfl, _, (fun v' h => by cases h; rfl), ha, ⟨u133, B134⟩⟩
        · exact fun D ρ w hcD hnD hdD hW => ⟨[(7, .pointer (some ⟨bk40, 0, none⟩))], ⟨.inr ⟨rfl, rfl⟩, trivial⟩, fun Lr => t_field Try.underlying59 rfl Try.sizeOf45 (4) rfl rfl rfl rfl (t_nil' fun a ha => ⟨rfl, _, (fun v' h => by cases h; rfl), ha, hW⟩)⟩
        · exact fun D ρ w hcD hnD hdD hW => ⟨[(57, .pointer (some ⟨bk40, 4, none⟩))], ⟨.inl ⟨2, some (.pointer (some ⟨bk40, 4, none⟩)), rfl, rfl, rfl⟩, trivial⟩, fun Lr => t_field Try.underlying45 rfl Try.sizeOf3 (5) rfl rfl rfl rfl (t_nil' fun a ha => ⟨rfl, _, (fun v' h => by cases h; rfl), ha, hW⟩)⟩
        · -- 4
          intro D ρ w137 hcD hnD hdD hW
          obtain ⟨u138, B139⟩ := hW
          have zu138 := u138.size
          have E140 := E124.next u138 (fun i hi (h : i = bk14) => show False by first | omega | assumption)
          have d13 := hcD.late 13 hnD rfl
          have B141 := B139
          simp only [d13, cond_true, cond_false] at B141
          refine ⟨[(58, .pointer (some ⟨bk40, 5, none⟩))], ⟨.inl ⟨3, some (.pointer (some ⟨bk40, 5, none⟩)), rfl, rfl, rfl⟩, trivial⟩, fun Lr => ?_⟩
          show WL _ _ _ _ _ _ _ ((58, .pointer (some ⟨bk40, 5, none⟩)) :: Lr) _
          have B142 := (((B47.keep u62 (fun h => h)).keep u122 (show ¬ (bk40 = bk14) by first | omega | assumption)).keep u138 (show ¬ (bk40 = bk14) by first | omega | assumption))
          refine t_load Try.isAgg3 rfl rfl rfl (B142.get rfl) ?_
          refine t_nil' ?_
          exact fun a ha => ⟨rfl, _, (fun v' h => by cases h; rfl), ha, ⟨u138, B139⟩⟩
        · exact fun D ρ w hcD hnD hdD hW => ⟨[(8, .int .i64 (wayTo (nth v.runs k) p))], ⟨.inr ⟨rfl, rfl⟩, trivial⟩, fun Lr => t_move rfl rfl rfl (t_nil' fun a ha => ⟨rfl, _, (fun v' h => by cases h; rfl), ha, hW⟩)⟩
        · exact fun D ρ w hcD hnD hdD hW => ⟨[(7, .pointer (some ⟨bk40, 0, none⟩))], ⟨.inr ⟨rfl, rfl⟩, trivial⟩, fun Lr => t_field Try.underlying59 rfl Try.sizeOf45 (2) rfl rfl rfl rfl (t_nil' fun a ha => ⟨rfl, _, (fun v' h => by cases h; rfl), ha, hW⟩)⟩
        · exact fun D ρ w hcD hnD hdD hW => ⟨[(61, .pointer (some ⟨bk40, 2, none⟩))], ⟨.inl ⟨6, some (.pointer (some ⟨bk40, 2, none⟩)), rfl, rfl, rfl⟩, trivial⟩, fun Lr => t_field Try.underlying45 rfl Try.sizeOf3 (2) rfl rfl rfl rfl (t_nil' fun a ha => ⟨rfl, _, (fun v' h => by cases h; rfl), ha, hW⟩)⟩
        · -- 8
          intro D ρ w143 hcD hnD hdD hW
          obtain ⟨u144, B145⟩ := hW
          have zu144 := u144.size
          have E146 := E124.next u144 (fun i hi (h : i = bk14) => show False by first | omega | assumption)
          have d13 := hcD.late 13 hnD rfl
          have B147 := B145
          simp only [d13, cond_true, cond_false] at B147
          refine ⟨[(62, .pointer (some ⟨bk40, 2, none⟩))], ⟨.inl ⟨7, some (.pointer (some ⟨bk40, 2, none⟩)), rfl, rfl, rfl⟩, trivial⟩, fun Lr => ?_⟩
          show WL _ _ _ _ _ _ _ ((62, .pointer (some ⟨bk40, 2, none⟩)) :: Lr) _
          have B148 := (((B47.keep u62 (fun h => h)).keep u122 (show ¬ (bk40 = bk14) by first | omega | assumption)).keep u144 (show ¬ (bk40 = bk14) by first | omega | assumption))
          refine t_load Try.isAgg3 rfl rfl rfl (B148.get rfl) ?_
          refine t_nil' ?_
          exact fun a ha => ⟨rfl, _, (fun v' h => by cases h; rfl), ha, ⟨u144, B145⟩⟩
        · -- 9
          intro D ρ w149 hcD hnD hdD hW
          obtain ⟨u150, B151⟩ := hW
          have zu150 := u150.size
          have E152 := E124.next u150 (fun i hi (h : i = bk14) => show False by first | omega | assumption)
          have d13 := hcD.late 13 hnD rfl
          have B153 := B151
          simp only [d13, cond_true, cond_false] at B153
          refine ⟨[(60, .int .i64 (wayTo (nth v.runs k) p)), (63, .int .i64 ((nth v.runs k).sp.lo))], ⟨.inl ⟨5, some (.int .i64 (wayTo (nth v.runs k) p)), rfl, rfl, rfl⟩, .inl ⟨8, some (.int .i64 ((nth v.runs k).sp.lo)), rfl, rfl, rfl⟩, trivial⟩, fun Lr => ?_⟩
          show WL _ _ _ _ _ _ _ ((60, .int .i64 (wayTo (nth v.runs k) p)) :: (63, .int .i64 ((nth v.runs k).sp.lo)) :: Lr) _
          refine t_call (vs := [.int .i64 (wayTo (nth v.runs k) p), .int .i64 ((nth v.runs k).sp.lo)]) own103 rfl rfl rfl rfl (take_c (wayTo (nth v.runs k) p) ((nth v.runs k).sp.lo) _ (by omega) (by omega)) (fun v154 w155 r157 => ?_)
          obtain ⟨rfl, u156⟩ := r157
          have zu156 := u156.size
          have E158 := E152.next u156 (fun _ _ h => h.elim)
          refine t_nil' ?_
          exact fun a ha => ⟨rfl, _, (fun v' h => by cases h; rfl), ha, ⟨(u150.next u156 (fun _ _ h => h.elim)), (B151.keep u156 (fun h => h))⟩⟩
        · -- 10
          intro D ρ w159 hcD hnD hdD hW
          obtain ⟨u160, B161⟩ := hW
          have zu160 := u160.size
          have E162 := E124.next u160 (fun i hi (h : i = bk14) => show False by first | omega | assumption)
          have d13 := hcD.late 13 hnD rfl
          have B163 := B161
          simp only [d13, cond_true, cond_false] at B163
          refine ⟨[(59, .int .i64 ((nth v.runs k).wt.hi)), (64, .int .i64 (tak (wayTo (nth v.runs k) p) ((nth v.runs k).sp.lo)))], ⟨.inl ⟨4, some (.int .i64 ((nth v.runs k).wt.hi)), rfl, rfl, rfl⟩, .inl ⟨9, some (.int .i64 (tak (wayTo (nth v.runs k) p) ((nth v.runs k).sp.lo))), rfl, rfl, rfl⟩, trivial⟩, fun Lr => ?_⟩
          show WL _ _ _ _ _ _ _ ((59, .int .i64 ((nth v.runs k).wt.hi)) :: (64, .int .i64 (tak (wayTo (nth v.runs k) p) ((nth v.runs k).sp.lo))) :: Lr) _
          refine t_ari rfl rfl rfl rfl rfl (by omega) ?_
          refine t_nil' ?_
          exact fun a ha => ⟨rfl, _, (fun v' h => by cases h; rfl), ha, ⟨u160, B161⟩⟩
        · -- 11
          intro D ρ w164 hcD hnD hdD hW
          obtain ⟨u165, B166⟩ := hW
          have zu165 := u165.size
          have E167 := E124.next u165 (fun i hi (h : i = bk14) => show False by first | omega | assumption)
          have d13 := hcD.late 13 hnD rfl
          have B168 := B166
          simp only [d13, cond_true, cond_false] at B168
          refine ⟨[(56, .int .i64 t.hi), (65, .int .i64 ((nth v.runs k).wt.hi + (tak (wayTo (nth v.runs k) p) ((nth v.runs k).sp.lo))))], ⟨.inl ⟨1, some (.int .i64 t.hi), rfl, rfl, rfl⟩, .inl ⟨10, some (.int .i64 ((nth v.runs k).wt.hi + (tak (wayTo (nth v.runs k) p) ((nth v.runs k).sp.lo)))), rfl, rfl, rfl⟩, trivial⟩, fun Lr => ?_⟩
          show WL _ _ _ _ _ _ _ ((56, .int .i64 t.hi) :: (65, .int .i64 ((nth v.runs k).wt.hi + (tak (wayTo (nth v.runs k) p) ((nth v.runs k).sp.lo)))) :: Lr) _
          refine t_ari rfl rfl rfl rfl rfl (by omega) ?_
          refine t_nil' ?_
          exact fun a ha => ⟨rfl, _, (fun v' h => by cases h; rfl), ha, ⟨u165, B166⟩⟩
        · exact fun D ρ w hcD hnD hdD hW => ⟨[(5, .pointer (some ⟨bk14, 0, none⟩))], ⟨.inr ⟨rfl, rfl⟩, trivial⟩, fun Lr => t_field Try.underlying45 rfl Try.sizeOf3 (1) rfl rfl rfl rfl (t_nil' fun a ha => ⟨rfl, _, (fun v' h => by cases h; rfl), ha, hW⟩)⟩
        · -- 13
          intro D ρ w169 hcD hnD hdD hW
          obtain ⟨u170, B171⟩ := hW
          have zu170 := u170.size
          have E172 := E124.next u170 (fun i hi (h : i = bk14) => show False by first | omega | assumption)
          have B173 := B171
          simp only [hnD, cond_true, cond_false] at B173
          refine ⟨[(66, .int .i64 (t.hi + ((nth v.runs k).wt.hi + (tak (wayTo (nth v.runs k) p) ((nth v.runs k).sp.lo))))), (67, .pointer (some ⟨bk14, 1, none⟩))], ⟨.inl ⟨11, some (.int .i64 (t.hi + ((nth v.runs k).wt.hi + (tak (wayTo (nth v.runs k) p) ((nth v.runs k).sp.lo))))), rfl, rfl, rfl⟩, .inl ⟨12, some (.pointer (some ⟨bk14, 1, none⟩)), rfl, rfl, rfl⟩, trivial⟩, fun Lr => ?_⟩
          show WL _ _ _ _ _ _ _ ((66, .int .i64 (t.hi + ((nth v.runs k).wt.hi + (tak (wayTo (nth v.runs k) p) ((nth v.runs k).sp.lo))))) :: (67, .pointer (some ⟨bk14, 1, none⟩)) :: Lr) _
          refine t_store (vs := [.int .i64 (t.hi + ((nth v.runs k).wt.hi + (tak (wayTo (nth v.runs k) p) ((nth v.runs k).sp.lo))))]) Try.sizeOf3 rfl rfl rfl B173 rfl rfl (Nat.le_of_ble_eq_true rfl) (by simp [Value.oneCell']) (fun w174 sw174 B176 u175 => ?_)
          have zu175 := u175.size
          have E177 := E172.next u175 (fun i hi (h : i = bk14) => show False by first | omega | assumption)
          have B176 : Blk w174 bk14 45 [.int .i64 (t.lo + ((nth v.runs k).wt.lo + (tak (wayTo (nth v.runs k) p) ((nth v.runs k).sp.hi)))), .int .i64 (t.hi + ((nth v.runs k).wt.hi + (tak (wayTo (nth v.runs k) p) ((nth v.runs k).sp.lo))))] := B176
          refine t_nil' ?_
          exact fun a ha => ⟨rfl, ha, ⟨(u170.next u175 (fun i hi (h : i = bk14) => show i = bk14 by first | omega | assumption)), (by show Blk w174 bk14 45 [.int .i64 (t.lo + ((nth v.runs k).wt.lo + (tak (wayTo (nth v.runs k) p) ((nth v.runs k).sp.hi)))), .int .i64 (t.hi + ((nth v.runs k).wt.hi + (tak (wayTo (nth v.runs k) p) ((nth v.runs k).sp.lo))))]; exact B176)⟩⟩
        intro ρ w178 hW
        obtain ⟨u179, B180⟩ := hW
        have zu179 := u179.size
        have E181 := E124.next u179 (fun i hi (h : i = bk14) => show False by first | omega | assumption)
        have B180 : Blk w178 bk14 45 [.int .i64 (t.lo + ((nth v.runs k).wt.lo + (tak (wayTo (nth v.runs k) p) ((nth v.runs k).sp.hi)))), .int .i64 (t.hi + ((nth v.runs k).wt.hi + (tak (wayTo (nth v.runs k) p) ((nth v.runs k).sp.lo))))] := B180
        refine QK.weak [(1, .int .i64 p), (4, .pointer (some ⟨bk7, 0, none⟩)), (5, .pointer (some ⟨bk14, 0, none⟩)), (7, .pointer (some ⟨bk40, 0, none⟩)), (8, .int .i64 (wayTo (nth v.runs k) p)), (13, .slice ao ((v.runs).length) cap), (14, .int .i64 ((v.runs).length : Int)), (15, .int .i64 (k : Int)), (16, .bool (decide ((k : Int) < ((v.runs).length : Int)))), (17, .pointer (some ⟨b, o + k * 6, none⟩)), (18, .agg #[.int .i64 ((nth v.runs k).frm), .int .i64 ((nth v.runs k).to), .int .i64 ((nth v.runs k).sp.lo), .int .i64 ((nth v.runs k).sp.hi), .int .i64 ((nth v.runs k).wt.lo), .int .i64 ((nth v.runs k).wt.hi)]), (19, .pointer (some ⟨bk40, 0, none⟩)), (20, .int .i64 ((nth v.runs k).frm)), (21, .int .i64 p), (22, .bool (decide ((nth v.runs k).frm = p))), (23, .pointer (some ⟨bk40, 1, none⟩)), (24, .int .i64 ((nth v.runs k).to)), (25, .pointer (some ⟨bk40, 0, none⟩)), (26, .int .i64 ((nth v.runs k).frm)), (27, .int .i64 (((nth v.runs k).to) - ((nth v.runs k).frm))), (42, .pointer (some ⟨bk14, 0, none⟩)), (43, .int .i64 t.lo), (44, .pointer (some ⟨bk40, 4, none⟩)), (45, .pointer (some ⟨bk40, 4, none⟩)), (46, .int .i64 ((nth v.runs k).wt.lo)), (47, .int .i64 (wayTo (nth v.runs k) p)), (48, .pointer (some ⟨bk40, 2, none⟩)), (49, .pointer (some ⟨bk40, 3, none⟩)), (50, .int .i64 ((nth v.runs k).sp.hi)), (51, .int .i64 (tak (wayTo (nth v.runs k) p) ((nth v.runs k).sp.hi))), (52, .int .i64 ((nth v.runs k).wt.lo + (tak (wayTo (nth v.runs k) p) ((nth v.runs k).sp.hi)))), (53, .int .i64 (t.lo + ((nth v.runs k).wt.lo + (tak (wayTo (nth v.runs k) p) ((nth v.runs k).sp.hi))))), (54, .pointer (some ⟨bk14, 0, none⟩)), (55, .pointer (some ⟨bk14, 1, none⟩)), (56, .int .i64 t.hi), (57, .pointer (some ⟨bk40, 4, none⟩)), (58, .pointer (some ⟨bk40, 5, none⟩)), (59, .int .i64 ((nth v.runs k).wt.hi)), (60, .int .i64 (wayTo (nth v.runs k) p)), (61, .pointer (some ⟨bk40, 2, none⟩)), (62, .pointer (some ⟨bk40, 2, none⟩)), (63, .int .i64 ((nth v.runs k).sp.lo)), (64, .int .i64 (tak (wayTo (nth v.runs k) p) ((nth v.runs k).sp.lo))), (65, .int .i64 ((nth v.runs k).wt.hi + (tak (wayTo (nth v.runs k) p) ((nth v.runs k).sp.lo)))), (66, .int .i64 (t.hi + ((nth v.runs k).wt.hi + (tak (wayTo (nth v.runs k) p) ((nth v.runs k).sp.lo))))), (67, .pointer (some ⟨bk14, 1, none⟩))] ⟨rfl, rfl, rfl, rfl, rfl, rfl, rfl, rfl, rfl, rfl, rfl, rfl, rfl, rfl, rfl, rfl, rfl, rfl, rfl, rfl, rfl, rfl, rfl, rfl, rfl, rfl, rfl, rfl, rfl, rfl, rfl, rfl, rfl, rfl, rfl, rfl, rfl, rfl, rfl, rfl, rfl, rfl, rfl, rfl, rfl, rfl, trivial⟩ ?_
        refine hK125 _ _ ?_
        refine c_seq fun K182 hK182 => ?_
        refine c_region ?_
        refine t_field Try.underlying59 rfl Try.sizeOf3 (0) rfl rfl rfl rfl ?_
        have B183 := (((B47.keep u62 (fun h => h)).keep u122 (show ¬ (bk40 = bk14) by first | omega | assumption)).keep u179 (show ¬ (bk40 = bk14) by first | omega | assumption))
        refine t_load Try.isAgg3 rfl rfl rfl (B183.get rfl) ?_
        refine t_move rfl rfl rfl ?_
        refine t_ari rfl rfl rfl rfl rfl (by omega) ?_
        refine t_move rfl rfl rfl ?_
        refine t_cmp rfl rfl rfl rfl rfl ?_
        refine t_nil' ?_
        refine hK182 _ _ ?_
        refine c_condp rfl (fun g73 => ?_) (fun g73 => ?_)
        · -- .bool (decide (((nth v.runs k).frm + (wayTo (nth v.runs k) p)) = p))
          refine c_exit ?_
          refine hK23 _ _ ?_
          refine c_seq fun K184 hK184 => ?_
          refine c_region ?_
          refine t_loadN (vs := [.int .i64 (t.lo + ((nth v.runs k).wt.lo + (tak (wayTo (nth v.runs k) p) ((nth v.runs k).sp.hi)))), .int .i64 (t.hi + ((nth v.runs k).wt.hi + (tak (wayTo (nth v.runs k) p) ((nth v.runs k).sp.lo))))]) Try.isAgg45 Try.sizeOf45 rfl rfl rfl (B180.at.sub 0 2) rfl ?_
          have B185 := ((((((((B9.keep u17 (fun h => h)).keep u20 (show ¬ (bk7 = bk14) by first | omega | assumption)).keep u28 (show ¬ (bk7 = bk14) by first | omega | assumption)).keep u43 (fun h => h)).keep u46 (show ¬ (bk7 = bk40) by first | omega | assumption)).keep u62 (fun h => h)).keep u122 (show ¬ (bk7 = bk14) by first | omega | assumption)).keep u179 (show ¬ (bk7 = bk14) by first | omega | assumption))
          refine t_store (vs := [.int .i64 (t.lo + ((nth v.runs k).wt.lo + (tak (wayTo (nth v.runs k) p) ((nth v.runs k).sp.hi)))), .int .i64 (t.hi + ((nth v.runs k).wt.hi + (tak (wayTo (nth v.runs k) p) ((nth v.runs k).sp.lo))))]) Try.sizeOf45 rfl rfl rfl B185 rfl rfl (Nat.le_of_ble_eq_true rfl) (by simp [Value.oneCell']) (fun w186 sw186 B188 u187 => ?_)
          have zu187 := u187.size
          have E189 := E181.next u187 (fun i hi (h : i = bk7) => show False by first | omega | assumption)
          have B188 : Blk w186 bk7 45 [.int .i64 (t.lo + ((nth v.runs k).wt.lo + (tak (wayTo (nth v.runs k) p) ((nth v.runs k).sp.hi)))), .int .i64 (t.hi + ((nth v.runs k).wt.hi + (tak (wayTo (nth v.runs k) p) ((nth v.runs k).sp.lo))))] := B188
          refine t_nil' ?_
          refine hK184 _ _ ?_
          refine c_ret ?_
          refine f_ret1 (v := .agg #[.int .i64 (t.lo + ((nth v.runs k).wt.lo + (tak (wayTo (nth v.runs k) p) ((nth v.runs k).sp.hi)))), .int .i64 (t.hi + ((nth v.runs k).wt.hi + (tak (wayTo (nth v.runs k) p) ((nth v.runs k).sp.lo))))]) Try.results70 ⟨_, _, rfl, run_loadVarN (vs := [.int .i64 (t.lo + ((nth v.runs k).wt.lo + (tak (wayTo (nth v.runs k) p) ((nth v.runs k).sp.hi)))), .int .i64 (t.hi + ((nth v.runs k).wt.hi + (tak (wayTo (nth v.runs k) p) ((nth v.runs k).sp.lo))))]) Try.isAgg45 Try.sizeOf45 rfl (B188.at.sub 0 2)⟩ ?_
          exact ⟨by rw [arr_stop hinv (by omega) g22 g73], E189⟩
        · -- not .bool (decide (((nth v.runs k).frm + (wayTo (nth v.runs k) p)) = p))
          refine c_skip ?_
          refine hK37 _ _ ?_
          refine c_region ?_
          refine t_ari rfl rfl rfl rfl rfl (by omega) ?_
          refine t_move rfl rfl rfl ?_
          refine t_nil' ?_
          exact hK26 (k + 1, ⟨(t.lo + ((nth v.runs k).wt.lo + (tak (wayTo (nth v.runs k) p) ((nth v.runs k).sp.hi)))), (t.hi + ((nth v.runs k).wt.hi + (tak (wayTo (nth v.runs k) p) ((nth v.runs k).sp.lo))))⟩) _ _ (by show v.runs.length - (k + 1) < v.runs.length - k; omega) ⟨rfl, rfl, rfl, rfl, rfl, rfl, trivial⟩ ⟨(((((u28.next u43 (fun _ _ h => h.elim)).next u46 (fun i hi (h : i = bk40) => show i = bk14 by first | omega | assumption)).next u62 (fun _ _ h => h.elim)).next u122 (fun i hi (h : i = bk14) => show i = bk14 by first | omega | assumption)).next u179 (fun i hi (h : i = bk14) => show i = bk14 by first | omega | assumption)), B180, (by omega), (arr_next hinv (by omega) g22 g73), (by show _ ≤ ((t.lo + ((nth v.runs k).wt.lo + (tak (wayTo (nth v.runs k) p) ((nth v.runs k).sp.hi)))) : Int) ∧ ((t.lo + ((nth v.runs k).wt.lo + (tak (wayTo (nth v.runs k) p) ((nth v.runs k).sp.hi)))) : Int) ≤ _; omega), (by show _ ≤ ((t.hi + ((nth v.runs k).wt.hi + (tak (wayTo (nth v.runs k) p) ((nth v.runs k).sp.lo)))) : Int) ∧ ((t.hi + ((nth v.runs k).wt.hi + (tak (wayTo (nth v.runs k) p) ((nth v.runs k).sp.lo)))) : Int) ≤ _; omega)⟩
  · -- not .bool (decide ((k : Int) < ((v.runs).length : Int)))
    refine c_exit ?_
    refine hK23 _ _ ?_
    refine c_seq fun K190 hK190 => ?_
    refine c_region ?_
    refine t_loadN (vs := [.int .i64 t.lo, .int .i64 t.hi]) Try.isAgg45 Try.sizeOf45 rfl rfl rfl (I29.at.sub 0 2) rfl ?_
    have B191 := (((B9.keep u17 (fun h => h)).keep u20 (show ¬ (bk7 = bk14) by first | omega | assumption)).keep u28 (show ¬ (bk7 = bk14) by first | omega | assumption))
    refine t_store (vs := [.int .i64 t.lo, .int .i64 t.hi]) Try.sizeOf45 rfl rfl rfl B191 rfl rfl (Nat.le_of_ble_eq_true rfl) (by simp [Value.oneCell']) (fun w192 sw192 B194 u193 => ?_)
    have zu193 := u193.size
    have E195 := E34.next u193 (fun i hi (h : i = bk7) => show False by first | omega | assumption)
    have B194 : Blk w192 bk7 45 [.int .i64 t.lo, .int .i64 t.hi] := B194
    refine t_nil' ?_
    refine hK190 _ _ ?_
    refine c_ret ?_
    refine f_ret1 (v := .agg #[.int .i64 t.lo, .int .i64 t.hi]) Try.results70 ⟨_, _, rfl, run_loadVarN (vs := [.int .i64 t.lo, .int .i64 t.hi]) Try.isAgg45 Try.sizeOf45 rfl (B194.at.sub 0 2)⟩ ?_
    exact ⟨by rw [arr_end hinv (by omega)], E195⟩


structure RVoy (v : Voy) : Prop where
  pos : 0 < v.runs.length
  few : v.runs.length ≤ 1000
  run : ∀ r ∈ v.runs, rngRun r
  st : (-1000000000 ≤ v.st.lo ∧ v.st.lo ≤ 1000000000) ∧ (-1000000000 ≤ v.st.hi ∧ v.st.hi ≤ 1000000000)
  len : 0 ≤ v.len ∧ v.len ≤ 100000
  wid : 0 ≤ v.wid ∧ v.wid ≤ 100000
structure RNar (n : Nar) : Prop where
  frm : 0 ≤ n.frm ∧ n.frm ≤ 100000
  to : 0 ≤ n.to ∧ n.to ≤ 100000
  wid : 0 ≤ n.wid ∧ n.wid ≤ 100000
theorem okRuns_rng {way : Int} : ∀ {rs : List Run} {a : Int}, okRuns way a rs = true → ∀ r ∈ rs, rngRun r
  | [], _, _, r, h => by simp at h
  | x :: rs, a, h, r, hr => by
    simp only [okRuns, Bool.and_eq_true] at h
    rcases List.mem_cons.1 hr with rfl | hr
    · have := h.1
      unfold okRun at this
      rw [decide_eq_true_eq] at this
      obtain ⟨⟨h1, h2⟩, _, _, _, ⟨_, h3, h4⟩, ⟨_, h5, h6⟩⟩ := this
      exact ⟨h1, h2, h3, h4, h5, h6⟩
    · exact okRuns_rng h.2 r hr
theorem okVoy_of {v : Voy} (h : ¬ chk v ≠ 0) : okVoy v = true := by
  unfold chk at h; cases hv : okVoy v <;> simp [hv] at h ⊢
theorem okVoy_rng {v : Voy} (h : okVoy v = true) : RVoy v := by
  unfold okVoy at h
  rw [Bool.and_eq_true] at h
  have h0 := h.1
  unfold okVoy0 at h0
  rw [decide_eq_true_eq] at h0
  obtain ⟨⟨_, h1, h2⟩, h3, h4, h5⟩ := h0
  exact ⟨by omega, by omega, okRuns_rng h.2, ⟨by omega, by omega⟩, by omega, by omega⟩
theorem onWay_rng {v : Voy} {p : Int} (h : onWay v [p] = true) : min (frst v) (lst v) ≤ p ∧ p ≤ max (frst v) (lst v) := by
  unfold onWay at h; rw [decide_eq_true_eq] at h; exact h p (by simp)
theorem frst_rng {v : Voy} (h : okVoy v = true) : 0 ≤ frst v ∧ frst v ≤ 100000 := by
  have hr := okVoy_rng h
  rw [frst_eq hr.pos]
  exact (hr.run _ (nth_mem (xs := v.runs) (i := 0) hr.pos)).1
theorem lst_rng {v : Voy} (h : okVoy v = true) : 0 ≤ lst v ∧ lst v ≤ 100000 := by
  have hr := okVoy_rng h
  have hp := hr.pos
  rw [lst_eq (by omega)]
  exact (hr.run _ (nth_mem (xs := v.runs) (i := v.runs.length - 1) (by omega))).2.1
def okNar (n : Nar) : Bool := decide (((0 ≤ n.frm ∧ n.frm ≤ 100000) ∧ (0 ≤ n.to ∧ n.to ≤ 100000)) ∧ n.frm < n.to ∧ (1 ≤ n.wid ∧ n.wid ≤ 200))
theorem okNar_rng {n : Nar} (h : okNar n = true) : RNar n := by
  unfold okNar at h; rw [decide_eq_true_eq] at h; exact ⟨by omega, by omega, by omega⟩
def tail (v : Voy) : Int := (v.len + 100 - 1) / 100
def nearD (v : Voy) (n : Nar) : Bool := decide (frst v < n.to + tail v) && decide (n.frm < lst v)
def nearU (v : Voy) (n : Nar) : Bool := decide (n.frm - tail v < frst v) && decide (lst v < n.to)
def near (v : Voy) (n : Nar) : Bool := if lst v < frst v then nearU v n else nearD v n
def entP (v : Voy) (n : Nar) : Int := if lst v < frst v then n.to else n.frm
def leaP (v : Voy) (n : Nar) : Int := if lst v < frst v then n.frm - tail v else n.to + tail v
structure Stay where
  inn : Bnd
  out : Bnd
  there : Bool
instance : Inhabited Stay := ⟨⟨default, default, default⟩⟩
def thrE (v : Voy) (n : Nar) : Int := if near v n then (if onWay v [entP v n, leaP v n] then 0 else 9) else 0
def thrS (v : Voy) (n : Nar) : Stay := if near v n && onWay v [entP v n, leaP v n] then ⟨arr v (entP v n), arr v (leaP v n), true⟩ else ⟨⟨0, 0⟩, ⟨0, 0⟩, false⟩
def mayB (s o : Stay) : Bool := s.there && o.there && decide (s.inn.lo ≤ o.out.hi) && decide (o.inn.lo ≤ s.out.hi)
def mustB (s o : Stay) : Bool := s.there && o.there && decide (s.inn.hi ≤ o.out.lo) && decide (o.inn.hi ≤ s.out.lo)

def ArrE (v : Voy) (p : Int) : Int := if okVoy v then (if onWay v [p] then 0 else 7) else 2
def ArrB (v : Voy) (p : Int) : Bnd := if okVoy v then (if onWay v [p] then arr v p else ⟨0, 0⟩) else ⟨0, 0⟩
theorem okVoy_bad {v : Voy} (h : chk v ≠ 0) : okVoy v = false := by unfold chk at h; cases hv : okVoy v <;> simp [hv] at h ⊢
theorem Arrive_c (v : Voy) (ao : Option Addr) (b o cap : Nat) (p : Int) (w0 : World) (hs : Sl encRun 6 w0 ao b o v.runs) (hl : v.runs.length ≤ 1000000) :
    CallsV Try.prog 30 [.agg #[.int .i64 v.st.lo, .int .i64 v.st.hi, .slice ao ((v.runs).length) cap, .int .i64 v.len, .int .i64 v.wid], .int .i64 p] w0 (fun x w' => x = .tuple #[.agg #[.int .i64 (ArrB v p).lo, .int .i64 (ArrB v p).hi], .int .i64 (ArrE v p)] ∧ Ext w0 w') := by
  have E0 := Upd.refl (fun _ => False) w0
  refine f_enter (N := 21) Try.func30 rfl rfl rfl ?_
  change WC _ _ _ _ _ _ [(0, .agg #[.int .i64 v.st.lo, .int .i64 v.st.hi, .slice ao ((v.runs).length) cap, .int .i64 v.len, .int .i64 v.wid]), (1, .int .i64 p)] _
  refine c_seq fun K1 hK1 => ?_
  refine c_region ?_
  refine t_box (cs := [.int .i64 v.st.lo, .int .i64 v.st.hi, .slice ao ((v.runs).length) cap, .int .i64 v.len, .int .i64 v.wid]) rfl rfl rfl rfl (fun bk2 w3 ebk2 sbk2 B4 u5 => ?_)
  have zu5 := u5.size
  have E6 := E0.next u5 (fun _ _ h => h.elim)
  refine t_alloc (cs := [.int .i64 0, .int .i64 0]) Try.zeroValue45 rfl rfl rfl (fun bk7 w8 ebk7 sbk7 B9 u10 => ?_)
  have zu10 := u10.size
  have E11 := E6.next u10 (fun _ _ h => h.elim)
  refine t_assign rfl rfl rfl ?_
  refine t_nil' ?_
  refine hK1 _ _ ?_
  refine c_seq fun K12 hK12 => ?_
  refine c_block ?_
  refine c_seq fun K13 hK13 => ?_
  refine c_region ?_
  have B14 := (B4.keep u10 (fun h => h))
  refine t_loadN (vs := [.int .i64 v.st.lo, .int .i64 v.st.hi, .slice ao ((v.runs).length) cap, .int .i64 v.len, .int .i64 v.wid]) Try.isAgg48 Try.sizeOf48 rfl rfl rfl (B14.at.sub 0 5) rfl ?_
  refine t_call (vs := [.agg #[.int .i64 v.st.lo, .int .i64 v.st.hi, .slice ao ((v.runs).length) cap, .int .i64 v.len, .int .i64 v.wid]]) own29 rfl rfl rfl rfl (Check_c v ao b o cap _ (hs.keep E11 (fun _ h => h)) (by omega)) (fun v15 w16 r18 => ?_)
  obtain ⟨rfl, u17⟩ := r18
  have zu17 := u17.size
  have E19 := E11.next u17 (fun _ _ h => h.elim)
  refine t_cmp rfl rfl rfl rfl rfl ?_
  refine t_assign rfl rfl rfl ?_
  refine t_nil' ?_
  refine hK13 _ _ ?_
  refine c_condp rfl (fun g6 => ?_) (fun g6 => ?_)
  · -- .bool (decide ((chk v) ≠ 0))
    refine c_seq fun K20 hK20 => ?_
    refine c_region ?_
    refine t_build (ps := []) (v := .agg #[.int .i64 0, .int .i64 0]) rfl rfl ⟨rfl, rfl⟩ (fun w => by kernel_rfl) ?_
    have B21 := (B9.keep u17 (fun h => h))
    refine t_store (vs := [.int .i64 0, .int .i64 0]) Try.sizeOf45 rfl rfl rfl B21 rfl rfl (Nat.le_of_ble_eq_true rfl) (by simp [Value.oneCell']) (fun w22 sw22 B24 u23 => ?_)
    have zu23 := u23.size
    have E25 := E19.next u23 (fun i hi (h : i = bk7) => show False by first | omega | assumption)
    have B24 : Blk w22 bk7 45 [.int .i64 0, .int .i64 0] := B24
    refine t_assign rfl rfl rfl ?_
    refine t_nil' ?_
    refine hK20 _ _ ?_
    refine c_ret ?_
    refine f_ret2 (v1 := .agg #[.int .i64 0, .int .i64 0]) (v2 := .int .i64 2) Try.results30 ⟨_, _, rfl, run_loadVarN (vs := [.int .i64 0, .int .i64 0]) Try.isAgg45 Try.sizeOf45 rfl (B24.at.sub 0 2)⟩ rfl ?_
    exact ⟨by simp [ArrB, ArrE, okVoy_bad g6], E25⟩
  · -- not .bool (decide ((chk v) ≠ 0))
    refine c_seq fun K26 hK26 => ?_
    refine c_region ?_
    have hk := okVoy_of g6
    have hv := okVoy_rng hk
    have B27 := (B14.keep u17 (fun h => h))
    refine t_loadN (vs := [.int .i64 v.st.lo, .int .i64 v.st.hi, .slice ao ((v.runs).length) cap, .int .i64 v.len, .int .i64 v.wid]) Try.isAgg48 Try.sizeOf48 rfl rfl rfl (B27.at.sub 0 5) rfl ?_
    refine t_move rfl rfl rfl ?_
    refine t_bslice (ps := [(0, .int .i64 p)]) (cs := [.int .i64 p]) (e := 3) rfl rfl ⟨rfl, rfl⟩ (fun w => by kernel_rfl) (fun bk28 w29 ebk28 sbk28 B30 u31 => ?_)
    have zu31 := u31.size
    have E32 := E19.next u31 (fun _ _ h => h.elim)
    refine t_call (vs := [.agg #[.int .i64 v.st.lo, .int .i64 v.st.hi, .slice ao ((v.runs).length) cap, .int .i64 v.len, .int .i64 v.wid], .slice (some ⟨bk28, 0, none⟩) 1 1]) own69 rfl rfl rfl rfl (isOn_c v ao b o cap [p] _ _ 0 _ _ (hs.keep E32 (fun _ h => h)) hv.pos (by have := hv.few; omega) (SlI.own (xs := [p]) B30) (by simp)) (fun v33 w34 r36 => ?_)
    obtain ⟨rfl, u35⟩ := r36
    have zu35 := u35.size
    have E37 := E32.next u35 (fun _ _ h => h.elim)
    refine t_not rfl rfl rfl ?_
    refine t_assign rfl rfl rfl ?_
    refine t_nil' ?_
    refine hK26 _ _ ?_
    refine c_cond rfl (fun g11 => ?_) (fun g11 => ?_)
    · -- .bool (!(onWay v [p]))
      refine c_seq fun K38 hK38 => ?_
      refine c_region ?_
      refine t_build (ps := []) (v := .agg #[.int .i64 0, .int .i64 0]) rfl rfl ⟨rfl, rfl⟩ (fun w => by kernel_rfl) ?_
      have B39 := (((B9.keep u17 (fun h => h)).keep u31 (fun h => h)).keep u35 (fun h => h))
      refine t_store (vs := [.int .i64 0, .int .i64 0]) Try.sizeOf45 rfl rfl rfl B39 rfl rfl (Nat.le_of_ble_eq_true rfl) (by simp [Value.oneCell']) (fun w40 sw40 B42 u41 => ?_)
      have zu41 := u41.size
      have E43 := E37.next u41 (fun i hi (h : i = bk7) => show False by first | omega | assumption)
      have B42 : Blk w40 bk7 45 [.int .i64 0, .int .i64 0] := B42
      refine t_assign rfl rfl rfl ?_
      refine t_nil' ?_
      refine hK38 _ _ ?_
      refine c_ret ?_
      refine f_ret2 (v1 := .agg #[.int .i64 0, .int .i64 0]) (v2 := .int .i64 7) Try.results30 ⟨_, _, rfl, run_loadVarN (vs := [.int .i64 0, .int .i64 0]) Try.isAgg45 Try.sizeOf45 rfl (B42.at.sub 0 2)⟩ rfl ?_
      exact ⟨by simp_all [ArrB, ArrE], E43⟩
    · -- not .bool (!(onWay v [p]))
      refine c_skip ?_
      refine hK12 _ _ ?_
      refine c_seq fun K44 hK44 => ?_
      refine c_region ?_
      have ho : onWay v [p] = true := by simpa using g11
      have hp1 := onWay_rng ho
      have hp2 := frst_rng hk
      have hp3 := lst_rng hk
      have B45 := ((B27.keep u31 (fun h => h)).keep u35 (fun h => h))
      refine t_loadN (vs := [.int .i64 v.st.lo, .int .i64 v.st.hi, .slice ao ((v.runs).length) cap, .int .i64 v.len, .int .i64 v.wid]) Try.isAgg48 Try.sizeOf48 rfl rfl rfl (B45.at.sub 0 5) rfl ?_
      refine t_move rfl rfl rfl ?_
      refine t_call (vs := [.agg #[.int .i64 v.st.lo, .int .i64 v.st.hi, .slice ao ((v.runs).length) cap, .int .i64 v.len, .int .i64 v.wid], .int .i64 p]) own70 rfl rfl rfl rfl (arrive_c v ao b o cap p _ (hs.keep E37 (fun _ h => h)) hv.few hv.run hv.st (by omega)) (fun v46 w47 r49 => ?_)
      obtain ⟨rfl, u48⟩ := r49
      have zu48 := u48.size
      have E50 := E37.next u48 (fun _ _ h => h.elim)
      have B51 := ((((B9.keep u17 (fun h => h)).keep u31 (fun h => h)).keep u35 (fun h => h)).keep u48 (fun h => h))
      refine t_store (vs := [.int .i64 ((arr v p).lo), .int .i64 ((arr v p).hi)]) Try.sizeOf45 rfl rfl rfl B51 rfl rfl (Nat.le_of_ble_eq_true rfl) (by simp [Value.oneCell']) (fun w52 sw52 B54 u53 => ?_)
      have zu53 := u53.size
      have E55 := E50.next u53 (fun i hi (h : i = bk7) => show False by first | omega | assumption)
      have B54 : Blk w52 bk7 45 [.int .i64 ((arr v p).lo), .int .i64 ((arr v p).hi)] := B54
      refine t_assign rfl rfl rfl ?_
      refine t_nil' ?_
      refine hK44 _ _ ?_
      refine c_ret ?_
      refine f_ret2 (v1 := .agg #[.int .i64 ((arr v p).lo), .int .i64 ((arr v p).hi)]) (v2 := .int .i64 0) Try.results30 ⟨_, _, rfl, run_loadVarN (vs := [.int .i64 ((arr v p).lo), .int .i64 ((arr v p).hi)]) Try.isAgg45 Try.sizeOf45 rfl (B54.at.sub 0 2)⟩ rfl ?_
      exact ⟨by simp_all [ArrB, ArrE], E55⟩

theorem isNarrow_c (n : Nar) (w0 : World) :
    CallsV Try.prog 76 [.agg #[.int .i64 n.frm, .int .i64 n.to, .int .i64 n.wid, .bool n.single]] w0 (fun v w' => v = .bool (okNar n) ∧ Ext w0 w') := by
  have E0 := Upd.refl (fun _ => False) w0
  refine f_enter (N := 22) Try.func76 rfl rfl rfl ?_
  change WC _ _ _ _ _ _ [(0, .agg #[.int .i64 n.frm, .int .i64 n.to, .int .i64 n.wid, .bool n.single])] _
  refine c_seq fun K1 hK1 => ?_
  refine c_region ?_
  refine t_box (cs := [.int .i64 n.frm, .int .i64 n.to, .int .i64 n.wid, .bool n.single]) rfl rfl rfl rfl (fun bk2 w3 ebk2 sbk2 B4 u5 => ?_)
  have zu5 := u5.size
  have E6 := E0.next u5 (fun _ _ h => h.elim)
  refine t_assign rfl rfl rfl ?_
  refine t_nil' ?_
  refine hK1 _ _ ?_
  refine c_seq fun K7 hK7 => ?_
  refine c_region ?_
  refine t_field Try.underlying72 rfl Try.sizeOf3 (0) rfl rfl rfl rfl ?_
  refine t_load Try.isAgg3 rfl rfl rfl (B4.get rfl) ?_
  refine t_field Try.underlying72 rfl Try.sizeOf3 (1) rfl rfl rfl rfl ?_
  refine t_load Try.isAgg3 rfl rfl rfl (B4.get rfl) ?_
  refine t_bslice (ps := [(0, .int .i64 n.frm), (1, .int .i64 n.to)]) (cs := [.int .i64 n.frm, .int .i64 n.to]) (e := 3) rfl rfl ⟨rfl, rfl⟩ (fun w => by kernel_rfl) (fun bk8 w9 ebk8 sbk8 B10 u11 => ?_)
  have zu11 := u11.size
  have E12 := E6.next u11 (fun _ _ h => h.elim)
  refine t_call (vs := [.int .i64 0, .int .i64 100000, .slice (some ⟨bk8, 0, none⟩) 2 2]) own58 rfl rfl rfl rfl (within2_v 0 100000 n.frm n.to _ _ _ B10) (fun v13 w14 r16 => ?_)
  obtain ⟨rfl, u15⟩ := r16
  have zu15 := u15.size
  have E17 := E12.next u15 (fun _ _ h => h.elim)
  refine t_move rfl rfl rfl ?_
  refine t_splitp 9 rfl (fun g9 => ?_) (fun g9 => ?_)
  · -- .bool (decide ((0 ≤ n.frm ∧ n.frm ≤ 100000) ∧ (0 ≤ n.to ∧ n.to ≤ 100000)))
    refine t_field Try.underlying72 rfl Try.sizeOf3 (0) rfl rfl rfl rfl ?_
    have B18 := ((B4.keep u11 (fun h => h)).keep u15 (fun h => h))
    refine t_load Try.isAgg3 rfl rfl rfl (B18.get rfl) ?_
    refine t_field Try.underlying72 rfl Try.sizeOf3 (1) rfl rfl rfl rfl ?_
    refine t_load Try.isAgg3 rfl rfl rfl (B18.get rfl) ?_
    refine t_cmp rfl rfl rfl rfl rfl ?_
    refine t_pick_t rfl rfl rfl rfl ?_
    refine t_move rfl rfl rfl ?_
    refine t_splitp 16 rfl (fun g16 => ?_) (fun g16 => ?_)
    · -- .bool (decide (n.frm < n.to))
      refine t_field Try.underlying72 rfl Try.sizeOf3 (2) rfl rfl rfl rfl ?_
      refine t_load Try.isAgg3 rfl rfl rfl (B18.get rfl) ?_
      refine t_bslice (ps := [(0, .int .i64 n.wid)]) (cs := [.int .i64 n.wid]) (e := 3) rfl rfl ⟨rfl, rfl⟩ (fun w => by kernel_rfl) (fun bk19 w20 ebk19 sbk19 B21 u22 => ?_)
      have zu22 := u22.size
      have E23 := E17.next u22 (fun _ _ h => h.elim)
      refine t_call (vs := [.int .i64 1, .int .i64 200, .slice (some ⟨bk19, 0, none⟩) 1 1]) own58 rfl rfl rfl rfl (within1_v 1 200 n.wid _ _ _ B21) (fun v24 w25 r27 => ?_)
      obtain ⟨rfl, u26⟩ := r27
      have zu26 := u26.size
      have E28 := E23.next u26 (fun _ _ h => h.elim)
      refine t_pick_t rfl rfl rfl rfl ?_
      refine t_assign rfl rfl rfl ?_
      refine t_nil' ?_
      refine hK7 _ _ ?_
      refine c_ret ?_
      refine f_ret1 (v := .bool (decide (1 ≤ n.wid ∧ n.wid ≤ 200))) Try.results76 rfl ?_
      exact ⟨by simp [okNar, *], E28⟩
    · -- not .bool (decide (n.frm < n.to))
      refine t_skip rfl rfl rfl ?_
      refine t_skip rfl rfl rfl ?_
      refine t_skip rfl rfl rfl ?_
      refine t_skip rfl rfl rfl ?_
      refine t_pick_f rfl rfl rfl rfl ?_
      refine t_assign rfl rfl rfl ?_
      refine t_nil' ?_
      refine hK7 _ _ ?_
      refine c_ret ?_
      refine f_ret1 (v := .bool false) Try.results76 rfl ?_
      exact ⟨by simp [okNar, *], E17⟩
  · -- not .bool (decide ((0 ≤ n.frm ∧ n.frm ≤ 100000) ∧ (0 ≤ n.to ∧ n.to ≤ 100000)))
    refine t_skip rfl rfl rfl ?_
    refine t_skip rfl rfl rfl ?_
    refine t_skip rfl rfl rfl ?_
    refine t_skip rfl rfl rfl ?_
    refine t_skip rfl rfl rfl ?_
    refine t_pick_f rfl rfl rfl rfl ?_
    refine t_move rfl rfl rfl ?_
    refine t_skip rfl rfl rfl ?_
    refine t_skip rfl rfl rfl ?_
    refine t_skip rfl rfl rfl ?_
    refine t_skip rfl rfl rfl ?_
    refine t_pick_f rfl rfl rfl rfl ?_
    refine t_assign rfl rfl rfl ?_
    refine t_nil' ?_
    refine hK7 _ _ ?_
    refine c_ret ?_
    refine f_ret1 (v := .bool false) Try.results76 rfl ?_
    exact ⟨by simp [okNar, *], E17⟩

theorem through_c (v : Voy) (ao : Option Addr) (b o cap : Nat) (n : Nar) (w0 : World) (hs : Sl encRun 6 w0 ao b o v.runs) (hv : RVoy v) (hn : RNar n) :
    CallsV Try.prog 77 [.agg #[.int .i64 v.st.lo, .int .i64 v.st.hi, .slice ao ((v.runs).length) cap, .int .i64 v.len, .int .i64 v.wid], .agg #[.int .i64 n.frm, .int .i64 n.to, .int .i64 n.wid, .bool n.single]] w0 (fun x w' => x = .tuple #[.agg #[.int .i64 (thrS v n).inn.lo, .int .i64 (thrS v n).inn.hi, .int .i64 (thrS v n).out.lo, .int .i64 (thrS v n).out.hi, .bool (thrS v n).there], .int .i64 (thrE v n)] ∧ Ext w0 w') := by
  have hn1 := hn.frm
  have hn2 := hn.to
  have hv1 := hv.len
  have E0 := Upd.refl (fun _ => False) w0
  refine f_enter (N := 71) Try.func77 rfl rfl rfl ?_
  change WC _ _ _ _ _ _ [(0, .agg #[.int .i64 v.st.lo, .int .i64 v.st.hi, .slice ao ((v.runs).length) cap, .int .i64 v.len, .int .i64 v.wid]), (1, .agg #[.int .i64 n.frm, .int .i64 n.to, .int .i64 n.wid, .bool n.single])] _
  refine c_seq fun K1 hK1 => ?_
  refine c_region ?_
  refine t_box (cs := [.int .i64 v.st.lo, .int .i64 v.st.hi, .slice ao ((v.runs).length) cap, .int .i64 v.len, .int .i64 v.wid]) rfl rfl rfl rfl (fun bk2 w3 ebk2 sbk2 B4 u5 => ?_)
  have zu5 := u5.size
  have E6 := E0.next u5 (fun _ _ h => h.elim)
  refine t_box (cs := [.int .i64 n.frm, .int .i64 n.to, .int .i64 n.wid, .bool n.single]) rfl rfl rfl rfl (fun bk7 w8 ebk7 sbk7 B9 u10 => ?_)
  have zu10 := u10.size
  have E11 := E6.next u10 (fun _ _ h => h.elim)
  refine t_alloc (cs := [.int .i64 0, .int .i64 0, .int .i64 0, .int .i64 0, .bool false]) Try.zeroValue141 rfl rfl rfl (fun bk12 w13 ebk12 sbk12 B14 u15 => ?_)
  have zu15 := u15.size
  have E16 := E11.next u15 (fun _ _ h => h.elim)
  refine t_assign rfl rfl rfl ?_
  refine t_nil' ?_
  refine hK1 _ _ ?_
  refine c_seq fun K17 hK17 => ?_
  refine c_region ?_
  refine t_field Try.underlying48 rfl Try.sizeOf3 (3) rfl rfl rfl rfl ?_
  have B18 := ((B4.keep u10 (fun h => h)).keep u15 (fun h => h))
  refine t_load Try.isAgg3 rfl rfl rfl (B18.get rfl) ?_
  refine t_ari rfl rfl rfl rfl rfl (by omega) ?_
  refine t_ari rfl rfl rfl rfl rfl (by omega) ?_
  refine t_quo rfl rfl rfl rfl (by omega) (by omega) ?_
  refine t_assign rfl rfl rfl ?_
  refine t_nil' ?_
  refine hK17 _ _ ?_
  refine c_seq fun K19 hK19 => ?_
  refine WC.weak [(0, .agg #[.int .i64 v.st.lo, .int .i64 v.st.hi, .slice ao ((v.runs).length) cap, .int .i64 v.len, .int .i64 v.wid]), (1, .agg #[.int .i64 n.frm, .int .i64 n.to, .int .i64 n.wid, .bool n.single]), (2, .pointer (some ⟨bk2, 0, none⟩)), (3, .pointer (some ⟨bk7, 0, none⟩)), (4, .pointer (some ⟨bk12, 0, none⟩)), (5, .int .i64 0), (6, .int .i64 (((v.len + 100) - 1) / 100)), (10, .pointer (some ⟨bk2, 3, none⟩)), (11, .int .i64 v.len), (12, .int .i64 (v.len + 100)), (13, .int .i64 ((v.len + 100) - 1)), (14, .int .i64 (((v.len + 100) - 1) / 100))] ⟨rfl, rfl, rfl, rfl, rfl, rfl, rfl, rfl, rfl, rfl, rfl, rfl, trivial⟩ ?_
  refine c_drawn follows 8 [some (15, some (.pointer (some ⟨bk7, 0, none⟩))), some (16, some (.int .i64 n.frm)), some (17, some (.pointer (some ⟨bk7, 1, none⟩))), some (18, some (.int .i64 n.to)), some (19, some (.int .i64 (((v.len + 100) - 1) / 100))), some (20, some (.int .i64 (n.to + (((v.len + 100) - 1) / 100)))), some (7, some (.int .i64 n.frm)), some (8, some (.int .i64 (n.to + (((v.len + 100) - 1) / 100))))] [[], [0], [], [2], [], [3, 4], [1, 0, 1], [5, 6, 0, 1, 2, 3, 4, 5, 6]] (fun _ _ w => Upd (fun _ => False) w13 w) rfl rfl rfl (by kernel_rfl) (by kernel_rfl) (Upd.drew _).to ⟨?_, ?_, ?_, ?_, ?_, ?_, ?_, ?_, trivial⟩ ?_
  · exact fun D ρ w hcD hnD hdD hW => ⟨[(3, .pointer (some ⟨bk7, 0, none⟩))], ⟨.inr ⟨rfl, rfl⟩, trivial⟩, fun Lr => t_field Try.underlying72 rfl Try.sizeOf3 (0) rfl rfl rfl rfl (t_nil' fun a ha => ⟨rfl, _, (fun v' h => by cases h; rfl), ha, hW⟩)⟩
  · -- 1
    intro D ρ w21 hcD hnD hdD hW
    have zhW := hW.size
    have E23 := E16.next hW (fun _ _ h => h.elim)
    refine ⟨[(15, .pointer (some ⟨bk7, 0, none⟩))], ⟨.inl ⟨0, some (.pointer (some ⟨bk7, 0, none⟩)), rfl, rfl, rfl⟩, trivial⟩, fun Lr => ?_⟩
    show WL _ _ _ _ _ _ _ ((15, .pointer (some ⟨bk7, 0, none⟩)) :: Lr) _
    have B24 := ((B9.keep u15 (fun h => h)).keep hW (fun h => h))
    refine t_load Try.isAgg3 rfl rfl rfl (B24.get rfl) ?_
    refine t_nil' ?_
    exact fun a ha => ⟨rfl, _, (fun v' h => by cases h; rfl), ha, hW⟩
  · exact fun D ρ w hcD hnD hdD hW => ⟨[(3, .pointer (some ⟨bk7, 0, none⟩))], ⟨.inr ⟨rfl, rfl⟩, trivial⟩, fun Lr => t_field Try.underlying72 rfl Try.sizeOf3 (1) rfl rfl rfl rfl (t_nil' fun a ha => ⟨rfl, _, (fun v' h => by cases h; rfl), ha, hW⟩)⟩
  · -- 3
    intro D ρ w25 hcD hnD hdD hW
    have zhW := hW.size
    have E27 := E16.next hW (fun _ _ h => h.elim)
    refine ⟨[(17, .pointer (some ⟨bk7, 1, none⟩))], ⟨.inl ⟨2, some (.pointer (some ⟨bk7, 1, none⟩)), rfl, rfl, rfl⟩, trivial⟩, fun Lr => ?_⟩
    show WL _ _ _ _ _ _ _ ((17, .pointer (some ⟨bk7, 1, none⟩)) :: Lr) _
    have B28 := ((B9.keep u15 (fun h => h)).keep hW (fun h => h))
    refine t_load Try.isAgg3 rfl rfl rfl (B28.get rfl) ?_
    refine t_nil' ?_
    exact fun a ha => ⟨rfl, _, (fun v' h => by cases h; rfl), ha, hW⟩
  · exact fun D ρ w hcD hnD hdD hW => ⟨[(6, .int .i64 (((v.len + 100) - 1) / 100))], ⟨.inr ⟨rfl, rfl⟩, trivial⟩, fun Lr => t_move rfl rfl rfl (t_nil' fun a ha => ⟨rfl, _, (fun v' h => by cases h; rfl), ha, hW⟩)⟩
  · -- 5
    intro D ρ w29 hcD hnD hdD hW
    have zhW := hW.size
    have E31 := E16.next hW (fun _ _ h => h.elim)
    refine ⟨[(18, .int .i64 n.to), (19, .int .i64 (((v.len + 100) - 1) / 100))], ⟨.inl ⟨3, some (.int .i64 n.to), rfl, rfl, rfl⟩, .inl ⟨4, some (.int .i64 (((v.len + 100) - 1) / 100)), rfl, rfl, rfl⟩, trivial⟩, fun Lr => ?_⟩
    show WL _ _ _ _ _ _ _ ((18, .int .i64 n.to) :: (19, .int .i64 (((v.len + 100) - 1) / 100)) :: Lr) _
    refine t_ari rfl rfl rfl rfl rfl (by omega) ?_
    refine t_nil' ?_
    exact fun a ha => ⟨rfl, _, (fun v' h => by cases h; rfl), ha, hW⟩
  · exact fun D ρ w hcD hnD hdD hW => ⟨[(16, .int .i64 n.frm)], ⟨.inl ⟨1, some (.int .i64 n.frm), rfl, rfl, rfl⟩, trivial⟩, fun Lr => t_assign rfl rfl rfl (t_nil' fun a ha => ⟨rfl, _, (fun v' h => by cases h; rfl), ha, hW⟩)⟩
  · exact fun D ρ w hcD hnD hdD hW => ⟨[(20, .int .i64 (n.to + (((v.len + 100) - 1) / 100)))], ⟨.inl ⟨5, some (.int .i64 (n.to + (((v.len + 100) - 1) / 100))), rfl, rfl, rfl⟩, trivial⟩, fun Lr => t_assign rfl rfl rfl (t_nil' fun a ha => ⟨rfl, _, (fun v' h => by cases h; rfl), ha, hW⟩)⟩
  intro ρ w32 hW
  have u33 : Upd (fun _ => False) w13 w32 := hW
  have zu33 := u33.size
  have E34 := E16.next u33 (fun _ _ h => h.elim)
  refine QK.weak [(2, .pointer (some ⟨bk2, 0, none⟩)), (3, .pointer (some ⟨bk7, 0, none⟩)), (4, .pointer (some ⟨bk12, 0, none⟩)), (5, .int .i64 0), (6, .int .i64 (((v.len + 100) - 1) / 100)), (7, .int .i64 n.frm), (8, .int .i64 (n.to + (((v.len + 100) - 1) / 100)))] ⟨rfl, rfl, rfl, rfl, rfl, rfl, rfl, trivial⟩ ?_
  refine hK19 _ _ ?_
  refine c_cut (γ := Unit) (fun _x => [(2, .pointer (some ⟨bk2, 0, none⟩)), (3, .pointer (some ⟨bk7, 0, none⟩)), (4, .pointer (some ⟨bk12, 0, none⟩)), (5, .int .i64 0), (6, .int .i64 (((v.len + 100) - 1) / 100)), (7, .int .i64 n.frm), (8, .int .i64 (n.to + (((v.len + 100) - 1) / 100))), (9, .bool (nearD v n))]) (fun _x w => Upd (fun _ => False) w32 w) (fun K36 hK36 => ?_) ?_
  · -- the piece
    refine c_region ?_
    have B39 := (B18.keep u33 (fun h => h))
    refine t_loadN (vs := [.int .i64 v.st.lo, .int .i64 v.st.hi, .slice ao ((v.runs).length) cap, .int .i64 v.len, .int .i64 v.wid]) Try.isAgg48 Try.sizeOf48 rfl rfl rfl (B39.at.sub 0 5) rfl ?_
    refine t_call (vs := [.agg #[.int .i64 v.st.lo, .int .i64 v.st.hi, .slice ao ((v.runs).length) cap, .int .i64 v.len, .int .i64 v.wid]]) own67 rfl rfl rfl rfl (first_c v ao b o cap _ (hs.keep E34 (fun _ h => h)) hv.pos) (fun v40 w41 r43 => ?_)
    obtain ⟨rfl, u42⟩ := r43
    have zu42 := u42.size
    have E44 := E34.next u42 (fun _ _ h => h.elim)
    refine t_move rfl rfl rfl ?_
    refine t_cmp rfl rfl rfl rfl rfl ?_
    refine t_move rfl rfl rfl ?_
    refine t_splitp 25 rfl (fun g25 => ?_) (fun g25 => ?_)
    · -- .bool (decide ((frst v) < (n.to + (((v.len + 100) - 1) / 100))))
      have B45 := (B39.keep u42 (fun h => h))
      refine t_loadN (vs := [.int .i64 v.st.lo, .int .i64 v.st.hi, .slice ao ((v.runs).length) cap, .int .i64 v.len, .int .i64 v.wid]) Try.isAgg48 Try.sizeOf48 rfl rfl rfl (B45.at.sub 0 5) rfl ?_
      refine t_call (vs := [.agg #[.int .i64 v.st.lo, .int .i64 v.st.hi, .slice ao ((v.runs).length) cap, .int .i64 v.len, .int .i64 v.wid]]) own102 rfl rfl rfl rfl (last_c v ao b o cap _ (hs.keep E44 (fun _ h => h)) hv.pos (by have := hv.few; omega)) (fun v46 w47 r49 => ?_)
      obtain ⟨rfl, u48⟩ := r49
      have zu48 := u48.size
      have E50 := E44.next u48 (fun _ _ h => h.elim)
      refine t_move rfl rfl rfl ?_
      refine t_cmp rfl rfl rfl rfl rfl ?_
      refine t_pick_t rfl rfl rfl rfl ?_
      refine t_assign rfl rfl rfl ?_
      refine t_nil' ?_
      exact hK36 () _ _ ⟨rfl, rfl, rfl, rfl, rfl, rfl, rfl, (by exact congrArg some (by simp [nearD, g25, tail])), trivial⟩ (((Upd.refl _ _).next u42 (fun _ _ h => h.elim)).next u48 (fun _ _ h => h.elim))
    · -- not .bool (decide ((frst v) < (n.to + (((v.len + 100) - 1) / 100))))
      refine t_skip rfl rfl rfl ?_
      refine t_skip rfl rfl rfl ?_
      refine t_skip rfl rfl rfl ?_
      refine t_skip rfl rfl rfl ?_
      refine t_pick_f rfl rfl rfl rfl ?_
      refine t_assign rfl rfl rfl ?_
      refine t_nil' ?_
      exact hK36 () _ _ ⟨rfl, rfl, rfl, rfl, rfl, rfl, rfl, (by exact congrArg some (by simp [nearD, g25, tail])), trivial⟩ ((Upd.refl _ _).next u42 (fun _ _ h => h.elim))
  · -- what follows
    intro _x w37 u38
    have zu38 := u38.size
    have E51 := E34.next u38 (fun _ _ h => h.elim)
    refine c_cut (γ := Unit) (fun _x => [(2, .pointer (some ⟨bk2, 0, none⟩)), (4, .pointer (some ⟨bk12, 0, none⟩)), (5, .int .i64 0), (7, .int .i64 (entP v n)), (8, .int .i64 (leaP v n)), (9, .bool (near v n))]) (fun _x w => Upd (fun _ => False) w37 w) (fun K53 hK53 => ?_) ?_
    · -- the piece
      refine c_seq fun K56 hK56 => ?_
      refine WC.weak [(2, .pointer (some ⟨bk2, 0, none⟩)), (3, .pointer (some ⟨bk7, 0, none⟩)), (4, .pointer (some ⟨bk12, 0, none⟩)), (5, .int .i64 0), (6, .int .i64 (((v.len + 100) - 1) / 100)), (7, .int .i64 n.frm), (8, .int .i64 (n.to + (((v.len + 100) - 1) / 100))), (9, .bool (nearD v n))] ⟨rfl, rfl, rfl, rfl, rfl, rfl, rfl, rfl, trivial⟩ ?_
      refine c_drawn follows 5 [some (31, some (.agg #[.int .i64 v.st.lo, .int .i64 v.st.hi, .slice ao ((v.runs).length) cap, .int .i64 v.len, .int .i64 v.wid])), some (32, some (.int .i64 (frst v))), some (33, some (.agg #[.int .i64 v.st.lo, .int .i64 v.st.hi, .slice ao ((v.runs).length) cap, .int .i64 v.len, .int .i64 v.wid])), some (34, some (.int .i64 (lst v))), some (35, some (.bool (decide ((lst v) < (frst v)))))] [[], [0], [], [2, 1], [1, 3]] (fun _ _ w => Upd (fun _ => False) w37 w) rfl rfl rfl (by kernel_rfl) (by kernel_rfl) (Upd.drew _).to ⟨?_, ?_, ?_, ?_, ?_, trivial⟩ ?_
      · -- 0
        intro D ρ w69 hcD hnD hdD hW
        have zhW := hW.size
        have E71 := E51.next hW (fun _ _ h => h.elim)
        refine ⟨[(2, .pointer (some ⟨bk2, 0, none⟩))], ⟨.inr ⟨rfl, rfl⟩, trivial⟩, fun Lr => ?_⟩
        show WL _ _ _ _ _ _ _ ((2, .pointer (some ⟨bk2, 0, none⟩)) :: Lr) _
        have B72 := (((B18.keep u33 (fun h => h)).keep u38 (fun h => h)).keep hW (fun h => h))
        refine t_loadN (vs := [.int .i64 v.st.lo, .int .i64 v.st.hi, .slice ao ((v.runs).length) cap, .int .i64 v.len, .int .i64 v.wid]) Try.isAgg48 Try.sizeOf48 rfl rfl rfl (B72.at.sub 0 5) rfl ?_
        refine t_nil' ?_
        exact fun a ha => ⟨rfl, _, (fun v' h => by cases h; rfl), ha, hW⟩
      · -- 1
        intro D ρ w73 hcD hnD hdD hW
        have zhW := hW.size
        have E75 := E51.next hW (fun _ _ h => h.elim)
        refine ⟨[(31, .agg #[.int .i64 v.st.lo, .int .i64 v.st.hi, .slice ao ((v.runs).length) cap, .int .i64 v.len, .int .i64 v.wid])], ⟨.inl ⟨0, some (.agg #[.int .i64 v.st.lo, .int .i64 v.st.hi, .slice ao ((v.runs).length) cap, .int .i64 v.len, .int .i64 v.wid]), rfl, rfl, rfl⟩, trivial⟩, fun Lr => ?_⟩
        show WL _ _ _ _ _ _ _ ((31, .agg #[.int .i64 v.st.lo, .int .i64 v.st.hi, .slice ao ((v.runs).length) cap, .int .i64 v.len, .int .i64 v.wid]) :: Lr) _
        refine t_call (vs := [.agg #[.int .i64 v.st.lo, .int .i64 v.st.hi, .slice ao ((v.runs).length) cap, .int .i64 v.len, .int .i64 v.wid]]) own67 rfl rfl rfl rfl (first_c v ao b o cap _ (hs.keep E75 (fun _ h => h)) hv.pos) (fun v76 w77 r79 => ?_)
        obtain ⟨rfl, u78⟩ := r79
        have zu78 := u78.size
        have E80 := E75.next u78 (fun _ _ h => h.elim)
        refine t_nil' ?_
        exact fun a ha => ⟨rfl, _, (fun v' h => by cases h; rfl), ha, (hW.next u78 (fun _ _ h => h.elim))⟩
      · -- 2
        intro D ρ w81 hcD hnD hdD hW
        have zhW := hW.size
        have E83 := E51.next hW (fun _ _ h => h.elim)
        refine ⟨[(2, .pointer (some ⟨bk2, 0, none⟩))], ⟨.inr ⟨rfl, rfl⟩, trivial⟩, fun Lr => ?_⟩
        show WL _ _ _ _ _ _ _ ((2, .pointer (some ⟨bk2, 0, none⟩)) :: Lr) _
        have B84 := (((B18.keep u33 (fun h => h)).keep u38 (fun h => h)).keep hW (fun h => h))
        refine t_loadN (vs := [.int .i64 v.st.lo, .int .i64 v.st.hi, .slice ao ((v.runs).length) cap, .int .i64 v.len, .int .i64 v.wid]) Try.isAgg48 Try.sizeOf48 rfl rfl rfl (B84.at.sub 0 5) rfl ?_
        refine t_nil' ?_
        exact fun a ha => ⟨rfl, _, (fun v' h => by cases h; rfl), ha, hW⟩
      · -- 3
        intro D ρ w85 hcD hnD hdD hW
        have zhW := hW.size
        have E87 := E51.next hW (fun _ _ h => h.elim)
        refine ⟨[(33, .agg #[.int .i64 v.st.lo, .int .i64 v.st.hi, .slice ao ((v.runs).length) cap, .int .i64 v.len, .int .i64 v.wid])], ⟨.inl ⟨2, some (.agg #[.int .i64 v.st.lo, .int .i64 v.st.hi, .slice ao ((v.runs).length) cap, .int .i64 v.len, .int .i64 v.wid]), rfl, rfl, rfl⟩, trivial⟩, fun Lr => ?_⟩
        show WL _ _ _ _ _ _ _ ((33, .agg #[.int .i64 v.st.lo, .int .i64 v.st.hi, .slice ao ((v.runs).length) cap, .int .i64 v.len, .int .i64 v.wid]) :: Lr) _
        refine t_call (vs := [.agg #[.int .i64 v.st.lo, .int .i64 v.st.hi, .slice ao ((v.runs).length) cap, .int .i64 v.len, .int .i64 v.wid]]) own102 rfl rfl rfl rfl (last_c v ao b o cap _ (hs.keep E87 (fun _ h => h)) hv.pos (by have := hv.few; omega)) (fun v88 w89 r91 => ?_)
        obtain ⟨rfl, u90⟩ := r91
        have zu90 := u90.size
        have E92 := E87.next u90 (fun _ _ h => h.elim)
        refine t_nil' ?_
        exact fun a ha => ⟨rfl, _, (fun v' h => by cases h; rfl), ha, (hW.next u90 (fun _ _ h => h.elim))⟩
      · exact fun D ρ w hcD hnD hdD hW => ⟨[(32, .int .i64 (frst v)), (34, .int .i64 (lst v))], ⟨.inl ⟨1, some (.int .i64 (frst v)), rfl, rfl, rfl⟩, .inl ⟨3, some (.int .i64 (lst v)), rfl, rfl, rfl⟩, trivial⟩, fun Lr => t_cmp rfl rfl rfl rfl rfl (t_nil' fun a ha => ⟨rfl, _, (fun v' h => by cases h; rfl), ha, hW⟩)⟩
      intro ρ w93 hW
      have u94 : Upd (fun _ => False) w37 w93 := hW
      have zu94 := u94.size
      have E95 := E51.next u94 (fun _ _ h => h.elim)
      refine QK.weak [(2, .pointer (some ⟨bk2, 0, none⟩)), (3, .pointer (some ⟨bk7, 0, none⟩)), (4, .pointer (some ⟨bk12, 0, none⟩)), (5, .int .i64 0), (6, .int .i64 (((v.len + 100) - 1) / 100)), (7, .int .i64 n.frm), (8, .int .i64 (n.to + (((v.len + 100) - 1) / 100))), (9, .bool (nearD v n)), (35, .bool (decide ((lst v) < (frst v))))] ⟨rfl, rfl, rfl, rfl, rfl, rfl, rfl, rfl, rfl, trivial⟩ ?_
      refine hK56 _ _ ?_
      refine c_condp rfl (fun g35 => ?_) (fun g35 => ?_)
      · -- .bool (decide ((lst v) < (frst v)))
        refine c_seq fun K96 hK96 => ?_
        refine WC.weak [(2, .pointer (some ⟨bk2, 0, none⟩)), (3, .pointer (some ⟨bk7, 0, none⟩)), (4, .pointer (some ⟨bk12, 0, none⟩)), (5, .int .i64 0), (6, .int .i64 (((v.len + 100) - 1) / 100)), (7, .int .i64 n.frm), (8, .int .i64 (n.to + (((v.len + 100) - 1) / 100))), (9, .bool (nearD v n)), (35, .bool (decide ((lst v) < (frst v))))] ⟨rfl, rfl, rfl, rfl, rfl, rfl, rfl, rfl, rfl, trivial⟩ ?_
        refine c_drawn follows 8 [some (36, some (.pointer (some ⟨bk7, 1, none⟩))), some (37, some (.int .i64 n.to)), some (38, some (.pointer (some ⟨bk7, 0, none⟩))), some (39, some (.int .i64 n.frm)), some (40, some (.int .i64 (((v.len + 100) - 1) / 100))), some (41, some (.int .i64 (n.frm - (((v.len + 100) - 1) / 100)))), some (7, some (.int .i64 n.to)), some (8, some (.int .i64 (n.frm - (((v.len + 100) - 1) / 100))))] [[], [0], [], [2], [], [3, 4], [1, 0, 1], [5, 6, 0, 1, 2, 3, 4, 5, 6]] (fun _ _ w => Upd (fun _ => False) w93 w) rfl rfl rfl (by kernel_rfl) (by kernel_rfl) (Upd.drew _).to ⟨?_, ?_, ?_, ?_, ?_, ?_, ?_, ?_, trivial⟩ ?_
        · exact fun D ρ w hcD hnD hdD hW => ⟨[(3, .pointer (some ⟨bk7, 0, none⟩))], ⟨.inr ⟨rfl, rfl⟩, trivial⟩, fun Lr => t_field Try.underlying72 rfl Try.sizeOf3 (1) rfl rfl rfl rfl (t_nil' fun a ha => ⟨rfl, _, (fun v' h => by cases h; rfl), ha, hW⟩)⟩
        · -- 1
          intro D ρ w98 hcD hnD hdD hW
          have zhW := hW.size
          have E100 := E95.next hW (fun _ _ h => h.elim)
          refine ⟨[(36, .pointer (some ⟨bk7, 1, none⟩))], ⟨.inl ⟨0, some (.pointer (some ⟨bk7, 1, none⟩)), rfl, rfl, rfl⟩, trivial⟩, fun Lr => ?_⟩
          show WL _ _ _ _ _ _ _ ((36, .pointer (some ⟨bk7, 1, none⟩)) :: Lr) _
          have B101 := (((((B9.keep u15 (fun h => h)).keep u33 (fun h => h)).keep u38 (fun h => h)).keep u94 (fun h => h)).keep hW (fun h => h))
          refine t_load Try.isAgg3 rfl rfl rfl (B101.get rfl) ?_
          refine t_nil' ?_
          exact fun a ha => ⟨rfl, _, (fun v' h => by cases h; rfl), ha, hW⟩
        · exact fun D ρ w hcD hnD hdD hW => ⟨[(3, .pointer (some ⟨bk7, 0, none⟩))], ⟨.inr ⟨rfl, rfl⟩, trivial⟩, fun Lr => t_field Try.underlying72 rfl Try.sizeOf3 (0) rfl rfl rfl rfl (t_nil' fun a ha => ⟨rfl, _, (fun v' h => by cases h; rfl), ha, hW⟩)⟩
        · -- 3
          intro D ρ w102 hcD hnD hdD hW
          have zhW := hW.size
          have E104 := E95.next hW (fun _ _ h => h.elim)
          refine ⟨[(38, .pointer (some ⟨bk7, 0, none⟩))], ⟨.inl ⟨2, some (.pointer (some ⟨bk7, 0, none⟩)), rfl, rfl, rfl⟩, trivial⟩, fun Lr => ?_⟩
          show WL _ _ _ _ _ _ _ ((38, .pointer (some ⟨bk7, 0, none⟩)) :: Lr) _
          have B105 := (((((B9.keep u15 (fun h => h)).keep u33 (fun h => h)).keep u38 (fun h => h)).keep u94 (fun h => h)).keep hW (fun h => h))
          refine t_load Try.isAgg3 rfl rfl rfl (B105.get rfl) ?_
          refine t_nil' ?_
          exact fun a ha => ⟨rfl, _, (fun v' h => by cases h; rfl), ha, hW⟩
        · exact fun D ρ w hcD hnD hdD hW => ⟨[(6, .int .i64 (((v.len + 100) - 1) / 100))], ⟨.inr ⟨rfl, rfl⟩, trivial⟩, fun Lr => t_move rfl rfl rfl (t_nil' fun a ha => ⟨rfl, _, (fun v' h => by cases h; rfl), ha, hW⟩)⟩
        · -- 5
          intro D ρ w106 hcD hnD hdD hW
          have zhW := hW.size
          have E108 := E95.next hW (fun _ _ h => h.elim)
          refine ⟨[(39, .int .i64 n.frm), (40, .int .i64 (((v.len + 100) - 1) / 100))], ⟨.inl ⟨3, some (.int .i64 n.frm), rfl, rfl, rfl⟩, .inl ⟨4, some (.int .i64 (((v.len + 100) - 1) / 100)), rfl, rfl, rfl⟩, trivial⟩, fun Lr => ?_⟩
          show WL _ _ _ _ _ _ _ ((39, .int .i64 n.frm) :: (40, .int .i64 (((v.len + 100) - 1) / 100)) :: Lr) _
          refine t_ari rfl rfl rfl rfl rfl (by omega) ?_
          refine t_nil' ?_
          exact fun a ha => ⟨rfl, _, (fun v' h => by cases h; rfl), ha, hW⟩
        · exact fun D ρ w hcD hnD hdD hW => ⟨[(37, .int .i64 n.to)], ⟨.inl ⟨1, some (.int .i64 n.to), rfl, rfl, rfl⟩, trivial⟩, fun Lr => t_assign rfl rfl rfl (t_nil' fun a ha => ⟨rfl, _, (fun v' h => by cases h; rfl), ha, hW⟩)⟩
        · exact fun D ρ w hcD hnD hdD hW => ⟨[(41, .int .i64 (n.frm - (((v.len + 100) - 1) / 100)))], ⟨.inl ⟨5, some (.int .i64 (n.frm - (((v.len + 100) - 1) / 100))), rfl, rfl, rfl⟩, trivial⟩, fun Lr => t_assign rfl rfl rfl (t_nil' fun a ha => ⟨rfl, _, (fun v' h => by cases h; rfl), ha, hW⟩)⟩
        intro ρ w109 hW
        have u110 : Upd (fun _ => False) w93 w109 := hW
        have zu110 := u110.size
        have E111 := E95.next u110 (fun _ _ h => h.elim)
        refine QK.weak [(2, .pointer (some ⟨bk2, 0, none⟩)), (4, .pointer (some ⟨bk12, 0, none⟩)), (5, .int .i64 0), (7, .int .i64 n.to), (8, .int .i64 (n.frm - (((v.len + 100) - 1) / 100))), (9, .bool (nearD v n))] ⟨rfl, rfl, rfl, rfl, rfl, rfl, trivial⟩ ?_
        refine hK96 _ _ ?_
        refine c_region ?_
        have B112 := ((((B18.keep u33 (fun h => h)).keep u38 (fun h => h)).keep u94 (fun h => h)).keep u110 (fun h => h))
        refine t_loadN (vs := [.int .i64 v.st.lo, .int .i64 v.st.hi, .slice ao ((v.runs).length) cap, .int .i64 v.len, .int .i64 v.wid]) Try.isAgg48 Try.sizeOf48 rfl rfl rfl (B112.at.sub 0 5) rfl ?_
        refine t_call (vs := [.agg #[.int .i64 v.st.lo, .int .i64 v.st.hi, .slice ao ((v.runs).length) cap, .int .i64 v.len, .int .i64 v.wid]]) own67 rfl rfl rfl rfl (first_c v ao b o cap _ (hs.keep E111 (fun _ h => h)) hv.pos) (fun v113 w114 r116 => ?_)
        obtain ⟨rfl, u115⟩ := r116
        have zu115 := u115.size
        have E117 := E111.next u115 (fun _ _ h => h.elim)
        refine t_move rfl rfl rfl ?_
        refine t_cmp rfl rfl rfl rfl rfl ?_
        refine t_move rfl rfl rfl ?_
        refine t_splitp 46 rfl (fun g46 => ?_) (fun g46 => ?_)
        · -- .bool (decide ((n.frm - (((v.len + 100) - 1) / 100)) < (frst v)))
          have B118 := (B112.keep u115 (fun h => h))
          refine t_loadN (vs := [.int .i64 v.st.lo, .int .i64 v.st.hi, .slice ao ((v.runs).length) cap, .int .i64 v.len, .int .i64 v.wid]) Try.isAgg48 Try.sizeOf48 rfl rfl rfl (B118.at.sub 0 5) rfl ?_
          refine t_call (vs := [.agg #[.int .i64 v.st.lo, .int .i64 v.st.hi, .slice ao ((v.runs).length) cap, .int .i64 v.len, .int .i64 v.wid]]) own102 rfl rfl rfl rfl (last_c v ao b o cap _ (hs.keep E117 (fun _ h => h)) hv.pos (by have := hv.few; omega)) (fun v119 w120 r122 => ?_)
          obtain ⟨rfl, u121⟩ := r122
          have zu121 := u121.size
          have E123 := E117.next u121 (fun _ _ h => h.elim)
          refine t_move rfl rfl rfl ?_
          refine t_cmp rfl rfl rfl rfl rfl ?_
          refine t_pick_t rfl rfl rfl rfl ?_
          refine t_assign rfl rfl rfl ?_
          refine t_nil' ?_
          exact hK53 () _ _ ⟨rfl, rfl, rfl, (by exact congrArg some (by simp [entP, g35])), (by exact congrArg some (by simp [leaP, g35, tail])), (by exact congrArg some (by simp [near, nearU, g35, g46, tail])), trivial⟩ (((((Upd.refl _ _).next u94 (fun _ _ h => h.elim)).next u110 (fun _ _ h => h.elim)).next u115 (fun _ _ h => h.elim)).next u121 (fun _ _ h => h.elim))
        · -- not .bool (decide ((n.frm - (((v.len + 100) - 1) / 100)) < (frst v)))
          refine t_skip rfl rfl rfl ?_
          refine t_skip rfl rfl rfl ?_
          refine t_skip rfl rfl rfl ?_
          refine t_skip rfl rfl rfl ?_
          refine t_pick_f rfl rfl rfl rfl ?_
          refine t_assign rfl rfl rfl ?_
          refine t_nil' ?_
          exact hK53 () _ _ ⟨rfl, rfl, rfl, (by exact congrArg some (by simp [entP, g35])), (by exact congrArg some (by simp [leaP, g35, tail])), (by exact congrArg some (by simp [near, nearU, g35, g46, tail])), trivial⟩ ((((Upd.refl _ _).next u94 (fun _ _ h => h.elim)).next u110 (fun _ _ h => h.elim)).next u115 (fun _ _ h => h.elim))
      · -- not .bool (decide ((lst v) < (frst v)))
        refine c_skip ?_
        exact hK53 () _ _ ⟨rfl, rfl, rfl, (by exact congrArg some (by simp [entP, g35])), (by exact congrArg some (by simp [leaP, g35, tail])), (by exact congrArg some (by simp [near, g35])), trivial⟩ ((Upd.refl _ _).next u94 (fun _ _ h => h.elim))
    · -- what follows
      intro _x w54 u55
      have zu55 := u55.size
      have E124 := E51.next u55 (fun _ _ h => h.elim)
      have he : 0 ≤ entP v n ∧ entP v n ≤ 100000 := by unfold entP; split <;> omega
      have hq : -100000 ≤ leaP v n ∧ leaP v n ≤ 1000000 := by unfold leaP tail; split <;> omega
      refine c_seq fun K125 hK125 => ?_
      refine c_block ?_
      refine c_seq fun K126 hK126 => ?_
      refine c_region ?_
      refine t_move rfl rfl rfl ?_
      refine t_not rfl rfl rfl ?_
      refine t_assign rfl rfl rfl ?_
      refine t_nil' ?_
      refine hK126 _ _ ?_
      refine c_cond rfl (fun g52 => ?_) (fun g52 => ?_)
      · -- .bool (!(near v n))
        refine c_seq fun K127 hK127 => ?_
        refine c_region ?_
        have B128 := (((B14.keep u33 (fun h => h)).keep u38 (fun h => h)).keep u55 (fun h => h))
        refine t_loadN (vs := [.int .i64 0, .int .i64 0, .int .i64 0, .int .i64 0, .bool false]) Try.isAgg141 Try.sizeOf141 rfl rfl rfl (B128.at.sub 0 5) rfl ?_
        refine t_store (vs := [.int .i64 0, .int .i64 0, .int .i64 0, .int .i64 0, .bool false]) Try.sizeOf141 rfl rfl rfl B128 rfl rfl (Nat.le_of_ble_eq_true rfl) (by simp [Value.oneCell']) (fun w129 sw129 B131 u130 => ?_)
        have zu130 := u130.size
        have E132 := E124.next u130 (fun i hi (h : i = bk12) => show False by first | omega | assumption)
        have B131 : Blk w129 bk12 141 [.int .i64 0, .int .i64 0, .int .i64 0, .int .i64 0, .bool false] := B131
        refine t_assign rfl rfl rfl ?_
        refine t_nil' ?_
        refine hK127 _ _ ?_
        refine c_ret ?_
        refine f_ret2 (v1 := .agg #[.int .i64 0, .int .i64 0, .int .i64 0, .int .i64 0, .bool false]) (v2 := .int .i64 0) Try.results77 ⟨_, _, rfl, run_loadVarN (vs := [.int .i64 0, .int .i64 0, .int .i64 0, .int .i64 0, .bool false]) Try.isAgg141 Try.sizeOf141 rfl (B131.at.sub 0 5)⟩ rfl ?_
        exact ⟨by simp_all [thrE, thrS], E132⟩
      · -- not .bool (!(near v n))
        refine c_seq fun K133 hK133 => ?_
        refine c_region ?_
        have B134 := (((B18.keep u33 (fun h => h)).keep u38 (fun h => h)).keep u55 (fun h => h))
        refine t_loadN (vs := [.int .i64 v.st.lo, .int .i64 v.st.hi, .slice ao ((v.runs).length) cap, .int .i64 v.len, .int .i64 v.wid]) Try.isAgg48 Try.sizeOf48 rfl rfl rfl (B134.at.sub 0 5) rfl ?_
        refine t_move rfl rfl rfl ?_
        refine t_move rfl rfl rfl ?_
        refine t_bslice (ps := [(0, .int .i64 (entP v n)), (1, .int .i64 (leaP v n))]) (cs := [.int .i64 (entP v n), .int .i64 (leaP v n)]) (e := 3) rfl rfl ⟨rfl, rfl⟩ (fun w => by kernel_rfl) (fun bk135 w136 ebk135 sbk135 B137 u138 => ?_)
        have zu138 := u138.size
        have E139 := E124.next u138 (fun _ _ h => h.elim)
        refine t_call (vs := [.agg #[.int .i64 v.st.lo, .int .i64 v.st.hi, .slice ao ((v.runs).length) cap, .int .i64 v.len, .int .i64 v.wid], .slice (some ⟨bk135, 0, none⟩) 2 2]) own69 rfl rfl rfl rfl (isOn_c v ao b o cap [(entP v n), (leaP v n)] _ _ 0 _ _ (hs.keep E139 (fun _ h => h)) hv.pos (by have := hv.few; omega) (SlI.own (xs := [(entP v n), (leaP v n)]) B137) (by simp)) (fun v140 w141 r143 => ?_)
        obtain ⟨rfl, u142⟩ := r143
        have zu142 := u142.size
        have E144 := E139.next u142 (fun _ _ h => h.elim)
        refine t_not rfl rfl rfl ?_
        refine t_assign rfl rfl rfl ?_
        refine t_nil' ?_
        refine hK133 _ _ ?_
        refine c_cond rfl (fun g56 => ?_) (fun g56 => ?_)
        · -- .bool (!(onWay v [(entP v n), (leaP v n)]))
          refine c_seq fun K145 hK145 => ?_
          refine c_region ?_
          have B146 := (((((B14.keep u33 (fun h => h)).keep u38 (fun h => h)).keep u55 (fun h => h)).keep u138 (fun h => h)).keep u142 (fun h => h))
          refine t_loadN (vs := [.int .i64 0, .int .i64 0, .int .i64 0, .int .i64 0, .bool false]) Try.isAgg141 Try.sizeOf141 rfl rfl rfl (B146.at.sub 0 5) rfl ?_
          refine t_store (vs := [.int .i64 0, .int .i64 0, .int .i64 0, .int .i64 0, .bool false]) Try.sizeOf141 rfl rfl rfl B146 rfl rfl (Nat.le_of_ble_eq_true rfl) (by simp [Value.oneCell']) (fun w147 sw147 B149 u148 => ?_)
          have zu148 := u148.size
          have E150 := E144.next u148 (fun i hi (h : i = bk12) => show False by first | omega | assumption)
          have B149 : Blk w147 bk12 141 [.int .i64 0, .int .i64 0, .int .i64 0, .int .i64 0, .bool false] := B149
          refine t_assign rfl rfl rfl ?_
          refine t_nil' ?_
          refine hK145 _ _ ?_
          refine c_ret ?_
          refine f_ret2 (v1 := .agg #[.int .i64 0, .int .i64 0, .int .i64 0, .int .i64 0, .bool false]) (v2 := .int .i64 9) Try.results77 ⟨_, _, rfl, run_loadVarN (vs := [.int .i64 0, .int .i64 0, .int .i64 0, .int .i64 0, .bool false]) Try.isAgg141 Try.sizeOf141 rfl (B149.at.sub 0 5)⟩ rfl ?_
          exact ⟨by simp_all [thrE, thrS], E150⟩
        · -- not .bool (!(onWay v [(entP v n), (leaP v n)]))
          refine c_skip ?_
          refine hK125 _ _ ?_
          refine c_seq fun K151 hK151 => ?_
          have B164 := (((((B14.keep u33 (fun h => h)).keep u38 (fun h => h)).keep u55 (fun h => h)).keep u138 (fun h => h)).keep u142 (fun h => h))
          refine WC.weak [(2, .pointer (some ⟨bk2, 0, none⟩)), (4, .pointer (some ⟨bk12, 0, none⟩)), (5, .int .i64 0), (7, .int .i64 (entP v n)), (8, .int .i64 (leaP v n)), (9, .bool (near v n)), (52, .bool (!(near v n))), (53, .bool (near v n)), (54, .bool (!(near v n))), (56, .bool (!(onWay v [(entP v n), (leaP v n)]))), (57, .agg #[.int .i64 v.st.lo, .int .i64 v.st.hi, .slice ao ((v.runs).length) cap, .int .i64 v.len, .int .i64 v.wid]), (58, .int .i64 (entP v n)), (59, .int .i64 (leaP v n)), (60, .slice (some ⟨bk135, 0, none⟩) 2 2), (61, .bool (onWay v [(entP v n), (leaP v n)])), (62, .bool (!(onWay v [(entP v n), (leaP v n)])))] ⟨rfl, rfl, rfl, rfl, rfl, rfl, rfl, rfl, rfl, rfl, rfl, rfl, rfl, rfl, rfl, rfl, trivial⟩ ?_
          refine c_drawn follows 9 [some (64, some (.agg #[.int .i64 v.st.lo, .int .i64 v.st.hi, .slice ao ((v.runs).length) cap, .int .i64 v.len, .int .i64 v.wid])), some (65, some (.int .i64 (entP v n))), some (66, some (.agg #[.int .i64 ((arr v (entP v n)).lo), .int .i64 ((arr v (entP v n)).hi)])), some (67, some (.agg #[.int .i64 v.st.lo, .int .i64 v.st.hi, .slice ao ((v.runs).length) cap, .int .i64 v.len, .int .i64 v.wid])), some (68, some (.int .i64 (leaP v n))), some (69, some (.agg #[.int .i64 ((arr v (leaP v n)).lo), .int .i64 ((arr v (leaP v n)).hi)])), some (70, some (.agg #[.int .i64 ((arr v (entP v n)).lo), .int .i64 ((arr v (entP v n)).hi), .int .i64 ((arr v (leaP v n)).lo), .int .i64 ((arr v (leaP v n)).hi), .bool true])), none, some (5, some (.int .i64 0))] [[], [], [0, 1], [], [], [3, 4, 2], [2, 5], [6, 5, 0, 1, 2, 3, 4, 5, 6], [7, 0, 1, 2, 3, 4, 5, 6, 7]] (fun D _ w => Upd (fun i => i = bk12) w141 w ∧ Blk w bk12 141 [(bif D 7 then .int .i64 ((arr v (entP v n)).lo) else .int .i64 0), (bif D 7 then .int .i64 ((arr v (entP v n)).hi) else .int .i64 0), (bif D 7 then .int .i64 ((arr v (leaP v n)).lo) else .int .i64 0), (bif D 7 then .int .i64 ((arr v (leaP v n)).hi) else .int .i64 0), (bif D 7 then .bool true else .bool false)]) rfl rfl rfl (by kernel_rfl) (by kernel_rfl) ⟨(Upd.drew _).to, (B164.keep (Upd.drew _) (fun h => h))⟩ ⟨?_, ?_, ?_, ?_, ?_, ?_, ?_, ?_, ?_, trivial⟩ ?_
          · -- 0
            intro D ρ w165 hcD hnD hdD hW
            obtain ⟨u166, B167⟩ := hW
            have zu166 := u166.size
            have E168 := E144.next u166 (fun i hi (h : i = bk12) => show False by first | omega | assumption)
            have d7 := hcD.late 7 hnD rfl
            have B169 := B167
            simp only [d7, cond_true, cond_false] at B169
            refine ⟨[(2, .pointer (some ⟨bk2, 0, none⟩))], ⟨.inr ⟨rfl, rfl⟩, trivial⟩, fun Lr => ?_⟩
            show WL _ _ _ _ _ _ _ ((2, .pointer (some ⟨bk2, 0, none⟩)) :: Lr) _
            have B170 := (((B134.keep u138 (fun h => h)).keep u142 (fun h => h)).keep u166 (show ¬ (bk2 = bk12) by first | omega | assumption))
            refine t_loadN (vs := [.int .i64 v.st.lo, .int .i64 v.st.hi, .slice ao ((v.runs).length) cap, .int .i64 v.len, .int .i64 v.wid]) Try.isAgg48 Try.sizeOf48 rfl rfl rfl (B170.at.sub 0 5) rfl ?_
            refine t_nil' ?_
            exact fun a ha => ⟨rfl, _, (fun v' h => by cases h; rfl), ha, ⟨u166, B167⟩⟩
          · exact fun D ρ w hcD hnD hdD hW => ⟨[(7, .int .i64 (entP v n))], ⟨.inr ⟨rfl, rfl⟩, trivial⟩, fun Lr => t_move rfl rfl rfl (t_nil' fun a ha => ⟨rfl, _, (fun v' h => by cases h; rfl), ha, hW⟩)⟩
          · -- 2
            intro D ρ w171 hcD hnD hdD hW
            obtain ⟨u172, B173⟩ := hW
            have zu172 := u172.size
            have E174 := E144.next u172 (fun i hi (h : i = bk12) => show False by first | omega | assumption)
            have d7 := hcD.late 7 hnD rfl
            have B175 := B173
            simp only [d7, cond_true, cond_false] at B175
            refine ⟨[(64, .agg #[.int .i64 v.st.lo, .int .i64 v.st.hi, .slice ao ((v.runs).length) cap, .int .i64 v.len, .int .i64 v.wid]), (65, .int .i64 (entP v n))], ⟨.inl ⟨0, some (.agg #[.int .i64 v.st.lo, .int .i64 v.st.hi, .slice ao ((v.runs).length) cap, .int .i64 v.len, .int .i64 v.wid]), rfl, rfl, rfl⟩, .inl ⟨1, some (.int .i64 (entP v n)), rfl, rfl, rfl⟩, trivial⟩, fun Lr => ?_⟩
            show WL _ _ _ _ _ _ _ ((64, .agg #[.int .i64 v.st.lo, .int .i64 v.st.hi, .slice ao ((v.runs).length) cap, .int .i64 v.len, .int .i64 v.wid]) :: (65, .int .i64 (entP v n)) :: Lr) _
            refine t_call (vs := [.agg #[.int .i64 v.st.lo, .int .i64 v.st.hi, .slice ao ((v.runs).length) cap, .int .i64 v.len, .int .i64 v.wid], .int .i64 (entP v n)]) own70 rfl rfl rfl rfl (arrive_c v ao b o cap (entP v n) _ (hs.keep E174 (fun _ h => h)) hv.few hv.run hv.st (by omega)) (fun v176 w177 r179 => ?_)
            obtain ⟨rfl, u178⟩ := r179
            have zu178 := u178.size
            have E180 := E174.next u178 (fun _ _ h => h.elim)
            refine t_nil' ?_
            exact fun a ha => ⟨rfl, _, (fun v' h => by cases h; rfl), ha, ⟨(u172.next u178 (fun _ _ h => h.elim)), (B173.keep u178 (fun h => h))⟩⟩
          · -- 3
            intro D ρ w181 hcD hnD hdD hW
            obtain ⟨u182, B183⟩ := hW
            have zu182 := u182.size
            have E184 := E144.next u182 (fun i hi (h : i = bk12) => show False by first | omega | assumption)
            have d7 := hcD.late 7 hnD rfl
            have B185 := B183
            simp only [d7, cond_true, cond_false] at B185
            refine ⟨[(2, .pointer (some ⟨bk2, 0, none⟩))], ⟨.inr ⟨rfl, rfl⟩, trivial⟩, fun Lr => ?_⟩
            show WL _ _ _ _ _ _ _ ((2, .pointer (some ⟨bk2, 0, none⟩)) :: Lr) _
            have B186 := (((B134.keep u138 (fun h => h)).keep u142 (fun h => h)).keep u182 (show ¬ (bk2 = bk12) by first | omega | assumption))
            refine t_loadN (vs := [.int .i64 v.st.lo, .int .i64 v.st.hi, .slice ao ((v.runs).length) cap, .int .i64 v.len, .int .i64 v.wid]) Try.isAgg48 Try.sizeOf48 rfl rfl rfl (B186.at.sub 0 5) rfl ?_
            refine t_nil' ?_
            exact fun a ha => ⟨rfl, _, (fun v' h => by cases h; rfl), ha, ⟨u182, B183⟩⟩
          · exact fun D ρ w hcD hnD hdD hW => ⟨[(8, .int .i64 (leaP v n))], ⟨.inr ⟨rfl, rfl⟩, trivial⟩, fun Lr => t_move rfl rfl rfl (t_nil' fun a ha => ⟨rfl, _, (fun v' h => by cases h; rfl), ha, hW⟩)⟩
          · -- 5
            intro D ρ w187 hcD hnD hdD hW
            obtain ⟨u188, B189⟩ := hW
            have zu188 := u188.size
            have E190 := E144.next u188 (fun i hi (h : i = bk12) => show False by first | omega | assumption)
            have d7 := hcD.late 7 hnD rfl
            have B191 := B189
            simp only [d7, cond_true, cond_false] at B191
            refine ⟨[(67, .agg #[.int .i64 v.st.lo, .int .i64 v.st.hi, .slice ao ((v.runs).length) cap, .int .i64 v.len, .int .i64 v.wid]), (68, .int .i64 (leaP v n))], ⟨.inl ⟨3, some (.agg #[.int .i64 v.st.lo, .int .i64 v.st.hi, .slice ao ((v.runs).length) cap, .int .i64 v.len, .int .i64 v.wid]), rfl, rfl, rfl⟩, .inl ⟨4, some (.int .i64 (leaP v n)), rfl, rfl, rfl⟩, trivial⟩, fun Lr => ?_⟩
            show WL _ _ _ _ _ _ _ ((67, .agg #[.int .i64 v.st.lo, .int .i64 v.st.hi, .slice ao ((v.runs).length) cap, .int .i64 v.len, .int .i64 v.wid]) :: (68, .int .i64 (leaP v n)) :: Lr) _
            refine t_call (vs := [.agg #[.int .i64 v.st.lo, .int .i64 v.st.hi, .slice ao ((v.runs).length) cap, .int .i64 v.len, .int .i64 v.wid], .int .i64 (leaP v n)]) own70 rfl rfl rfl rfl (arrive_c v ao b o cap (leaP v n) _ (hs.keep E190 (fun _ h => h)) hv.few hv.run hv.st (by omega)) (fun v192 w193 r195 => ?_)
            obtain ⟨rfl, u194⟩ := r195
            have zu194 := u194.size
            have E196 := E190.next u194 (fun _ _ h => h.elim)
            refine t_nil' ?_
            exact fun a ha => ⟨rfl, _, (fun v' h => by cases h; rfl), ha, ⟨(u188.next u194 (fun _ _ h => h.elim)), (B189.keep u194 (fun h => h))⟩⟩
          · exact fun D ρ w hcD hnD hdD hW => ⟨[(66, .agg #[.int .i64 ((arr v (entP v n)).lo), .int .i64 ((arr v (entP v n)).hi)]), (69, .agg #[.int .i64 ((arr v (leaP v n)).lo), .int .i64 ((arr v (leaP v n)).hi)])], ⟨.inl ⟨2, some (.agg #[.int .i64 ((arr v (entP v n)).lo), .int .i64 ((arr v (entP v n)).hi)]), rfl, rfl, rfl⟩, .inl ⟨5, some (.agg #[.int .i64 ((arr v (leaP v n)).lo), .int .i64 ((arr v (leaP v n)).hi)]), rfl, rfl, rfl⟩, trivial⟩, fun Lr => t_build (ps := [(0, .agg #[.int .i64 ((arr v (entP v n)).lo), .int .i64 ((arr v (entP v n)).hi)]), (1, .agg #[.int .i64 ((arr v (leaP v n)).lo), .int .i64 ((arr v (leaP v n)).hi)]), (2, .bool true)]) (v := .agg #[.int .i64 ((arr v (entP v n)).lo), .int .i64 ((arr v (entP v n)).hi), .int .i64 ((arr v (leaP v n)).lo), .int .i64 ((arr v (leaP v n)).hi), .bool true]) rfl rfl ⟨rfl, rfl⟩ (fun w => by kernel_rfl) (t_nil' fun a ha => ⟨rfl, _, (fun v' h => by cases h; rfl), ha, hW⟩)⟩
          · -- 7
            intro D ρ w197 hcD hnD hdD hW
            obtain ⟨u198, B199⟩ := hW
            have zu198 := u198.size
            have E200 := E144.next u198 (fun i hi (h : i = bk12) => show False by first | omega | assumption)
            have B201 := B199
            simp only [hnD, cond_true, cond_false] at B201
            refine ⟨[(4, .pointer (some ⟨bk12, 0, none⟩)), (70, .agg #[.int .i64 ((arr v (entP v n)).lo), .int .i64 ((arr v (entP v n)).hi), .int .i64 ((arr v (leaP v n)).lo), .int .i64 ((arr v (leaP v n)).hi), .bool true])], ⟨.inr ⟨rfl, rfl⟩, .inl ⟨6, some (.agg #[.int .i64 ((arr v (entP v n)).lo), .int .i64 ((arr v (entP v n)).hi), .int .i64 ((arr v (leaP v n)).lo), .int .i64 ((arr v (leaP v n)).hi), .bool true]), rfl, rfl, rfl⟩, trivial⟩, fun Lr => ?_⟩
            show WL _ _ _ _ _ _ _ ((4, .pointer (some ⟨bk12, 0, none⟩)) :: (70, .agg #[.int .i64 ((arr v (entP v n)).lo), .int .i64 ((arr v (entP v n)).hi), .int .i64 ((arr v (leaP v n)).lo), .int .i64 ((arr v (leaP v n)).hi), .bool true]) :: Lr) _
            refine t_store (vs := [.int .i64 ((arr v (entP v n)).lo), .int .i64 ((arr v (entP v n)).hi), .int .i64 ((arr v (leaP v n)).lo), .int .i64 ((arr v (leaP v n)).hi), .bool true]) Try.sizeOf141 rfl rfl rfl B201 rfl rfl (Nat.le_of_ble_eq_true rfl) (by simp [Value.oneCell']) (fun w202 sw202 B204 u203 => ?_)
            have zu203 := u203.size
            have E205 := E200.next u203 (fun i hi (h : i = bk12) => show False by first | omega | assumption)
            have B204 : Blk w202 bk12 141 [.int .i64 ((arr v (entP v n)).lo), .int .i64 ((arr v (entP v n)).hi), .int .i64 ((arr v (leaP v n)).lo), .int .i64 ((arr v (leaP v n)).hi), .bool true] := B204
            refine t_nil' ?_
            exact fun a ha => ⟨rfl, ha, ⟨(u198.next u203 (fun i hi (h : i = bk12) => show i = bk12 by first | omega | assumption)), (by show Blk w202 bk12 141 [.int .i64 ((arr v (entP v n)).lo), .int .i64 ((arr v (entP v n)).hi), .int .i64 ((arr v (leaP v n)).lo), .int .i64 ((arr v (leaP v n)).hi), .bool true]; exact B204)⟩⟩
          · exact fun D ρ w hcD hnD hdD hW => ⟨[], trivial, fun Lr => t_assign rfl rfl rfl (t_nil' fun a ha => ⟨rfl, _, (fun v' h => by cases h; rfl), ha, hW⟩)⟩
          intro ρ w206 hW
          obtain ⟨u207, B208⟩ := hW
          have zu207 := u207.size
          have E209 := E144.next u207 (fun i hi (h : i = bk12) => show False by first | omega | assumption)
          have B208 : Blk w206 bk12 141 [.int .i64 ((arr v (entP v n)).lo), .int .i64 ((arr v (entP v n)).hi), .int .i64 ((arr v (leaP v n)).lo), .int .i64 ((arr v (leaP v n)).hi), .bool true] := B208
          refine QK.weak [(4, .pointer (some ⟨bk12, 0, none⟩)), (5, .int .i64 0)] ⟨rfl, rfl, trivial⟩ ?_
          refine hK151 _ _ ?_
          refine c_ret ?_
          refine f_ret2 (v1 := .agg #[.int .i64 ((arr v (entP v n)).lo), .int .i64 ((arr v (entP v n)).hi), .int .i64 ((arr v (leaP v n)).lo), .int .i64 ((arr v (leaP v n)).hi), .bool true]) (v2 := .int .i64 0) Try.results77 ⟨_, _, rfl, run_loadVarN (vs := [.int .i64 ((arr v (entP v n)).lo), .int .i64 ((arr v (entP v n)).hi), .int .i64 ((arr v (leaP v n)).lo), .int .i64 ((arr v (leaP v n)).hi), .bool true]) Try.isAgg141 Try.sizeOf141 rfl (B208.at.sub 0 5)⟩ rfl ?_
          exact ⟨by simp_all [thrE, thrS], E209⟩

end Go.Proofs.Ytmicjleiheoieaa
