/-
  Contracts of the functions on arrivals, narrows and meetings. Conditions: none.
-/
import Derived.Test.YtmicjleiheoieaaA2
namespace Go.Proofs.Ytmicjleiheoieaa
open Go Go.RowKit
/-- A run whose numbers are in range. -/
def rngRun (r : Run) : Prop := (0 ≤ r.frm ∧ r.frm ≤ 100000) ∧ (0 ≤ r.to ∧ r.to ≤ 100000) ∧ (1 ≤ r.sp.lo ∧ r.sp.lo ≤ 400) ∧ (1 ≤ r.sp.hi ∧ r.sp.hi ≤ 400) ∧ (0 ≤ r.wt.lo ∧ r.wt.lo ≤ 5000) ∧ (0 ≤ r.wt.hi ∧ r.wt.hi ≤ 5000)
def wayTo (r : Run) (p : Int) : Int := if max (p - r.frm) (-(p - r.frm)) < max (r.to - r.frm) (-(r.to - r.frm)) then p - r.frm else r.to - r.frm
def arrGo (p : Int) : List Run → Bnd → Bnd
  | [], t => t
  | r :: rs, t => if r.frm = p then t else
    if r.frm + wayTo r p = p then ⟨t.lo + (r.wt.lo + tak (wayTo r p) r.sp.hi), t.hi + (r.wt.hi + tak (wayTo r p) r.sp.lo)⟩
    else arrGo p rs ⟨t.lo + (r.wt.lo + tak (wayTo r p) r.sp.hi), t.hi + (r.wt.hi + tak (wayTo r p) r.sp.lo)⟩
def arr (v : Voy) (p : Int) : Bnd := arrGo p v.runs v.st
theorem tak_rng {a s : Int} (h : max a (-a) ≤ 100000) (h1 : 1 ≤ s) (h2 : s ≤ 400) : 0 ≤ tak a s ∧ tak a s ≤ 6000400 := by
  unfold tak
  have h0 : 0 ≤ max a (-a) := by omega
  constructor
  · exact Int.ediv_nonneg (by omega) (by omega)
  · exact Int.le_trans (Int.ediv_le_self _ (by omega)) (by omega)
theorem wayTo_rng {r : Run} {p : Int} (h : rngRun r) : max (wayTo r p) (-(wayTo r p)) ≤ 100000 := by
  obtain ⟨h1, h2, _⟩ := h
  unfold wayTo
  split <;> omega
theorem arr_here {p : Int} {rs : List Run} {k : Nat} {t u : Bnd} (hi : u = arrGo p (rs.drop k) t) (h : k < rs.length) (hb : (nth rs k).frm = p) : u = t := by
  rw [hi, drop_nth h]; simp [arrGo, hb]
theorem arr_stop {p : Int} {rs : List Run} {k : Nat} {t u : Bnd} (hi : u = arrGo p (rs.drop k) t) (h : k < rs.length) (hb : ¬ (nth rs k).frm = p) (hc : (nth rs k).frm + wayTo (nth rs k) p = p) :
    u = ⟨t.lo + ((nth rs k).wt.lo + tak (wayTo (nth rs k) p) (nth rs k).sp.hi), t.hi + ((nth rs k).wt.hi + tak (wayTo (nth rs k) p) (nth rs k).sp.lo)⟩ := by
  rw [hi, drop_nth h]; simp [arrGo, hb, hc]
theorem arr_next {p : Int} {rs : List Run} {k : Nat} {t u : Bnd} (hi : u = arrGo p (rs.drop k) t) (h : k < rs.length) (hb : ¬ (nth rs k).frm = p) (hc : ¬ (nth rs k).frm + wayTo (nth rs k) p = p) :
    u = arrGo p (rs.drop (k + 1)) ⟨t.lo + ((nth rs k).wt.lo + tak (wayTo (nth rs k) p) (nth rs k).sp.hi), t.hi + ((nth rs k).wt.hi + tak (wayTo (nth rs k) p) (nth rs k).sp.lo)⟩ := by
  rw [hi, drop_nth h]; simp [arrGo, hb, hc]
theorem arr_end {p : Int} {rs : List Run} {k : Nat} {t u : Bnd} (hi : u = arrGo p (rs.drop k) t) (h : rs.length ≤ k) : u = t := by
  rw [hi, List.drop_eq_nil_of_le h]; rfl

theorem arrive_c (v : Voy) (ao : Option Addr) (b o cap : Nat) (p : Int) (w0 : World) (hs : Sl encRun 6 w0 ao b o v.runs) (hl : v.runs.length ≤ 1000) (hrun : ∀ r ∈ v.runs, rngRun r) (hst : (-1000000000 ≤ v.st.lo ∧ v.st.lo ≤ 1000000000) ∧ (-1000000000 ≤ v.st.hi ∧ v.st.hi ≤ 1000000000)) (hpl : -10000000 ≤ p ∧ p ≤ 10000000) :
    CallsV Try.prog 70 [.agg #[.int .i64 v.st.lo, .int .i64 v.st.hi, .slice ao ((v.runs).length) cap, .int .i64 v.len, .int .i64 v.wid], .int .i64 p] w0 (fun x w' => x = .agg #[.int .i64 (arr v p).lo, .int .i64 (arr v p).hi] ∧ Ext w0 w') := by
 have E0 := Upd.refl (fun _ => False) w0
 refine f_enter (N := 76) Try.func70 rfl rfl rfl ?_
 change WC _ _ _ _ _ _ [(0, .agg #[.int .i64 v.st.lo, .int .i64 v.st.hi, .slice ao ((v.runs).length) cap, .int .i64 v.len, .int .i64 v.wid]), (1, .int .i64 p)] _
 refine c_seq fun K1 hK1 => (c_region (t_box (cs := [.int .i64 v.st.lo, .int .i64 v.st.hi, .slice ao ((v.runs).length) cap, .int .i64 v.len, .int .i64 v.wid]) rfl rfl rfl rfl (fun bk2 w3 ebk2 sbk2 B4 u5 => ?_)))
 have zu5 := u5.size
 have E6 := E0.next u5 (fun _ _ h => h.elim)
 refine t_alloc (cs := [.int .i64 0, .int .i64 0]) Try.zeroValue45 rfl rfl rfl (fun bk7 w8 ebk7 sbk7 B9 u10 => ?_)
 have zu10 := u10.size
 have E11 := E6.next u10 (fun _ _ h => h.elim)
 refine t_nil' (hK1 _ _ (c_seq fun K12 hK12 => (c_region (t_field Try.underlying48 rfl Try.sizeOf45 (0) rfl rfl rfl rfl ?_))))
 have B13 := (B4.keep u10 (fun h => h))
 refine t_loadN (vs := [.int .i64 v.st.lo, .int .i64 v.st.hi]) Try.isAgg45 Try.sizeOf45 rfl rfl rfl (B13.at.sub 0 2) rfl (t_alloc (cs := [.int .i64 0, .int .i64 0]) Try.zeroValue45 rfl rfl rfl (fun bk14 w15 ebk14 sbk14 B16 u17 => ?_))
 have zu17 := u17.size
 have E18 := E11.next u17 (fun _ _ h => h.elim)
 refine t_store (vs := [.int .i64 v.st.lo, .int .i64 v.st.hi]) Try.sizeOf45 rfl rfl rfl B16 rfl rfl (Nat.le_of_ble_eq_true rfl) (by simp [Value.oneCell']) (fun w19 sw19 B21 u20 => ?_)
 have zu20 := u20.size
 have E22 := E18.next u20 (fun i hi (h : i = bk14) => show False by first | omega | assumption)
 have B21 : Blk w19 bk14 45 [.int .i64 v.st.lo, .int .i64 v.st.hi] := B21
 refine t_nil' (hK12 _ _ (c_seq fun K23 hK23 => (c_seq fun K24 hK24 => (c_region (t_field Try.underlying48 rfl Try.sizeOf46 (2) rfl rfl rfl rfl ?_)))))
 have B25 := ((B13.keep u17 (fun h => h)).keep u20 (show ¬ (bk2 = bk14) by first | omega | assumption))
 refine t_load Try.isAgg46 rfl rfl rfl (B25.get rfl) (t_len Try.underlying46 rfl rfl rfl rfl (t_move rfl rfl rfl (t_nil' (hK24 _ _ (c_block (c_loop (γ := Nat × Bnd) (fun gg => [(1, .int .i64 p), (4, .pointer (some ⟨bk7, 0, none⟩)), (5, .pointer (some ⟨bk14, 0, none⟩)), (13, .slice ao ((v.runs).length) cap), (14, .int .i64 ((v.runs).length : Int)), (15, .int .i64 (gg.1 : Int))]) (fun gg w => Upd (fun i => i = bk14) w19 w ∧ Blk w bk14 45 [.int .i64 gg.2.lo, .int .i64 gg.2.hi] ∧ (gg.1 ≤ v.runs.length) ∧ (arr v p = arrGo p (v.runs.drop gg.1) gg.2) ∧ (-1000000000 ≤ gg.2.lo ∧ gg.2.lo ≤ 1000000000 + 6005400 * (gg.1 : Int)) ∧ (-1000000000 ≤ gg.2.hi ∧ gg.2.hi ≤ 1000000000 + 6005400 * (gg.1 : Int))) (fun gg => v.runs.length - gg.1) (0, v.st) ⟨rfl, rfl, rfl, rfl, rfl, rfl, trivial⟩ ⟨Upd.refl _ _, B21, Nat.zero_le _, rfl, (by simp only []; omega), (by simp only []; omega)⟩ ?_))))))
 intro gg w27 hW K26 hK26
 obtain ⟨k, t⟩ := gg
 change WC _ _ _ _ _ _ [(1, .int .i64 p), (4, .pointer (some ⟨bk7, 0, none⟩)), (5, .pointer (some ⟨bk14, 0, none⟩)), (13, .slice ao ((v.runs).length) cap), (14, .int .i64 ((v.runs).length : Int)), (15, .int .i64 (k : Int))] _
 change Upd (fun i => i = bk14) w19 w27 ∧ Blk w27 bk14 45 [.int .i64 t.lo, .int .i64 t.hi] ∧ (k ≤ v.runs.length) ∧ (arr v p = arrGo p (v.runs.drop k) t) ∧ (-1000000000 ≤ t.lo ∧ t.lo ≤ 1000000000 + 6005400 * (k : Int)) ∧ (-1000000000 ≤ t.hi ∧ t.hi ≤ 1000000000 + 6005400 * (k : Int)) at hW
 obtain ⟨u28, I29, I30, I31, I32, I33⟩ := hW
 have zu28 := u28.size
 have E34 := E22.next u28 (fun i hi (h : i = bk14) => show False by first | omega | assumption)
 have hle := I30; clear I30
 have hinv := I31; clear I31
 have hlo := I32; clear I32
 have hhi := I33; clear I33
 refine c_seq fun K35 hK35 => (c_region (t_cmp rfl rfl rfl rfl rfl (t_nil' (hK35 _ _ (c_seq fun K36 hK36 => (c_condp rfl (fun g16 => ?_) (fun g16 => ?_)))))))
 ·
  refine c_skip (hK36 _ _ (c_seq fun K37 hK37 => (c_block (c_seq fun K38 hK38 => (c_region ?_)))))
  have i39 : k < v.runs.length := (by omega)
  refine t_index (j := k) Try.underlying46 Try.sizeOf59 rfl rfl rfl rfl ((hs.keep E34 (fun _ h => h)).addr (by omega)) rfl i39 (t_loadN (vs := [.int .i64 ((nth v.runs k).frm), .int .i64 ((nth v.runs k).to), .int .i64 ((nth v.runs k).sp.lo), .int .i64 ((nth v.runs k).sp.hi), .int .i64 ((nth v.runs k).wt.lo), .int .i64 ((nth v.runs k).wt.hi)]) Try.isAgg59 Try.sizeOf59 rfl rfl rfl (((hs.keep E34 (fun _ h => h)).at_ k (by omega)).sub 0 6) rfl ?_)
  obtain ⟨y1, y2, y3, y4, y5, y6⟩ := hrun _ (nth_mem (xs := v.runs) (i := k) (by omega))
  refine t_alloc (cs := [.int .i64 0, .int .i64 0, .int .i64 0, .int .i64 0, .int .i64 0, .int .i64 0]) Try.zeroValue59 rfl rfl rfl (fun bk40 w41 ebk40 sbk40 B42 u43 => ?_)
  have zu43 := u43.size
  have E44 := E34.next u43 (fun _ _ h => h.elim)
  refine t_store (vs := [.int .i64 ((nth v.runs k).frm), .int .i64 ((nth v.runs k).to), .int .i64 ((nth v.runs k).sp.lo), .int .i64 ((nth v.runs k).sp.hi), .int .i64 ((nth v.runs k).wt.lo), .int .i64 ((nth v.runs k).wt.hi)]) Try.sizeOf59 rfl rfl rfl B42 rfl rfl (Nat.le_of_ble_eq_true rfl) (by simp [Value.oneCell']) (fun w45 sw45 B47 u46 => ?_)
  have zu46 := u46.size
  have E48 := E44.next u46 (fun i hi (h : i = bk40) => show False by first | omega | assumption)
  have B47 : Blk w45 bk40 59 [.int .i64 ((nth v.runs k).frm), .int .i64 ((nth v.runs k).to), .int .i64 ((nth v.runs k).sp.lo), .int .i64 ((nth v.runs k).sp.hi), .int .i64 ((nth v.runs k).wt.lo), .int .i64 ((nth v.runs k).wt.hi)] := B47
  refine t_nil' (hK38 _ _ (c_seq fun K49 hK49 => (c_seq fun K50 hK50 => (c_region (t_field Try.underlying59 rfl Try.sizeOf3 (0) rfl rfl rfl rfl (t_load Try.isAgg3 rfl rfl rfl (B47.get rfl) (t_move rfl rfl rfl (t_cmp rfl rfl rfl rfl rfl (t_nil' (hK50 _ _ (c_condp rfl (fun g22 => ?_) (fun g22 => ?_))))))))))))
  ·
   refine c_exit (hK23 _ _ (c_seq fun K51 hK51 => (c_region ?_)))
   have B52 := ((I29.keep u43 (fun h => h)).keep u46 (show ¬ (bk14 = bk40) by first | omega | assumption))
   refine t_loadN (vs := [.int .i64 t.lo, .int .i64 t.hi]) Try.isAgg45 Try.sizeOf45 rfl rfl rfl (B52.at.sub 0 2) rfl ?_
   have B53 := (((((B9.keep u17 (fun h => h)).keep u20 (show ¬ (bk7 = bk14) by first | omega | assumption)).keep u28 (show ¬ (bk7 = bk14) by first | omega | assumption)).keep u43 (fun h => h)).keep u46 (show ¬ (bk7 = bk40) by first | omega | assumption))
   refine t_store (vs := [.int .i64 t.lo, .int .i64 t.hi]) Try.sizeOf45 rfl rfl rfl B53 rfl rfl (Nat.le_of_ble_eq_true rfl) (by simp [Value.oneCell']) (fun w54 sw54 B56 u55 => ?_)
   have zu55 := u55.size
   have E57 := E48.next u55 (fun i hi (h : i = bk7) => show False by first | omega | assumption)
   have B56 : Blk w54 bk7 45 [.int .i64 t.lo, .int .i64 t.hi] := B56
   refine t_nil' (hK51 _ _ (c_ret (f_ret1 (v := .agg #[.int .i64 t.lo, .int .i64 t.hi]) Try.results70 ⟨_, _, rfl, run_loadVarN (vs := [.int .i64 t.lo, .int .i64 t.hi]) Try.isAgg45 Try.sizeOf45 rfl (B56.at.sub 0 2)⟩ ?_)))
   exact ⟨by rw [arr_here hinv (by omega) g22], E57⟩
  ·
   refine c_skip (hK49 _ _ (c_seq fun K58 hK58 => (c_region (t_field Try.underlying59 rfl Try.sizeOf3 (1) rfl rfl rfl rfl (t_load Try.isAgg3 rfl rfl rfl (B47.get rfl) (t_field Try.underlying59 rfl Try.sizeOf3 (0) rfl rfl rfl rfl (t_load Try.isAgg3 rfl rfl rfl (B47.get rfl) (t_ari rfl rfl rfl rfl rfl (by omega) (t_assign rfl rfl rfl (t_nil' (hK58 _ _ (c_cut (γ := Unit) (fun _x => [(1, .int .i64 p), (4, .pointer (some ⟨bk7, 0, none⟩)), (5, .pointer (some ⟨bk14, 0, none⟩)), (7, .pointer (some ⟨bk40, 0, none⟩)), (8, .int .i64 (wayTo (nth v.runs k) p)), (13, .slice ao ((v.runs).length) cap), (14, .int .i64 ((v.runs).length : Int)), (15, .int .i64 (k : Int))]) (fun _x w => Upd (fun _ => False) w45 w) (fun K60 hK60 => ?_) ?_))))))))))))
   ·
    refine c_seq fun K63 hK63 => (c_region (t_move rfl rfl rfl (t_field Try.underlying59 rfl Try.sizeOf3 (0) rfl rfl rfl rfl (t_load Try.isAgg3 rfl rfl rfl (B47.get rfl) (t_ari rfl rfl rfl rfl rfl (by omega) (t_assign rfl rfl rfl (t_nil' (hK63 _ _ (c_seq fun K64 hK64 => (c_region (t_move rfl rfl rfl (t_move rfl rfl rfl (t_neg rfl rfl rfl (by omega) (t_max rfl rfl rfl rfl (t_move rfl rfl rfl (t_move rfl rfl rfl (t_neg rfl rfl rfl (by omega) (t_max rfl rfl rfl rfl (t_cmp rfl rfl rfl rfl rfl (t_nil' (hK64 _ _ (c_condp rfl (fun g40 => ?_) (fun g40 => ?_)))))))))))))))))))))))
    ·
     refine c_region (t_move rfl rfl rfl (t_assign rfl rfl rfl (t_nil' ?_)))
     exact hK60 () _ _ ⟨rfl, rfl, rfl, rfl, (by exact congrArg some (by simp [wayTo, g40])), rfl, rfl, rfl, trivial⟩ (Upd.refl _ _)
    ·
     refine c_skip ?_
     exact hK60 () _ _ ⟨rfl, rfl, rfl, rfl, (by exact congrArg some (by simp [wayTo, g40])), rfl, rfl, rfl, trivial⟩ (Upd.refl _ _)
   ·
    intro _x w61 u62
    have zu62 := u62.size
    have E65 := E48.next u62 (fun _ _ h => h.elim)
    have hr := hrun _ (nth_mem (xs := v.runs) (i := k) (by omega))
    have hw := wayTo_rng (p := p) hr
    obtain ⟨r1, r2, r3, r4, r5, r6⟩ := hr
    have q1 := tak_rng hw r4.1 r4.2
    have q2 := tak_rng hw r3.1 r3.2
    have q3 : v.runs.length ≤ 1000 := hl
    refine c_seq fun K66 hK66 => ?_
    have B67 := (((I29.keep u43 (fun h => h)).keep u46 (show ¬ (bk14 = bk40) by first | omega | assumption)).keep u62 (fun h => h))
    have B68 := (B47.keep u62 (fun h => h))
    refine WC.weak [(1, .int .i64 p), (4, .pointer (some ⟨bk7, 0, none⟩)), (5, .pointer (some ⟨bk14, 0, none⟩)), (7, .pointer (some ⟨bk40, 0, none⟩)), (8, .int .i64 (wayTo (nth v.runs k) p)), (13, .slice ao ((v.runs).length) cap), (14, .int .i64 ((v.runs).length : Int)), (15, .int .i64 (k : Int))] ⟨rfl, rfl, rfl, rfl, rfl, rfl, rfl, rfl, trivial⟩ (c_drawn follows 14 [some (42, some (.pointer (some ⟨bk14, 0, none⟩))), some (43, some (.int .i64 t.lo)), some (44, some (.pointer (some ⟨bk40, 4, none⟩))), some (45, some (.pointer (some ⟨bk40, 4, none⟩))), some (46, some (.int .i64 ((nth v.runs k).wt.lo))), some (47, some (.int .i64 (wayTo (nth v.runs k) p))), some (48, some (.pointer (some ⟨bk40, 2, none⟩))), some (49, some (.pointer (some ⟨bk40, 3, none⟩))), some (50, some (.int .i64 ((nth v.runs k).sp.hi))), some (51, some (.int .i64 (tak (wayTo (nth v.runs k) p) ((nth v.runs k).sp.hi)))), some (52, some (.int .i64 ((nth v.runs k).wt.lo + (tak (wayTo (nth v.runs k) p) ((nth v.runs k).sp.hi))))), some (53, some (.int .i64 (t.lo + ((nth v.runs k).wt.lo + (tak (wayTo (nth v.runs k) p) ((nth v.runs k).sp.hi)))))), some (54, some (.pointer (some ⟨bk14, 0, none⟩))), none] [[],[0],[],[2],[3],[],[],[6],[7],[5,8],[4,9],[1,10],[0,1,2,3,4,5,6,7,8,9,10,11],[12,11,9,0,1,2,3,4,5,6,7,8,9,10,11]] (fun D _ w => Upd (fun i => i = bk14) w61 w ∧ Blk w bk14 45 [(bif D 13 then .int .i64 (t.lo + ((nth v.runs k).wt.lo + (tak (wayTo (nth v.runs k) p) ((nth v.runs k).sp.hi)))) else .int .i64 t.lo), .int .i64 t.hi]) rfl rfl rfl (by kernel_rfl) (by kernel_rfl) ⟨(Upd.drew _).to, (B67.keep (Upd.drew _) (fun h => h))⟩ ⟨?_, ?_, ?_, ?_, ?_, ?_, ?_, ?_, ?_, ?_, ?_, ?_, ?_, ?_, trivial⟩ ?_)
    · exact pzf Try.underlying45 rfl Try.sizeOf3 (0) rfl rfl rfl rfl rfl fun _ _ _ h => h
    ·
     intro D ρ w74 hcD hnD hdD hW
     obtain ⟨u75, B76⟩ := hW
     have zu75 := u75.size
     have d13 := hcD.late 13 hnD rfl
     have B78 := B76
     simp only [d13, cond_false] at B78
     refine ⟨_, kf_fr [42], fun Lr => ?_⟩
     refine t_load Try.isAgg3 rfl rfl rfl (B78.get rfl) ?_
     exact dz rfl ⟨u75, B76⟩
    · exact pzf Try.underlying59 rfl Try.sizeOf45 (4) rfl rfl rfl rfl rfl fun _ _ _ h => h
    · exact pzf Try.underlying45 rfl Try.sizeOf3 (4) rfl rfl rfl rfl rfl fun _ _ _ h => h
    ·
     intro D ρ w79 hcD hnD hdD hW
     obtain ⟨u80, B81⟩ := hW
     have zu80 := u80.size
     have d13 := hcD.late 13 hnD rfl
     have B83 := B81
     simp only [d13, cond_false] at B83
     refine ⟨_, kf_fr [45], fun Lr => ?_⟩
     have B84 := (B68.keep u80 (show ¬ (bk40 = bk14) by first | omega | assumption))
     refine t_load Try.isAgg3 rfl rfl rfl (B84.get rfl) ?_
     exact dz rfl ⟨u80, B81⟩
    · exact pz rfl rfl rfl rfl fun _ _ _ h => h
    · exact pzf Try.underlying59 rfl Try.sizeOf45 (2) rfl rfl rfl rfl rfl fun _ _ _ h => h
    · exact pzf Try.underlying45 rfl Try.sizeOf3 (3) rfl rfl rfl rfl rfl fun _ _ _ h => h
    ·
     intro D ρ w85 hcD hnD hdD hW
     obtain ⟨u86, B87⟩ := hW
     have zu86 := u86.size
     have d13 := hcD.late 13 hnD rfl
     have B89 := B87
     simp only [d13, cond_false] at B89
     refine ⟨_, kf_fr [49], fun Lr => ?_⟩
     have B90 := (B68.keep u86 (show ¬ (bk40 = bk14) by first | omega | assumption))
     refine t_load Try.isAgg3 rfl rfl rfl (B90.get rfl) ?_
     exact dz rfl ⟨u86, B87⟩
    ·
     intro D ρ w91 hcD hnD hdD hW
     obtain ⟨u92, B93⟩ := hW
     have zu92 := u92.size
     have d13 := hcD.late 13 hnD rfl
     have B95 := B93
     simp only [d13, cond_false] at B95
     refine ⟨_, kf_fr [47, 50], fun Lr => ?_⟩
     refine t_call (vs := [.int .i64 (wayTo (nth v.runs k) p), .int .i64 ((nth v.runs k).sp.hi)]) own103 rfl rfl rfl rfl (take_c (wayTo (nth v.runs k) p) ((nth v.runs k).sp.hi) _ (by omega) (by omega)) (fun v96 w97 r99 => ?_)
     obtain ⟨rfl, u98⟩ := r99
     have zu98 := u98.size
     exact dz rfl ⟨(u92.next u98 (fun _ _ h => h.elim)), (B93.keep u98 (fun h => h))⟩
    ·
     intro D ρ w101 hcD hnD hdD hW
     obtain ⟨u102, B103⟩ := hW
     have zu102 := u102.size
     have d13 := hcD.late 13 hnD rfl
     have B105 := B103
     simp only [d13, cond_false] at B105
     refine ⟨_, kf_fr [46, 51], fun Lr => ?_⟩
     refine t_ari rfl rfl rfl rfl rfl (by omega) ?_
     exact dz rfl ⟨u102, B103⟩
    ·
     intro D ρ w106 hcD hnD hdD hW
     obtain ⟨u107, B108⟩ := hW
     have zu107 := u107.size
     have d13 := hcD.late 13 hnD rfl
     have B110 := B108
     simp only [d13, cond_false] at B110
     refine ⟨_, kf_fr [43, 52], fun Lr => ?_⟩
     refine t_ari rfl rfl rfl rfl rfl (by omega) ?_
     exact dz rfl ⟨u107, B108⟩
    · exact pzf Try.underlying45 rfl Try.sizeOf3 (0) rfl rfl rfl rfl rfl fun _ _ _ h => h
    ·
     intro D ρ w111 hcD hnD hdD hW
     obtain ⟨u112, B113⟩ := hW
     have zu112 := u112.size
     have B115 := B113
     simp only [hnD, cond_false] at B115
     refine ⟨_, kf_fr [53, 54], fun Lr => ?_⟩
     refine t_store (vs := [.int .i64 (t.lo + ((nth v.runs k).wt.lo + (tak (wayTo (nth v.runs k) p) ((nth v.runs k).sp.hi))))]) Try.sizeOf3 rfl rfl rfl B115 rfl rfl (Nat.le_of_ble_eq_true rfl) (by simp [Value.oneCell']) (fun w116 sw116 B118 u117 => ?_)
     have zu117 := u117.size
     have B118 : Blk w116 bk14 45 [.int .i64 (t.lo + ((nth v.runs k).wt.lo + (tak (wayTo (nth v.runs k) p) ((nth v.runs k).sp.hi)))), .int .i64 t.hi] := B118
     exact dz0 rfl ⟨(u112.next u117 (fun i hi (h : i = bk14) => show i = bk14 by first | omega | assumption)), (by show Blk w116 bk14 45 [.int .i64 (t.lo + ((nth v.runs k).wt.lo + (tak (wayTo (nth v.runs k) p) ((nth v.runs k).sp.hi)))), .int .i64 t.hi]; exact B118)⟩
    intro ρ w120 hW
    obtain ⟨u121, B122⟩ := hW
    have zu121 := u121.size
    have E123 := E65.next u121 (fun i hi (h : i = bk14) => show False by first | omega | assumption)
    have B122 : Blk w120 bk14 45 [.int .i64 (t.lo + ((nth v.runs k).wt.lo + (tak (wayTo (nth v.runs k) p) ((nth v.runs k).sp.hi)))), .int .i64 t.hi] := B122
    refine QK.weak [(1, .int .i64 p), (4, .pointer (some ⟨bk7, 0, none⟩)), (5, .pointer (some ⟨bk14, 0, none⟩)), (7, .pointer (some ⟨bk40, 0, none⟩)), (8, .int .i64 (wayTo (nth v.runs k) p)), (13, .slice ao ((v.runs).length) cap), (14, .int .i64 ((v.runs).length : Int)), (15, .int .i64 (k : Int))] ⟨rfl, rfl, rfl, rfl, rfl, rfl, rfl, rfl, trivial⟩ (hK66 _ _ (c_seq fun K124 hK124 => ?_))
    have B125 := (B68.keep u121 (show ¬ (bk40 = bk14) by first | omega | assumption))
    refine WC.weak [(1, .int .i64 p), (4, .pointer (some ⟨bk7, 0, none⟩)), (5, .pointer (some ⟨bk14, 0, none⟩)), (7, .pointer (some ⟨bk40, 0, none⟩)), (8, .int .i64 (wayTo (nth v.runs k) p)), (13, .slice ao ((v.runs).length) cap), (14, .int .i64 ((v.runs).length : Int)), (15, .int .i64 (k : Int))] ⟨rfl, rfl, rfl, rfl, rfl, rfl, rfl, rfl, trivial⟩ (c_drawn follows 14 [some (55, some (.pointer (some ⟨bk14, 1, none⟩))), some (56, some (.int .i64 t.hi)), some (57, some (.pointer (some ⟨bk40, 4, none⟩))), some (58, some (.pointer (some ⟨bk40, 5, none⟩))), some (59, some (.int .i64 ((nth v.runs k).wt.hi))), some (60, some (.int .i64 (wayTo (nth v.runs k) p))), some (61, some (.pointer (some ⟨bk40, 2, none⟩))), some (62, some (.pointer (some ⟨bk40, 2, none⟩))), some (63, some (.int .i64 ((nth v.runs k).sp.lo))), some (64, some (.int .i64 (tak (wayTo (nth v.runs k) p) ((nth v.runs k).sp.lo)))), some (65, some (.int .i64 ((nth v.runs k).wt.hi + (tak (wayTo (nth v.runs k) p) ((nth v.runs k).sp.lo))))), some (66, some (.int .i64 (t.hi + ((nth v.runs k).wt.hi + (tak (wayTo (nth v.runs k) p) ((nth v.runs k).sp.lo)))))), some (67, some (.pointer (some ⟨bk14, 1, none⟩))), none] [[],[0],[],[2],[3],[],[],[6],[7],[5,8],[4,9],[1,10],[0,1,2,3,4,5,6,7,8,9,10,11],[12,11,9,0,1,2,3,4,5,6,7,8,9,10,11]] (fun D _ w => Upd (fun i => i = bk14) w120 w ∧ Blk w bk14 45 [.int .i64 (t.lo + ((nth v.runs k).wt.lo + (tak (wayTo (nth v.runs k) p) ((nth v.runs k).sp.hi)))), (bif D 13 then .int .i64 (t.hi + ((nth v.runs k).wt.hi + (tak (wayTo (nth v.runs k) p) ((nth v.runs k).sp.lo)))) else .int .i64 t.hi)]) rfl rfl rfl (by kernel_rfl) (by kernel_rfl) ⟨(Upd.drew _).to, (B122.keep (Upd.drew _) (fun h => h))⟩ ⟨?_, ?_, ?_, ?_, ?_, ?_, ?_, ?_, ?_, ?_, ?_, ?_, ?_, ?_, trivial⟩ ?_)
    · exact pzf Try.underlying45 rfl Try.sizeOf3 (1) rfl rfl rfl rfl rfl fun _ _ _ h => h
    ·
     intro D ρ w131 hcD hnD hdD hW
     obtain ⟨u132, B133⟩ := hW
     have zu132 := u132.size
     have d13 := hcD.late 13 hnD rfl
     have B135 := B133
     simp only [d13, cond_false] at B135
     refine ⟨_, kf_fr [55], fun Lr => ?_⟩
     refine t_load Try.isAgg3 rfl rfl rfl (B135.get rfl) ?_
     exact dz rfl ⟨u132, B133⟩
    · exact pzf Try.underlying59 rfl Try.sizeOf45 (4) rfl rfl rfl rfl rfl fun _ _ _ h => h
    · exact pzf Try.underlying45 rfl Try.sizeOf3 (5) rfl rfl rfl rfl rfl fun _ _ _ h => h
    ·
     intro D ρ w136 hcD hnD hdD hW
     obtain ⟨u137, B138⟩ := hW
     have zu137 := u137.size
     have d13 := hcD.late 13 hnD rfl
     have B140 := B138
     simp only [d13, cond_false] at B140
     refine ⟨_, kf_fr [58], fun Lr => ?_⟩
     have B141 := (B125.keep u137 (show ¬ (bk40 = bk14) by first | omega | assumption))
     refine t_load Try.isAgg3 rfl rfl rfl (B141.get rfl) ?_
     exact dz rfl ⟨u137, B138⟩
    · exact pz rfl rfl rfl rfl fun _ _ _ h => h
    · exact pzf Try.underlying59 rfl Try.sizeOf45 (2) rfl rfl rfl rfl rfl fun _ _ _ h => h
    · exact pzf Try.underlying45 rfl Try.sizeOf3 (2) rfl rfl rfl rfl rfl fun _ _ _ h => h
    ·
     intro D ρ w142 hcD hnD hdD hW
     obtain ⟨u143, B144⟩ := hW
     have zu143 := u143.size
     have d13 := hcD.late 13 hnD rfl
     have B146 := B144
     simp only [d13, cond_false] at B146
     refine ⟨_, kf_fr [62], fun Lr => ?_⟩
     have B147 := (B125.keep u143 (show ¬ (bk40 = bk14) by first | omega | assumption))
     refine t_load Try.isAgg3 rfl rfl rfl (B147.get rfl) ?_
     exact dz rfl ⟨u143, B144⟩
    ·
     intro D ρ w148 hcD hnD hdD hW
     obtain ⟨u149, B150⟩ := hW
     have zu149 := u149.size
     have d13 := hcD.late 13 hnD rfl
     have B152 := B150
     simp only [d13, cond_false] at B152
     refine ⟨_, kf_fr [60, 63], fun Lr => ?_⟩
     refine t_call (vs := [.int .i64 (wayTo (nth v.runs k) p), .int .i64 ((nth v.runs k).sp.lo)]) own103 rfl rfl rfl rfl (take_c (wayTo (nth v.runs k) p) ((nth v.runs k).sp.lo) _ (by omega) (by omega)) (fun v153 w154 r156 => ?_)
     obtain ⟨rfl, u155⟩ := r156
     have zu155 := u155.size
     exact dz rfl ⟨(u149.next u155 (fun _ _ h => h.elim)), (B150.keep u155 (fun h => h))⟩
    ·
     intro D ρ w158 hcD hnD hdD hW
     obtain ⟨u159, B160⟩ := hW
     have zu159 := u159.size
     have d13 := hcD.late 13 hnD rfl
     have B162 := B160
     simp only [d13, cond_false] at B162
     refine ⟨_, kf_fr [59, 64], fun Lr => ?_⟩
     refine t_ari rfl rfl rfl rfl rfl (by omega) ?_
     exact dz rfl ⟨u159, B160⟩
    ·
     intro D ρ w163 hcD hnD hdD hW
     obtain ⟨u164, B165⟩ := hW
     have zu164 := u164.size
     have d13 := hcD.late 13 hnD rfl
     have B167 := B165
     simp only [d13, cond_false] at B167
     refine ⟨_, kf_fr [56, 65], fun Lr => ?_⟩
     refine t_ari rfl rfl rfl rfl rfl (by omega) ?_
     exact dz rfl ⟨u164, B165⟩
    · exact pzf Try.underlying45 rfl Try.sizeOf3 (1) rfl rfl rfl rfl rfl fun _ _ _ h => h
    ·
     intro D ρ w168 hcD hnD hdD hW
     obtain ⟨u169, B170⟩ := hW
     have zu169 := u169.size
     have B172 := B170
     simp only [hnD, cond_false] at B172
     refine ⟨_, kf_fr [66, 67], fun Lr => ?_⟩
     refine t_store (vs := [.int .i64 (t.hi + ((nth v.runs k).wt.hi + (tak (wayTo (nth v.runs k) p) ((nth v.runs k).sp.lo))))]) Try.sizeOf3 rfl rfl rfl B172 rfl rfl (Nat.le_of_ble_eq_true rfl) (by simp [Value.oneCell']) (fun w173 sw173 B175 u174 => ?_)
     have zu174 := u174.size
     have B175 : Blk w173 bk14 45 [.int .i64 (t.lo + ((nth v.runs k).wt.lo + (tak (wayTo (nth v.runs k) p) ((nth v.runs k).sp.hi)))), .int .i64 (t.hi + ((nth v.runs k).wt.hi + (tak (wayTo (nth v.runs k) p) ((nth v.runs k).sp.lo))))] := B175
     exact dz0 rfl ⟨(u169.next u174 (fun i hi (h : i = bk14) => show i = bk14 by first | omega | assumption)), (by show Blk w173 bk14 45 [.int .i64 (t.lo + ((nth v.runs k).wt.lo + (tak (wayTo (nth v.runs k) p) ((nth v.runs k).sp.hi)))), .int .i64 (t.hi + ((nth v.runs k).wt.hi + (tak (wayTo (nth v.runs k) p) ((nth v.runs k).sp.lo))))]; exact B175)⟩
    intro ρ w177 hW
    obtain ⟨u178, B179⟩ := hW
    have zu178 := u178.size
    have E180 := E123.next u178 (fun i hi (h : i = bk14) => show False by first | omega | assumption)
    have B179 : Blk w177 bk14 45 [.int .i64 (t.lo + ((nth v.runs k).wt.lo + (tak (wayTo (nth v.runs k) p) ((nth v.runs k).sp.hi)))), .int .i64 (t.hi + ((nth v.runs k).wt.hi + (tak (wayTo (nth v.runs k) p) ((nth v.runs k).sp.lo))))] := B179
    refine QK.weak [(1, .int .i64 p), (4, .pointer (some ⟨bk7, 0, none⟩)), (5, .pointer (some ⟨bk14, 0, none⟩)), (7, .pointer (some ⟨bk40, 0, none⟩)), (8, .int .i64 (wayTo (nth v.runs k) p)), (13, .slice ao ((v.runs).length) cap), (14, .int .i64 ((v.runs).length : Int)), (15, .int .i64 (k : Int))] ⟨rfl, rfl, rfl, rfl, rfl, rfl, rfl, rfl, trivial⟩ (hK124 _ _ (c_seq fun K181 hK181 => (c_region (t_field Try.underlying59 rfl Try.sizeOf3 (0) rfl rfl rfl rfl ?_))))
    have B182 := (B125.keep u178 (show ¬ (bk40 = bk14) by first | omega | assumption))
    refine t_load Try.isAgg3 rfl rfl rfl (B182.get rfl) (t_move rfl rfl rfl (t_ari rfl rfl rfl rfl rfl (by omega) (t_move rfl rfl rfl (t_cmp rfl rfl rfl rfl rfl (t_nil' (hK181 _ _ (c_condp rfl (fun g73 => ?_) (fun g73 => ?_))))))))
    ·
     refine c_exit (hK23 _ _ (c_seq fun K183 hK183 => (c_region (t_loadN (vs := [.int .i64 (t.lo + ((nth v.runs k).wt.lo + (tak (wayTo (nth v.runs k) p) ((nth v.runs k).sp.hi)))), .int .i64 (t.hi + ((nth v.runs k).wt.hi + (tak (wayTo (nth v.runs k) p) ((nth v.runs k).sp.lo))))]) Try.isAgg45 Try.sizeOf45 rfl rfl rfl (B179.at.sub 0 2) rfl ?_))))
     have B184 := ((((((((B9.keep u17 (fun h => h)).keep u20 (show ¬ (bk7 = bk14) by first | omega | assumption)).keep u28 (show ¬ (bk7 = bk14) by first | omega | assumption)).keep u43 (fun h => h)).keep u46 (show ¬ (bk7 = bk40) by first | omega | assumption)).keep u62 (fun h => h)).keep u121 (show ¬ (bk7 = bk14) by first | omega | assumption)).keep u178 (show ¬ (bk7 = bk14) by first | omega | assumption))
     refine t_store (vs := [.int .i64 (t.lo + ((nth v.runs k).wt.lo + (tak (wayTo (nth v.runs k) p) ((nth v.runs k).sp.hi)))), .int .i64 (t.hi + ((nth v.runs k).wt.hi + (tak (wayTo (nth v.runs k) p) ((nth v.runs k).sp.lo))))]) Try.sizeOf45 rfl rfl rfl B184 rfl rfl (Nat.le_of_ble_eq_true rfl) (by simp [Value.oneCell']) (fun w185 sw185 B187 u186 => ?_)
     have zu186 := u186.size
     have E188 := E180.next u186 (fun i hi (h : i = bk7) => show False by first | omega | assumption)
     have B187 : Blk w185 bk7 45 [.int .i64 (t.lo + ((nth v.runs k).wt.lo + (tak (wayTo (nth v.runs k) p) ((nth v.runs k).sp.hi)))), .int .i64 (t.hi + ((nth v.runs k).wt.hi + (tak (wayTo (nth v.runs k) p) ((nth v.runs k).sp.lo))))] := B187
     refine t_nil' (hK183 _ _ (c_ret (f_ret1 (v := .agg #[.int .i64 (t.lo + ((nth v.runs k).wt.lo + (tak (wayTo (nth v.runs k) p) ((nth v.runs k).sp.hi)))), .int .i64 (t.hi + ((nth v.runs k).wt.hi + (tak (wayTo (nth v.runs k) p) ((nth v.runs k).sp.lo))))]) Try.results70 ⟨_, _, rfl, run_loadVarN (vs := [.int .i64 (t.lo + ((nth v.runs k).wt.lo + (tak (wayTo (nth v.runs k) p) ((nth v.runs k).sp.hi)))), .int .i64 (t.hi + ((nth v.runs k).wt.hi + (tak (wayTo (nth v.runs k) p) ((nth v.runs k).sp.lo))))]) Try.isAgg45 Try.sizeOf45 rfl (B187.at.sub 0 2)⟩ ?_)))
     exact ⟨by rw [arr_stop hinv (by omega) g22 g73], E188⟩
    ·
     refine c_skip (hK37 _ _ (c_region (t_ari rfl rfl rfl rfl rfl (by omega) (t_move rfl rfl rfl (t_nil' ?_)))))
     exact hK26 (k + 1, ⟨(t.lo + ((nth v.runs k).wt.lo + (tak (wayTo (nth v.runs k) p) ((nth v.runs k).sp.hi)))), (t.hi + ((nth v.runs k).wt.hi + (tak (wayTo (nth v.runs k) p) ((nth v.runs k).sp.lo))))⟩) _ _ (by show v.runs.length - (k + 1) < v.runs.length - k; omega) ⟨rfl, rfl, rfl, rfl, rfl, rfl, trivial⟩ ⟨(((((u28.next u43 (fun _ _ h => h.elim)).next u46 (fun i hi (h : i = bk40) => show i = bk14 by first | omega | assumption)).next u62 (fun _ _ h => h.elim)).next u121 (fun i hi (h : i = bk14) => show i = bk14 by first | omega | assumption)).next u178 (fun i hi (h : i = bk14) => show i = bk14 by first | omega | assumption)), B179, (by omega), (arr_next hinv (by omega) g22 g73), (by show _ ≤ ((t.lo + ((nth v.runs k).wt.lo + (tak (wayTo (nth v.runs k) p) ((nth v.runs k).sp.hi)))) : Int) ∧ ((t.lo + ((nth v.runs k).wt.lo + (tak (wayTo (nth v.runs k) p) ((nth v.runs k).sp.hi)))) : Int) ≤ _; omega), (by show _ ≤ ((t.hi + ((nth v.runs k).wt.hi + (tak (wayTo (nth v.runs k) p) ((nth v.runs k).sp.lo)))) : Int) ∧ ((t.hi + ((nth v.runs k).wt.hi + (tak (wayTo (nth v.runs k) p) ((nth v.runs k).sp.lo)))) : Int) ≤ _; omega)⟩
 ·
  refine c_exit (hK23 _ _ (c_seq fun K189 hK189 => (c_region (t_loadN (vs := [.int .i64 t.lo, .int .i64 t.hi]) Try.isAgg45 Try.sizeOf45 rfl rfl rfl (I29.at.sub 0 2) rfl ?_))))
  have B190 := (((B9.keep u17 (fun h => h)).keep u20 (show ¬ (bk7 = bk14) by first | omega | assumption)).keep u28 (show ¬ (bk7 = bk14) by first | omega | assumption))
  refine t_store (vs := [.int .i64 t.lo, .int .i64 t.hi]) Try.sizeOf45 rfl rfl rfl B190 rfl rfl (Nat.le_of_ble_eq_true rfl) (by simp [Value.oneCell']) (fun w191 sw191 B193 u192 => ?_)
  have zu192 := u192.size
  have E194 := E34.next u192 (fun i hi (h : i = bk7) => show False by first | omega | assumption)
  have B193 : Blk w191 bk7 45 [.int .i64 t.lo, .int .i64 t.hi] := B193
  refine t_nil' (hK189 _ _ (c_ret (f_ret1 (v := .agg #[.int .i64 t.lo, .int .i64 t.hi]) Try.results70 ⟨_, _, rfl, run_loadVarN (vs := [.int .i64 t.lo, .int .i64 t.hi]) Try.isAgg45 Try.sizeOf45 rfl (B193.at.sub 0 2)⟩ ?_)))
  exact ⟨by rw [arr_end hinv (by omega)], E194⟩


structure RVoy (v : Voy) : Prop where
  pos : 0 < v.runs.length
  few : v.runs.length ≤ 1000
  run : ∀ r ∈ v.runs, rngRun r
  st : (-1000000000 ≤ v.st.lo ∧ v.st.lo ≤ 1000000000) ∧ (-1000000000 ≤ v.st.hi ∧ v.st.hi ≤ 1000000000)
  len : 0 ≤ v.len ∧ v.len ≤ 100000
  wid : 0 ≤ v.wid ∧ v.wid ≤ 100000
structure RNar (n : Nar) : Prop where
  frm : 0 ≤ n.frm ∧ n.frm ≤ 100000
  to : 0 ≤ n.to ∧ n.to ≤ 100000
  wid : 0 ≤ n.wid ∧ n.wid ≤ 100000
theorem okRuns_rng {way : Int} : ∀ {rs : List Run} {a : Int}, okRuns way a rs = true → ∀ r ∈ rs, rngRun r
  | [], _, _, r, h => by simp at h
  | x :: rs, a, h, r, hr => by
    simp only [okRuns, Bool.and_eq_true] at h
    rcases List.mem_cons.1 hr with rfl | hr
    · have := h.1
      unfold okRun at this
      rw [decide_eq_true_eq] at this
      obtain ⟨⟨h1, h2⟩, _, _, _, ⟨_, h3, h4⟩, ⟨_, h5, h6⟩⟩ := this
      exact ⟨h1, h2, h3, h4, h5, h6⟩
    · exact okRuns_rng h.2 r hr
theorem okVoy_of {v : Voy} (h : ¬ chk v ≠ 0) : okVoy v = true := by
  unfold chk at h; cases hv : okVoy v <;> simp [hv] at h ⊢
theorem okVoy_rng {v : Voy} (h : okVoy v = true) : RVoy v := by
  unfold okVoy at h
  rw [Bool.and_eq_true] at h
  have h0 := h.1
  unfold okVoy0 at h0
  rw [decide_eq_true_eq] at h0
  obtain ⟨⟨_, h1, h2⟩, h3, h4, h5⟩ := h0
  exact ⟨by omega, by omega, okRuns_rng h.2, ⟨by omega, by omega⟩, by omega, by omega⟩
theorem onWay_rng {v : Voy} {p : Int} (h : onWay v [p] = true) : min (frst v) (lst v) ≤ p ∧ p ≤ max (frst v) (lst v) := by
  unfold onWay at h; rw [decide_eq_true_eq] at h; exact h p (by simp)
theorem frst_rng {v : Voy} (h : okVoy v = true) : 0 ≤ frst v ∧ frst v ≤ 100000 := by
  have hr := okVoy_rng h
  rw [frst_eq hr.pos]
  exact (hr.run _ (nth_mem (xs := v.runs) (i := 0) hr.pos)).1
theorem lst_rng {v : Voy} (h : okVoy v = true) : 0 ≤ lst v ∧ lst v ≤ 100000 := by
  have hr := okVoy_rng h
  have hp := hr.pos
  rw [lst_eq (by omega)]
  exact (hr.run _ (nth_mem (xs := v.runs) (i := v.runs.length - 1) (by omega))).2.1
def okNar (n : Nar) : Bool := decide (((0 ≤ n.frm ∧ n.frm ≤ 100000) ∧ (0 ≤ n.to ∧ n.to ≤ 100000)) ∧ n.frm < n.to ∧ (1 ≤ n.wid ∧ n.wid ≤ 200))
theorem okNar_rng {n : Nar} (h : okNar n = true) : RNar n := by
  unfold okNar at h; rw [decide_eq_true_eq] at h; exact ⟨by omega, by omega, by omega⟩
def tail (v : Voy) : Int := (v.len + 100 - 1) / 100
def nearD (v : Voy) (n : Nar) : Bool := decide (frst v < n.to + tail v) && decide (n.frm < lst v)
def nearU (v : Voy) (n : Nar) : Bool := decide (n.frm - tail v < frst v) && decide (lst v < n.to)
def near (v : Voy) (n : Nar) : Bool := if lst v < frst v then nearU v n else nearD v n
def entP (v : Voy) (n : Nar) : Int := if lst v < frst v then n.to else n.frm
def leaP (v : Voy) (n : Nar) : Int := if lst v < frst v then n.frm - tail v else n.to + tail v
structure Stay where
  inn : Bnd
  out : Bnd
  there : Bool
instance : Inhabited Stay := ⟨⟨default, default, default⟩⟩
def thrE (v : Voy) (n : Nar) : Int := if near v n then (if onWay v [entP v n, leaP v n] then 0 else 9) else 0
def thrS (v : Voy) (n : Nar) : Stay := if near v n && onWay v [entP v n, leaP v n] then ⟨arr v (entP v n), arr v (leaP v n), true⟩ else ⟨⟨0, 0⟩, ⟨0, 0⟩, false⟩
def mayB (s o : Stay) : Bool := s.there && o.there && decide (s.inn.lo ≤ o.out.hi) && decide (o.inn.lo ≤ s.out.hi)
def mustB (s o : Stay) : Bool := s.there && o.there && decide (s.inn.hi ≤ o.out.lo) && decide (o.inn.hi ≤ s.out.lo)

def ArrE (v : Voy) (p : Int) : Int := if okVoy v then (if onWay v [p] then 0 else 7) else 2
def ArrB (v : Voy) (p : Int) : Bnd := if okVoy v then (if onWay v [p] then arr v p else ⟨0, 0⟩) else ⟨0, 0⟩
theorem okVoy_bad {v : Voy} (h : chk v ≠ 0) : okVoy v = false := by unfold chk at h; cases hv : okVoy v <;> simp [hv] at h ⊢
theorem Arrive_c (v : Voy) (ao : Option Addr) (b o cap : Nat) (p : Int) (w0 : World) (hs : Sl encRun 6 w0 ao b o v.runs) (hl : v.runs.length ≤ 1000000) :
    CallsV Try.prog 30 [.agg #[.int .i64 v.st.lo, .int .i64 v.st.hi, .slice ao ((v.runs).length) cap, .int .i64 v.len, .int .i64 v.wid], .int .i64 p] w0 (fun x w' => x = .tuple #[.agg #[.int .i64 (ArrB v p).lo, .int .i64 (ArrB v p).hi], .int .i64 (ArrE v p)] ∧ Ext w0 w') := by
 have E0 := Upd.refl (fun _ => False) w0
 refine f_enter (N := 21) Try.func30 rfl rfl rfl ?_
 change WC _ _ _ _ _ _ [(0, .agg #[.int .i64 v.st.lo, .int .i64 v.st.hi, .slice ao ((v.runs).length) cap, .int .i64 v.len, .int .i64 v.wid]), (1, .int .i64 p)] _
 refine c_seq fun K1 hK1 => (c_region (t_box (cs := [.int .i64 v.st.lo, .int .i64 v.st.hi, .slice ao ((v.runs).length) cap, .int .i64 v.len, .int .i64 v.wid]) rfl rfl rfl rfl (fun bk2 w3 ebk2 sbk2 B4 u5 => ?_)))
 have zu5 := u5.size
 have E6 := E0.next u5 (fun _ _ h => h.elim)
 refine t_alloc (cs := [.int .i64 0, .int .i64 0]) Try.zeroValue45 rfl rfl rfl (fun bk7 w8 ebk7 sbk7 B9 u10 => ?_)
 have zu10 := u10.size
 have E11 := E6.next u10 (fun _ _ h => h.elim)
 refine t_assign rfl rfl rfl (t_nil' (hK1 _ _ (c_seq fun K12 hK12 => (c_block (c_seq fun K13 hK13 => (c_region ?_))))))
 have B14 := (B4.keep u10 (fun h => h))
 refine t_loadN (vs := [.int .i64 v.st.lo, .int .i64 v.st.hi, .slice ao ((v.runs).length) cap, .int .i64 v.len, .int .i64 v.wid]) Try.isAgg48 Try.sizeOf48 rfl rfl rfl (B14.at.sub 0 5) rfl (t_call (vs := [.agg #[.int .i64 v.st.lo, .int .i64 v.st.hi, .slice ao ((v.runs).length) cap, .int .i64 v.len, .int .i64 v.wid]]) own29 rfl rfl rfl rfl (Check_c v ao b o cap _ (hs.keep E11 (fun _ h => h)) (by omega)) (fun v15 w16 r18 => ?_))
 obtain ⟨rfl, u17⟩ := r18
 have zu17 := u17.size
 have E19 := E11.next u17 (fun _ _ h => h.elim)
 refine t_cmp rfl rfl rfl rfl rfl (t_assign rfl rfl rfl (t_nil' (hK13 _ _ (c_condp rfl (fun g6 => ?_) (fun g6 => ?_)))))
 ·
  refine c_seq fun K20 hK20 => (c_region (t_build (ps := []) (v := .agg #[.int .i64 0, .int .i64 0]) rfl rfl ⟨rfl, rfl⟩ (fun w => by kernel_rfl) ?_))
  have B21 := (B9.keep u17 (fun h => h))
  refine t_store (vs := [.int .i64 0, .int .i64 0]) Try.sizeOf45 rfl rfl rfl B21 rfl rfl (Nat.le_of_ble_eq_true rfl) (by simp [Value.oneCell']) (fun w22 sw22 B24 u23 => ?_)
  have zu23 := u23.size
  have E25 := E19.next u23 (fun i hi (h : i = bk7) => show False by first | omega | assumption)
  have B24 : Blk w22 bk7 45 [.int .i64 0, .int .i64 0] := B24
  refine t_assign rfl rfl rfl (t_nil' (hK20 _ _ (c_ret (f_ret2 (v1 := .agg #[.int .i64 0, .int .i64 0]) (v2 := .int .i64 2) Try.results30 ⟨_, _, rfl, run_loadVarN (vs := [.int .i64 0, .int .i64 0]) Try.isAgg45 Try.sizeOf45 rfl (B24.at.sub 0 2)⟩ rfl ?_))))
  exact ⟨by simp [ArrB, ArrE, okVoy_bad g6], E25⟩
 ·
  refine c_seq fun K26 hK26 => (c_region ?_)
  have hk := okVoy_of g6
  have hv := okVoy_rng hk
  have B27 := (B14.keep u17 (fun h => h))
  refine t_loadN (vs := [.int .i64 v.st.lo, .int .i64 v.st.hi, .slice ao ((v.runs).length) cap, .int .i64 v.len, .int .i64 v.wid]) Try.isAgg48 Try.sizeOf48 rfl rfl rfl (B27.at.sub 0 5) rfl (t_move rfl rfl rfl (t_bslice (ps := [(0, .int .i64 p)]) (cs := [.int .i64 p]) (e := 3) rfl rfl ⟨rfl, rfl⟩ (fun w => by kernel_rfl) (fun bk28 w29 ebk28 sbk28 B30 u31 => ?_)))
  have zu31 := u31.size
  have E32 := E19.next u31 (fun _ _ h => h.elim)
  refine t_call (vs := [.agg #[.int .i64 v.st.lo, .int .i64 v.st.hi, .slice ao ((v.runs).length) cap, .int .i64 v.len, .int .i64 v.wid], .slice (some ⟨bk28, 0, none⟩) 1 1]) own69 rfl rfl rfl rfl (isOn_c v ao b o cap [p] _ _ 0 _ _ (hs.keep E32 (fun _ h => h)) hv.pos (by have := hv.few; omega) (SlI.own (xs := [p]) B30) (by simp)) (fun v33 w34 r36 => ?_)
  obtain ⟨rfl, u35⟩ := r36
  have zu35 := u35.size
  have E37 := E32.next u35 (fun _ _ h => h.elim)
  refine t_not rfl rfl rfl (t_assign rfl rfl rfl (t_nil' (hK26 _ _ (c_cond rfl (fun g11 => ?_) (fun g11 => ?_)))))
  ·
   refine c_seq fun K38 hK38 => (c_region (t_build (ps := []) (v := .agg #[.int .i64 0, .int .i64 0]) rfl rfl ⟨rfl, rfl⟩ (fun w => by kernel_rfl) ?_))
   have B39 := (((B9.keep u17 (fun h => h)).keep u31 (fun h => h)).keep u35 (fun h => h))
   refine t_store (vs := [.int .i64 0, .int .i64 0]) Try.sizeOf45 rfl rfl rfl B39 rfl rfl (Nat.le_of_ble_eq_true rfl) (by simp [Value.oneCell']) (fun w40 sw40 B42 u41 => ?_)
   have zu41 := u41.size
   have E43 := E37.next u41 (fun i hi (h : i = bk7) => show False by first | omega | assumption)
   have B42 : Blk w40 bk7 45 [.int .i64 0, .int .i64 0] := B42
   refine t_assign rfl rfl rfl (t_nil' (hK38 _ _ (c_ret (f_ret2 (v1 := .agg #[.int .i64 0, .int .i64 0]) (v2 := .int .i64 7) Try.results30 ⟨_, _, rfl, run_loadVarN (vs := [.int .i64 0, .int .i64 0]) Try.isAgg45 Try.sizeOf45 rfl (B42.at.sub 0 2)⟩ rfl ?_))))
   exact ⟨by simp_all [ArrB, ArrE], E43⟩
  ·
   refine c_skip (hK12 _ _ (c_seq fun K44 hK44 => (c_region ?_)))
   have ho : onWay v [p] = true := by simpa using g11
   have hp1 := onWay_rng ho
   have hp2 := frst_rng hk
   have hp3 := lst_rng hk
   have B45 := ((B27.keep u31 (fun h => h)).keep u35 (fun h => h))
   refine t_loadN (vs := [.int .i64 v.st.lo, .int .i64 v.st.hi, .slice ao ((v.runs).length) cap, .int .i64 v.len, .int .i64 v.wid]) Try.isAgg48 Try.sizeOf48 rfl rfl rfl (B45.at.sub 0 5) rfl (t_move rfl rfl rfl (t_call (vs := [.agg #[.int .i64 v.st.lo, .int .i64 v.st.hi, .slice ao ((v.runs).length) cap, .int .i64 v.len, .int .i64 v.wid], .int .i64 p]) own70 rfl rfl rfl rfl (arrive_c v ao b o cap p _ (hs.keep E37 (fun _ h => h)) hv.few hv.run hv.st (by omega)) (fun v46 w47 r49 => ?_)))
   obtain ⟨rfl, u48⟩ := r49
   have zu48 := u48.size
   have E50 := E37.next u48 (fun _ _ h => h.elim)
   have B51 := ((((B9.keep u17 (fun h => h)).keep u31 (fun h => h)).keep u35 (fun h => h)).keep u48 (fun h => h))
   refine t_store (vs := [.int .i64 ((arr v p).lo), .int .i64 ((arr v p).hi)]) Try.sizeOf45 rfl rfl rfl B51 rfl rfl (Nat.le_of_ble_eq_true rfl) (by simp [Value.oneCell']) (fun w52 sw52 B54 u53 => ?_)
   have zu53 := u53.size
   have E55 := E50.next u53 (fun i hi (h : i = bk7) => show False by first | omega | assumption)
   have B54 : Blk w52 bk7 45 [.int .i64 ((arr v p).lo), .int .i64 ((arr v p).hi)] := B54
   refine t_assign rfl rfl rfl (t_nil' (hK44 _ _ (c_ret (f_ret2 (v1 := .agg #[.int .i64 ((arr v p).lo), .int .i64 ((arr v p).hi)]) (v2 := .int .i64 0) Try.results30 ⟨_, _, rfl, run_loadVarN (vs := [.int .i64 ((arr v p).lo), .int .i64 ((arr v p).hi)]) Try.isAgg45 Try.sizeOf45 rfl (B54.at.sub 0 2)⟩ rfl ?_))))
   exact ⟨by simp_all [ArrB, ArrE], E55⟩

theorem isNarrow_c (n : Nar) (w0 : World) :
    CallsV Try.prog 76 [.agg #[.int .i64 n.frm, .int .i64 n.to, .int .i64 n.wid, .bool n.single]] w0 (fun v w' => v = .bool (okNar n) ∧ Ext w0 w') := by
 have E0 := Upd.refl (fun _ => False) w0
 refine f_enter (N := 22) Try.func76 rfl rfl rfl ?_
 change WC _ _ _ _ _ _ [(0, .agg #[.int .i64 n.frm, .int .i64 n.to, .int .i64 n.wid, .bool n.single])] _
 refine c_seq fun K1 hK1 => (c_region (t_box (cs := [.int .i64 n.frm, .int .i64 n.to, .int .i64 n.wid, .bool n.single]) rfl rfl rfl rfl (fun bk2 w3 ebk2 sbk2 B4 u5 => ?_)))
 have zu5 := u5.size
 have E6 := E0.next u5 (fun _ _ h => h.elim)
 refine t_assign rfl rfl rfl (t_nil' (hK1 _ _ (c_seq fun K7 hK7 => (c_region (t_field Try.underlying72 rfl Try.sizeOf3 (0) rfl rfl rfl rfl (t_load Try.isAgg3 rfl rfl rfl (B4.get rfl) (t_field Try.underlying72 rfl Try.sizeOf3 (1) rfl rfl rfl rfl (t_load Try.isAgg3 rfl rfl rfl (B4.get rfl) (t_bslice (ps := [(0, .int .i64 n.frm), (1, .int .i64 n.to)]) (cs := [.int .i64 n.frm, .int .i64 n.to]) (e := 3) rfl rfl ⟨rfl, rfl⟩ (fun w => by kernel_rfl) (fun bk8 w9 ebk8 sbk8 B10 u11 => ?_))))))))))
 have zu11 := u11.size
 have E12 := E6.next u11 (fun _ _ h => h.elim)
 refine t_call (vs := [.int .i64 0, .int .i64 100000, .slice (some ⟨bk8, 0, none⟩) 2 2]) own58 rfl rfl rfl rfl (within2_v 0 100000 n.frm n.to _ _ _ B10) (fun v13 w14 r16 => ?_)
 obtain ⟨rfl, u15⟩ := r16
 have zu15 := u15.size
 have E17 := E12.next u15 (fun _ _ h => h.elim)
 refine t_move rfl rfl rfl (t_splitp 9 rfl (fun g9 => ?_) (fun g9 => ?_))
 ·
  refine t_field Try.underlying72 rfl Try.sizeOf3 (0) rfl rfl rfl rfl ?_
  have B18 := ((B4.keep u11 (fun h => h)).keep u15 (fun h => h))
  refine t_load Try.isAgg3 rfl rfl rfl (B18.get rfl) (t_field Try.underlying72 rfl Try.sizeOf3 (1) rfl rfl rfl rfl (t_load Try.isAgg3 rfl rfl rfl (B18.get rfl) (t_cmp rfl rfl rfl rfl rfl (t_pick_t rfl rfl rfl rfl (t_move rfl rfl rfl (t_splitp 16 rfl (fun g16 => ?_) (fun g16 => ?_)))))))
  ·
   refine t_field Try.underlying72 rfl Try.sizeOf3 (2) rfl rfl rfl rfl (t_load Try.isAgg3 rfl rfl rfl (B18.get rfl) (t_bslice (ps := [(0, .int .i64 n.wid)]) (cs := [.int .i64 n.wid]) (e := 3) rfl rfl ⟨rfl, rfl⟩ (fun w => by kernel_rfl) (fun bk19 w20 ebk19 sbk19 B21 u22 => ?_)))
   have zu22 := u22.size
   have E23 := E17.next u22 (fun _ _ h => h.elim)
   refine t_call (vs := [.int .i64 1, .int .i64 200, .slice (some ⟨bk19, 0, none⟩) 1 1]) own58 rfl rfl rfl rfl (within1_v 1 200 n.wid _ _ _ B21) (fun v24 w25 r27 => ?_)
   obtain ⟨rfl, u26⟩ := r27
   have zu26 := u26.size
   have E28 := E23.next u26 (fun _ _ h => h.elim)
   refine t_pick_t rfl rfl rfl rfl (t_assign rfl rfl rfl (t_nil' (hK7 _ _ (c_ret (f_ret1 (v := .bool (decide (1 ≤ n.wid ∧ n.wid ≤ 200))) Try.results76 rfl ?_)))))
   exact ⟨by simp [okNar, *], E28⟩
  ·
   refine t_skip rfl rfl rfl (t_skip rfl rfl rfl (t_skip rfl rfl rfl (t_skip rfl rfl rfl (t_pick_f rfl rfl rfl rfl (t_assign rfl rfl rfl (t_nil' (hK7 _ _ (c_ret (f_ret1 (v := .bool false) Try.results76 rfl ?_)))))))))
   exact ⟨by simp [okNar, *], E17⟩
 ·
  refine t_skip rfl rfl rfl (t_skip rfl rfl rfl (t_skip rfl rfl rfl (t_skip rfl rfl rfl (t_skip rfl rfl rfl (t_pick_f rfl rfl rfl rfl (t_move rfl rfl rfl (t_skip rfl rfl rfl (t_skip rfl rfl rfl (t_skip rfl rfl rfl (t_skip rfl rfl rfl (t_pick_f rfl rfl rfl rfl (t_assign rfl rfl rfl (t_nil' (hK7 _ _ (c_ret (f_ret1 (v := .bool false) Try.results76 rfl ?_))))))))))))))))
  exact ⟨by simp [okNar, *], E17⟩

theorem through_c (v : Voy) (ao : Option Addr) (b o cap : Nat) (n : Nar) (w0 : World) (hs : Sl encRun 6 w0 ao b o v.runs) (hv : RVoy v) (hn : RNar n) :
    CallsV Try.prog 77 [.agg #[.int .i64 v.st.lo, .int .i64 v.st.hi, .slice ao ((v.runs).length) cap, .int .i64 v.len, .int .i64 v.wid], .agg #[.int .i64 n.frm, .int .i64 n.to, .int .i64 n.wid, .bool n.single]] w0 (fun x w' => x = .tuple #[.agg #[.int .i64 (thrS v n).inn.lo, .int .i64 (thrS v n).inn.hi, .int .i64 (thrS v n).out.lo, .int .i64 (thrS v n).out.hi, .bool (thrS v n).there], .int .i64 (thrE v n)] ∧ Ext w0 w') := by
 have hn1 := hn.frm
 have hn2 := hn.to
 have hv1 := hv.len
 have E0 := Upd.refl (fun _ => False) w0
 refine f_enter (N := 71) Try.func77 rfl rfl rfl ?_
 change WC _ _ _ _ _ _ [(0, .agg #[.int .i64 v.st.lo, .int .i64 v.st.hi, .slice ao ((v.runs).length) cap, .int .i64 v.len, .int .i64 v.wid]), (1, .agg #[.int .i64 n.frm, .int .i64 n.to, .int .i64 n.wid, .bool n.single])] _
 refine c_seq fun K1 hK1 => (c_region (t_box (cs := [.int .i64 v.st.lo, .int .i64 v.st.hi, .slice ao ((v.runs).length) cap, .int .i64 v.len, .int .i64 v.wid]) rfl rfl rfl rfl (fun bk2 w3 ebk2 sbk2 B4 u5 => ?_)))
 have zu5 := u5.size
 have E6 := E0.next u5 (fun _ _ h => h.elim)
 refine t_box (cs := [.int .i64 n.frm, .int .i64 n.to, .int .i64 n.wid, .bool n.single]) rfl rfl rfl rfl (fun bk7 w8 ebk7 sbk7 B9 u10 => ?_)
 have zu10 := u10.size
 have E11 := E6.next u10 (fun _ _ h => h.elim)
 refine t_alloc (cs := [.int .i64 0, .int .i64 0, .int .i64 0, .int .i64 0, .bool false]) Try.zeroValue141 rfl rfl rfl (fun bk12 w13 ebk12 sbk12 B14 u15 => ?_)
 have zu15 := u15.size
 have E16 := E11.next u15 (fun _ _ h => h.elim)
 refine t_assign rfl rfl rfl (t_nil' (hK1 _ _ (c_seq fun K17 hK17 => (c_region (t_field Try.underlying48 rfl Try.sizeOf3 (3) rfl rfl rfl rfl ?_)))))
 have B18 := ((B4.keep u10 (fun h => h)).keep u15 (fun h => h))
 refine t_load Try.isAgg3 rfl rfl rfl (B18.get rfl) (t_ari rfl rfl rfl rfl rfl (by omega) (t_ari rfl rfl rfl rfl rfl (by omega) (t_quo rfl rfl rfl rfl (by omega) (by omega) (t_assign rfl rfl rfl (t_nil' (hK17 _ _ (c_seq fun K19 hK19 => ?_)))))))
 have B20 := (B9.keep u15 (fun h => h))
 refine WC.weak [(2, .pointer (some ⟨bk2, 0, none⟩)), (3, .pointer (some ⟨bk7, 0, none⟩)), (4, .pointer (some ⟨bk12, 0, none⟩)), (6, .int .i64 (((v.len + 100) - 1) / 100))] ⟨rfl, rfl, rfl, rfl, trivial⟩ (c_drawn follows 8 [some (15, some (.pointer (some ⟨bk7, 0, none⟩))), some (16, some (.int .i64 n.frm)), some (17, some (.pointer (some ⟨bk7, 1, none⟩))), some (18, some (.int .i64 n.to)), some (19, some (.int .i64 (((v.len + 100) - 1) / 100))), some (20, some (.int .i64 (n.to + (((v.len + 100) - 1) / 100)))), some (7, some (.int .i64 n.frm)), some (8, some (.int .i64 (n.to + (((v.len + 100) - 1) / 100))))] [[],[0],[],[2],[],[3,4],[1,0,1],[5,6,0,1,2,3,4,5,6]] (fun _ _ w => Upd (fun _ => False) w13 w) rfl rfl rfl (by kernel_rfl) (by kernel_rfl) (Upd.drew _).to ⟨?_, ?_, ?_, ?_, ?_, ?_, ?_, ?_, trivial⟩ ?_)
 · exact pzf Try.underlying72 rfl Try.sizeOf3 (0) rfl rfl rfl rfl rfl fun _ _ _ h => h
 ·
  intro D ρ w21 hcD hnD hdD hW
  have zhW := hW.size
  refine ⟨_, kf_fr [15], fun Lr => ?_⟩
  have B24 := (B20.keep hW (fun h => h))
  refine t_load Try.isAgg3 rfl rfl rfl (B24.get rfl) ?_
  exact dz rfl hW
 · exact pzf Try.underlying72 rfl Try.sizeOf3 (1) rfl rfl rfl rfl rfl fun _ _ _ h => h
 ·
  intro D ρ w25 hcD hnD hdD hW
  have zhW := hW.size
  refine ⟨_, kf_fr [17], fun Lr => ?_⟩
  have B28 := (B20.keep hW (fun h => h))
  refine t_load Try.isAgg3 rfl rfl rfl (B28.get rfl) ?_
  exact dz rfl hW
 · exact pz rfl rfl rfl rfl fun _ _ _ h => h
 ·
  intro D ρ w29 hcD hnD hdD hW
  have zhW := hW.size
  refine ⟨_, kf_fr [18, 19], fun Lr => ?_⟩
  refine t_ari rfl rfl rfl rfl rfl (by omega) ?_
  exact dz rfl hW
 · exact pz rfl rfl rfl rfl fun _ _ _ h => h
 · exact pz rfl rfl rfl rfl fun _ _ _ h => h
 intro ρ w32 hW
 have u33 : Upd (fun _ => False) w13 w32 := hW
 have zu33 := u33.size
 have E34 := E16.next u33 (fun _ _ h => h.elim)
 refine QK.weak [(2, .pointer (some ⟨bk2, 0, none⟩)), (3, .pointer (some ⟨bk7, 0, none⟩)), (4, .pointer (some ⟨bk12, 0, none⟩)), (6, .int .i64 (((v.len + 100) - 1) / 100)), (7, .int .i64 n.frm), (8, .int .i64 (n.to + (((v.len + 100) - 1) / 100)))] ⟨rfl, rfl, rfl, rfl, rfl, rfl, trivial⟩ (hK19 _ _ (c_cut (γ := Unit) (fun _x => [(2, .pointer (some ⟨bk2, 0, none⟩)), (3, .pointer (some ⟨bk7, 0, none⟩)), (4, .pointer (some ⟨bk12, 0, none⟩)), (6, .int .i64 (((v.len + 100) - 1) / 100)), (7, .int .i64 n.frm), (8, .int .i64 (n.to + (((v.len + 100) - 1) / 100))), (9, .bool (nearD v n))]) (fun _x w => Upd (fun _ => False) w32 w) (fun K36 hK36 => ?_) ?_))
 ·
  refine c_region ?_
  have B39 := (B18.keep u33 (fun h => h))
  refine t_loadN (vs := [.int .i64 v.st.lo, .int .i64 v.st.hi, .slice ao ((v.runs).length) cap, .int .i64 v.len, .int .i64 v.wid]) Try.isAgg48 Try.sizeOf48 rfl rfl rfl (B39.at.sub 0 5) rfl (t_call (vs := [.agg #[.int .i64 v.st.lo, .int .i64 v.st.hi, .slice ao ((v.runs).length) cap, .int .i64 v.len, .int .i64 v.wid]]) own67 rfl rfl rfl rfl (first_c v ao b o cap _ (hs.keep E34 (fun _ h => h)) hv.pos) (fun v40 w41 r43 => ?_))
  obtain ⟨rfl, u42⟩ := r43
  have zu42 := u42.size
  have E44 := E34.next u42 (fun _ _ h => h.elim)
  refine t_move rfl rfl rfl (t_cmp rfl rfl rfl rfl rfl (t_move rfl rfl rfl (t_splitp 25 rfl (fun g25 => ?_) (fun g25 => ?_))))
  ·
   have B45 := (B39.keep u42 (fun h => h))
   refine t_loadN (vs := [.int .i64 v.st.lo, .int .i64 v.st.hi, .slice ao ((v.runs).length) cap, .int .i64 v.len, .int .i64 v.wid]) Try.isAgg48 Try.sizeOf48 rfl rfl rfl (B45.at.sub 0 5) rfl (t_call (vs := [.agg #[.int .i64 v.st.lo, .int .i64 v.st.hi, .slice ao ((v.runs).length) cap, .int .i64 v.len, .int .i64 v.wid]]) own102 rfl rfl rfl rfl (last_c v ao b o cap _ (hs.keep E44 (fun _ h => h)) hv.pos (by have := hv.few; omega)) (fun v46 w47 r49 => ?_))
   obtain ⟨rfl, u48⟩ := r49
   have zu48 := u48.size
   refine t_move rfl rfl rfl (t_cmp rfl rfl rfl rfl rfl (t_pick_t rfl rfl rfl rfl (t_assign rfl rfl rfl (t_nil' ?_))))
   exact hK36 () _ _ ⟨rfl, rfl, rfl, rfl, rfl, rfl, (by exact congrArg some (by simp [nearD, g25, tail])), trivial⟩ (((Upd.refl _ _).next u42 (fun _ _ h => h.elim)).next u48 (fun _ _ h => h.elim))
  ·
   refine t_skip rfl rfl rfl (t_skip rfl rfl rfl (t_skip rfl rfl rfl (t_skip rfl rfl rfl (t_pick_f rfl rfl rfl rfl (t_assign rfl rfl rfl (t_nil' ?_))))))
   exact hK36 () _ _ ⟨rfl, rfl, rfl, rfl, rfl, rfl, (by exact congrArg some (by simp [nearD, g25, tail])), trivial⟩ ((Upd.refl _ _).next u42 (fun _ _ h => h.elim))
 ·
  intro _x w37 u38
  have zu38 := u38.size
  have E51 := E34.next u38 (fun _ _ h => h.elim)
  refine c_cut (γ := Unit) (fun _x => [(2, .pointer (some ⟨bk2, 0, none⟩)), (4, .pointer (some ⟨bk12, 0, none⟩)), (7, .int .i64 (entP v n)), (8, .int .i64 (leaP v n)), (9, .bool (near v n))]) (fun _x w => Upd (fun _ => False) w37 w) (fun K53 hK53 => ?_) ?_
  ·
   refine c_seq fun K56 hK56 => ?_
   have B57 := ((B18.keep u33 (fun h => h)).keep u38 (fun h => h))
   refine WC.weak [(2, .pointer (some ⟨bk2, 0, none⟩)), (3, .pointer (some ⟨bk7, 0, none⟩)), (4, .pointer (some ⟨bk12, 0, none⟩)), (6, .int .i64 (((v.len + 100) - 1) / 100)), (7, .int .i64 n.frm), (8, .int .i64 (n.to + (((v.len + 100) - 1) / 100))), (9, .bool (nearD v n))] ⟨rfl, rfl, rfl, rfl, rfl, rfl, rfl, trivial⟩ (c_drawn follows 5 [some (31, some (.agg #[.int .i64 v.st.lo, .int .i64 v.st.hi, .slice ao ((v.runs).length) cap, .int .i64 v.len, .int .i64 v.wid])), some (32, some (.int .i64 (frst v))), some (33, some (.agg #[.int .i64 v.st.lo, .int .i64 v.st.hi, .slice ao ((v.runs).length) cap, .int .i64 v.len, .int .i64 v.wid])), some (34, some (.int .i64 (lst v))), some (35, some (.bool (decide ((lst v) < (frst v)))))] [[],[0],[],[2,1],[1,3]] (fun _ _ w => Upd (fun _ => False) w37 w) rfl rfl rfl (by kernel_rfl) (by kernel_rfl) (Upd.drew _).to ⟨?_, ?_, ?_, ?_, ?_, trivial⟩ ?_)
   ·
    intro D ρ w69 hcD hnD hdD hW
    have zhW := hW.size
    refine ⟨_, kf_fr [2], fun Lr => ?_⟩
    have B72 := (B57.keep hW (fun h => h))
    refine t_loadN (vs := [.int .i64 v.st.lo, .int .i64 v.st.hi, .slice ao ((v.runs).length) cap, .int .i64 v.len, .int .i64 v.wid]) Try.isAgg48 Try.sizeOf48 rfl rfl rfl (B72.at.sub 0 5) rfl ?_
    exact dz rfl hW
   ·
    intro D ρ w73 hcD hnD hdD hW
    have zhW := hW.size
    have E75 := E51.next hW (fun _ _ h => h.elim)
    refine ⟨_, kf_fr [31], fun Lr => ?_⟩
    refine t_call (vs := [.agg #[.int .i64 v.st.lo, .int .i64 v.st.hi, .slice ao ((v.runs).length) cap, .int .i64 v.len, .int .i64 v.wid]]) own67 rfl rfl rfl rfl (first_c v ao b o cap _ (hs.keep E75 (fun _ h => h)) hv.pos) (fun v76 w77 r79 => ?_)
    obtain ⟨rfl, u78⟩ := r79
    have zu78 := u78.size
    exact dz rfl (hW.next u78 (fun _ _ h => h.elim))
   ·
    intro D ρ w81 hcD hnD hdD hW
    have zhW := hW.size
    refine ⟨_, kf_fr [2], fun Lr => ?_⟩
    have B84 := (B57.keep hW (fun h => h))
    refine t_loadN (vs := [.int .i64 v.st.lo, .int .i64 v.st.hi, .slice ao ((v.runs).length) cap, .int .i64 v.len, .int .i64 v.wid]) Try.isAgg48 Try.sizeOf48 rfl rfl rfl (B84.at.sub 0 5) rfl ?_
    exact dz rfl hW
   ·
    intro D ρ w85 hcD hnD hdD hW
    have zhW := hW.size
    have E87 := E51.next hW (fun _ _ h => h.elim)
    refine ⟨_, kf_fr [33], fun Lr => ?_⟩
    refine t_call (vs := [.agg #[.int .i64 v.st.lo, .int .i64 v.st.hi, .slice ao ((v.runs).length) cap, .int .i64 v.len, .int .i64 v.wid]]) own102 rfl rfl rfl rfl (last_c v ao b o cap _ (hs.keep E87 (fun _ h => h)) hv.pos (by have := hv.few; omega)) (fun v88 w89 r91 => ?_)
    obtain ⟨rfl, u90⟩ := r91
    have zu90 := u90.size
    exact dz rfl (hW.next u90 (fun _ _ h => h.elim))
   · exact pz rfl rfl rfl rfl fun _ _ _ h => h
   intro ρ w93 hW
   have u94 : Upd (fun _ => False) w37 w93 := hW
   have zu94 := u94.size
   have E95 := E51.next u94 (fun _ _ h => h.elim)
   refine QK.weak [(2, .pointer (some ⟨bk2, 0, none⟩)), (3, .pointer (some ⟨bk7, 0, none⟩)), (4, .pointer (some ⟨bk12, 0, none⟩)), (6, .int .i64 (((v.len + 100) - 1) / 100)), (7, .int .i64 n.frm), (8, .int .i64 (n.to + (((v.len + 100) - 1) / 100))), (9, .bool (nearD v n)), (35, .bool (decide ((lst v) < (frst v))))] ⟨rfl, rfl, rfl, rfl, rfl, rfl, rfl, rfl, trivial⟩ (hK56 _ _ (c_condp rfl (fun g35 => ?_) (fun g35 => ?_)))
   ·
    refine c_seq fun K96 hK96 => ?_
    have B97 := (((B20.keep u33 (fun h => h)).keep u38 (fun h => h)).keep u94 (fun h => h))
    refine WC.weak [(2, .pointer (some ⟨bk2, 0, none⟩)), (3, .pointer (some ⟨bk7, 0, none⟩)), (4, .pointer (some ⟨bk12, 0, none⟩)), (6, .int .i64 (((v.len + 100) - 1) / 100))] ⟨rfl, rfl, rfl, rfl, trivial⟩ (c_drawn follows 8 [some (36, some (.pointer (some ⟨bk7, 1, none⟩))), some (37, some (.int .i64 n.to)), some (38, some (.pointer (some ⟨bk7, 0, none⟩))), some (39, some (.int .i64 n.frm)), some (40, some (.int .i64 (((v.len + 100) - 1) / 100))), some (41, some (.int .i64 (n.frm - (((v.len + 100) - 1) / 100)))), some (7, some (.int .i64 n.to)), some (8, some (.int .i64 (n.frm - (((v.len + 100) - 1) / 100))))] [[],[0],[],[2],[],[3,4],[1,0,1],[5,6,0,1,2,3,4,5,6]] (fun _ _ w => Upd (fun _ => False) w93 w) rfl rfl rfl (by kernel_rfl) (by kernel_rfl) (Upd.drew _).to ⟨?_, ?_, ?_, ?_, ?_, ?_, ?_, ?_, trivial⟩ ?_)
    · exact pzf Try.underlying72 rfl Try.sizeOf3 (1) rfl rfl rfl rfl rfl fun _ _ _ h => h
    ·
     intro D ρ w98 hcD hnD hdD hW
     have zhW := hW.size
     refine ⟨_, kf_fr [36], fun Lr => ?_⟩
     have B101 := (B97.keep hW (fun h => h))
     refine t_load Try.isAgg3 rfl rfl rfl (B101.get rfl) ?_
     exact dz rfl hW
    · exact pzf Try.underlying72 rfl Try.sizeOf3 (0) rfl rfl rfl rfl rfl fun _ _ _ h => h
    ·
     intro D ρ w102 hcD hnD hdD hW
     have zhW := hW.size
     refine ⟨_, kf_fr [38], fun Lr => ?_⟩
     have B105 := (B97.keep hW (fun h => h))
     refine t_load Try.isAgg3 rfl rfl rfl (B105.get rfl) ?_
     exact dz rfl hW
    · exact pz rfl rfl rfl rfl fun _ _ _ h => h
    ·
     intro D ρ w106 hcD hnD hdD hW
     have zhW := hW.size
     refine ⟨_, kf_fr [39, 40], fun Lr => ?_⟩
     refine t_ari rfl rfl rfl rfl rfl (by omega) ?_
     exact dz rfl hW
    · exact pz rfl rfl rfl rfl fun _ _ _ h => h
    · exact pz rfl rfl rfl rfl fun _ _ _ h => h
    intro ρ w109 hW
    have u110 : Upd (fun _ => False) w93 w109 := hW
    have zu110 := u110.size
    have E111 := E95.next u110 (fun _ _ h => h.elim)
    refine QK.weak [(2, .pointer (some ⟨bk2, 0, none⟩)), (4, .pointer (some ⟨bk12, 0, none⟩)), (7, .int .i64 n.to), (8, .int .i64 (n.frm - (((v.len + 100) - 1) / 100)))] ⟨rfl, rfl, rfl, rfl, trivial⟩ (hK96 _ _ (c_region ?_))
    have B112 := ((B57.keep u94 (fun h => h)).keep u110 (fun h => h))
    refine t_loadN (vs := [.int .i64 v.st.lo, .int .i64 v.st.hi, .slice ao ((v.runs).length) cap, .int .i64 v.len, .int .i64 v.wid]) Try.isAgg48 Try.sizeOf48 rfl rfl rfl (B112.at.sub 0 5) rfl (t_call (vs := [.agg #[.int .i64 v.st.lo, .int .i64 v.st.hi, .slice ao ((v.runs).length) cap, .int .i64 v.len, .int .i64 v.wid]]) own67 rfl rfl rfl rfl (first_c v ao b o cap _ (hs.keep E111 (fun _ h => h)) hv.pos) (fun v113 w114 r116 => ?_))
    obtain ⟨rfl, u115⟩ := r116
    have zu115 := u115.size
    have E117 := E111.next u115 (fun _ _ h => h.elim)
    refine t_move rfl rfl rfl (t_cmp rfl rfl rfl rfl rfl (t_move rfl rfl rfl (t_splitp 46 rfl (fun g46 => ?_) (fun g46 => ?_))))
    ·
     have B118 := (B112.keep u115 (fun h => h))
     refine t_loadN (vs := [.int .i64 v.st.lo, .int .i64 v.st.hi, .slice ao ((v.runs).length) cap, .int .i64 v.len, .int .i64 v.wid]) Try.isAgg48 Try.sizeOf48 rfl rfl rfl (B118.at.sub 0 5) rfl (t_call (vs := [.agg #[.int .i64 v.st.lo, .int .i64 v.st.hi, .slice ao ((v.runs).length) cap, .int .i64 v.len, .int .i64 v.wid]]) own102 rfl rfl rfl rfl (last_c v ao b o cap _ (hs.keep E117 (fun _ h => h)) hv.pos (by have := hv.few; omega)) (fun v119 w120 r122 => ?_))
     obtain ⟨rfl, u121⟩ := r122
     have zu121 := u121.size
     refine t_move rfl rfl rfl (t_cmp rfl rfl rfl rfl rfl (t_pick_t rfl rfl rfl rfl (t_assign rfl rfl rfl (t_nil' ?_))))
     exact hK53 () _ _ ⟨rfl, rfl, (by exact congrArg some (by simp [entP, g35])), (by exact congrArg some (by simp [leaP, g35, tail])), (by exact congrArg some (by simp [near, nearU, g35, g46, tail])), trivial⟩ (((((Upd.refl _ _).next u94 (fun _ _ h => h.elim)).next u110 (fun _ _ h => h.elim)).next u115 (fun _ _ h => h.elim)).next u121 (fun _ _ h => h.elim))
    ·
     refine t_skip rfl rfl rfl (t_skip rfl rfl rfl (t_skip rfl rfl rfl (t_skip rfl rfl rfl (t_pick_f rfl rfl rfl rfl (t_assign rfl rfl rfl (t_nil' ?_))))))
     exact hK53 () _ _ ⟨rfl, rfl, (by exact congrArg some (by simp [entP, g35])), (by exact congrArg some (by simp [leaP, g35, tail])), (by exact congrArg some (by simp [near, nearU, g35, g46, tail])), trivial⟩ ((((Upd.refl _ _).next u94 (fun _ _ h => h.elim)).next u110 (fun _ _ h => h.elim)).next u115 (fun _ _ h => h.elim))
   ·
    refine c_skip ?_
    exact hK53 () _ _ ⟨rfl, rfl, (by exact congrArg some (by simp [entP, g35])), (by exact congrArg some (by simp [leaP, g35, tail])), (by exact congrArg some (by simp [near, g35])), trivial⟩ ((Upd.refl _ _).next u94 (fun _ _ h => h.elim))
  ·
   intro _x w54 u55
   have zu55 := u55.size
   have E124 := E51.next u55 (fun _ _ h => h.elim)
   have he : 0 ≤ entP v n ∧ entP v n ≤ 100000 := by unfold entP; split <;> omega
   have hq : -100000 ≤ leaP v n ∧ leaP v n ≤ 1000000 := by unfold leaP tail; split <;> omega
   refine c_seq fun K125 hK125 => (c_block (c_seq fun K126 hK126 => (c_region (t_move rfl rfl rfl (t_not rfl rfl rfl (t_assign rfl rfl rfl (t_nil' (hK126 _ _ (c_cond rfl (fun g52 => ?_) (fun g52 => ?_))))))))))
   ·
    refine c_seq fun K127 hK127 => (c_region ?_)
    have B128 := (((B14.keep u33 (fun h => h)).keep u38 (fun h => h)).keep u55 (fun h => h))
    refine t_loadN (vs := [.int .i64 0, .int .i64 0, .int .i64 0, .int .i64 0, .bool false]) Try.isAgg141 Try.sizeOf141 rfl rfl rfl (B128.at.sub 0 5) rfl (t_store (vs := [.int .i64 0, .int .i64 0, .int .i64 0, .int .i64 0, .bool false]) Try.sizeOf141 rfl rfl rfl B128 rfl rfl (Nat.le_of_ble_eq_true rfl) (by simp [Value.oneCell']) (fun w129 sw129 B131 u130 => ?_))
    have zu130 := u130.size
    have E132 := E124.next u130 (fun i hi (h : i = bk12) => show False by first | omega | assumption)
    have B131 : Blk w129 bk12 141 [.int .i64 0, .int .i64 0, .int .i64 0, .int .i64 0, .bool false] := B131
    refine t_assign rfl rfl rfl (t_nil' (hK127 _ _ (c_ret (f_ret2 (v1 := .agg #[.int .i64 0, .int .i64 0, .int .i64 0, .int .i64 0, .bool false]) (v2 := .int .i64 0) Try.results77 ⟨_, _, rfl, run_loadVarN (vs := [.int .i64 0, .int .i64 0, .int .i64 0, .int .i64 0, .bool false]) Try.isAgg141 Try.sizeOf141 rfl (B131.at.sub 0 5)⟩ rfl ?_))))
    exact ⟨by simp_all [thrE, thrS], E132⟩
   ·
    refine c_seq fun K133 hK133 => (c_region ?_)
    have B134 := (((B18.keep u33 (fun h => h)).keep u38 (fun h => h)).keep u55 (fun h => h))
    refine t_loadN (vs := [.int .i64 v.st.lo, .int .i64 v.st.hi, .slice ao ((v.runs).length) cap, .int .i64 v.len, .int .i64 v.wid]) Try.isAgg48 Try.sizeOf48 rfl rfl rfl (B134.at.sub 0 5) rfl (t_move rfl rfl rfl (t_move rfl rfl rfl (t_bslice (ps := [(0, .int .i64 (entP v n)), (1, .int .i64 (leaP v n))]) (cs := [.int .i64 (entP v n), .int .i64 (leaP v n)]) (e := 3) rfl rfl ⟨rfl, rfl⟩ (fun w => by kernel_rfl) (fun bk135 w136 ebk135 sbk135 B137 u138 => ?_))))
    have zu138 := u138.size
    have E139 := E124.next u138 (fun _ _ h => h.elim)
    refine t_call (vs := [.agg #[.int .i64 v.st.lo, .int .i64 v.st.hi, .slice ao ((v.runs).length) cap, .int .i64 v.len, .int .i64 v.wid], .slice (some ⟨bk135, 0, none⟩) 2 2]) own69 rfl rfl rfl rfl (isOn_c v ao b o cap [(entP v n), (leaP v n)] _ _ 0 _ _ (hs.keep E139 (fun _ h => h)) hv.pos (by have := hv.few; omega) (SlI.own (xs := [(entP v n), (leaP v n)]) B137) (by simp)) (fun v140 w141 r143 => ?_)
    obtain ⟨rfl, u142⟩ := r143
    have zu142 := u142.size
    have E144 := E139.next u142 (fun _ _ h => h.elim)
    refine t_not rfl rfl rfl (t_assign rfl rfl rfl (t_nil' (hK133 _ _ (c_cond rfl (fun g56 => ?_) (fun g56 => ?_)))))
    ·
     refine c_seq fun K145 hK145 => (c_region ?_)
     have B146 := (((((B14.keep u33 (fun h => h)).keep u38 (fun h => h)).keep u55 (fun h => h)).keep u138 (fun h => h)).keep u142 (fun h => h))
     refine t_loadN (vs := [.int .i64 0, .int .i64 0, .int .i64 0, .int .i64 0, .bool false]) Try.isAgg141 Try.sizeOf141 rfl rfl rfl (B146.at.sub 0 5) rfl (t_store (vs := [.int .i64 0, .int .i64 0, .int .i64 0, .int .i64 0, .bool false]) Try.sizeOf141 rfl rfl rfl B146 rfl rfl (Nat.le_of_ble_eq_true rfl) (by simp [Value.oneCell']) (fun w147 sw147 B149 u148 => ?_))
     have zu148 := u148.size
     have E150 := E144.next u148 (fun i hi (h : i = bk12) => show False by first | omega | assumption)
     have B149 : Blk w147 bk12 141 [.int .i64 0, .int .i64 0, .int .i64 0, .int .i64 0, .bool false] := B149
     refine t_assign rfl rfl rfl (t_nil' (hK145 _ _ (c_ret (f_ret2 (v1 := .agg #[.int .i64 0, .int .i64 0, .int .i64 0, .int .i64 0, .bool false]) (v2 := .int .i64 9) Try.results77 ⟨_, _, rfl, run_loadVarN (vs := [.int .i64 0, .int .i64 0, .int .i64 0, .int .i64 0, .bool false]) Try.isAgg141 Try.sizeOf141 rfl (B149.at.sub 0 5)⟩ rfl ?_))))
     exact ⟨by simp_all [thrE, thrS], E150⟩
    ·
     refine c_skip (hK125 _ _ (c_seq fun K151 hK151 => ?_))
     have B152 := ((B134.keep u138 (fun h => h)).keep u142 (fun h => h))
     have B153 := (((((B14.keep u33 (fun h => h)).keep u38 (fun h => h)).keep u55 (fun h => h)).keep u138 (fun h => h)).keep u142 (fun h => h))
     refine WC.weak [(2, .pointer (some ⟨bk2, 0, none⟩)), (4, .pointer (some ⟨bk12, 0, none⟩)), (7, .int .i64 (entP v n)), (8, .int .i64 (leaP v n))] ⟨rfl, rfl, rfl, rfl, trivial⟩ (c_drawn follows 9 [some (64, some (.agg #[.int .i64 v.st.lo, .int .i64 v.st.hi, .slice ao ((v.runs).length) cap, .int .i64 v.len, .int .i64 v.wid])), some (65, some (.int .i64 (entP v n))), some (66, some (.agg #[.int .i64 ((arr v (entP v n)).lo), .int .i64 ((arr v (entP v n)).hi)])), some (67, some (.agg #[.int .i64 v.st.lo, .int .i64 v.st.hi, .slice ao ((v.runs).length) cap, .int .i64 v.len, .int .i64 v.wid])), some (68, some (.int .i64 (leaP v n))), some (69, some (.agg #[.int .i64 ((arr v (leaP v n)).lo), .int .i64 ((arr v (leaP v n)).hi)])), some (70, some (.agg #[.int .i64 ((arr v (entP v n)).lo), .int .i64 ((arr v (entP v n)).hi), .int .i64 ((arr v (leaP v n)).lo), .int .i64 ((arr v (leaP v n)).hi), .bool true])), none, some (5, some (.int .i64 0))] [[],[],[0,1],[],[],[3,4,2],[2,5],[6,5,0,1,2,3,4,5,6],[7,0,1,2,3,4,5,6,7]] (fun D _ w => Upd (fun i => i = bk12) w141 w ∧ Blk w bk12 141 [(bif D 7 then .int .i64 ((arr v (entP v n)).lo) else .int .i64 0), (bif D 7 then .int .i64 ((arr v (entP v n)).hi) else .int .i64 0), (bif D 7 then .int .i64 ((arr v (leaP v n)).lo) else .int .i64 0), (bif D 7 then .int .i64 ((arr v (leaP v n)).hi) else .int .i64 0), (bif D 7 then .bool true else .bool false)]) rfl rfl rfl (by kernel_rfl) (by kernel_rfl) ⟨(Upd.drew _).to, (B153.keep (Upd.drew _) (fun h => h))⟩ ⟨?_, ?_, ?_, ?_, ?_, ?_, ?_, ?_, ?_, trivial⟩ ?_)
     ·
      intro D ρ w165 hcD hnD hdD hW
      obtain ⟨u166, B167⟩ := hW
      have zu166 := u166.size
      have d7 := hcD.late 7 hnD rfl
      have B169 := B167
      simp only [d7, cond_false] at B169
      refine ⟨_, kf_fr [2], fun Lr => ?_⟩
      have B170 := (B152.keep u166 (show ¬ (bk2 = bk12) by first | omega | assumption))
      refine t_loadN (vs := [.int .i64 v.st.lo, .int .i64 v.st.hi, .slice ao ((v.runs).length) cap, .int .i64 v.len, .int .i64 v.wid]) Try.isAgg48 Try.sizeOf48 rfl rfl rfl (B170.at.sub 0 5) rfl ?_
      exact dz rfl ⟨u166, B167⟩
     · exact pz rfl rfl rfl rfl fun _ _ _ h => h
     ·
      intro D ρ w171 hcD hnD hdD hW
      obtain ⟨u172, B173⟩ := hW
      have zu172 := u172.size
      have E174 := E144.next u172 (fun i hi (h : i = bk12) => show False by first | omega | assumption)
      have d7 := hcD.late 7 hnD rfl
      have B175 := B173
      simp only [d7, cond_false] at B175
      refine ⟨_, kf_fr [64, 65], fun Lr => ?_⟩
      refine t_call (vs := [.agg #[.int .i64 v.st.lo, .int .i64 v.st.hi, .slice ao ((v.runs).length) cap, .int .i64 v.len, .int .i64 v.wid], .int .i64 (entP v n)]) own70 rfl rfl rfl rfl (arrive_c v ao b o cap (entP v n) _ (hs.keep E174 (fun _ h => h)) hv.few hv.run hv.st (by omega)) (fun v176 w177 r179 => ?_)
      obtain ⟨rfl, u178⟩ := r179
      have zu178 := u178.size
      exact dz rfl ⟨(u172.next u178 (fun _ _ h => h.elim)), (B173.keep u178 (fun h => h))⟩
     ·
      intro D ρ w181 hcD hnD hdD hW
      obtain ⟨u182, B183⟩ := hW
      have zu182 := u182.size
      have d7 := hcD.late 7 hnD rfl
      have B185 := B183
      simp only [d7, cond_false] at B185
      refine ⟨_, kf_fr [2], fun Lr => ?_⟩
      have B186 := (B152.keep u182 (show ¬ (bk2 = bk12) by first | omega | assumption))
      refine t_loadN (vs := [.int .i64 v.st.lo, .int .i64 v.st.hi, .slice ao ((v.runs).length) cap, .int .i64 v.len, .int .i64 v.wid]) Try.isAgg48 Try.sizeOf48 rfl rfl rfl (B186.at.sub 0 5) rfl ?_
      exact dz rfl ⟨u182, B183⟩
     · exact pz rfl rfl rfl rfl fun _ _ _ h => h
     ·
      intro D ρ w187 hcD hnD hdD hW
      obtain ⟨u188, B189⟩ := hW
      have zu188 := u188.size
      have E190 := E144.next u188 (fun i hi (h : i = bk12) => show False by first | omega | assumption)
      have d7 := hcD.late 7 hnD rfl
      have B191 := B189
      simp only [d7, cond_false] at B191
      refine ⟨_, kf_fr [67, 68], fun Lr => ?_⟩
      refine t_call (vs := [.agg #[.int .i64 v.st.lo, .int .i64 v.st.hi, .slice ao ((v.runs).length) cap, .int .i64 v.len, .int .i64 v.wid], .int .i64 (leaP v n)]) own70 rfl rfl rfl rfl (arrive_c v ao b o cap (leaP v n) _ (hs.keep E190 (fun _ h => h)) hv.few hv.run hv.st (by omega)) (fun v192 w193 r195 => ?_)
      obtain ⟨rfl, u194⟩ := r195
      have zu194 := u194.size
      exact dz rfl ⟨(u188.next u194 (fun _ _ h => h.elim)), (B189.keep u194 (fun h => h))⟩
     · exact fun D ρ w _ _ _ hW => ⟨[(66, .agg #[.int .i64 ((arr v (entP v n)).lo), .int .i64 ((arr v (entP v n)).hi)]), (69, .agg #[.int .i64 ((arr v (leaP v n)).lo), .int .i64 ((arr v (leaP v n)).hi)])], ⟨fi 2 rfl rfl rfl, fi 5 rfl rfl rfl, trivial⟩, fun Lr => t_build (ps := [(0, .agg #[.int .i64 ((arr v (entP v n)).lo), .int .i64 ((arr v (entP v n)).hi)]), (1, .agg #[.int .i64 ((arr v (leaP v n)).lo), .int .i64 ((arr v (leaP v n)).hi)]), (2, .bool true)]) (v := .agg #[.int .i64 ((arr v (entP v n)).lo), .int .i64 ((arr v (entP v n)).hi), .int .i64 ((arr v (leaP v n)).lo), .int .i64 ((arr v (leaP v n)).hi), .bool true]) rfl rfl ⟨rfl, rfl⟩ (fun w => by kernel_rfl) (dz rfl hW)⟩
     ·
      intro D ρ w197 hcD hnD hdD hW
      obtain ⟨u198, B199⟩ := hW
      have zu198 := u198.size
      have B201 := B199
      simp only [hnD, cond_false] at B201
      refine ⟨_, kf_fr [4, 70], fun Lr => ?_⟩
      refine t_store (vs := [.int .i64 ((arr v (entP v n)).lo), .int .i64 ((arr v (entP v n)).hi), .int .i64 ((arr v (leaP v n)).lo), .int .i64 ((arr v (leaP v n)).hi), .bool true]) Try.sizeOf141 rfl rfl rfl B201 rfl rfl (Nat.le_of_ble_eq_true rfl) (by simp [Value.oneCell']) (fun w202 sw202 B204 u203 => ?_)
      have zu203 := u203.size
      have B204 : Blk w202 bk12 141 [.int .i64 ((arr v (entP v n)).lo), .int .i64 ((arr v (entP v n)).hi), .int .i64 ((arr v (leaP v n)).lo), .int .i64 ((arr v (leaP v n)).hi), .bool true] := B204
      exact dz0 rfl ⟨(u198.next u203 (fun i hi (h : i = bk12) => show i = bk12 by first | omega | assumption)), (by show Blk w202 bk12 141 [.int .i64 ((arr v (entP v n)).lo), .int .i64 ((arr v (entP v n)).hi), .int .i64 ((arr v (leaP v n)).lo), .int .i64 ((arr v (leaP v n)).hi), .bool true]; exact B204)⟩
     · exact pz rfl rfl rfl rfl fun _ _ _ h => h
     intro ρ w206 hW
     obtain ⟨u207, B208⟩ := hW
     have zu207 := u207.size
     have E209 := E144.next u207 (fun i hi (h : i = bk12) => show False by first | omega | assumption)
     have B208 : Blk w206 bk12 141 [.int .i64 ((arr v (entP v n)).lo), .int .i64 ((arr v (entP v n)).hi), .int .i64 ((arr v (leaP v n)).lo), .int .i64 ((arr v (leaP v n)).hi), .bool true] := B208
     refine QK.weak [(4, .pointer (some ⟨bk12, 0, none⟩)), (5, .int .i64 0)] ⟨rfl, rfl, trivial⟩ (hK151 _ _ (c_ret (f_ret2 (v1 := .agg #[.int .i64 ((arr v (entP v n)).lo), .int .i64 ((arr v (entP v n)).hi), .int .i64 ((arr v (leaP v n)).lo), .int .i64 ((arr v (leaP v n)).hi), .bool true]) (v2 := .int .i64 0) Try.results77 ⟨_, _, rfl, run_loadVarN (vs := [.int .i64 ((arr v (entP v n)).lo), .int .i64 ((arr v (entP v n)).hi), .int .i64 ((arr v (leaP v n)).lo), .int .i64 ((arr v (leaP v n)).hi), .bool true]) Try.isAgg141 Try.sizeOf141 rfl (B208.at.sub 0 5)⟩ rfl ?_)))
     exact ⟨by simp_all [thrE, thrS], E209⟩

end Go.Proofs.Ytmicjleiheoieaa
