/-
  Contracts of the reference's Start and Held. Conditions: none.
-/
import Derived.Test.YtmicjleiheoieaaOA21
import Derived.Test.YtmicjleiheoieaaOA40
namespace Go.Proofs.Ytmicjleiheoieaa
open Go Go.RowKit
theorem allV_step {vs : List HVoy} {k : Nat} (hk : k < vs.length) (h : ∀ x ∈ vs.take k, okVoy x.v = true) (h1 : okVoy (nth vs k).v = true) : ∀ x ∈ vs.take (k + 1), okVoy x.v = true := fun x hx => by
  rw [take_nth hk] at hx; rcases List.mem_append.1 hx with h2 | h2
  · exact h x h2
  · have e : x = nth vs k := by simpa using h2
    subst e; exact h1
theorem allN_step {ns : List Nar} {k : Nat} (hk : k < ns.length) (h : ∀ x ∈ ns.take k, okNar x = true) (h1 : okNar (nth ns k) = true) : ∀ x ∈ ns.take (k + 1), okNar x = true := fun x hx => by
  rw [take_nth hk] at hx; rcases List.mem_append.1 hx with h2 | h2
  · exact h x h2
  · have e : x = nth ns k := by simpa using h2
    subst e; exact h1
theorem OpenE_two {vs : List HVoy} {ns : List Nar} (h1 : vs.length ≤ 12) (h2 : ns.length ≤ 20) (h : (∃ x ∈ vs, okVoy x.v = false) ∨ ∃ n ∈ ns, okNar n = false) : OpenE (vs.map HVoy.v) ns = 2 := by
  unfold OpenE
  rw [if_neg (by rw [List.length_map]; omega), if_pos ?_]
  rcases h with ⟨x, hx, h⟩ | ⟨n, hx, h⟩
  · rw [Bool.or_eq_true]; left; rw [List.any_map]; exact List.any_eq_true.2 ⟨x, hx, by simp [chk, h]⟩
  · rw [Bool.or_eq_true]; right; exact List.any_eq_true.2 ⟨n, hx, by simp [h]⟩
theorem OpenE_go {vs : List HVoy} {ns : List Nar} (h1 : vs.length ≤ 12) (h2 : ns.length ≤ 20) (h3 : ∀ x ∈ vs, okVoy x.v = true) (h4 : ∀ n ∈ ns, okNar n = true) : OpenE (vs.map HVoy.v) ns = opE2 ns (vs.map HVoy.v) := by
  unfold OpenE
  rw [if_neg (by rw [List.length_map]; omega), if_neg ?_]
  rw [Bool.or_eq_true, List.any_map]
  rintro (h | h)
  · obtain ⟨x, hx, h⟩ := List.any_eq_true.1 h; simp [chk, h3 x hx] at h
  · obtain ⟨n, hx, h⟩ := List.any_eq_true.1 h; simp [h4 n hx] at h

theorem own26 : Own Try.prog 26 := ⟨Try.f26, Try.func26, by kernel_rfl, by kernel_rfl⟩
theorem own65 : Own Try.prog 65 := ⟨Try.f65, Try.func65, by kernel_rfl, by kernel_rfl⟩

set_option maxHeartbeats 1000000 in
theorem rStart_c (vs : List HVoy) (av : Option Addr) (bv ov cv : Nat) (ns : List Nar) (an : Option Addr) (bn on cn : Nat) (w0 : World) (hs : Sl encHVoy 5 w0 av bv ov vs) (hruns : ∀ x ∈ vs, Sl encRun 6 w0 x.ao x.b x.o x.v.runs) (hn : Sl encNar 4 w0 an bn on ns) (hvl : vs.length ≤ 1000000) (hnl : ns.length ≤ 1000000) (hrl : ∀ x ∈ vs, x.v.runs.length ≤ 1000000) :
    CallsV Try.prog 26 [.slice av vs.length cv, .slice an ns.length cn] w0 (fun v w' => v = .int .i64 (OpenE (vs.map HVoy.v) ns) ∧ Ext w0 w') := by
 have E0 := Upd.refl (fun _ => False) w0
 refine f_enter (N := 74) Try.func26 rfl rfl rfl ?_
 change WC _ _ _ _ _ _ [(0, .slice av vs.length cv), (1, .slice an ns.length cn)] _
 refine c_seq fun K1 hK1 => (c_region (t_assign rfl rfl rfl (t_nil' (hK1 _ _ (c_seq fun K2 hK2 => (c_seq fun K3 hK3 => (c_region (t_move rfl rfl rfl (t_len Try.underlying34 rfl rfl rfl rfl (t_cmp rfl rfl rfl rfl rfl (t_move rfl rfl rfl (t_splitp 16 rfl (fun g16 => ?_) (fun g16 => ?_)))))))))))))
 ·
  refine t_skip rfl rfl rfl (t_skip rfl rfl rfl (t_skip rfl rfl rfl (t_pick_t rfl rfl rfl rfl (t_nil' (hK3 _ _ (c_cond_t rfl (c_seq fun K4 hK4 => (c_region (t_assign rfl rfl rfl (t_nil' (hK4 _ _ (c_ret (f_ret1 (v := .int .i64 5) Try.results26 rfl ?_)))))))))))))
  exact ⟨congrArg (Value.int .i64) (by unfold OpenE; rw [if_pos (by rw [List.length_map]; omega)]), E0⟩
 ·
  refine t_move rfl rfl rfl (t_len Try.underlying35 rfl rfl rfl rfl (t_cmp rfl rfl rfl rfl rfl (t_pick_f rfl rfl rfl rfl (t_nil' (hK3 _ _ (c_condp rfl (fun g20 => ?_) (fun g20 => ?_)))))))
  ·
   refine c_seq fun K5 hK5 => (c_region (t_assign rfl rfl rfl (t_nil' (hK5 _ _ (c_ret (f_ret1 (v := .int .i64 5) Try.results26 rfl ?_))))))
   exact ⟨congrArg (Value.int .i64) (by unfold OpenE; rw [if_pos (by rw [List.length_map]; omega)]), E0⟩
  ·
   refine c_skip (hK2 _ _ (c_seq fun K6 hK6 => (c_seq fun K7 hK7 => (c_region (t_assign rfl rfl rfl (t_nil' (hK7 _ _ (c_block (c_loop (γ := Nat) (fun k => [(0, .slice av vs.length cv), (1, .slice an ns.length cn), (5, .int .i64 (k : Int))]) (fun k w => Upd (fun _ => False) w0 w ∧ (k ≤ vs.length) ∧ (∀ x ∈ vs.take k, okVoy x.v = true)) (fun k => vs.length - k) 0 ⟨rfl, rfl, rfl, trivial⟩ ⟨Upd.refl _ _, Nat.zero_le _, (fun x hx => by cases hx)⟩ ?_)))))))))
   intro k w9 hW K8 hK8
   obtain ⟨u10, I11, I12⟩ := hW
   have zu10 := u10.size
   have E13 := E0.next u10 (fun _ _ h => h.elim)
   have hk := I11; clear I11
   have hin := I12; clear I12
   refine c_seq fun K14 hK14 => (c_seq fun K15 hK15 => (c_region (t_move rfl rfl rfl (t_move rfl rfl rfl (t_len Try.underlying34 rfl rfl rfl rfl (t_cmp rfl rfl rfl rfl rfl (t_nil' (hK15 _ _ (c_condp rfl (fun g24 => ?_) (fun g24 => ?_))))))))))
   ·
    refine c_skip (hK14 _ _ (c_seq fun K16 hK16 => (c_block (c_seq fun K17 hK17 => (c_region (t_move rfl rfl rfl (t_move rfl rfl rfl ?_)))))))
    have i18 : k < vs.length := (by omega)
    refine t_index (j := k) Try.underlying34 Try.sizeOf48 rfl rfl rfl rfl ((hs.keep E13 (fun _ h => h)).addr (by omega)) rfl i18 (t_loadN (vs := [.int .i64 ((nth vs k).v.st.lo), .int .i64 ((nth vs k).v.st.hi), .slice ((nth vs k).ao) (((nth vs k).v.runs).length) ((nth vs k).cap), .int .i64 ((nth vs k).v.len), .int .i64 ((nth vs k).v.wid)]) Try.isAgg48 Try.sizeOf48 rfl rfl rfl (((hs.keep E13 (fun _ h => h)).at_ k (by omega)).sub 0 5) rfl ?_)
    have hrk := hrl _ (nth_mem (xs := vs) (i := k) (by omega))
    refine t_call (vs := [.agg #[.int .i64 ((nth vs k).v.st.lo), .int .i64 ((nth vs k).v.st.hi), .slice ((nth vs k).ao) (((nth vs k).v.runs).length) ((nth vs k).cap), .int .i64 ((nth vs k).v.len), .int .i64 ((nth vs k).v.wid)]]) own32 rfl rfl rfl rfl (rVoyage_c (nth vs k).v (nth vs k).ao (nth vs k).b (nth vs k).o (nth vs k).cap _ ((hruns (nth vs k) (nth_mem (by omega))).keep E13 (fun _ h => h)) (by omega)) (fun v19 w20 r22 => ?_)
    obtain ⟨rfl, u21⟩ := r22
    have zu21 := u21.size
    have E23 := E13.next u21 (fun _ _ h => h.elim)
    refine t_not rfl rfl rfl (t_nil' (hK17 _ _ (c_cond rfl (fun g32 => ?_) (fun g32 => ?_))))
    ·
     refine c_seq fun K24 hK24 => (c_region (t_assign rfl rfl rfl (t_nil' (hK24 _ _ (c_ret (f_ret1 (v := .int .i64 2) Try.results26 rfl ?_))))))
     exact ⟨congrArg (Value.int .i64) (OpenE_two (by omega) (by omega) (.inl ⟨_, nth_mem (xs := vs) (i := k) (by omega), by simpa using g32⟩)).symm, E23⟩
    ·
     refine c_skip (hK16 _ _ (c_region (t_move rfl rfl rfl (t_ari rfl rfl rfl rfl rfl (by omega) (t_assign rfl rfl rfl (t_nil' ?_))))))
     exact hK8 (k + 1) _ _ (by omega) ⟨rfl, rfl, rfl, trivial⟩ ⟨(u10.next u21 (fun _ _ h => h.elim)), (by omega), (allV_step (by omega) hin (by simpa using g32))⟩
   ·
    have hokv : ∀ x ∈ vs, okVoy x.v = true := by rw [List.take_of_length_le (by omega)] at hin; exact hin
    refine c_exit (hK6 _ _ (c_seq fun K25 hK25 => (c_seq fun K26 hK26 => (c_region (t_assign rfl rfl rfl (t_nil' (hK26 _ _ (c_block (c_loop (γ := Nat) (fun k => [(0, .slice av vs.length cv), (1, .slice an ns.length cn), (6, .int .i64 (k : Int))]) (fun k w => Upd (fun _ => False) w9 w ∧ (k ≤ ns.length) ∧ (∀ x ∈ ns.take k, okNar x = true)) (fun k => ns.length - k) 0 ⟨rfl, rfl, rfl, trivial⟩ ⟨Upd.refl _ _, Nat.zero_le _, (fun x hx => by cases hx)⟩ ?_)))))))))
    intro k w28 hW K27 hK27
    obtain ⟨u29, I30, I31⟩ := hW
    have zu29 := u29.size
    have E32 := E13.next u29 (fun _ _ h => h.elim)
    have hk := I30; clear I30
    have hin2 := I31; clear I31
    refine c_seq fun K33 hK33 => (c_seq fun K34 hK34 => (c_region (t_move rfl rfl rfl (t_move rfl rfl rfl (t_len Try.underlying35 rfl rfl rfl rfl (t_cmp rfl rfl rfl rfl rfl (t_nil' (hK34 _ _ (c_condp rfl (fun g36 => ?_) (fun g36 => ?_))))))))))
    ·
     refine c_skip (hK33 _ _ (c_seq fun K35 hK35 => (c_block (c_seq fun K36 hK36 => (c_region (t_move rfl rfl rfl (t_move rfl rfl rfl ?_)))))))
     have i37 : k < ns.length := (by omega)
     refine t_index (j := k) Try.underlying35 Try.sizeOf72 rfl rfl rfl rfl ((hn.keep E32 (fun _ h => h)).addr (by omega)) rfl i37 (t_loadN (vs := [.int .i64 ((nth ns k).frm), .int .i64 ((nth ns k).to), .int .i64 ((nth ns k).wid), .bool ((nth ns k).single)]) Try.isAgg72 Try.sizeOf72 rfl rfl rfl (((hn.keep E32 (fun _ h => h)).at_ k (by omega)).sub 0 4) rfl (t_call (vs := [.agg #[.int .i64 ((nth ns k).frm), .int .i64 ((nth ns k).to), .int .i64 ((nth ns k).wid), .bool ((nth ns k).single)]]) own42 rfl rfl rfl rfl (rNarrow_c (nth ns k) _) (fun v38 w39 r41 => ?_)))
     obtain ⟨rfl, u40⟩ := r41
     have zu40 := u40.size
     have E42 := E32.next u40 (fun _ _ h => h.elim)
     refine t_not rfl rfl rfl (t_nil' (hK36 _ _ (c_cond rfl (fun g44 => ?_) (fun g44 => ?_))))
     ·
      refine c_seq fun K43 hK43 => (c_region (t_assign rfl rfl rfl (t_nil' (hK43 _ _ (c_ret (f_ret1 (v := .int .i64 2) Try.results26 rfl ?_))))))
      exact ⟨congrArg (Value.int .i64) (OpenE_two (by omega) (by omega) (.inr ⟨_, nth_mem (xs := ns) (i := k) (by omega), by simpa using g44⟩)).symm, E42⟩
     ·
      refine c_skip (hK35 _ _ (c_region (t_move rfl rfl rfl (t_ari rfl rfl rfl rfl rfl (by omega) (t_assign rfl rfl rfl (t_nil' ?_))))))
      exact hK27 (k + 1) _ _ (by omega) ⟨rfl, rfl, rfl, trivial⟩ ⟨(u29.next u40 (fun _ _ h => h.elim)), (by omega), (allN_step (by omega) hin2 (by simpa using g44))⟩
    ·
     have hokn : ∀ n ∈ ns, okNar n = true := by rw [List.take_of_length_le (by omega)] at hin2; exact hin2
     have hE0 := OpenE_go (by omega) (by omega) hokv hokn
     refine c_exit (hK25 _ _ (c_seq fun K44 hK44 => (c_seq fun K45 hK45 => (c_region (t_assign rfl rfl rfl (t_nil' (hK45 _ _ (c_block (c_loop (γ := Nat) (fun k => [(0, .slice av vs.length cv), (1, .slice an ns.length cn), (7, .int .i64 (k : Int))]) (fun k w => Upd (fun _ => False) w28 w ∧ (k ≤ vs.length) ∧ (opE2 ns (vs.map HVoy.v) = opE2 ns ((vs.map HVoy.v).drop k))) (fun k => vs.length - k) 0 ⟨rfl, rfl, rfl, trivial⟩ ⟨Upd.refl _ _, Nat.zero_le _, rfl⟩ ?_)))))))))
     intro k w47 hW K46 hK46
     obtain ⟨u48, I49, I50⟩ := hW
     have zu48 := u48.size
     have E51 := E32.next u48 (fun _ _ h => h.elim)
     have hk := I49; clear I49
     have hgo := I50; clear I50
     refine c_seq fun K52 hK52 => (c_seq fun K53 hK53 => (c_region (t_move rfl rfl rfl (t_move rfl rfl rfl (t_len Try.underlying34 rfl rfl rfl rfl (t_cmp rfl rfl rfl rfl rfl (t_nil' (hK53 _ _ (c_condp rfl (fun g48 => ?_) (fun g48 => ?_))))))))))
     ·
      refine c_skip (hK52 _ _ (c_seq fun K54 hK54 => (c_block (c_seq fun K55 hK55 => (c_region (t_assign rfl rfl rfl (t_nil' (hK55 _ _ (c_block (c_loop (γ := Nat) (fun j => [(0, .slice av vs.length cv), (1, .slice an ns.length cn), (7, .int .i64 (k : Int)), (8, .int .i64 (j : Int))]) (fun j w => Upd (fun _ => False) w47 w ∧ (j ≤ ns.length) ∧ (opE1 (nth vs k).v ns = opE1 (nth vs k).v (ns.drop j))) (fun j => ns.length - j) 0 ⟨rfl, rfl, rfl, rfl, trivial⟩ ⟨Upd.refl _ _, Nat.zero_le _, rfl⟩ ?_))))))))))
      intro j w57 hW K56 hK56
      obtain ⟨u58, I59, I60⟩ := hW
      have zu58 := u58.size
      have E61 := E51.next u58 (fun _ _ h => h.elim)
      have hj := I59; clear I59
      have hon := I60; clear I60
      refine c_seq fun K62 hK62 => (c_seq fun K63 hK63 => (c_region (t_move rfl rfl rfl (t_move rfl rfl rfl (t_len Try.underlying35 rfl rfl rfl rfl (t_cmp rfl rfl rfl rfl rfl (t_nil' (hK63 _ _ (c_condp rfl (fun g54 => ?_) (fun g54 => ?_))))))))))
      ·
       refine c_skip (hK62 _ _ (c_seq fun K64 hK64 => (c_block (c_seq fun K65 hK65 => (WC.weak [(0, .slice av vs.length cv), (1, .slice an ns.length cn), (7, .int .i64 (k : Int)), (8, .int .i64 (j : Int))] ⟨rfl, rfl, rfl, rfl, trivial⟩ (c_drawn follows 20 [some (58, some (.slice av vs.length cv)), some (59, some (.int .i64 (k : Int))), some (60, some (.pointer (some ⟨bv, ov + k * 5, none⟩))), some (61, some (.agg #[.int .i64 ((nth vs k).v.st.lo), .int .i64 ((nth vs k).v.st.hi), .slice ((nth vs k).ao) (((nth vs k).v.runs).length) ((nth vs k).cap), .int .i64 ((nth vs k).v.len), .int .i64 ((nth vs k).v.wid)])), some (62, some (.slice an ns.length cn)), some (63, some (.int .i64 (j : Int))), some (64, some (.pointer (some ⟨bn, on + j * 4, none⟩))), some (65, some (.agg #[.int .i64 ((nth ns j).frm), .int .i64 ((nth ns j).to), .int .i64 ((nth ns j).wid), .bool ((nth ns j).single)])), some (66, some (.tuple #[.agg #[.int .i64 ((thrS (nth vs k).v (nth ns j)).inn.lo), .int .i64 ((thrS (nth vs k).v (nth ns j)).inn.hi)], .agg #[.int .i64 ((thrS (nth vs k).v (nth ns j)).out.lo), .int .i64 ((thrS (nth vs k).v (nth ns j)).out.hi)], .bool ((thrS (nth vs k).v (nth ns j)).there), .int .i64 (thrE (nth vs k).v (nth ns j))])), some (57, some (.tuple #[.agg #[.int .i64 ((thrS (nth vs k).v (nth ns j)).inn.lo), .int .i64 ((thrS (nth vs k).v (nth ns j)).inn.hi)], .agg #[.int .i64 ((thrS (nth vs k).v (nth ns j)).out.lo), .int .i64 ((thrS (nth vs k).v (nth ns j)).out.hi)], .bool ((thrS (nth vs k).v (nth ns j)).there), .int .i64 (thrE (nth vs k).v (nth ns j))])), some (67, some (.agg #[.int .i64 ((thrS (nth vs k).v (nth ns j)).inn.lo), .int .i64 ((thrS (nth vs k).v (nth ns j)).inn.hi)])), some (68, some (.agg #[.int .i64 ((thrS (nth vs k).v (nth ns j)).out.lo), .int .i64 ((thrS (nth vs k).v (nth ns j)).out.hi)])), some (69, some (.bool ((thrS (nth vs k).v (nth ns j)).there))), some (70, some (.int .i64 (thrE (nth vs k).v (nth ns j)))), some (9, none), some (10, none), none, none, some (11, some (.bool ((thrS (nth vs k).v (nth ns j)).there))), some (12, some (.int .i64 (thrE (nth vs k).v (nth ns j))))] [[],[],[0,1],[2],[],[],[4,5],[6],[3,7],[8],[9],[9],[9],[9],[],[],[14,10,8,0,1,2,3,4,5,6,7,8,9,10,14,15],[15,11,16,0,1,2,3,4,5,6,7,8,9,10,11,14,15,16],[12,17,0,1,2,3,4,5,6,7,8,9,10,11,12,14,15,16,17],[13,18,0,1,2,3,4,5,6,7,8,9,10,11,12,13,14,15,16,17,18]] (fun D ρ w => Upd (fun _ => False) w57 w ∧ (D 14 = true → ∃ bk73, ρ 14 = .pointer (some ⟨bk73, 0, none⟩) ∧ w57.heap.size ≤ bk73 ∧ Blk w bk73 45 [(bif D 16 then .int .i64 ((thrS (nth vs k).v (nth ns j)).inn.lo) else .int .i64 0), (bif D 16 then .int .i64 ((thrS (nth vs k).v (nth ns j)).inn.hi) else .int .i64 0)]) ∧ (D 15 = true → ∃ bk78, ρ 15 = .pointer (some ⟨bk78, 0, none⟩) ∧ w57.heap.size ≤ bk78 ∧ Blk w bk78 45 [(bif D 17 then .int .i64 ((thrS (nth vs k).v (nth ns j)).out.lo) else .int .i64 0), (bif D 17 then .int .i64 ((thrS (nth vs k).v (nth ns j)).out.hi) else .int .i64 0)]) ∧ (∀ b c, D 14 = true → D 15 = true → ρ 14 = .pointer (some ⟨b, 0, none⟩) → ρ 15 = .pointer (some ⟨c, 0, none⟩) → b ≠ c)) rfl rfl rfl (by kernel_rfl) (by kernel_rfl) ⟨(Upd.drew _).to, (fun h => by cases h), (fun h => by cases h), (fun _ _ h => by cases h)⟩ ⟨?_, ?_, ?_, ?_, ?_, ?_, ?_, ?_, ?_, ?_, ?_, ?_, ?_, ?_, ?_, ?_, ?_, ?_, ?_, ?_, trivial⟩ ?_))))))
       · exact pz rfl rfl rfl rfl fun _ _ _ h => h
       · exact pz rfl rfl rfl rfl fun _ _ _ h => h
       ·
        intro D ρ w83 hcD hnD hdD hW
        obtain ⟨u84, F85, F86, P87⟩ := hW
        have zu84 := u84.size
        have E88 := E61.next u84 (fun _ _ h => h.elim)
        refine ⟨_, kf_fr [58, 59], fun Lr => ?_⟩
        have i89 : k < vs.length := (by omega)
        refine t_index (j := k) Try.underlying34 Try.sizeOf48 rfl rfl rfl rfl ((hs.keep E88 (fun _ h => h)).addr (by omega)) rfl i89 ?_
        exact dz rfl ⟨u84, F85, F86, P87⟩
       ·
        intro D ρ w90 hcD hnD hdD hW
        obtain ⟨u91, F92, F93, P94⟩ := hW
        have zu91 := u91.size
        have E95 := E61.next u91 (fun _ _ h => h.elim)
        refine ⟨_, kf_fr [60], fun Lr => ?_⟩
        refine t_loadN (vs := [.int .i64 ((nth vs k).v.st.lo), .int .i64 ((nth vs k).v.st.hi), .slice ((nth vs k).ao) (((nth vs k).v.runs).length) ((nth vs k).cap), .int .i64 ((nth vs k).v.len), .int .i64 ((nth vs k).v.wid)]) Try.isAgg48 Try.sizeOf48 rfl rfl rfl (((hs.keep E95 (fun _ h => h)).at_ k (by omega)).sub 0 5) rfl ?_
        exact dz rfl ⟨u91, F92, F93, P94⟩
       · exact pz rfl rfl rfl rfl fun _ _ _ h => h
       · exact pz rfl rfl rfl rfl fun _ _ _ h => h
       ·
        intro D ρ w96 hcD hnD hdD hW
        obtain ⟨u97, F98, F99, P100⟩ := hW
        have zu97 := u97.size
        have E101 := E61.next u97 (fun _ _ h => h.elim)
        refine ⟨_, kf_fr [62, 63], fun Lr => ?_⟩
        have i102 : j < ns.length := (by omega)
        refine t_index (j := j) Try.underlying35 Try.sizeOf72 rfl rfl rfl rfl ((hn.keep E101 (fun _ h => h)).addr (by omega)) rfl i102 ?_
        exact dz rfl ⟨u97, F98, F99, P100⟩
       ·
        intro D ρ w103 hcD hnD hdD hW
        obtain ⟨u104, F105, F106, P107⟩ := hW
        have zu104 := u104.size
        have E108 := E61.next u104 (fun _ _ h => h.elim)
        refine ⟨_, kf_fr [64], fun Lr => ?_⟩
        refine t_loadN (vs := [.int .i64 ((nth ns j).frm), .int .i64 ((nth ns j).to), .int .i64 ((nth ns j).wid), .bool ((nth ns j).single)]) Try.isAgg72 Try.sizeOf72 rfl rfl rfl (((hn.keep E108 (fun _ h => h)).at_ j (by omega)).sub 0 4) rfl ?_
        exact dz rfl ⟨u104, F105, F106, P107⟩
       ·
        intro D ρ w109 hcD hnD hdD hW
        obtain ⟨u110, F111, F112, P113⟩ := hW
        have zu110 := u110.size
        have E114 := E61.next u110 (fun _ _ h => h.elim)
        refine ⟨_, kf_fr [61, 65], fun Lr => ?_⟩
        refine t_call (vs := [.agg #[.int .i64 ((nth vs k).v.st.lo), .int .i64 ((nth vs k).v.st.hi), .slice ((nth vs k).ao) (((nth vs k).v.runs).length) ((nth vs k).cap), .int .i64 ((nth vs k).v.len), .int .i64 ((nth vs k).v.wid)], .agg #[.int .i64 ((nth ns j).frm), .int .i64 ((nth ns j).to), .int .i64 ((nth ns j).wid), .bool ((nth ns j).single)]]) own43 rfl rfl rfl rfl (rThrough_c (nth vs k).v (nth vs k).ao (nth vs k).b (nth vs k).o (nth vs k).cap (nth ns j) _ ((hruns (nth vs k) (nth_mem (by omega))).keep E114 (fun _ h => h)) (hokv _ (nth_mem (by omega))) (hokn _ (nth_mem (by omega)))) (fun v115 w116 r118 => ?_)
        obtain ⟨rfl, u117⟩ := r118
        have zu117 := u117.size
        exact dz rfl ⟨(u110.next u117 (fun _ _ h => h.elim)), (fun h => by obtain ⟨b, e, hge, hB⟩ := F111 h; exact ⟨b, e, hge, (hB.keep u117 (fun h => h))⟩), (fun h => by obtain ⟨b, e, hge, hB⟩ := F112 h; exact ⟨b, e, hge, (hB.keep u117 (fun h => h))⟩), P113⟩
       · exact pz rfl rfl rfl rfl fun _ _ _ h => h
       · exact fun D ρ w _ _ _ hW => ⟨[(57, .tuple #[.agg #[.int .i64 ((thrS (nth vs k).v (nth ns j)).inn.lo), .int .i64 ((thrS (nth vs k).v (nth ns j)).inn.hi)], .agg #[.int .i64 ((thrS (nth vs k).v (nth ns j)).out.lo), .int .i64 ((thrS (nth vs k).v (nth ns j)).out.hi)], .bool ((thrS (nth vs k).v (nth ns j)).there), .int .i64 (thrE (nth vs k).v (nth ns j))])], ⟨fi 9 rfl rfl rfl, trivial⟩, fun Lr => t_extract (vs := [.agg #[.int .i64 ((thrS (nth vs k).v (nth ns j)).inn.lo), .int .i64 ((thrS (nth vs k).v (nth ns j)).inn.hi)], .agg #[.int .i64 ((thrS (nth vs k).v (nth ns j)).out.lo), .int .i64 ((thrS (nth vs k).v (nth ns j)).out.hi)], .bool ((thrS (nth vs k).v (nth ns j)).there), .int .i64 (thrE (nth vs k).v (nth ns j))]) rfl rfl rfl rfl (dz rfl hW)⟩
       · exact fun D ρ w _ _ _ hW => ⟨[(57, .tuple #[.agg #[.int .i64 ((thrS (nth vs k).v (nth ns j)).inn.lo), .int .i64 ((thrS (nth vs k).v (nth ns j)).inn.hi)], .agg #[.int .i64 ((thrS (nth vs k).v (nth ns j)).out.lo), .int .i64 ((thrS (nth vs k).v (nth ns j)).out.hi)], .bool ((thrS (nth vs k).v (nth ns j)).there), .int .i64 (thrE (nth vs k).v (nth ns j))])], ⟨fi 9 rfl rfl rfl, trivial⟩, fun Lr => t_extract (vs := [.agg #[.int .i64 ((thrS (nth vs k).v (nth ns j)).inn.lo), .int .i64 ((thrS (nth vs k).v (nth ns j)).inn.hi)], .agg #[.int .i64 ((thrS (nth vs k).v (nth ns j)).out.lo), .int .i64 ((thrS (nth vs k).v (nth ns j)).out.hi)], .bool ((thrS (nth vs k).v (nth ns j)).there), .int .i64 (thrE (nth vs k).v (nth ns j))]) rfl rfl rfl rfl (dz rfl hW)⟩
       · exact fun D ρ w _ _ _ hW => ⟨[(57, .tuple #[.agg #[.int .i64 ((thrS (nth vs k).v (nth ns j)).inn.lo), .int .i64 ((thrS (nth vs k).v (nth ns j)).inn.hi)], .agg #[.int .i64 ((thrS (nth vs k).v (nth ns j)).out.lo), .int .i64 ((thrS (nth vs k).v (nth ns j)).out.hi)], .bool ((thrS (nth vs k).v (nth ns j)).there), .int .i64 (thrE (nth vs k).v (nth ns j))])], ⟨fi 9 rfl rfl rfl, trivial⟩, fun Lr => t_extract (vs := [.agg #[.int .i64 ((thrS (nth vs k).v (nth ns j)).inn.lo), .int .i64 ((thrS (nth vs k).v (nth ns j)).inn.hi)], .agg #[.int .i64 ((thrS (nth vs k).v (nth ns j)).out.lo), .int .i64 ((thrS (nth vs k).v (nth ns j)).out.hi)], .bool ((thrS (nth vs k).v (nth ns j)).there), .int .i64 (thrE (nth vs k).v (nth ns j))]) rfl rfl rfl rfl (dz rfl hW)⟩
       · exact fun D ρ w _ _ _ hW => ⟨[(57, .tuple #[.agg #[.int .i64 ((thrS (nth vs k).v (nth ns j)).inn.lo), .int .i64 ((thrS (nth vs k).v (nth ns j)).inn.hi)], .agg #[.int .i64 ((thrS (nth vs k).v (nth ns j)).out.lo), .int .i64 ((thrS (nth vs k).v (nth ns j)).out.hi)], .bool ((thrS (nth vs k).v (nth ns j)).there), .int .i64 (thrE (nth vs k).v (nth ns j))])], ⟨fi 9 rfl rfl rfl, trivial⟩, fun Lr => t_extract (vs := [.agg #[.int .i64 ((thrS (nth vs k).v (nth ns j)).inn.lo), .int .i64 ((thrS (nth vs k).v (nth ns j)).inn.hi)], .agg #[.int .i64 ((thrS (nth vs k).v (nth ns j)).out.lo), .int .i64 ((thrS (nth vs k).v (nth ns j)).out.hi)], .bool ((thrS (nth vs k).v (nth ns j)).there), .int .i64 (thrE (nth vs k).v (nth ns j))]) rfl rfl rfl rfl (dz rfl hW)⟩
       ·
        intro D ρ w120 hcD hnD hdD hW
        obtain ⟨u121, F122, F123, P124⟩ := hW
        have zu121 := u121.size
        refine ⟨[], trivial, fun Lr => ?_⟩
        refine t_alloc (cs := [.int .i64 0, .int .i64 0]) Try.zeroValue45 rfl rfl rfl (fun bk126 w127 ebk126 sbk126 B128 u129 => ?_)
        have zu129 := u129.size
        have d16 := hcD.late 16 hnD rfl
        exact dzn rfl ⟨(u121.next u129 (fun _ _ h => h.elim)), (fun _ => ⟨bk126, rfl, (by omega), (by show Blk w127 bk126 45 [(bif D 16 then .int .i64 ((thrS (nth vs k).v (nth ns j)).inn.lo) else .int .i64 0), (bif D 16 then .int .i64 ((thrS (nth vs k).v (nth ns j)).inn.hi) else .int .i64 0)]; simp only [d16, cond_false]; exact B128)⟩), (fun h => by obtain ⟨b, e, hge, hB⟩ := F123 h; exact ⟨b, e, hge, (hB.keep u129 (fun h => h))⟩), (fun b c h1 h2 e1 e2 => by obtain ⟨b1, e3, _, hB⟩ := F123 h2; have hl := hB.lt; have e4 : Value.pointer (some ⟨b1, 0, none⟩) = .pointer (some ⟨c, 0, none⟩) := e3.symm.trans e2; have e5 : Value.pointer (some ⟨bk126, 0, none⟩) = .pointer (some ⟨b, 0, none⟩) := e1; simp at e4 e5; omega)⟩
       ·
        intro D ρ w131 hcD hnD hdD hW
        obtain ⟨u132, F133, F134, P135⟩ := hW
        have zu132 := u132.size
        refine ⟨[], trivial, fun Lr => ?_⟩
        refine t_alloc (cs := [.int .i64 0, .int .i64 0]) Try.zeroValue45 rfl rfl rfl (fun bk137 w138 ebk137 sbk137 B139 u140 => ?_)
        have zu140 := u140.size
        have d17 := hcD.late 17 hnD rfl
        exact dzn rfl ⟨(u132.next u140 (fun _ _ h => h.elim)), (fun h => by obtain ⟨b, e, hge, hB⟩ := F133 h; exact ⟨b, e, hge, (hB.keep u140 (fun h => h))⟩), (fun _ => ⟨bk137, rfl, (by omega), (by show Blk w138 bk137 45 [(bif D 17 then .int .i64 ((thrS (nth vs k).v (nth ns j)).out.lo) else .int .i64 0), (bif D 17 then .int .i64 ((thrS (nth vs k).v (nth ns j)).out.hi) else .int .i64 0)]; simp only [d17, cond_false]; exact B139)⟩), (fun b c h1 h2 e1 e2 => by obtain ⟨b1, e3, _, hB⟩ := F133 h1; have hl := hB.lt; have e4 : Value.pointer (some ⟨b1, 0, none⟩) = .pointer (some ⟨b, 0, none⟩) := e3.symm.trans e1; have e5 : Value.pointer (some ⟨bk137, 0, none⟩) = .pointer (some ⟨c, 0, none⟩) := e2; simp at e4 e5; omega)⟩
       ·
        intro D ρ w142 hcD hnD hdD hW
        obtain ⟨u143, F144, F145, P146⟩ := hW
        have zu143 := u143.size
        obtain ⟨bk73, e148, gebk73, B149⟩ := F144 (hdD 14 rfl)
        have B150 := B149
        simp only [hnD, cond_false] at B150
        refine ⟨[(9, .pointer (some ⟨bk73, 0, none⟩)), (67, .agg #[.int .i64 ((thrS (nth vs k).v (nth ns j)).inn.lo), .int .i64 ((thrS (nth vs k).v (nth ns j)).inn.hi)])], ⟨fi 14 rfl rfl e148.symm, fi 10 rfl rfl rfl, trivial⟩, fun Lr => ?_⟩
        refine t_store (vs := [.int .i64 ((thrS (nth vs k).v (nth ns j)).inn.lo), .int .i64 ((thrS (nth vs k).v (nth ns j)).inn.hi)]) Try.sizeOf45 rfl rfl rfl B150 rfl rfl (Nat.le_of_ble_eq_true rfl) (by simp [Value.oneCell']) (fun w151 sw151 B153 u152 => ?_)
        have zu152 := u152.size
        have B153 : Blk w151 bk73 45 [.int .i64 ((thrS (nth vs k).v (nth ns j)).inn.lo), .int .i64 ((thrS (nth vs k).v (nth ns j)).inn.hi)] := B153
        exact dz0 rfl ⟨(u143.next u152 (fun i hi (h : i = bk73) => show False by first | omega | assumption)), (fun _ => ⟨bk73, e148, gebk73, (by show Blk w151 bk73 45 [.int .i64 ((thrS (nth vs k).v (nth ns j)).inn.lo), .int .i64 ((thrS (nth vs k).v (nth ns j)).inn.hi)]; exact B153)⟩), (fun h => by obtain ⟨b, e, hge, hB⟩ := F145 h; have hne := P146 _ _ (hdD 14 rfl) h e148 e; exact ⟨b, e, hge, (hB.keep u152 (show ¬ (b = bk73) by first | omega | assumption))⟩), P146⟩
       ·
        intro D ρ w155 hcD hnD hdD hW
        obtain ⟨u156, F157, F158, P159⟩ := hW
        have zu156 := u156.size
        obtain ⟨bk78, e161, gebk78, B162⟩ := F158 (hdD 15 rfl)
        have B163 := B162
        simp only [hnD, cond_false] at B163
        refine ⟨[(10, .pointer (some ⟨bk78, 0, none⟩)), (68, .agg #[.int .i64 ((thrS (nth vs k).v (nth ns j)).out.lo), .int .i64 ((thrS (nth vs k).v (nth ns j)).out.hi)])], ⟨fi 15 rfl rfl e161.symm, fi 11 rfl rfl rfl, trivial⟩, fun Lr => ?_⟩
        refine t_store (vs := [.int .i64 ((thrS (nth vs k).v (nth ns j)).out.lo), .int .i64 ((thrS (nth vs k).v (nth ns j)).out.hi)]) Try.sizeOf45 rfl rfl rfl B163 rfl rfl (Nat.le_of_ble_eq_true rfl) (by simp [Value.oneCell']) (fun w164 sw164 B166 u165 => ?_)
        have zu165 := u165.size
        have B166 : Blk w164 bk78 45 [.int .i64 ((thrS (nth vs k).v (nth ns j)).out.lo), .int .i64 ((thrS (nth vs k).v (nth ns j)).out.hi)] := B166
        exact dz0 rfl ⟨(u156.next u165 (fun i hi (h : i = bk78) => show False by first | omega | assumption)), (fun h => by obtain ⟨b, e, hge, hB⟩ := F157 h; have hne := P159 _ _ h (hdD 15 rfl) e e161; exact ⟨b, e, hge, (hB.keep u165 (show ¬ (b = bk78) by first | omega | assumption))⟩), (fun _ => ⟨bk78, e161, gebk78, (by show Blk w164 bk78 45 [.int .i64 ((thrS (nth vs k).v (nth ns j)).out.lo), .int .i64 ((thrS (nth vs k).v (nth ns j)).out.hi)]; exact B166)⟩), P159⟩
       · exact pz rfl rfl rfl rfl fun _ _ _ h => h
       · exact pz rfl rfl rfl rfl fun _ _ _ h => h
       intro ρ w168 hW
       obtain ⟨u169, F170, F171, P172⟩ := hW
       have zu169 := u169.size
       have E173 := E61.next u169 (fun _ _ h => h.elim)
       obtain ⟨bk73, e174, gebk73, B175⟩ := F170 rfl
       have B175 : Blk w168 bk73 45 [.int .i64 ((thrS (nth vs k).v (nth ns j)).inn.lo), .int .i64 ((thrS (nth vs k).v (nth ns j)).inn.hi)] := B175
       have lt_bk73 := B175.lt
       obtain ⟨bk78, e176, gebk78, B177⟩ := F171 rfl
       have B177 : Blk w168 bk78 45 [.int .i64 ((thrS (nth vs k).v (nth ns j)).out.lo), .int .i64 ((thrS (nth vs k).v (nth ns j)).out.hi)] := B177
       have lt_bk78 := B177.lt
       have nbk73_bk78 := P172 _ _ rfl rfl e174 e176
       refine QK.weak [(0, .slice av vs.length cv), (1, .slice an ns.length cn), (7, .int .i64 (k : Int)), (8, .int .i64 (j : Int)), (12, .int .i64 (thrE (nth vs k).v (nth ns j)))] ⟨rfl, rfl, rfl, rfl, rfl, trivial⟩ (hK65 _ _ (c_seq fun K178 hK178 => (c_region (t_move rfl rfl rfl (t_cmp rfl rfl rfl rfl rfl (t_nil' (hK178 _ _ (c_condp rfl (fun g72 => ?_) (fun g72 => ?_)))))))))
       ·
        refine c_seq fun K179 hK179 => (c_region (t_move rfl rfl rfl (t_assign rfl rfl rfl (t_nil' (hK179 _ _ (c_ret (f_ret1 (v := .int .i64 (thrE (nth vs k).v (nth ns j))) Try.results26 rfl ?_)))))))
        exact ⟨congrArg (Value.int .i64) (by rw [hE0, hgo, opE2_step (by omega), hon, opE1_step (by omega), if_neg g72, if_neg g72]), E173⟩
       ·
        refine c_skip (hK64 _ _ (c_region (t_move rfl rfl rfl (t_ari rfl rfl rfl rfl rfl (by omega) (t_assign rfl rfl rfl (t_nil' ?_))))))
        exact hK56 (j + 1) _ _ (by omega) ⟨rfl, rfl, rfl, rfl, trivial⟩ ⟨(u58.next u169 (fun _ _ h => h.elim)), (by omega), (by rw [hon, opE1_step (by omega), if_pos (Decidable.not_not.1 g72)])⟩
      ·
       have hinner0 : opE1 (nth vs k).v ns = 0 := by rw [hon, List.drop_eq_nil_of_le (by omega)]; rfl
       refine c_exit (hK54 _ _ (c_region (t_move rfl rfl rfl (t_ari rfl rfl rfl rfl rfl (by omega) (t_assign rfl rfl rfl (t_nil' ?_))))))
       exact hK46 (k + 1) _ _ (by omega) ⟨rfl, rfl, rfl, trivial⟩ ⟨(u48.next u58 (fun _ _ h => h.elim)), (by omega), (by rw [hgo, opE2_step (by omega), if_pos hinner0])⟩
     ·
      refine c_exit (hK44 _ _ (c_seq fun K180 hK180 => (c_region (t_assign rfl rfl rfl (t_nil' (hK180 _ _ (c_ret (f_ret1 (v := .int .i64 0) Try.results26 rfl ?_))))))))
      exact ⟨congrArg (Value.int .i64) (by rw [hE0, hgo, List.drop_eq_nil_of_le (by rw [List.length_map]; omega)]; rfl), E51⟩

theorem rHeld_c (v : Voy) (ao : Option Addr) (b o cap : Nat) (h : Int) (w0 : World) (hb : (-1000000000 ≤ v.st.lo ∧ v.st.lo ≤ 1000000000) ∧ (-1000000000 ≤ v.st.hi ∧ v.st.hi ≤ 1000000000)) (hh : 0 ≤ h ∧ h ≤ 1000000) :
    CallsV Try.prog 65 [.agg #[.int .i64 v.st.lo, .int .i64 v.st.hi, .slice ao ((v.runs).length) cap, .int .i64 v.len, .int .i64 v.wid], .int .i64 h] w0 (fun x w' => x = .agg #[.int .i64 (v.st.lo + h), .int .i64 (v.st.hi + h), .slice ao v.runs.length cap, .int .i64 v.len, .int .i64 v.wid] ∧ Ext w0 w') := by
 have E0 := Upd.refl (fun _ => False) w0
 refine f_enter (N := 18) Try.func65 rfl rfl rfl ?_
 change WC _ _ _ _ _ _ [(0, .agg #[.int .i64 v.st.lo, .int .i64 v.st.hi, .slice ao ((v.runs).length) cap, .int .i64 v.len, .int .i64 v.wid]), (1, .int .i64 h)] _
 refine c_seq fun K1 hK1 => (c_region (t_box (cs := [.int .i64 v.st.lo, .int .i64 v.st.hi, .slice ao ((v.runs).length) cap, .int .i64 v.len, .int .i64 v.wid]) rfl rfl rfl rfl (fun bk2 w3 ebk2 sbk2 B4 u5 => ?_)))
 have zu5 := u5.size
 have E6 := E0.next u5 (fun _ _ h => h.elim)
 refine t_alloc (cs := [.int .i64 0, .int .i64 0, .slice none 0 0, .int .i64 0, .int .i64 0]) Try.zeroValue48 rfl rfl rfl (fun bk7 w8 ebk7 sbk7 B9 u10 => ?_)
 have zu10 := u10.size
 have E11 := E6.next u10 (fun _ _ h => h.elim)
 refine t_nil' (hK1 _ _ (c_seq fun K12 hK12 => (c_region (t_field Try.underlying48 rfl Try.sizeOf45 (0) rfl rfl rfl rfl (t_field Try.underlying45 rfl Try.sizeOf3 (0) rfl rfl rfl rfl ?_)))))
 have B13 := (B4.keep u10 (fun h => h))
 refine t_load Try.isAgg3 rfl rfl rfl (B13.get rfl) (t_move rfl rfl rfl (t_ari rfl rfl rfl rfl rfl (by omega) (t_field Try.underlying48 rfl Try.sizeOf45 (0) rfl rfl rfl rfl (t_field Try.underlying45 rfl Try.sizeOf3 (1) rfl rfl rfl rfl (t_load Try.isAgg3 rfl rfl rfl (B13.get rfl) (t_move rfl rfl rfl (t_ari rfl rfl rfl rfl rfl (by omega) (t_build (ps := [(0, .int .i64 (v.st.lo + h)), (1, .int .i64 (v.st.hi + h))]) (v := .agg #[.int .i64 (v.st.lo + h), .int .i64 (v.st.hi + h)]) rfl rfl ⟨rfl, rfl⟩ (fun w => by kernel_rfl) (t_field Try.underlying48 rfl Try.sizeOf45 (0) rfl rfl rfl rfl (t_store (vs := [.int .i64 (v.st.lo + h), .int .i64 (v.st.hi + h)]) Try.sizeOf45 rfl rfl rfl B13 rfl rfl (Nat.le_of_ble_eq_true rfl) (by simp [Value.oneCell']) (fun w14 sw14 B16 u15 => ?_)))))))))))
 have zu15 := u15.size
 have E17 := E11.next u15 (fun i hi (h : i = bk2) => show False by first | omega | assumption)
 have B16 : Blk w14 bk2 48 [.int .i64 (v.st.lo + h), .int .i64 (v.st.hi + h), .slice ao ((v.runs).length) cap, .int .i64 v.len, .int .i64 v.wid] := B16
 refine t_nil' (hK12 _ _ (c_seq fun K18 hK18 => (c_region (t_loadN (vs := [.int .i64 (v.st.lo + h), .int .i64 (v.st.hi + h), .slice ao ((v.runs).length) cap, .int .i64 v.len, .int .i64 v.wid]) Try.isAgg48 Try.sizeOf48 rfl rfl rfl (B16.at.sub 0 5) rfl ?_))))
 have B19 := (B9.keep u15 (show ¬ (bk7 = bk2) by first | omega | assumption))
 refine t_store (vs := [.int .i64 (v.st.lo + h), .int .i64 (v.st.hi + h), .slice ao ((v.runs).length) cap, .int .i64 v.len, .int .i64 v.wid]) Try.sizeOf48 rfl rfl rfl B19 rfl rfl (Nat.le_of_ble_eq_true rfl) (by simp [Value.oneCell']) (fun w20 sw20 B22 u21 => ?_)
 have zu21 := u21.size
 have E23 := E17.next u21 (fun i hi (h : i = bk7) => show False by first | omega | assumption)
 have B22 : Blk w20 bk7 48 [.int .i64 (v.st.lo + h), .int .i64 (v.st.hi + h), .slice ao ((v.runs).length) cap, .int .i64 v.len, .int .i64 v.wid] := B22
 refine t_nil' (hK18 _ _ (c_ret (f_ret1 (v := .agg #[.int .i64 (v.st.lo + h), .int .i64 (v.st.hi + h), .slice ao ((v.runs).length) cap, .int .i64 v.len, .int .i64 v.wid]) Try.results65 ⟨_, _, rfl, run_loadVarN (vs := [.int .i64 (v.st.lo + h), .int .i64 (v.st.hi + h), .slice ao ((v.runs).length) cap, .int .i64 v.len, .int .i64 v.wid]) Try.isAgg48 Try.sizeOf48 rfl (B22.at.sub 0 5)⟩ ?_)))
 exact ⟨rfl, E23⟩

end Go.Proofs.Ytmicjleiheoieaa
