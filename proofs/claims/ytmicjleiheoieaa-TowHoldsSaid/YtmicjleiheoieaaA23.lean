/-
  Contracts of copies of hulls and of the reference's functions on hulls and tows. Conditions: none.
-/
import Derived.Test.YtmicjleiheoieaaA8
import Derived.Test.YtmicjleiheoieaaR1
import Derived.Test.YtmicjleiheoieaaApp
import Derived.Test.YtmicjleiheoieaaEq
namespace Go.Proofs.Ytmicjleiheoieaa
open Go Go.RowKit

theorem own17 : Own Try.prog 17 := ⟨Try.f17, Try.func17, by kernel_rfl, by kernel_rfl⟩
theorem own20 : Own Try.prog 20 := ⟨Try.f20, Try.func20, by kernel_rfl, by kernel_rfl⟩
theorem own38 : Own Try.prog 38 := ⟨Try.f38, Try.func38, by kernel_rfl, by kernel_rfl⟩
theorem own39 : Own Try.prog 39 := ⟨Try.f39, Try.func39, by kernel_rfl, by kernel_rfl⟩

theorem hulls_c (xs : List Hull) (ao : Option Addr) (b o cap : Nat) (w0 : World) (hs : Sl encHull 3 w0 ao b o xs) (hl : xs.length ≤ 1000000) :
    CallsV Try.prog 17 [.slice ao xs.length cap] w0 (fun x w' => (∃ ao' b' cap', x = .slice ao' xs.length cap' ∧ Sl encHull 3 w' ao' b' 0 xs ∧ w0.heap.size ≤ b' ∧ xs.length ≤ cap') ∧ Ext w0 w') := by
 have E0 := Upd.refl (fun _ => False) w0
 refine f_enter (N := 6) Try.func17 rfl rfl rfl ?_
 change WC _ _ _ _ _ _ [(0, .slice ao xs.length cap)] _
 refine c_seq fun K1 hK1 => (c_region (t_assign rfl rfl rfl (t_nil' (hK1 _ _ (c_seq fun K2 hK2 => (c_region (t_bslice (ps := []) (cs := []) (e := 23) rfl rfl ⟨rfl, rfl⟩ (fun w => by kernel_rfl) (fun bk3 w4 ebk3 sbk3 B5 u6 => ?_))))))))
 have zu6 := u6.size
 have E7 := E0.next u6 (fun _ _ h => h.elim)
 refine t_move rfl rfl rfl (t_copy (enc := encHull) (z := .agg #[.int .i64 0, .int .i64 0, .int .i64 0]) (bytes := 24) (k := 3) (ys := xs) Try.underlying24 (by kernel_rfl) rfl (by decide) (fun _ => rfl) (by intro x; simp [encHull, Value.oneCell']) rfl rfl rfl rfl B5 (hs.keep E7 (fun _ h => h)) (by omega) (by decide) (fun ao8 gb9 cp10 w11 A12 u13 gegb9 => ?_))
 have zu13 := u13.size
 have E14 := E7.next u13 (fun i hi (h : (i = bk3 ∧ bk3 ≤ i)) => show False by first | omega | assumption)
 have lt_gb9 := A12.lt
 refine t_assign rfl rfl rfl (t_nil' (hK2 _ _ (c_ret (f_ret1 (v := .slice ao8 xs.length cp10) Try.results17 rfl ?_))))
 exact ⟨⟨_, gb9, _, rfl, (A12.sl (fun _ => rfl)), by omega, A12.cap_le⟩, E14⟩

theorem rHull_c (h : Hull) (w0 : World) :
    CallsV Try.prog 20 [.agg #[.int .i64 h.len, .int .i64 h.wid, .int .i64 h.mass]] w0 (fun v w' => v = .bool (okHull h) ∧ Ext w0 w') := by
 have E0 := Upd.refl (fun _ => False) w0
 refine f_enter (N := 16) Try.func20 rfl rfl rfl ?_
 change WC _ _ _ _ _ _ [(0, .agg #[.int .i64 h.len, .int .i64 h.wid, .int .i64 h.mass])] _
 refine c_seq fun K1 hK1 => (c_region (t_box (cs := [.int .i64 h.len, .int .i64 h.wid, .int .i64 h.mass]) rfl rfl rfl rfl (fun bk2 w3 ebk2 sbk2 B4 u5 => ?_)))
 have zu5 := u5.size
 have E6 := E0.next u5 (fun _ _ h => h.elim)
 refine t_assign rfl rfl rfl (t_nil' (hK1 _ _ (c_seq fun K7 hK7 => (c_region (t_field Try.underlying23 rfl Try.sizeOf3 (0) rfl rfl rfl rfl (t_load Try.isAgg3 rfl rfl rfl (B4.get rfl) (t_call (vs := [.int .i64 h.len, .int .i64 1, .int .i64 200]) own60 rfl rfl rfl rfl (rIn_c h.len 1 200 _) (fun v8 w9 r11 => ?_))))))))
 obtain ⟨rfl, u10⟩ := r11
 have zu10 := u10.size
 have E12 := E6.next u10 (fun _ _ h => h.elim)
 refine t_move rfl rfl rfl (t_splitp 6 rfl (fun g6 => ?_) (fun g6 => ?_))
 ·
  refine t_field Try.underlying23 rfl Try.sizeOf3 (1) rfl rfl rfl rfl ?_
  have B13 := (B4.keep u10 (fun h => h))
  refine t_load Try.isAgg3 rfl rfl rfl (B13.get rfl) (t_call (vs := [.int .i64 h.wid, .int .i64 1, .int .i64 30]) own60 rfl rfl rfl rfl (rIn_c h.wid 1 30 _) (fun v14 w15 r17 => ?_))
  obtain ⟨rfl, u16⟩ := r17
  have zu16 := u16.size
  have E18 := E12.next u16 (fun _ _ h => h.elim)
  refine t_pick_t rfl rfl rfl rfl (t_move rfl rfl rfl (t_splitp 11 rfl (fun g11 => ?_) (fun g11 => ?_)))
  ·
   refine t_field Try.underlying23 rfl Try.sizeOf3 (2) rfl rfl rfl rfl ?_
   have B19 := (B13.keep u16 (fun h => h))
   refine t_load Try.isAgg3 rfl rfl rfl (B19.get rfl) (t_call (vs := [.int .i64 h.mass, .int .i64 0, .int .i64 10000]) own60 rfl rfl rfl rfl (rIn_c h.mass 0 10000 _) (fun v20 w21 r23 => ?_))
   obtain ⟨rfl, u22⟩ := r23
   have zu22 := u22.size
   have E24 := E18.next u22 (fun _ _ h => h.elim)
   refine t_pick_t rfl rfl rfl rfl (t_assign rfl rfl rfl (t_nil' (hK7 _ _ (c_ret (f_ret1 (v := .bool (decide (0 ≤ h.mass ∧ h.mass ≤ 10000))) Try.results20 rfl ?_)))))
   exact ⟨congrArg Value.bool (Bool.eq_iff_iff.2 (by simp only [okHull, decide_eq_true_eq, Bool.false_eq_true, false_iff]; omega)), E24⟩
  ·
   refine t_skip rfl rfl rfl (t_skip rfl rfl rfl (t_skip rfl rfl rfl (t_pick_f rfl rfl rfl rfl (t_assign rfl rfl rfl (t_nil' (hK7 _ _ (c_ret (f_ret1 (v := .bool false) Try.results20 rfl ?_))))))))
   exact ⟨congrArg Value.bool (Bool.eq_iff_iff.2 (by simp only [okHull, decide_eq_true_eq, Bool.false_eq_true, false_iff]; omega)), E18⟩
 ·
  refine t_skip rfl rfl rfl (t_skip rfl rfl rfl (t_skip rfl rfl rfl (t_pick_f rfl rfl rfl rfl (t_move rfl rfl rfl (t_skip rfl rfl rfl (t_skip rfl rfl rfl (t_skip rfl rfl rfl (t_pick_f rfl rfl rfl rfl (t_assign rfl rfl rfl (t_nil' (hK7 _ _ (c_ret (f_ret1 (v := .bool false) Try.results20 rfl ?_)))))))))))))
  exact ⟨congrArg Value.bool (Bool.eq_iff_iff.2 (by simp only [okHull, decide_eq_true_eq, Bool.false_eq_true, false_iff]; omega)), E12⟩


theorem any_of_all {xs : List Hull} (h : xs.all okHull = true) : (xs.any fun h => !okHull h) = false := by
  rw [List.any_eq_false]; intro x hx; simp [List.all_eq_true.1 h x hx]
theorem any_at {xs : List Hull} {j : Nat} (hj : j < xs.length) (h : okHull (nth xs j) = false) : (xs.any fun h => !okHull h) = true := List.any_eq_true.2 ⟨_, nth_mem hj, by simp [h]⟩
theorem okTow_iff {boat : Hull} {power : Int} {rows : List HRow} : okTow boat power (rows.map (·.xs)) = true ↔ okHull boat = true ∧ (1 ≤ power ∧ power ≤ 20000) ∧ rows.length ≤ 10 ∧ (∀ r ∈ rows, okRow r.xs = true) ∧ (sizeOf boat (rows.map (·.xs))).hulls ≤ 30 := by
  simp [okTow, List.all_eq_true, and_assoc]
theorem okRow_len {xs : List Hull} (h : okRow xs = true) : 1 ≤ xs.length ∧ xs.length ≤ 4 := by
  simp [okRow] at h; omega
theorem okRow_hull {xs : List Hull} (h : okRow xs = true) : ∀ x ∈ xs, okHull x = true := by
  simp [okRow] at h; exact h.2
theorem sizeTo_zero {boat : Hull} {rows : List HRow} : sizeTo boat rows 0 = ⟨boat.len, boat.wid, boat.mass, 0⟩ := rfl
theorem rowTo_zero {xs : List Hull} : rowOf (xs.take 0) = ⟨0, 0, 0⟩ := rfl

theorem rTow_c (boat : Hull) (power : Int) (rows : List HRow) (ao : Option Addr) (b o cap : Nat) (w0 : World) (hs : Sl encHRow 1 w0 ao b o rows) (hrows : ∀ r ∈ rows, Sl encHull 3 w0 r.ao r.b r.o r.xs) (hl : rows.length ≤ 1000000) (hll : ∀ r ∈ rows, r.xs.length ≤ 1000000) :
    CallsV Try.prog 38 [.agg #[.int .i64 boat.len, .int .i64 boat.wid, .int .i64 boat.mass, .int .i64 power, .slice ao rows.length cap]] w0 (fun v w' => v = .bool (okTow boat power (rows.map (·.xs))) ∧ Ext w0 w') := by
 have E0 := Upd.refl (fun _ => False) w0
 refine f_enter (N := 67) Try.func38 rfl rfl rfl ?_
 change WC _ _ _ _ _ _ [(0, .agg #[.int .i64 boat.len, .int .i64 boat.wid, .int .i64 boat.mass, .int .i64 power, .slice ao rows.length cap])] _
 refine c_seq fun K1 hK1 => (c_region (t_box (cs := [.int .i64 boat.len, .int .i64 boat.wid, .int .i64 boat.mass, .int .i64 power, .slice ao rows.length cap]) rfl rfl rfl rfl (fun bk2 w3 ebk2 sbk2 B4 u5 => ?_)))
 have zu5 := u5.size
 have E6 := E0.next u5 (fun _ _ h => h.elim)
 refine t_assign rfl rfl rfl (t_nil' (hK1 _ _ (c_seq fun K7 hK7 => (c_seq fun K8 hK8 => (c_region (t_field Try.underlying64 rfl Try.sizeOf23 (0) rfl rfl rfl rfl (t_loadN (vs := [.int .i64 boat.len, .int .i64 boat.wid, .int .i64 boat.mass]) Try.isAgg23 Try.sizeOf23 rfl rfl rfl (B4.at.sub 0 3) rfl (t_call (vs := [.agg #[.int .i64 boat.len, .int .i64 boat.wid, .int .i64 boat.mass]]) own20 rfl rfl rfl rfl (rHull_c boat _) (fun v9 w10 r12 => ?_)))))))))
 obtain ⟨rfl, u11⟩ := r12
 have zu11 := u11.size
 have E13 := E6.next u11 (fun _ _ h => h.elim)
 refine t_not rfl rfl rfl (t_move rfl rfl rfl (t_split 10 rfl (fun g10 => ?_) (fun g10 => ?_)))
 ·
  refine t_skip rfl rfl rfl (t_skip rfl rfl rfl (t_skip rfl rfl rfl (t_skip rfl rfl rfl (t_pick_t rfl rfl rfl rfl (t_move rfl rfl rfl (t_skip rfl rfl rfl (t_skip rfl rfl rfl (t_skip rfl rfl rfl (t_skip rfl rfl rfl (t_pick_t rfl rfl rfl rfl (t_nil' (hK8 _ _ (c_cond_t rfl (c_seq fun K14 hK14 => (c_region (t_assign rfl rfl rfl (t_nil' (hK14 _ _ (c_ret (f_ret1 (v := .bool false) Try.results38 rfl ?_))))))))))))))))))))
  have hbad : okTow boat power (rows.map (·.xs)) = false := by
   rw [Bool.eq_false_iff]; intro h; rw [okTow_iff] at h
   simp at g10; exact absurd h.1 (by simp [g10])
  exact ⟨by rw [hbad], E13⟩
 ·
  refine t_field Try.underlying64 rfl Try.sizeOf3 (3) rfl rfl rfl rfl ?_
  have B15 := (B4.keep u11 (fun h => h))
  refine t_load Try.isAgg3 rfl rfl rfl (B15.get rfl) (t_call (vs := [.int .i64 power, .int .i64 1, .int .i64 20000]) own60 rfl rfl rfl rfl (rIn_c power 1 20000 _) (fun v16 w17 r19 => ?_))
  obtain ⟨rfl, u18⟩ := r19
  have zu18 := u18.size
  have E20 := E13.next u18 (fun _ _ h => h.elim)
  refine t_notp rfl rfl rfl (t_pick_f rfl rfl rfl rfl (t_move rfl rfl rfl (t_splitp 16 rfl (fun g16 => ?_) (fun g16 => ?_))))
  ·
   refine t_skip rfl rfl rfl (t_skip rfl rfl rfl (t_skip rfl rfl rfl (t_skip rfl rfl rfl (t_pick_t rfl rfl rfl rfl (t_nil' (hK8 _ _ (c_cond_t rfl (c_seq fun K21 hK21 => (c_region (t_assign rfl rfl rfl (t_nil' (hK21 _ _ (c_ret (f_ret1 (v := .bool false) Try.results38 rfl ?_))))))))))))))
   have hbad : okTow boat power (rows.map (·.xs)) = false := by
    rw [Bool.eq_false_iff]; intro h; rw [okTow_iff] at h
    exact g16 h.2.1
   exact ⟨by rw [hbad], E20⟩
  ·
   refine t_field Try.underlying64 rfl Try.sizeOf62 (4) rfl rfl rfl rfl ?_
   have B22 := (B15.keep u18 (fun h => h))
   refine t_load Try.isAgg62 rfl rfl rfl (B22.get rfl) (t_len Try.underlying62 rfl rfl rfl rfl (t_cmp rfl rfl rfl rfl rfl (t_pick_f rfl rfl rfl rfl (t_nil' (hK8 _ _ (c_condp rfl (fun g21 => ?_) (fun g21 => ?_)))))))
   ·
    refine c_seq fun K23 hK23 => (c_region (t_assign rfl rfl rfl (t_nil' (hK23 _ _ (c_ret (f_ret1 (v := .bool false) Try.results38 rfl ?_))))))
    have hbad : okTow boat power (rows.map (·.xs)) = false := by
     rw [Bool.eq_false_iff]; intro h; rw [okTow_iff] at h
     have := h.2.2.1; omega
    exact ⟨by rw [hbad], E20⟩
   ·
    refine c_skip (hK7 _ _ (c_seq fun K24 hK24 => (c_region (t_assign rfl rfl rfl (t_nil' (hK24 _ _ (c_seq fun K25 hK25 => (c_seq fun K26 hK26 => (c_region (t_assign rfl rfl rfl (t_nil' (hK26 _ _ (c_block ?_)))))))))))))
    have hb1 : okHull boat = true := by simpa using g10
    have hb2 : 1 ≤ power ∧ power ≤ 20000 := by omega
    have hb3 : rows.length ≤ 10 := by omega
    refine c_loop (γ := Nat × Int) (fun gg => [(1, .pointer (some ⟨bk2, 0, none⟩)), (3, .int .i64 gg.2), (4, .int .i64 (gg.1 : Int))]) (fun gg w => Upd (fun _ => False) w17 w ∧ (gg.1 ≤ rows.length) ∧ ((rows.take gg.1).all (fun r => okRow r.xs) = true) ∧ (gg.2 = (sizeTo boat rows gg.1).hulls) ∧ (0 ≤ gg.2 ∧ gg.2 ≤ 4 * (gg.1 : Int))) (fun gg => rows.length - gg.1) (0, 0) ⟨rfl, rfl, rfl, trivial⟩ ⟨Upd.refl _ _, Nat.zero_le _, rfl, rfl, (by simp only []; omega)⟩ ?_
    intro gg w28 hW K27 hK27
    obtain ⟨k, many⟩ := gg
    change WC _ _ _ _ _ _ [(1, .pointer (some ⟨bk2, 0, none⟩)), (3, .int .i64 many), (4, .int .i64 (k : Int))] _
    change Upd (fun _ => False) w17 w28 ∧ (k ≤ rows.length) ∧ ((rows.take k).all (fun r => okRow r.xs) = true) ∧ (many = (sizeTo boat rows k).hulls) ∧ (0 ≤ many ∧ many ≤ 4 * (k : Int)) at hW
    obtain ⟨u29, I30, I31, I32, I33⟩ := hW
    have zu29 := u29.size
    have E34 := E20.next u29 (fun _ _ h => h.elim)
    have hk := I30; clear I30
    have hall := I31; clear I31
    have hm := I32; clear I32
    have hb := I33; clear I33
    refine c_seq fun K35 hK35 => (c_seq fun K36 hK36 => (c_region (t_move rfl rfl rfl (t_field Try.underlying64 rfl Try.sizeOf62 (4) rfl rfl rfl rfl ?_))))
    have B37 := (B22.keep u29 (fun h => h))
    refine t_load Try.isAgg62 rfl rfl rfl (B37.get rfl) (t_len Try.underlying62 rfl rfl rfl rfl (t_cmp rfl rfl rfl rfl rfl (t_nil' (hK36 _ _ (c_condp rfl (fun g26 => ?_) (fun g26 => ?_))))))
    ·
     refine c_skip (hK35 _ _ (c_seq fun K38 hK38 => (c_block (c_seq fun K39 hK39 => (c_region (t_move rfl rfl rfl (t_field Try.underlying64 rfl Try.sizeOf62 (4) rfl rfl rfl rfl (t_load Try.isAgg62 rfl rfl rfl (B37.get rfl) (t_move rfl rfl rfl ?_)))))))))
     have i40 : k < rows.length := (by omega)
     refine t_index (j := k) Try.underlying62 Try.sizeOf24 rfl rfl rfl rfl ((hs.keep E34 (fun _ h => h)).addr (by omega)) rfl i40 (t_load Try.isAgg24 rfl rfl rfl (((hs.keep E34 (fun _ h => h)).at_ k (by omega)) 0 _ rfl) (t_len Try.underlying24 rfl rfl rfl rfl ?_))
     have hlk := hll _ (nth_mem (xs := rows) (i := k) (by omega))
     refine t_ari rfl rfl rfl rfl rfl (by omega) (t_assign rfl rfl rfl (t_nil' (hK39 _ _ (c_seq fun K41 hK41 => (c_seq fun K42 hK42 => (c_region (t_field Try.underlying64 rfl Try.sizeOf62 (4) rfl rfl rfl rfl (t_load Try.isAgg62 rfl rfl rfl (B37.get rfl) (t_move rfl rfl rfl ?_)))))))))
     have i43 : k < rows.length := (by omega)
     refine t_index (j := k) Try.underlying62 Try.sizeOf24 rfl rfl rfl rfl ((hs.keep E34 (fun _ h => h)).addr (by omega)) rfl i43 (t_load Try.isAgg24 rfl rfl rfl (((hs.keep E34 (fun _ h => h)).at_ k (by omega)) 0 _ rfl) (t_len Try.underlying24 rfl rfl rfl rfl (t_call (vs := [.int .i64 (((nth rows k).xs).length : Int), .int .i64 1, .int .i64 4]) own60 rfl rfl rfl rfl (rIn_c (((nth rows k).xs).length : Int) 1 4 _) (fun v44 w45 r47 => ?_))))
     obtain ⟨rfl, u46⟩ := r47
     have zu46 := u46.size
     have E48 := E34.next u46 (fun _ _ h => h.elim)
     refine t_notp rfl rfl rfl (t_nil' (hK42 _ _ (c_condp rfl (fun g44 => ?_) (fun g44 => ?_))))
     ·
      refine c_seq fun K49 hK49 => (c_region (t_assign rfl rfl rfl (t_nil' (hK49 _ _ (c_ret (f_ret1 (v := .bool false) Try.results38 rfl ?_))))))
      have hbad : okTow boat power (rows.map (·.xs)) = false := by
       rw [Bool.eq_false_iff]; intro h; rw [okTow_iff] at h
       have h4 := okRow_len (h.2.2.2.1 _ (nth_mem (xs := rows) (i := k) (by omega))); omega
      exact ⟨by rw [hbad], E48⟩
     ·
      refine c_skip (hK41 _ _ (c_seq fun K50 hK50 => (c_region (t_assign rfl rfl rfl (t_nil' (hK50 _ _ (c_block (c_loop (γ := Nat) (fun j => [(1, .pointer (some ⟨bk2, 0, none⟩)), (3, .int .i64 (many + (((nth rows k).xs).length : Int))), (4, .int .i64 (k : Int)), (5, .int .i64 (j : Int))]) (fun j w => Upd (fun _ => False) w45 w ∧ (j ≤ (nth rows k).xs.length) ∧ (((nth rows k).xs.take j).all okHull = true)) (fun j => (nth rows k).xs.length - j) 0 ⟨rfl, rfl, rfl, rfl, trivial⟩ ⟨Upd.refl _ _, Nat.zero_le _, rfl⟩ ?_))))))))
      intro j w52 hW K51 hK51
      obtain ⟨u53, I54, I55⟩ := hW
      have zu53 := u53.size
      have E56 := E48.next u53 (fun _ _ h => h.elim)
      have hj := I54; clear I54
      have hin := I55; clear I55
      refine c_seq fun K57 hK57 => (c_seq fun K58 hK58 => (c_region (t_move rfl rfl rfl (t_field Try.underlying64 rfl Try.sizeOf62 (4) rfl rfl rfl rfl ?_))))
      have B59 := ((B37.keep u46 (fun h => h)).keep u53 (fun h => h))
      refine t_load Try.isAgg62 rfl rfl rfl (B59.get rfl) (t_move rfl rfl rfl ?_)
      have i60 : k < rows.length := (by omega)
      refine t_index (j := k) Try.underlying62 Try.sizeOf24 rfl rfl rfl rfl ((hs.keep E56 (fun _ h => h)).addr (by omega)) rfl i60 (t_load Try.isAgg24 rfl rfl rfl (((hs.keep E56 (fun _ h => h)).at_ k (by omega)) 0 _ rfl) (t_len Try.underlying24 rfl rfl rfl rfl (t_cmp rfl rfl rfl rfl rfl (t_nil' (hK58 _ _ (c_condp rfl (fun g52 => ?_) (fun g52 => ?_)))))))
      ·
       refine c_skip (hK57 _ _ (c_seq fun K61 hK61 => (c_block (c_seq fun K62 hK62 => (c_region (t_field Try.underlying64 rfl Try.sizeOf62 (4) rfl rfl rfl rfl (t_load Try.isAgg62 rfl rfl rfl (B59.get rfl) (t_move rfl rfl rfl ?_))))))))
       have i63 : k < rows.length := (by omega)
       refine t_index (j := k) Try.underlying62 Try.sizeOf24 rfl rfl rfl rfl ((hs.keep E56 (fun _ h => h)).addr (by omega)) rfl i63 (t_load Try.isAgg24 rfl rfl rfl (((hs.keep E56 (fun _ h => h)).at_ k (by omega)) 0 _ rfl) (t_move rfl rfl rfl ?_))
       have i64 : j < ((nth rows k).xs).length := (by omega)
       refine t_index (j := j) Try.underlying24 Try.sizeOf23 rfl rfl rfl rfl (((hrows (nth rows k) (nth_mem (by omega))).keep E56 (fun _ h => h)).addr (by omega)) rfl i64 (t_loadN (vs := [.int .i64 ((nth ((nth rows k).xs) j).len), .int .i64 ((nth ((nth rows k).xs) j).wid), .int .i64 ((nth ((nth rows k).xs) j).mass)]) Try.isAgg23 Try.sizeOf23 rfl rfl rfl ((((hrows (nth rows k) (nth_mem (by omega))).keep E56 (fun _ h => h)).at_ j (by omega)).sub 0 3) rfl (t_call (vs := [.agg #[.int .i64 ((nth ((nth rows k).xs) j).len), .int .i64 ((nth ((nth rows k).xs) j).wid), .int .i64 ((nth ((nth rows k).xs) j).mass)]]) own20 rfl rfl rfl rfl (rHull_c (nth ((nth rows k).xs) j) _) (fun v65 w66 r68 => ?_)))
       obtain ⟨rfl, u67⟩ := r68
       have zu67 := u67.size
       have E69 := E56.next u67 (fun _ _ h => h.elim)
       refine t_not rfl rfl rfl (t_nil' (hK62 _ _ (c_cond rfl (fun g64 => ?_) (fun g64 => ?_))))
       ·
        refine c_seq fun K70 hK70 => (c_region (t_assign rfl rfl rfl (t_nil' (hK70 _ _ (c_ret (f_ret1 (v := .bool false) Try.results38 rfl ?_))))))
        have hbad : okTow boat power (rows.map (·.xs)) = false := by
         rw [Bool.eq_false_iff]; intro h; rw [okTow_iff] at h
         have h4 := h.2.2.2.1 _ (nth_mem (xs := rows) (i := k) (by omega)); simp [okRow, any_at (xs := (nth rows k).xs) (j := j) (by omega) (by simpa using g64)] at h4
        exact ⟨by rw [hbad], E69⟩
       ·
        refine c_skip (hK61 _ _ (c_region (t_move rfl rfl rfl (t_ari rfl rfl rfl rfl rfl (by omega) (t_assign rfl rfl rfl (t_nil' ?_))))))
        exact hK51 (j + 1) _ _ (by omega) ⟨rfl, rfl, rfl, rfl, trivial⟩ ⟨(u53.next u67 (fun _ _ h => h.elim)), (by omega), (all_snoc (by omega) hin (by simpa using g64))⟩
      ·
       have hrk : okRow (nth rows k).xs = true := by
        have h1 : (nth rows k).xs.all okHull = true := by rw [List.take_of_length_le (by omega)] at hin; exact hin
        simp only [okRow, decide_eq_true (Decidable.not_not.1 g44), any_of_all h1]; rfl
       refine c_exit (hK38 _ _ (c_region (t_move rfl rfl rfl (t_ari rfl rfl rfl rfl rfl (by omega) (t_assign rfl rfl rfl (t_nil' ?_))))))
       exact hK27 (k + 1, (many + (((nth rows k).xs).length : Int))) _ _ (by show rows.length - (k + 1) < rows.length - k; omega) ⟨rfl, rfl, rfl, trivial⟩ ⟨((u29.next u46 (fun _ _ h => h.elim)).next u53 (fun _ _ h => h.elim)), (by omega), (all_snoc (by omega) hall hrk), (by rw [sizeTo_succ (by omega)]; simp only [addRow]; rw [← hm]), (by show (0 : Int) ≤ (many + (((nth rows k).xs).length : Int)) ∧ ((many + (((nth rows k).xs).length : Int)) : Int) ≤ _; have := okRow_len hrk; omega)⟩
    ·
     refine c_exit (hK25 _ _ (c_seq fun K71 hK71 => (c_region (t_move rfl rfl rfl (t_cmp rfl rfl rfl rfl rfl (t_assign rfl rfl rfl (t_nil' (hK71 _ _ (c_ret (f_ret1 (v := .bool (decide (many ≤ 30))) Try.results38 rfl ?_))))))))))
     have ha : ∀ r ∈ rows, okRow r.xs = true := by
      rw [List.take_of_length_le (by omega)] at hall; exact List.all_eq_true.1 hall
     exact ⟨by congr 1; rw [hm, sizeTo_all (by omega)]; exact Bool.eq_iff_iff.2 ⟨fun h => okTow_iff.2 ⟨hb1, hb2, hb3, ha, of_decide_eq_true h⟩, fun h => decide_eq_true (okTow_iff.1 h).2.2.2.2⟩, E34⟩

theorem rMeasure_c (boat : Hull) (power : Int) (rows : List HRow) (ao : Option Addr) (b o cap : Nat) (w0 : World) (hs : Sl encHRow 1 w0 ao b o rows) (hrows : ∀ r ∈ rows, Sl encHull 3 w0 r.ao r.b r.o r.xs) (hok : okTow boat power (rows.map (·.xs)) = true) :
    CallsV Try.prog 39 [.agg #[.int .i64 boat.len, .int .i64 boat.wid, .int .i64 boat.mass, .int .i64 power, .slice ao rows.length cap]] w0 (fun v w' => v = .agg #[.int .i64 (sizeOf boat (rows.map (·.xs))).len, .int .i64 (sizeOf boat (rows.map (·.xs))).wid, .int .i64 (sizeOf boat (rows.map (·.xs))).mass, .int .i64 (sizeOf boat (rows.map (·.xs))).hulls] ∧ Ext w0 w') := by
 have E0 := Upd.refl (fun _ => False) w0
 refine f_enter (N := 73) Try.func39 rfl rfl rfl ?_
 change WC _ _ _ _ _ _ [(0, .agg #[.int .i64 boat.len, .int .i64 boat.wid, .int .i64 boat.mass, .int .i64 power, .slice ao rows.length cap])] _
 refine c_seq fun K1 hK1 => (c_region (t_box (cs := [.int .i64 boat.len, .int .i64 boat.wid, .int .i64 boat.mass, .int .i64 power, .slice ao rows.length cap]) rfl rfl rfl rfl (fun bk2 w3 ebk2 sbk2 B4 u5 => ?_)))
 have zu5 := u5.size
 have E6 := E0.next u5 (fun _ _ h => h.elim)
 refine t_alloc (cs := [.int .i64 0, .int .i64 0, .int .i64 0, .int .i64 0]) Try.zeroValue66 rfl rfl rfl (fun bk7 w8 ebk7 sbk7 B9 u10 => ?_)
 have zu10 := u10.size
 have E11 := E6.next u10 (fun _ _ h => h.elim)
 refine t_nil' (hK1 _ _ (c_seq fun K12 hK12 => (c_region (t_field Try.underlying64 rfl Try.sizeOf23 (0) rfl rfl rfl rfl (t_field Try.underlying23 rfl Try.sizeOf3 (0) rfl rfl rfl rfl ?_)))))
 have B13 := (B4.keep u10 (fun h => h))
 refine t_load Try.isAgg3 rfl rfl rfl (B13.get rfl) (t_field Try.underlying64 rfl Try.sizeOf23 (0) rfl rfl rfl rfl (t_field Try.underlying23 rfl Try.sizeOf3 (1) rfl rfl rfl rfl (t_load Try.isAgg3 rfl rfl rfl (B13.get rfl) (t_field Try.underlying64 rfl Try.sizeOf23 (0) rfl rfl rfl rfl (t_field Try.underlying23 rfl Try.sizeOf3 (2) rfl rfl rfl rfl (t_load Try.isAgg3 rfl rfl rfl (B13.get rfl) (t_build (ps := [(0, .int .i64 boat.len), (1, .int .i64 boat.wid), (2, .int .i64 boat.mass)]) (v := .agg #[.int .i64 boat.len, .int .i64 boat.wid, .int .i64 boat.mass, .int .i64 0]) rfl rfl ⟨rfl, rfl⟩ (fun w => by kernel_rfl) (t_alloc (cs := [.int .i64 0, .int .i64 0, .int .i64 0, .int .i64 0]) Try.zeroValue66 rfl rfl rfl (fun bk14 w15 ebk14 sbk14 B16 u17 => ?_)))))))))
 have zu17 := u17.size
 have E18 := E11.next u17 (fun _ _ h => h.elim)
 refine t_store (vs := [.int .i64 boat.len, .int .i64 boat.wid, .int .i64 boat.mass, .int .i64 0]) Try.sizeOf66 rfl rfl rfl B16 rfl rfl (Nat.le_of_ble_eq_true rfl) (by simp [Value.oneCell']) (fun w19 sw19 B21 u20 => ?_)
 have zu20 := u20.size
 have E22 := E18.next u20 (fun i hi (h : i = bk14) => show False by first | omega | assumption)
 have B21 : Blk w19 bk14 66 [.int .i64 boat.len, .int .i64 boat.wid, .int .i64 boat.mass, .int .i64 0] := B21
 refine t_nil' (hK12 _ _ (c_seq fun K23 hK23 => (c_seq fun K24 hK24 => (c_region (t_assign rfl rfl rfl (t_nil' (hK24 _ _ (c_block ?_))))))))
 obtain ⟨hb1, hb2, hb3, hb4, hb5⟩ := okTow_iff.1 hok
 have hb6 := okHull_rng hb1
 refine c_loop (γ := Nat × Size) (fun gg => [(1, .pointer (some ⟨bk2, 0, none⟩)), (2, .pointer (some ⟨bk7, 0, none⟩)), (3, .pointer (some ⟨bk14, 0, none⟩)), (4, .int .i64 (gg.1 : Int))]) (fun gg w => Upd (fun i => i = bk14) w19 w ∧ Blk w bk14 66 [.int .i64 gg.2.len, .int .i64 gg.2.wid, .int .i64 gg.2.mass, .int .i64 gg.2.hulls] ∧ (gg.1 ≤ rows.length) ∧ (gg.2 = sizeTo boat rows gg.1) ∧ ((0 ≤ gg.2.len ∧ gg.2.len ≤ 200 + 200 * gg.1) ∧ (0 ≤ gg.2.wid ∧ gg.2.wid ≤ 200) ∧ (0 ≤ gg.2.mass ∧ gg.2.mass ≤ 10000 + 40000 * gg.1) ∧ (0 ≤ gg.2.hulls ∧ gg.2.hulls ≤ 4 * gg.1))) (fun gg => rows.length - gg.1) (0, ⟨boat.len, boat.wid, boat.mass, 0⟩) ⟨rfl, rfl, rfl, rfl, trivial⟩ ⟨Upd.refl _ _, B21, Nat.zero_le _, rfl, (by simp only []; omega)⟩ ?_
 intro gg w26 hW K25 hK25
 obtain ⟨k, z⟩ := gg
 change WC _ _ _ _ _ _ [(1, .pointer (some ⟨bk2, 0, none⟩)), (2, .pointer (some ⟨bk7, 0, none⟩)), (3, .pointer (some ⟨bk14, 0, none⟩)), (4, .int .i64 (k : Int))] _
 change Upd (fun i => i = bk14) w19 w26 ∧ Blk w26 bk14 66 [.int .i64 z.len, .int .i64 z.wid, .int .i64 z.mass, .int .i64 z.hulls] ∧ (k ≤ rows.length) ∧ (z = sizeTo boat rows k) ∧ ((0 ≤ z.len ∧ z.len ≤ 200 + 200 * k) ∧ (0 ≤ z.wid ∧ z.wid ≤ 200) ∧ (0 ≤ z.mass ∧ z.mass ≤ 10000 + 40000 * k) ∧ (0 ≤ z.hulls ∧ z.hulls ≤ 4 * k)) at hW
 obtain ⟨u27, I28, I29, I30, I31⟩ := hW
 have zu27 := u27.size
 have E32 := E22.next u27 (fun i hi (h : i = bk14) => show False by first | omega | assumption)
 have hle := I29; clear I29
 have hz := I30; clear I30
 have hbd := I31; clear I31
 refine c_seq fun K33 hK33 => (c_seq fun K34 hK34 => (c_region (t_move rfl rfl rfl (t_field Try.underlying64 rfl Try.sizeOf62 (4) rfl rfl rfl rfl ?_))))
 have B35 := (((B13.keep u17 (fun h => h)).keep u20 (show ¬ (bk2 = bk14) by first | omega | assumption)).keep u27 (show ¬ (bk2 = bk14) by first | omega | assumption))
 refine t_load Try.isAgg62 rfl rfl rfl (B35.get rfl) (t_len Try.underlying62 rfl rfl rfl rfl (t_cmp rfl rfl rfl rfl rfl (t_nil' (hK34 _ _ (c_condp rfl (fun g23 => ?_) (fun g23 => ?_))))))
 ·
  refine c_skip (hK33 _ _ (c_seq fun K36 hK36 => (c_block (c_seq fun K37 hK37 => (c_region (t_assign rfl rfl rfl (t_assign rfl rfl rfl (t_nil' (hK37 _ _ (c_seq fun K38 hK38 => (c_seq fun K39 hK39 => (c_region (t_assign rfl rfl rfl (t_nil' (hK39 _ _ (c_block ?_))))))))))))))))
  have hrk := hb4 _ (nth_mem (xs := rows) (i := k) (by omega))
  have hrl := okRow_len hrk
  refine c_loop (γ := Nat × Int × Int × Int × Int) (fun gg => [(1, .pointer (some ⟨bk2, 0, none⟩)), (2, .pointer (some ⟨bk7, 0, none⟩)), (3, .pointer (some ⟨bk14, 0, none⟩)), (4, .int .i64 (k : Int)), (5, .int .i64 gg.2.1), (6, .int .i64 gg.2.2.1), (7, .int .i64 (gg.1 : Int))]) (fun gg w => Upd (fun i => i = bk14) w26 w ∧ Blk w bk14 66 [.int .i64 z.len, .int .i64 z.wid, .int .i64 gg.2.2.2.1, .int .i64 gg.2.2.2.2] ∧ (gg.1 ≤ (nth rows k).xs.length) ∧ ((⟨gg.2.1, gg.2.2.1, gg.2.2.2.1 - z.mass⟩ : Row) = rowOf ((nth rows k).xs.take gg.1)) ∧ (gg.2.2.2.2 = z.hulls + (gg.1 : Int)) ∧ ((0 ≤ gg.2.1 ∧ gg.2.1 ≤ 200) ∧ (0 ≤ gg.2.2.1 ∧ gg.2.2.1 ≤ 30 * gg.1) ∧ (z.mass ≤ gg.2.2.2.1 ∧ gg.2.2.2.1 ≤ z.mass + 10000 * gg.1))) (fun gg => (nth rows k).xs.length - gg.1) (0, 0, 0, z.mass, z.hulls) ⟨rfl, rfl, rfl, rfl, rfl, rfl, rfl, trivial⟩ ⟨Upd.refl _ _, I28, Nat.zero_le _, (by rw [rowTo_zero]; simp), (by simp), (by simp only []; omega)⟩ ?_
  intro gg w41 hW K40 hK40
  obtain ⟨j, l, d, m, q⟩ := gg
  change WC _ _ _ _ _ _ [(1, .pointer (some ⟨bk2, 0, none⟩)), (2, .pointer (some ⟨bk7, 0, none⟩)), (3, .pointer (some ⟨bk14, 0, none⟩)), (4, .int .i64 (k : Int)), (5, .int .i64 l), (6, .int .i64 d), (7, .int .i64 (j : Int))] _
  change Upd (fun i => i = bk14) w26 w41 ∧ Blk w41 bk14 66 [.int .i64 z.len, .int .i64 z.wid, .int .i64 m, .int .i64 q] ∧ (j ≤ (nth rows k).xs.length) ∧ ((⟨l, d, m - z.mass⟩ : Row) = rowOf ((nth rows k).xs.take j)) ∧ (q = z.hulls + (j : Int)) ∧ ((0 ≤ l ∧ l ≤ 200) ∧ (0 ≤ d ∧ d ≤ 30 * j) ∧ (z.mass ≤ m ∧ m ≤ z.mass + 10000 * j)) at hW
  obtain ⟨u42, I43, I44, I45, I46, I47⟩ := hW
  have zu42 := u42.size
  have E48 := E32.next u42 (fun i hi (h : i = bk14) => show False by first | omega | assumption)
  have hj := I44; clear I44
  have hr := I45; clear I45
  have hr4 := I46; clear I46
  have rbd := I47; clear I47
  have hrx := okRow_hull hrk
  refine c_seq fun K49 hK49 => (c_seq fun K50 hK50 => (c_region (t_move rfl rfl rfl (t_field Try.underlying64 rfl Try.sizeOf62 (4) rfl rfl rfl rfl ?_))))
  have B51 := (B35.keep u42 (show ¬ (bk2 = bk14) by first | omega | assumption))
  refine t_load Try.isAgg62 rfl rfl rfl (B51.get rfl) (t_move rfl rfl rfl ?_)
  have i52 : k < rows.length := (by omega)
  refine t_index (j := k) Try.underlying62 Try.sizeOf24 rfl rfl rfl rfl ((hs.keep E48 (fun _ h => h)).addr (by omega)) rfl i52 (t_load Try.isAgg24 rfl rfl rfl (((hs.keep E48 (fun _ h => h)).at_ k (by omega)) 0 _ rfl) (t_len Try.underlying24 rfl rfl rfl rfl (t_cmp rfl rfl rfl rfl rfl (t_nil' (hK50 _ _ (c_condp rfl (fun g33 => ?_) (fun g33 => ?_)))))))
  ·
   refine c_skip (hK49 _ _ (c_seq fun K53 hK53 => (c_block (c_seq fun K54 hK54 => (c_region (t_field Try.underlying64 rfl Try.sizeOf62 (4) rfl rfl rfl rfl (t_load Try.isAgg62 rfl rfl rfl (B51.get rfl) (t_move rfl rfl rfl ?_))))))))
   have i55 : k < rows.length := (by omega)
   refine t_index (j := k) Try.underlying62 Try.sizeOf24 rfl rfl rfl rfl ((hs.keep E48 (fun _ h => h)).addr (by omega)) rfl i55 (t_load Try.isAgg24 rfl rfl rfl (((hs.keep E48 (fun _ h => h)).at_ k (by omega)) 0 _ rfl) (t_move rfl rfl rfl ?_))
   have i56 : j < ((nth rows k).xs).length := (by omega)
   refine t_index (j := j) Try.underlying24 Try.sizeOf23 rfl rfl rfl rfl (((hrows (nth rows k) (nth_mem (by omega))).keep E48 (fun _ h => h)).addr (by omega)) rfl i56 (t_loadN (vs := [.int .i64 ((nth ((nth rows k).xs) j).len), .int .i64 ((nth ((nth rows k).xs) j).wid), .int .i64 ((nth ((nth rows k).xs) j).mass)]) Try.isAgg23 Try.sizeOf23 rfl rfl rfl ((((hrows (nth rows k) (nth_mem (by omega))).keep E48 (fun _ h => h)).at_ j (by omega)).sub 0 3) rfl ?_)
   have hh := okHull_rng (hrx _ (nth_mem (xs := (nth rows k).xs) (i := j) (by omega)))
   refine t_alloc (cs := [.int .i64 0, .int .i64 0, .int .i64 0]) Try.zeroValue23 rfl rfl rfl (fun bk57 w58 ebk57 sbk57 B59 u60 => ?_)
   have zu60 := u60.size
   refine t_store (vs := [.int .i64 ((nth ((nth rows k).xs) j).len), .int .i64 ((nth ((nth rows k).xs) j).wid), .int .i64 ((nth ((nth rows k).xs) j).mass)]) Try.sizeOf23 rfl rfl rfl B59 rfl rfl (Nat.le_of_ble_eq_true rfl) (by simp [Value.oneCell']) (fun w62 sw62 B64 u63 => ?_)
   have zu63 := u63.size
   have B64 : Blk w62 bk57 23 [.int .i64 ((nth ((nth rows k).xs) j).len), .int .i64 ((nth ((nth rows k).xs) j).wid), .int .i64 ((nth ((nth rows k).xs) j).mass)] := B64
   refine t_nil' (hK54 _ _ (c_seq fun K66 hK66 => (WC.weak [(1, .pointer (some ⟨bk2, 0, none⟩)), (2, .pointer (some ⟨bk7, 0, none⟩)), (3, .pointer (some ⟨bk14, 0, none⟩)), (4, .int .i64 (k : Int)), (5, .int .i64 l), (6, .int .i64 d), (7, .int .i64 (j : Int)), (8, .pointer (some ⟨bk57, 0, none⟩))] ⟨rfl, rfl, rfl, rfl, rfl, rfl, rfl, rfl, trivial⟩ (c_drawn follows 10 [some (44, some (.int .i64 l)), some (45, some (.pointer (some ⟨bk57, 0, none⟩))), some (46, some (.int .i64 ((nth ((nth rows k).xs) j).len))), some (47, some (.int .i64 (max l ((nth ((nth rows k).xs) j).len)))), some (48, some (.int .i64 d)), some (49, some (.pointer (some ⟨bk57, 1, none⟩))), some (50, some (.int .i64 ((nth ((nth rows k).xs) j).wid))), some (51, some (.int .i64 (d + ((nth ((nth rows k).xs) j).wid)))), some (5, some (.int .i64 (max l ((nth ((nth rows k).xs) j).len)))), some (6, some (.int .i64 (d + ((nth ((nth rows k).xs) j).wid))))] [[],[],[1],[0,2],[],[],[5],[4,6],[3,0,1,2,3],[7,8,0,1,2,3,4,5,6,7,8]] (fun _ _ w => Upd (fun _ => False) w62 w) rfl rfl rfl (by kernel_rfl) (by kernel_rfl) (Upd.drew _).to ⟨?_, ?_, ?_, ?_, ?_, ?_, ?_, ?_, ?_, ?_, trivial⟩ ?_))))
   · exact pz rfl rfl rfl rfl fun _ _ _ h => h
   · exact pzf Try.underlying23 rfl Try.sizeOf3 (0) rfl rfl rfl rfl rfl fun _ _ _ h => h
   ·
    intro D ρ w67 hcD hnD hdD hW
    have zhW := hW.size
    refine ⟨_, kf_fr [45], fun Lr => ?_⟩
    have B70 := (B64.keep hW (fun h => h))
    refine t_load Try.isAgg3 rfl rfl rfl (B70.get rfl) ?_
    exact dz rfl hW
   ·
    intro D ρ w71 hcD hnD hdD hW
    have zhW := hW.size
    refine ⟨_, kf_fr [44, 46], fun Lr => ?_⟩
    refine t_max rfl rfl rfl rfl ?_
    exact dz rfl hW
   · exact pz rfl rfl rfl rfl fun _ _ _ h => h
   · exact pzf Try.underlying23 rfl Try.sizeOf3 (1) rfl rfl rfl rfl rfl fun _ _ _ h => h
   ·
    intro D ρ w74 hcD hnD hdD hW
    have zhW := hW.size
    refine ⟨_, kf_fr [49], fun Lr => ?_⟩
    have B77 := (B64.keep hW (fun h => h))
    refine t_load Try.isAgg3 rfl rfl rfl (B77.get rfl) ?_
    exact dz rfl hW
   ·
    intro D ρ w78 hcD hnD hdD hW
    have zhW := hW.size
    refine ⟨_, kf_fr [48, 50], fun Lr => ?_⟩
    refine t_ari rfl rfl rfl rfl rfl (by omega) ?_
    exact dz rfl hW
   · exact pz rfl rfl rfl rfl fun _ _ _ h => h
   · exact pz rfl rfl rfl rfl fun _ _ _ h => h
   intro ρ w81 hW
   have u82 : Upd (fun _ => False) w62 w81 := hW
   have zu82 := u82.size
   refine QK.weak [(1, .pointer (some ⟨bk2, 0, none⟩)), (2, .pointer (some ⟨bk7, 0, none⟩)), (3, .pointer (some ⟨bk14, 0, none⟩)), (4, .int .i64 (k : Int)), (5, .int .i64 (max l ((nth ((nth rows k).xs) j).len))), (6, .int .i64 (d + ((nth ((nth rows k).xs) j).wid))), (7, .int .i64 (j : Int)), (8, .pointer (some ⟨bk57, 0, none⟩))] ⟨rfl, rfl, rfl, rfl, rfl, rfl, rfl, rfl, trivial⟩ (hK66 _ _ (c_seq fun K84 hK84 => (c_region (t_field Try.underlying66 rfl Try.sizeOf3 (2) rfl rfl rfl rfl ?_))))
   have B85 := (((I43.keep u60 (fun h => h)).keep u63 (show ¬ (bk14 = bk57) by first | omega | assumption)).keep u82 (fun h => h))
   refine t_load Try.isAgg3 rfl rfl rfl (B85.get rfl) (t_field Try.underlying23 rfl Try.sizeOf3 (2) rfl rfl rfl rfl ?_)
   have B86 := (B64.keep u82 (fun h => h))
   refine t_load Try.isAgg3 rfl rfl rfl (B86.get rfl) (t_ari rfl rfl rfl rfl rfl (by omega) (t_field Try.underlying66 rfl Try.sizeOf3 (2) rfl rfl rfl rfl (t_store (vs := [.int .i64 (m + ((nth ((nth rows k).xs) j).mass))]) Try.sizeOf3 rfl rfl rfl B85 rfl rfl (Nat.le_of_ble_eq_true rfl) (by simp [Value.oneCell']) (fun w87 sw87 B89 u88 => ?_))))
   have zu88 := u88.size
   have B89 : Blk w87 bk14 66 [.int .i64 z.len, .int .i64 z.wid, .int .i64 (m + ((nth ((nth rows k).xs) j).mass)), .int .i64 q] := B89
   refine t_nil' (hK84 _ _ (c_region (t_field Try.underlying66 rfl Try.sizeOf3 (3) rfl rfl rfl rfl (t_load Try.isAgg3 rfl rfl rfl (B89.get rfl) (t_ari rfl rfl rfl rfl rfl (by omega) (t_field Try.underlying66 rfl Try.sizeOf3 (3) rfl rfl rfl rfl (t_store (vs := [.int .i64 (q + 1)]) Try.sizeOf3 rfl rfl rfl B89 rfl rfl (Nat.le_of_ble_eq_true rfl) (by simp [Value.oneCell']) (fun w91 sw91 B93 u92 => ?_))))))))
   have zu92 := u92.size
   have B93 : Blk w91 bk14 66 [.int .i64 z.len, .int .i64 z.wid, .int .i64 (m + ((nth ((nth rows k).xs) j).mass)), .int .i64 (q + 1)] := B93
   refine t_nil' (hK53 _ _ (c_region (t_move rfl rfl rfl (t_ari rfl rfl rfl rfl rfl (by omega) (t_assign rfl rfl rfl (t_nil' ?_))))))
   exact hK40 (j + 1, (max l ((nth ((nth rows k).xs) j).len)), (d + ((nth ((nth rows k).xs) j).wid)), (m + ((nth ((nth rows k).xs) j).mass)), (q + 1)) _ _ (by show (nth rows k).xs.length - (j + 1) < (nth rows k).xs.length - j; omega) ⟨rfl, rfl, rfl, rfl, rfl, rfl, rfl, trivial⟩ ⟨(((((u42.next u60 (fun _ _ h => h.elim)).next u63 (fun i hi (h : i = bk57) => show i = bk14 by first | omega | assumption)).next u82 (fun _ _ h => h.elim)).next u88 (fun i hi (h : i = bk14) => show i = bk14 by first | omega | assumption)).next u92 (fun i hi (h : i = bk14) => show i = bk14 by first | omega | assumption)), B93, (by omega), (by rw [rowTo_succ (by omega), ← hr]; simp only [addH]; congr 1; omega), (by show (q + 1) = z.hulls + ((j + 1 : Nat) : Int); omega), (by show (0 ≤ (max l ((nth ((nth rows k).xs) j).len)) ∧ (max l ((nth ((nth rows k).xs) j).len)) ≤ 200) ∧ (0 ≤ (d + ((nth ((nth rows k).xs) j).wid)) ∧ (d + ((nth ((nth rows k).xs) j).wid)) ≤ 30 * (j + 1)) ∧ (z.mass ≤ (m + ((nth ((nth rows k).xs) j).mass)) ∧ (m + ((nth ((nth rows k).xs) j).mass)) ≤ z.mass + 10000 * (j + 1)); omega)⟩
  ·
   have hrow : (⟨l, d, m - z.mass⟩ : Row) = rowOf (nth rows k).xs := by rw [hr, List.take_of_length_le (by omega)]
   have hjl : j = (nth rows k).xs.length := by omega
   have hl5 : (rowOf (nth rows k).xs).long = l ∧ (rowOf (nth rows k).xs).wide = d ∧ z.mass + (rowOf (nth rows k).xs).mass = m := by rw [← hrow]; refine ⟨rfl, rfl, ?_⟩; show z.mass + (m - z.mass) = m; omega
   refine c_exit (hK38 _ _ (c_seq fun K95 hK95 => (c_region (t_field Try.underlying66 rfl Try.sizeOf3 (0) rfl rfl rfl rfl (t_load Try.isAgg3 rfl rfl rfl (I43.get rfl) (t_move rfl rfl rfl (t_ari rfl rfl rfl rfl rfl (by omega) (t_field Try.underlying66 rfl Try.sizeOf3 (0) rfl rfl rfl rfl (t_store (vs := [.int .i64 (z.len + l)]) Try.sizeOf3 rfl rfl rfl I43 rfl rfl (Nat.le_of_ble_eq_true rfl) (by simp [Value.oneCell']) (fun w96 sw96 B98 u97 => ?_))))))))))
   have zu97 := u97.size
   have B98 : Blk w96 bk14 66 [.int .i64 (z.len + l), .int .i64 z.wid, .int .i64 m, .int .i64 q] := B98
   refine t_nil' (hK95 _ _ (c_region (t_field Try.underlying66 rfl Try.sizeOf3 (1) rfl rfl rfl rfl (t_load Try.isAgg3 rfl rfl rfl (B98.get rfl) (t_move rfl rfl rfl (t_max rfl rfl rfl rfl (t_field Try.underlying66 rfl Try.sizeOf3 (1) rfl rfl rfl rfl (t_store (vs := [.int .i64 (max z.wid d)]) Try.sizeOf3 rfl rfl rfl B98 rfl rfl (Nat.le_of_ble_eq_true rfl) (by simp [Value.oneCell']) (fun w100 sw100 B102 u101 => ?_)))))))))
   have zu101 := u101.size
   have B102 : Blk w100 bk14 66 [.int .i64 (z.len + l), .int .i64 (max z.wid d), .int .i64 m, .int .i64 q] := B102
   refine t_nil' (hK36 _ _ (c_region (t_move rfl rfl rfl (t_ari rfl rfl rfl rfl rfl (by omega) (t_assign rfl rfl rfl (t_nil' ?_))))))
   exact hK25 (k + 1, ⟨(z.len + l), (max z.wid d), m, q⟩) _ _ (by show rows.length - (k + 1) < rows.length - k; omega) ⟨rfl, rfl, rfl, rfl, trivial⟩ ⟨(((u27.next u42 (fun i hi (h : i = bk14) => show i = bk14 by first | omega | assumption)).next u97 (fun i hi (h : i = bk14) => show i = bk14 by first | omega | assumption)).next u101 (fun i hi (h : i = bk14) => show i = bk14 by first | omega | assumption)), B102, (by omega), (by rw [sizeTo_succ (by omega), ← hz]; simp only [addRow]; rw [hl5.1, hl5.2.1, hl5.2.2, hr4, hjl]), (by show (0 ≤ (z.len + l) ∧ (z.len + l) ≤ 200 + 200 * (k + 1)) ∧ (0 ≤ (max z.wid d) ∧ (max z.wid d) ≤ 200) ∧ (0 ≤ m ∧ m ≤ 10000 + 40000 * (k + 1)) ∧ (0 ≤ q ∧ q ≤ 4 * (k + 1)); omega)⟩
 ·
  refine c_exit (hK23 _ _ (c_seq fun K104 hK104 => (c_region (t_loadN (vs := [.int .i64 z.len, .int .i64 z.wid, .int .i64 z.mass, .int .i64 z.hulls]) Try.isAgg66 Try.sizeOf66 rfl rfl rfl (I28.at.sub 0 4) rfl ?_))))
  have B105 := (((B9.keep u17 (fun h => h)).keep u20 (show ¬ (bk7 = bk14) by first | omega | assumption)).keep u27 (show ¬ (bk7 = bk14) by first | omega | assumption))
  refine t_store (vs := [.int .i64 z.len, .int .i64 z.wid, .int .i64 z.mass, .int .i64 z.hulls]) Try.sizeOf66 rfl rfl rfl B105 rfl rfl (Nat.le_of_ble_eq_true rfl) (by simp [Value.oneCell']) (fun w106 sw106 B108 u107 => ?_)
  have zu107 := u107.size
  have E109 := E32.next u107 (fun i hi (h : i = bk7) => show False by first | omega | assumption)
  have B108 : Blk w106 bk7 66 [.int .i64 z.len, .int .i64 z.wid, .int .i64 z.mass, .int .i64 z.hulls] := B108
  refine t_nil' (hK104 _ _ (c_ret (f_ret1 (v := .agg #[.int .i64 z.len, .int .i64 z.wid, .int .i64 z.mass, .int .i64 z.hulls]) Try.results39 ⟨_, _, rfl, run_loadVarN (vs := [.int .i64 z.len, .int .i64 z.wid, .int .i64 z.mass, .int .i64 z.hulls]) Try.isAgg66 Try.sizeOf66 rfl (B108.at.sub 0 4)⟩ ?_)))
  exact ⟨by rw [← sizeTo_all (boat := boat) (show rows.length ≤ k by omega), ← hz], E109⟩

end Go.Proofs.Ytmicjleiheoieaa
