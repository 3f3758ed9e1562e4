/-
  tons and goes. Conditions: none.
-/
import Derived.Test.YtblkphbblkncdaaD2
namespace Go.Proofs.Ytblkphbblkncdaa
open Go Go.RowKit

def tonsV (l : List Lay) (b : Int) : Int := if b < 0 then sumT l else ofT l b
theorem tonsV_take {l : List Lay} {k : Nat} {b : Int} (hk : k < l.length) : tonsV (l.take (k + 1)) b = tonsV (l.take k) b + (if b < 0 ∨ (nth l k).bill = b then (nth l k).tons else 0) := by
  unfold tonsV
  rw [take_nth hk]
  by_cases h : b < 0
  · rw [if_pos h, if_pos h, if_pos (.inl h), sumT_append]; simp [sumT]
  · rw [if_neg h, if_neg h, ofT_snoc]
    by_cases h2 : (nth l k).bill = b
    · rw [if_pos h2, if_pos (Or.inr h2)]
    · rw [if_neg h2, if_neg (fun h9 : b < 0 ∨ _ => h9.elim h h2)]
/-- The event of the k-th step of a path. -/
def evA (l : List Ev) (p : List Int) (k : Nat) : Ev := nth l (nth p k).toNat
/-- Where tons are after k steps: a hold, or -1. -/
def posA (l : List Ev) (p : List Int) : Nat → Int
  | 0 => -1
  | k + 1 => if (evA l p k).kind = 3 then -1 else (evA l p k).to
/-- The path of a layer is one that its tons can have gone. -/
structure Goes (l : List Ev) (x : Lay) (h : Int) : Prop where
  ne : 0 < x.path.length
  tn : 1 ≤ x.tons
  rng : ∀ k, k < x.path.length → 0 ≤ nth x.path k ∧ nth x.path k < (l.length : Int) ∧ x.tons ≤ (evA l x.path k).tons
  inc : ∀ k, 0 < k → k < x.path.length → nth x.path (k - 1) < nth x.path k
  fst : ∀ k, k = 0 → (evA l x.path k).kind = 1 ∧ (evA l x.path k).bill = x.bill
  stp : ∀ k, 0 < k → k < x.path.length → (evA l x.path k).frm = posA l x.path k ∧ ((evA l x.path k).kind = 2 ∨ ((evA l x.path k).kind = 3 ∧ k + 1 = x.path.length))
  fin : posA l x.path x.path.length = h
theorem own33 : Own Try.prog 33 := ⟨Try.f33, Try.func33, by kernel_rfl, by kernel_rfl⟩
theorem own34 : Own Try.prog 34 := ⟨Try.f34, Try.func34, by kernel_rfl, by kernel_rfl⟩

theorem tons11_c (xs : List HLay) (aa : Option Addr) (ba ca : Nat) (bl : Int) (w0 : World) (ha0 : Sl encHLay 3 w0 aa ba 0 xs) (hl : xs.length ≤ 1000000) (hb : ∀ x ∈ xs, 0 ≤ x.v.tons ∧ x.v.tons ≤ 1000000) :
    CallsV Try.prog 33 [.slice aa (List.length xs) ca, .int .i64 bl] w0 (fun v w' => v = .int .i64 (tonsV (xs.map HLay.v) bl) ∧ Ext w0 w') := by
 refine f_enter (N := 32) Try.func33 rfl rfl rfl (c_seq fun K1 hK1 => (c_region (t_assign rfl rfl rfl (t_nil' (hK1 _ _ (c_seq fun K2 hK2 => (c_region (t_assign rfl rfl rfl (t_nil' (hK2 _ _ (c_seq fun K3 hK3 => (c_seq fun K4 hK4 => (c_region (t_assign rfl rfl rfl (t_nil' (hK4 _ _ (c_block (c_loop (γ := Nat × Int) (fun gg => [(0, .slice aa (List.length xs) ca), (1, .int .i64 bl), (5, .int .i64 gg.2), (6, .int .i64 (gg.1 : Int))]) (fun gg w => Upd (fun _ => False) w0 w ∧ (gg.1 ≤ xs.length) ∧ (gg.2 = tonsV ((xs.map HLay.v).take gg.1) bl) ∧ (0 ≤ gg.2 ∧ gg.2 ≤ gg.1 * 1000000)) (fun gg => xs.length - gg.1) (0, 0) ⟨rfl, rfl, rfl, rfl, trivial⟩ ⟨Upd.refl _ _, (Nat.zero_le _), (by unfold tonsV; split <;> rfl), (by omega)⟩ ?_))))))))))))))))))
 intro gg w6 hW K5 hK5
 obtain ⟨k, s⟩ := gg
 change WC _ _ _ _ _ _ [(0, .slice aa (List.length xs) ca), (1, .int .i64 bl), (5, .int .i64 s), (6, .int .i64 (k : Int))] _
 change Upd (fun _ => False) w0 w6 ∧ (k ≤ xs.length) ∧ (s = tonsV ((xs.map HLay.v).take k) bl) ∧ (0 ≤ s ∧ s ≤ k * 1000000) at hW
 obtain ⟨u7, I8, I9, I10⟩ := hW
 have zu7 := u7.size
 have E11 := (Upd.refl (fun _ => False) w0).nx u7
 have hk := I8; clear I8
 have hs := I9; clear I9
 have hs2 := I10; clear I10
 refine c_seq fun K12 hK12 => (c_seq fun K13 hK13 => (c_region (t_move rfl rfl rfl (t_move rfl rfl rfl (t_len Try.underlying36 rfl rfl rfl rfl (t_cmp rfl rfl rfl rfl rfl (t_nil' (hK13 _ _ (c_condp rfl (fun g10 => ?_) (fun g10 => ?_))))))))))
 ·
  refine c_skip (hK12 _ _ (c_seq fun K14 hK14 => (c_block (c_seq fun K15 hK15 => (c_region (t_move rfl rfl rfl (t_cmp rfl rfl rfl rfl rfl (t_move rfl rfl rfl (t_splitp 15 rfl (fun g15 => ?_) (fun g15 => ?_))))))))))
  ·
   refine t_skip rfl rfl rfl (t_skip rfl rfl rfl (t_skip rfl rfl rfl (t_skip rfl rfl rfl (t_skip rfl rfl rfl (t_skip rfl rfl rfl (t_skip rfl rfl rfl (t_pick_t rfl rfl rfl rfl (t_nil' (hK15 _ _ (c_cond_t rfl (c_region (t_move rfl rfl rfl (t_move rfl rfl rfl (t_move rfl rfl rfl ?_))))))))))))))
   have i16 : k < xs.length := (by omega)
   refine t_index (j := k) Try.underlying36 Try.sizeOf97 rfl rfl rfl rfl ((ha0.keep E11 (fun _ h => h)).addr (by omega)) rfl (by omega) (t_field Try.underlying97 rfl Try.sizeOf3 (0 + k * 3 + 1) rfl rfl rfl rfl (t_load Try.isAgg3 rfl rfl rfl (((ha0.keep E11 (fun _ h => h)).at_ k (by omega)) 1 _ rfl) (t_ari rfl rfl rfl rfl rfl (by have := hb _ (nth_mem (xs := xs) (i := k) (by omega)); omega) (t_assign rfl rfl rfl (t_nil' (hK14 _ _ (c_region (t_move rfl rfl rfl (t_ari rfl rfl rfl rfl rfl (by omega) (t_assign rfl rfl rfl (t_nil' ?_)))))))))))
   exact hK5 (k + 1, (s + ((nth xs k).v.tons))) _ _ (by show xs.length - (k + 1) < xs.length - k; omega) ⟨rfl, rfl, rfl, rfl, trivial⟩ ⟨u7, (by omega), (by rw [tonsV_take (by rw [List.length_map]; omega), ← hs, nth_mapl]; rw [if_pos (.inl g15)]), (by have := hb _ (nth_mem (xs := xs) (i := k) (by omega)); omega)⟩
  refine t_move rfl rfl rfl (t_move rfl rfl rfl ?_)
  have i17 : k < xs.length := (by omega)
  refine t_index (j := k) Try.underlying36 Try.sizeOf97 rfl rfl rfl rfl ((ha0.keep E11 (fun _ h => h)).addr (by omega)) rfl (by omega) (t_field Try.underlying97 rfl Try.sizeOf3 (0 + k * 3 + 0) rfl rfl rfl rfl (t_load Try.isAgg3 rfl rfl rfl (((ha0.keep E11 (fun _ h => h)).at_ k (by omega)) 0 _ rfl) (t_move rfl rfl rfl (t_cmp rfl rfl rfl rfl rfl (t_pick_f rfl rfl rfl rfl (t_nil' (hK15 _ _ (c_condp rfl (fun g23 => ?_) (fun g23 => ?_)))))))))
  ·
   refine c_region (t_move rfl rfl rfl (t_move rfl rfl rfl (t_move rfl rfl rfl ?_)))
   have i18 : k < xs.length := (by omega)
   refine t_index (j := k) Try.underlying36 Try.sizeOf97 rfl rfl rfl rfl ((ha0.keep E11 (fun _ h => h)).addr (by omega)) rfl (by omega) (t_field Try.underlying97 rfl Try.sizeOf3 (0 + k * 3 + 1) rfl rfl rfl rfl (t_load Try.isAgg3 rfl rfl rfl (((ha0.keep E11 (fun _ h => h)).at_ k (by omega)) 1 _ rfl) (t_ari rfl rfl rfl rfl rfl (by have := hb _ (nth_mem (xs := xs) (i := k) (by omega)); omega) (t_assign rfl rfl rfl (t_nil' (hK14 _ _ (c_region (t_move rfl rfl rfl (t_ari rfl rfl rfl rfl rfl (by omega) (t_assign rfl rfl rfl (t_nil' ?_)))))))))))
   exact hK5 (k + 1, (s + ((nth xs k).v.tons))) _ _ (by show xs.length - (k + 1) < xs.length - k; omega) ⟨rfl, rfl, rfl, rfl, trivial⟩ ⟨u7, (by omega), (by rw [tonsV_take (by rw [List.length_map]; omega), ← hs, nth_mapl]; rw [if_pos (.inr g23)]), (by have := hb _ (nth_mem (xs := xs) (i := k) (by omega)); omega)⟩
  refine c_skip (hK14 _ _ (c_region (t_move rfl rfl rfl (t_ari rfl rfl rfl rfl rfl (by omega) (t_assign rfl rfl rfl (t_nil' ?_))))))
  exact hK5 (k + 1, s) _ _ (by show xs.length - (k + 1) < xs.length - k; omega) ⟨rfl, rfl, rfl, rfl, trivial⟩ ⟨u7, (by omega), (by rw [tonsV_take (by rw [List.length_map]; omega), ← hs, nth_mapl]; rw [if_neg (fun h => h.elim g15 g23), Int.add_zero]), (by have := hb _ (nth_mem (xs := xs) (i := k) (by omega)); omega)⟩
 refine c_exit (hK3 _ _ (c_seq fun K19 hK19 => (c_region (t_move rfl rfl rfl (t_assign rfl rfl rfl (t_nil' (hK19 _ _ (c_ret (f_ret1 (v := .int .i64 s) Try.results33 rfl ?_)))))))))
 exact ⟨by rw [hs, List.take_of_length_le (by rw [List.length_map]; omega)], E11⟩

set_option maxHeartbeats 1000000 in
theorem goes_c (us : List Ev) (ae : Option Addr) (be oe ce : Nat) (x : HLay) (h : Int) (w0 : World) (hu : Sl encEv 8 w0 ae be oe us) (hul : us.length ≤ 1000000) (hpa : Sl encI 1 w0 x.ao x.b 0 x.v.path) (hpl : x.v.path.length ≤ 1000000) (hg : Goes us x.v h) :
    CallsV Try.prog 34 [.slice ae us.length ce, .agg #[.int .i64 x.v.bill, .int .i64 x.v.tons, .slice x.ao x.v.path.length x.cap], .int .i64 h] w0 (fun v w' => v = .bool true ∧ Ext w0 w') := by
 refine f_enter (N := 124) Try.func34 rfl rfl rfl (c_seq fun K1 hK1 => (c_region (t_box (cs := [.int .i64 x.v.bill, .int .i64 x.v.tons, .slice x.ao x.v.path.length x.cap]) rfl rfl rfl rfl (fun bk2 w3 ebk2 sbk2 B4 u5 => ?_))))
 have zu5 := u5.size
 refine t_assign rfl rfl rfl (t_nil' (hK1 _ _ (c_seq fun K7 hK7 => (c_seq fun K8 hK8 => (c_region (t_field Try.underlying97 rfl Try.sizeOf45 (2) rfl rfl rfl rfl (t_load Try.isAgg45 rfl rfl rfl (B4.get rfl) (t_len Try.underlying45 rfl rfl rfl rfl (t_cmp rfl rfl rfl rfl rfl (t_move rfl rfl rfl (t_splitp 14 rfl (fun g14 => ?_) (fun g14 => ?_))))))))))))
 ·
  exact absurd hg.ne (by omega)
 refine t_field Try.underlying97 rfl Try.sizeOf3 (1) rfl rfl rfl rfl (t_load Try.isAgg3 rfl rfl rfl (B4.get rfl) (t_cmp rfl rfl rfl rfl rfl (t_pick_f rfl rfl rfl rfl (t_nil' (hK8 _ _ (c_condp rfl (fun g18 => ?_) (fun g18 => ?_)))))))
 ·
  exact absurd hg.tn (by omega)
 refine c_skip (hK7 _ _ (c_seq fun K9 hK9 => (c_region (t_assign rfl rfl rfl (t_nil' (hK9 _ _ (c_seq fun K10 hK10 => (c_seq fun K11 hK11 => (c_region (t_assign rfl rfl rfl (t_nil' (hK11 _ _ (c_block (c_loop (γ := Nat × Int) (fun gg => [(0, .slice ae us.length ce), (2, .int .i64 h), (4, .pointer (some ⟨bk2, 0, none⟩)), (7, .int .i64 gg.2), (8, .int .i64 (gg.1 : Int))]) (fun gg w => Upd (fun _ => False) w3 w ∧ (gg.1 ≤ x.v.path.length) ∧ (gg.2 = posA us x.v.path gg.1)) (fun gg => x.v.path.length - gg.1) (0, -1) ⟨rfl, rfl, rfl, rfl, rfl, trivial⟩ ⟨Upd.refl _ _, (Nat.zero_le _), rfl⟩ ?_))))))))))))))
 intro gg w13 hW K12 hK12
 obtain ⟨k, a⟩ := gg
 change WC _ _ _ _ _ _ [(0, .slice ae us.length ce), (2, .int .i64 h), (4, .pointer (some ⟨bk2, 0, none⟩)), (7, .int .i64 a), (8, .int .i64 (k : Int))] _
 change Upd (fun _ => False) w3 w13 ∧ (k ≤ x.v.path.length) ∧ (a = posA us x.v.path k) at hW
 obtain ⟨u14, I15, I16⟩ := hW
 have zu14 := u14.size
 have E17 := ((Upd.refl (fun _ => False) w0).nx u5).nx u14
 have hk := I15; clear I15
 have hat := I16; clear I16
 refine c_seq fun K18 hK18 => (c_seq fun K19 hK19 => (c_region (t_move rfl rfl rfl (t_field Try.underlying97 rfl Try.sizeOf45 (2) rfl rfl rfl rfl ?_))))
 have B20 := (B4.kx u14)
 refine t_load Try.isAgg45 rfl rfl rfl (B20.get rfl) (t_len Try.underlying45 rfl rfl rfl rfl (t_cmp rfl rfl rfl rfl rfl (t_nil' (hK19 _ _ (c_condp rfl (fun g23 => ?_) (fun g23 => ?_))))))
 ·
  refine c_skip (hK18 _ _ (c_seq fun K21 hK21 => (c_block (c_seq fun K22 hK22 => (c_region (t_field Try.underlying97 rfl Try.sizeOf45 (2) rfl rfl rfl rfl (t_load Try.isAgg45 rfl rfl rfl (B20.get rfl) (t_move rfl rfl rfl ?_))))))))
  have i23 : k < x.v.path.length := (by omega)
  refine t_index (j := k) Try.underlying45 Try.sizeOf3 rfl rfl rfl rfl ((hpa.keep E17 (fun _ h => h)).addr (by omega)) rfl i23 (t_load Try.isAgg3 rfl rfl rfl (((hpa.keep E17 (fun _ h => h)).at_ k (by omega)) 0 _ rfl) (t_assign rfl rfl rfl (t_nil' (hK22 _ _ (c_seq fun K24 hK24 => (c_seq fun K25 hK25 => ?_))))))
  have hr := hg.rng k (by omega)
  have hr3 : x.v.tons ≤ (nth us (nth x.v.path k).toNat).tons := hr.2.2
  have h32 : ¬ nth x.v.path k < 0 := by omega
  have h37 : ¬ (us.length : Int) ≤ nth x.v.path k := by omega
  have h61 : ¬ (nth us (nth x.v.path k).toNat).tons < x.v.tons := by omega
  refine c_drawnQ follows (by kernel_rfl) (p_move rfl rfl rfl (p_cmp rfl rfl rfl rfl rfl (p_samehd (v := .bool false) (by simp [h32]) (p_move rfl rfl rfl (p_move rfl rfl rfl (p_move rfl rfl rfl (p_len Try.underlying26 rfl rfl rfl rfl (p_cmp rfl rfl rfl rfl rfl (p_samehd (v := .bool false) (by simp [h37]) (p_pick_f rfl rfl rfl rfl (p_move rfl rfl rfl (p_move rfl rfl rfl (p_cmp rfl rfl rfl rfl rfl (p_move rfl rfl rfl (p_splitp 42 rfl (fun g42 => ?_) (fun g42 => ?_))))))))))))))))
  ·
   have h50 : ¬ nth x.v.path k ≤ nth x.v.path (k - 1) := by have h9 := hg.inc k (by omega) (by omega); omega
   refine p_move rfl rfl rfl (p_field Try.underlying97 rfl Try.sizeOf45 (2) rfl rfl rfl rfl (p_load Try.isAgg45 rfl rfl rfl (B20.get rfl) (p_move rfl rfl rfl (p_ari rfl rfl rfl rfl rfl (by omega) ?_))))
   have i29 : (k - 1) < x.v.path.length := (by omega)
   refine p_index (j := (k - 1)) Try.underlying45 Try.sizeOf3 rfl rfl rfl rfl ((hpa.keep E17 (fun _ h => h)).addr (by omega)) (by omega) i29 (p_load Try.isAgg3 rfl rfl rfl (((hpa.keep E17 (fun _ h => h)).at_ (k - 1) (by omega)) 0 _ rfl) (p_cmp rfl rfl rfl rfl rfl (p_samehd (v := .bool false) (by simp [h50]) (p_pick_t rfl rfl rfl rfl (p_pick_f rfl rfl rfl rfl (p_move rfl rfl rfl (p_move rfl rfl rfl (p_move rfl rfl rfl ?_))))))))
   have i30 : (nth x.v.path k).toNat < us.length := (by omega)
   refine p_index (j := (nth x.v.path k).toNat) Try.underlying26 Try.sizeOf41 rfl rfl rfl rfl ((hu.keep E17 (fun _ h => h)).addr (by omega)) (by omega) i30 (p_field Try.underlying41 rfl Try.sizeOf3 (oe + (nth x.v.path k).toNat * 8 + 5) rfl rfl rfl rfl (p_load Try.isAgg3 rfl rfl rfl (((hu.keep E17 (fun _ h => h)).at_ ((nth x.v.path k).toNat) (by omega)) 5 _ rfl) (p_field Try.underlying97 rfl Try.sizeOf3 (1) rfl rfl rfl rfl (p_load Try.isAgg3 rfl rfl rfl (B20.get rfl) (p_cmp rfl rfl rfl rfl rfl (p_samehd (v := .bool false) (by simp [h61]) (p_pick_f rfl rfl rfl rfl (p_nil fun w31 u32 => ?_))))))))
   have zu32 := u32.size
   have E33 := E17.nx u32
   refine t_nil' (hK25 _ _ (c_cond_f rfl (c_skip (hK24 _ _ (c_block (c_seq fun K34 hK34 => (c_region (t_move rfl rfl rfl (t_cmp rfl rfl rfl rfl rfl (t_assign rfl rfl rfl (t_nil' (hK34 _ _ (c_condp rfl (fun g77 => ?_) (fun g77 => ?_))))))))))))))
   ·
    have hk0 : k = 0 := by omega
    have hf := hg.fst k hk0
    have hf1 : (nth us (nth x.v.path k).toNat).kind = 1 := hf.1
    have hf2 : (nth us (nth x.v.path k).toNat).bill = x.v.bill := hf.2
    have h85 : ¬ (nth us (nth x.v.path k).toNat).kind ≠ 1 := by omega
    have h94 : ¬ (nth us (nth x.v.path k).toNat).bill ≠ x.v.bill := by omega
    refine c_seq fun K35 hK35 => (c_seq fun K36 hK36 => (c_drawnQ follows (by kernel_rfl) (p_move rfl rfl rfl (p_move rfl rfl rfl ?_))))
    have i40 : (nth x.v.path k).toNat < us.length := (by omega)
    refine p_index (j := (nth x.v.path k).toNat) Try.underlying26 Try.sizeOf41 rfl rfl rfl rfl ((hu.keep E33 (fun _ h => h)).addr (by omega)) (by omega) i40 (p_field Try.underlying41 rfl Try.sizeOf39 (oe + (nth x.v.path k).toNat * 8 + 0) rfl rfl rfl rfl (p_load Try.isAgg39 rfl rfl rfl (((hu.keep E33 (fun _ h => h)).at_ ((nth x.v.path k).toNat) (by omega)) 0 _ rfl) (p_cmp rfl rfl rfl rfl rfl (p_samehd (v := .bool false) (by simp [h85]) (p_move rfl rfl rfl (p_move rfl rfl rfl (p_move rfl rfl rfl ?_)))))))
    have i41 : (nth x.v.path k).toNat < us.length := (by omega)
    refine p_index (j := (nth x.v.path k).toNat) Try.underlying26 Try.sizeOf41 rfl rfl rfl rfl ((hu.keep E33 (fun _ h => h)).addr (by omega)) (by omega) i41 (p_field Try.underlying41 rfl Try.sizeOf3 (oe + (nth x.v.path k).toNat * 8 + 2) rfl rfl rfl rfl (p_load Try.isAgg3 rfl rfl rfl (((hu.keep E33 (fun _ h => h)).at_ ((nth x.v.path k).toNat) (by omega)) 2 _ rfl) (p_field Try.underlying97 rfl Try.sizeOf3 (0) rfl rfl rfl rfl ?_)))
    have B42 := (B20.kx u32)
    refine p_load Try.isAgg3 rfl rfl rfl (B42.get rfl) (p_cmp rfl rfl rfl rfl rfl (p_samehd (v := .bool false) (by simp [h94]) (p_pick_f rfl rfl rfl rfl (p_nil fun w43 u44 => ?_))))
    have zu44 := u44.size
    have E45 := E33.nx u44
    refine t_nil' (hK36 _ _ (c_cond_f rfl (c_skip (hK35 _ _ (c_region (t_move rfl rfl rfl (t_move rfl rfl rfl ?_)))))))
    have i46 : (nth x.v.path k).toNat < us.length := (by omega)
    refine t_index (j := (nth x.v.path k).toNat) Try.underlying26 Try.sizeOf41 rfl rfl rfl rfl ((hu.keep E45 (fun _ h => h)).addr (by omega)) (by omega) i46 (t_field Try.underlying41 rfl Try.sizeOf3 (oe + (nth x.v.path k).toNat * 8 + 4) rfl rfl rfl rfl (t_load Try.isAgg3 rfl rfl rfl (((hu.keep E45 (fun _ h => h)).at_ ((nth x.v.path k).toNat) (by omega)) 4 _ rfl) (t_assign rfl rfl rfl (t_nil' (hK21 _ _ (c_region (t_move rfl rfl rfl (t_ari rfl rfl rfl rfl rfl (by omega) (t_assign rfl rfl rfl (t_nil' ?_))))))))))
    exact hK12 (k + 1, (nth us ((nth x.v.path k).toNat)).to) _ _ (by show x.v.path.length - (k + 1) < x.v.path.length - k; omega) ⟨rfl, rfl, rfl, rfl, rfl, trivial⟩ ⟨((u14.next u32 (fun _ _ h => h.elim)).next u44 (fun _ _ h => h.elim)), (by omega), (by show _ = if (nth us (nth x.v.path k).toNat).kind = 3 then (-1 : Int) else (nth us (nth x.v.path k).toNat).to; rw [if_neg (by omega)])⟩
   have hf := hg.stp k (by omega) (by omega)
   have hf1 : (nth us (nth x.v.path k).toNat).frm = posA us x.v.path k := hf.1
   have hf2 : (nth us (nth x.v.path k).toNat).kind = 2 ∨ ((nth us (nth x.v.path k).toNat).kind = 3 ∧ k + 1 = x.v.path.length) := hf.2
   refine c_seq fun K47 hK47 => (c_region (t_move rfl rfl rfl (t_move rfl rfl rfl ?_)))
   have i48 : (nth x.v.path k).toNat < us.length := (by omega)
   refine t_index (j := (nth x.v.path k).toNat) Try.underlying26 Try.sizeOf41 rfl rfl rfl rfl ((hu.keep E33 (fun _ h => h)).addr (by omega)) (by omega) i48 (t_field Try.underlying41 rfl Try.sizeOf3 (oe + (nth x.v.path k).toNat * 8 + 3) rfl rfl rfl rfl (t_load Try.isAgg3 rfl rfl rfl (((hu.keep E33 (fun _ h => h)).at_ ((nth x.v.path k).toNat) (by omega)) 3 _ rfl) (t_move rfl rfl rfl (t_cmp rfl rfl rfl rfl rfl (t_assign rfl rfl rfl (t_nil' (hK47 _ _ (c_condp rfl (fun g101 => ?_) (fun g101 => ?_)))))))))
   ·
    exact absurd (hf1.trans hat.symm) g101
   refine c_seq fun K49 hK49 => (c_region (t_move rfl rfl rfl (t_move rfl rfl rfl ?_)))
   have i50 : (nth x.v.path k).toNat < us.length := (by omega)
   refine t_index (j := (nth x.v.path k).toNat) Try.underlying26 Try.sizeOf41 rfl rfl rfl rfl ((hu.keep E33 (fun _ h => h)).addr (by omega)) (by omega) i50 (t_field Try.underlying41 rfl Try.sizeOf39 (oe + (nth x.v.path k).toNat * 8 + 0) rfl rfl rfl rfl (t_load Try.isAgg39 rfl rfl rfl (((hu.keep E33 (fun _ h => h)).at_ ((nth x.v.path k).toNat) (by omega)) 0 _ rfl) (t_cmp rfl rfl rfl rfl rfl (t_assign rfl rfl rfl (t_nil' (hK49 _ _ (c_condp rfl (fun g109 => ?_) (fun g109 => ?_))))))))
   ·
    refine c_region (t_move rfl rfl rfl (t_move rfl rfl rfl ?_))
    have i51 : (nth x.v.path k).toNat < us.length := (by omega)
    refine t_index (j := (nth x.v.path k).toNat) Try.underlying26 Try.sizeOf41 rfl rfl rfl rfl ((hu.keep E33 (fun _ h => h)).addr (by omega)) (by omega) i51 (t_field Try.underlying41 rfl Try.sizeOf3 (oe + (nth x.v.path k).toNat * 8 + 4) rfl rfl rfl rfl (t_load Try.isAgg3 rfl rfl rfl (((hu.keep E33 (fun _ h => h)).at_ ((nth x.v.path k).toNat) (by omega)) 4 _ rfl) (t_assign rfl rfl rfl (t_nil' (hK21 _ _ (c_region (t_move rfl rfl rfl (t_ari rfl rfl rfl rfl rfl (by omega) (t_assign rfl rfl rfl (t_nil' ?_))))))))))
    exact hK12 (k + 1, (nth us ((nth x.v.path k).toNat)).to) _ _ (by show x.v.path.length - (k + 1) < x.v.path.length - k; omega) ⟨rfl, rfl, rfl, rfl, rfl, trivial⟩ ⟨(u14.next u32 (fun _ _ h => h.elim)), (by omega), (by show _ = if (nth us (nth x.v.path k).toNat).kind = 3 then (-1 : Int) else (nth us (nth x.v.path k).toNat).to; rw [if_neg (by omega)])⟩
   refine c_seq fun K52 hK52 => (c_seq fun K53 hK53 => (c_region (t_move rfl rfl rfl (t_move rfl rfl rfl ?_))))
   have i54 : (nth x.v.path k).toNat < us.length := (by omega)
   refine t_index (j := (nth x.v.path k).toNat) Try.underlying26 Try.sizeOf41 rfl rfl rfl rfl ((hu.keep E33 (fun _ h => h)).addr (by omega)) (by omega) i54 (t_field Try.underlying41 rfl Try.sizeOf39 (oe + (nth x.v.path k).toNat * 8 + 0) rfl rfl rfl rfl (t_load Try.isAgg39 rfl rfl rfl (((hu.keep E33 (fun _ h => h)).at_ ((nth x.v.path k).toNat) (by omega)) 0 _ rfl) (t_cmp rfl rfl rfl rfl rfl (t_move rfl rfl rfl (t_splitp 69 rfl (fun g69 => ?_) (fun g69 => ?_))))))
   ·
    exact absurd g69 (by omega)
   refine t_move rfl rfl rfl (t_field Try.underlying97 rfl Try.sizeOf45 (2) rfl rfl rfl rfl ?_)
   have B55 := (B20.kx u32)
   refine t_load Try.isAgg45 rfl rfl rfl (B55.get rfl) (t_len Try.underlying45 rfl rfl rfl rfl (t_ari rfl rfl rfl rfl rfl (by omega) (t_cmp rfl rfl rfl rfl rfl (t_pick_f rfl rfl rfl rfl (t_nil' (hK53 _ _ (c_condp rfl (fun g76 => ?_) (fun g76 => ?_))))))))
   ·
    exact absurd g76 (by omega)
   refine c_skip (hK52 _ _ (c_region (t_assign rfl rfl rfl (t_nil' (hK21 _ _ (c_region (t_move rfl rfl rfl (t_ari rfl rfl rfl rfl rfl (by omega) (t_assign rfl rfl rfl (t_nil' ?_))))))))))
   exact hK12 (k + 1, -1) _ _ (by show x.v.path.length - (k + 1) < x.v.path.length - k; omega) ⟨rfl, rfl, rfl, rfl, rfl, trivial⟩ ⟨(u14.next u32 (fun _ _ h => h.elim)), (by omega), (by show _ = if (nth us (nth x.v.path k).toNat).kind = 3 then (-1 : Int) else (nth us (nth x.v.path k).toNat).to; rw [if_pos (by omega)])⟩
  refine p_skip rfl rfl rfl (p_skip rfl rfl rfl (p_skip rfl rfl rfl (p_skip rfl rfl rfl (p_skip rfl rfl rfl (p_skip rfl rfl rfl (p_skip rfl rfl rfl (p_skip rfl rfl rfl (p_pick_f rfl rfl rfl rfl (p_pick_f rfl rfl rfl rfl (p_move rfl rfl rfl (p_move rfl rfl rfl (p_move rfl rfl rfl ?_))))))))))))
  have i56 : (nth x.v.path k).toNat < us.length := (by omega)
  refine p_index (j := (nth x.v.path k).toNat) Try.underlying26 Try.sizeOf41 rfl rfl rfl rfl ((hu.keep E17 (fun _ h => h)).addr (by omega)) (by omega) i56 (p_field Try.underlying41 rfl Try.sizeOf3 (oe + (nth x.v.path k).toNat * 8 + 5) rfl rfl rfl rfl (p_load Try.isAgg3 rfl rfl rfl (((hu.keep E17 (fun _ h => h)).at_ ((nth x.v.path k).toNat) (by omega)) 5 _ rfl) (p_field Try.underlying97 rfl Try.sizeOf3 (1) rfl rfl rfl rfl (p_load Try.isAgg3 rfl rfl rfl (B20.get rfl) (p_cmp rfl rfl rfl rfl rfl (p_samehd (v := .bool false) (by simp [h61]) (p_pick_f rfl rfl rfl rfl (p_nil fun w57 u58 => ?_))))))))
  have zu58 := u58.size
  have E59 := E17.nx u58
  refine t_nil' (hK25 _ _ (c_cond_f rfl (c_skip (hK24 _ _ (c_block (c_seq fun K60 hK60 => (c_region (t_move rfl rfl rfl (t_cmp rfl rfl rfl rfl rfl (t_assign rfl rfl rfl (t_nil' (hK60 _ _ (c_condp rfl (fun g77 => ?_) (fun g77 => ?_))))))))))))))
  ·
   have hk0 : k = 0 := by omega
   have hf := hg.fst k hk0
   have hf1 : (nth us (nth x.v.path k).toNat).kind = 1 := hf.1
   have hf2 : (nth us (nth x.v.path k).toNat).bill = x.v.bill := hf.2
   have h85 : ¬ (nth us (nth x.v.path k).toNat).kind ≠ 1 := by omega
   have h94 : ¬ (nth us (nth x.v.path k).toNat).bill ≠ x.v.bill := by omega
   refine c_seq fun K61 hK61 => (c_seq fun K62 hK62 => (c_drawnQ follows (by kernel_rfl) (p_move rfl rfl rfl (p_move rfl rfl rfl ?_))))
   have i66 : (nth x.v.path k).toNat < us.length := (by omega)
   refine p_index (j := (nth x.v.path k).toNat) Try.underlying26 Try.sizeOf41 rfl rfl rfl rfl ((hu.keep E59 (fun _ h => h)).addr (by omega)) (by omega) i66 (p_field Try.underlying41 rfl Try.sizeOf39 (oe + (nth x.v.path k).toNat * 8 + 0) rfl rfl rfl rfl (p_load Try.isAgg39 rfl rfl rfl (((hu.keep E59 (fun _ h => h)).at_ ((nth x.v.path k).toNat) (by omega)) 0 _ rfl) (p_cmp rfl rfl rfl rfl rfl (p_samehd (v := .bool false) (by simp [h85]) (p_move rfl rfl rfl (p_move rfl rfl rfl (p_move rfl rfl rfl ?_)))))))
   have i67 : (nth x.v.path k).toNat < us.length := (by omega)
   refine p_index (j := (nth x.v.path k).toNat) Try.underlying26 Try.sizeOf41 rfl rfl rfl rfl ((hu.keep E59 (fun _ h => h)).addr (by omega)) (by omega) i67 (p_field Try.underlying41 rfl Try.sizeOf3 (oe + (nth x.v.path k).toNat * 8 + 2) rfl rfl rfl rfl (p_load Try.isAgg3 rfl rfl rfl (((hu.keep E59 (fun _ h => h)).at_ ((nth x.v.path k).toNat) (by omega)) 2 _ rfl) (p_field Try.underlying97 rfl Try.sizeOf3 (0) rfl rfl rfl rfl ?_)))
   have B68 := (B20.kx u58)
   refine p_load Try.isAgg3 rfl rfl rfl (B68.get rfl) (p_cmp rfl rfl rfl rfl rfl (p_samehd (v := .bool false) (by simp [h94]) (p_pick_f rfl rfl rfl rfl (p_nil fun w69 u70 => ?_))))
   have zu70 := u70.size
   have E71 := E59.nx u70
   refine t_nil' (hK62 _ _ (c_cond_f rfl (c_skip (hK61 _ _ (c_region (t_move rfl rfl rfl (t_move rfl rfl rfl ?_)))))))
   have i72 : (nth x.v.path k).toNat < us.length := (by omega)
   refine t_index (j := (nth x.v.path k).toNat) Try.underlying26 Try.sizeOf41 rfl rfl rfl rfl ((hu.keep E71 (fun _ h => h)).addr (by omega)) (by omega) i72 (t_field Try.underlying41 rfl Try.sizeOf3 (oe + (nth x.v.path k).toNat * 8 + 4) rfl rfl rfl rfl (t_load Try.isAgg3 rfl rfl rfl (((hu.keep E71 (fun _ h => h)).at_ ((nth x.v.path k).toNat) (by omega)) 4 _ rfl) (t_assign rfl rfl rfl (t_nil' (hK21 _ _ (c_region (t_move rfl rfl rfl (t_ari rfl rfl rfl rfl rfl (by omega) (t_assign rfl rfl rfl (t_nil' ?_))))))))))
   exact hK12 (k + 1, (nth us ((nth x.v.path k).toNat)).to) _ _ (by show x.v.path.length - (k + 1) < x.v.path.length - k; omega) ⟨rfl, rfl, rfl, rfl, rfl, trivial⟩ ⟨((u14.next u58 (fun _ _ h => h.elim)).next u70 (fun _ _ h => h.elim)), (by omega), (by show _ = if (nth us (nth x.v.path k).toNat).kind = 3 then (-1 : Int) else (nth us (nth x.v.path k).toNat).to; rw [if_neg (by omega)])⟩
  have hf := hg.stp k (by omega) (by omega)
  have hf1 : (nth us (nth x.v.path k).toNat).frm = posA us x.v.path k := hf.1
  have hf2 : (nth us (nth x.v.path k).toNat).kind = 2 ∨ ((nth us (nth x.v.path k).toNat).kind = 3 ∧ k + 1 = x.v.path.length) := hf.2
  refine c_seq fun K73 hK73 => (c_region (t_move rfl rfl rfl (t_move rfl rfl rfl ?_)))
  have i74 : (nth x.v.path k).toNat < us.length := (by omega)
  refine t_index (j := (nth x.v.path k).toNat) Try.underlying26 Try.sizeOf41 rfl rfl rfl rfl ((hu.keep E59 (fun _ h => h)).addr (by omega)) (by omega) i74 (t_field Try.underlying41 rfl Try.sizeOf3 (oe + (nth x.v.path k).toNat * 8 + 3) rfl rfl rfl rfl (t_load Try.isAgg3 rfl rfl rfl (((hu.keep E59 (fun _ h => h)).at_ ((nth x.v.path k).toNat) (by omega)) 3 _ rfl) (t_move rfl rfl rfl (t_cmp rfl rfl rfl rfl rfl (t_assign rfl rfl rfl (t_nil' (hK73 _ _ (c_condp rfl (fun g101 => ?_) (fun g101 => ?_)))))))))
  ·
   exact absurd (hf1.trans hat.symm) g101
  refine c_seq fun K75 hK75 => (c_region (t_move rfl rfl rfl (t_move rfl rfl rfl ?_)))
  have i76 : (nth x.v.path k).toNat < us.length := (by omega)
  refine t_index (j := (nth x.v.path k).toNat) Try.underlying26 Try.sizeOf41 rfl rfl rfl rfl ((hu.keep E59 (fun _ h => h)).addr (by omega)) (by omega) i76 (t_field Try.underlying41 rfl Try.sizeOf39 (oe + (nth x.v.path k).toNat * 8 + 0) rfl rfl rfl rfl (t_load Try.isAgg39 rfl rfl rfl (((hu.keep E59 (fun _ h => h)).at_ ((nth x.v.path k).toNat) (by omega)) 0 _ rfl) (t_cmp rfl rfl rfl rfl rfl (t_assign rfl rfl rfl (t_nil' (hK75 _ _ (c_condp rfl (fun g109 => ?_) (fun g109 => ?_))))))))
  ·
   refine c_region (t_move rfl rfl rfl (t_move rfl rfl rfl ?_))
   have i77 : (nth x.v.path k).toNat < us.length := (by omega)
   refine t_index (j := (nth x.v.path k).toNat) Try.underlying26 Try.sizeOf41 rfl rfl rfl rfl ((hu.keep E59 (fun _ h => h)).addr (by omega)) (by omega) i77 (t_field Try.underlying41 rfl Try.sizeOf3 (oe + (nth x.v.path k).toNat * 8 + 4) rfl rfl rfl rfl (t_load Try.isAgg3 rfl rfl rfl (((hu.keep E59 (fun _ h => h)).at_ ((nth x.v.path k).toNat) (by omega)) 4 _ rfl) (t_assign rfl rfl rfl (t_nil' (hK21 _ _ (c_region (t_move rfl rfl rfl (t_ari rfl rfl rfl rfl rfl (by omega) (t_assign rfl rfl rfl (t_nil' ?_))))))))))
   exact hK12 (k + 1, (nth us ((nth x.v.path k).toNat)).to) _ _ (by show x.v.path.length - (k + 1) < x.v.path.length - k; omega) ⟨rfl, rfl, rfl, rfl, rfl, trivial⟩ ⟨(u14.next u58 (fun _ _ h => h.elim)), (by omega), (by show _ = if (nth us (nth x.v.path k).toNat).kind = 3 then (-1 : Int) else (nth us (nth x.v.path k).toNat).to; rw [if_neg (by omega)])⟩
  refine c_seq fun K78 hK78 => (c_seq fun K79 hK79 => (c_region (t_move rfl rfl rfl (t_move rfl rfl rfl ?_))))
  have i80 : (nth x.v.path k).toNat < us.length := (by omega)
  refine t_index (j := (nth x.v.path k).toNat) Try.underlying26 Try.sizeOf41 rfl rfl rfl rfl ((hu.keep E59 (fun _ h => h)).addr (by omega)) (by omega) i80 (t_field Try.underlying41 rfl Try.sizeOf39 (oe + (nth x.v.path k).toNat * 8 + 0) rfl rfl rfl rfl (t_load Try.isAgg39 rfl rfl rfl (((hu.keep E59 (fun _ h => h)).at_ ((nth x.v.path k).toNat) (by omega)) 0 _ rfl) (t_cmp rfl rfl rfl rfl rfl (t_move rfl rfl rfl (t_splitp 69 rfl (fun g69 => ?_) (fun g69 => ?_))))))
  ·
   exact absurd g69 (by omega)
  refine t_move rfl rfl rfl (t_field Try.underlying97 rfl Try.sizeOf45 (2) rfl rfl rfl rfl ?_)
  have B81 := (B20.kx u58)
  refine t_load Try.isAgg45 rfl rfl rfl (B81.get rfl) (t_len Try.underlying45 rfl rfl rfl rfl (t_ari rfl rfl rfl rfl rfl (by omega) (t_cmp rfl rfl rfl rfl rfl (t_pick_f rfl rfl rfl rfl (t_nil' (hK79 _ _ (c_condp rfl (fun g76 => ?_) (fun g76 => ?_))))))))
  ·
   exact absurd g76 (by omega)
  refine c_skip (hK78 _ _ (c_region (t_assign rfl rfl rfl (t_nil' (hK21 _ _ (c_region (t_move rfl rfl rfl (t_ari rfl rfl rfl rfl rfl (by omega) (t_assign rfl rfl rfl (t_nil' ?_))))))))))
  exact hK12 (k + 1, -1) _ _ (by show x.v.path.length - (k + 1) < x.v.path.length - k; omega) ⟨rfl, rfl, rfl, rfl, rfl, trivial⟩ ⟨(u14.next u58 (fun _ _ h => h.elim)), (by omega), (by show _ = if (nth us (nth x.v.path k).toNat).kind = 3 then (-1 : Int) else (nth us (nth x.v.path k).toNat).to; rw [if_pos (by omega)])⟩
 refine c_exit (hK10 _ _ (c_seq fun K82 hK82 => (c_region (t_move rfl rfl rfl (t_move rfl rfl rfl (t_cmp rfl rfl rfl rfl rfl (t_assign rfl rfl rfl (t_nil' (hK82 _ _ (c_ret (f_ret1 (v := .bool (decide (a = h))) Try.results34 rfl ?_)))))))))))
 exact ⟨congrArg Value.bool (decide_eq_true (by rw [hat, show k = x.v.path.length by omega]; exact hg.fin)), E17⟩

end Go.Proofs.Ytblkphbblkncdaa
