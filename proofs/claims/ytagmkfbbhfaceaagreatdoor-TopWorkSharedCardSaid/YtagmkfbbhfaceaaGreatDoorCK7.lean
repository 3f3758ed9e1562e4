/-
  Part 7 of the proof: contracts and plain laws. Conditions: none.
-/
import Derived.Test.YtagmkfbbhfaceaaGreatDoorCK6
namespace Go.Proofs.YtagmkfbbhfaceaaGreatDoor
open Go Go.RowKit Go.Proofs.Tryz
set_option maxRecDepth 10000
/-! ### a log's blocks out of its digits -/
structure Fs where
  v : List Bk
  p : Bk
  d : Bk
  n : Nat
instance : Inhabited Fs := ⟨⟨[], zeroBk, zeroBk, 0⟩⟩
def nextF (s : Fs) : Fs :=
  if (s.v.length + 1) % 5 = 4 then ⟨s.v ++ [s.d.shutB s.v.length] ++ [(s.p.mix s.d).shutB (s.v.length + 1)], zeroBk, zeroBk, 0⟩
  else ⟨s.v ++ [s.d.shutB s.v.length], s.p.mix s.d, zeroBk, 0⟩
def bitV (c : UInt8) (n : Nat) : UInt8 := UInt8.ofNat ((c.toNat - 48) * 2 ^ (7 - n % 8))
def putBit (d : Bk) (n : Nat) (c : UInt8) : Bk := ⟨d.l.set (n / 8) (nth d.l (n / 8) ||| bitV c n), by rw [List.length_set]; exact d.h⟩
def fullF (s : Fs) : Fs := if s.n = 240 then nextF s else s
def stepF (s : Fs) (c : UInt8) : Fs := ⟨(fullF s).v, (fullF s).p, putBit (fullF s).d (fullF s).n c, (fullF s).n + 1⟩
def fsP (t : List UInt8) : Fs := t.foldl stepF ⟨[], zeroBk, zeroBk, 0⟩
def endF (s : Fs) : List Bk := if s.v.length % 5 ≠ 0 then s.v ++ [s.p.shutB s.v.length] else s.v
def fillP (t : List UInt8) : List Bk := endF (nextF (fsP t))
theorem fsP_snoc (t : List UInt8) (c : UInt8) : fsP (t ++ [c]) = stepF (fsP t) c := by unfold fsP; rw [List.foldl_append]; rfl
theorem nextF_len (s : Fs) : (nextF s).v.length ≤ s.v.length + 2 ∧ (nextF s).n = 0 := by
  unfold nextF
  split <;> simp
theorem fullF_len (s : Fs) (h : s.n ≤ 240) : (fullF s).v.length ≤ s.v.length + 2 ∧ (fullF s).n < 240 := by
  unfold fullF
  split
  · have := nextF_len s; omega
  · omega
theorem fullF_full (s : Fs) : 120 * (fullF s).v.length + (fullF s).n ≤ 120 * s.v.length + s.n := by
  unfold fullF
  split
  · have := nextF_len s; omega
  · omega
theorem fsP_len (t : List UInt8) : 120 * (fsP t).v.length + (fsP t).n ≤ t.length ∧ (fsP t).n ≤ 240 := by
  suffices h : ∀ (l : List UInt8) (s : Fs), s.n ≤ 240 → 120 * (l.foldl stepF s).v.length + (l.foldl stepF s).n ≤ 120 * s.v.length + s.n + l.length ∧ (l.foldl stepF s).n ≤ 240 by
    have := h t ⟨[], zeroBk, zeroBk, 0⟩ (by decide)
    simpa [fsP] using this
  intro l
  induction l with
  | nil => intro s h; exact ⟨by simp, h⟩
  | cons c l ih =>
    intro s h
    have h1 := fullF_len s h
    have h4 := fullF_full s
    have h2 := ih (stepF s c) (by show (fullF s).n + 1 ≤ 240; omega)
    simp only [List.foldl_cons, List.length_cons]
    refine ⟨?_, h2.2⟩
    have h3 : (stepF s c).v.length = (fullF s).v.length := rfl
    have h5 : (stepF s c).n = (fullF s).n + 1 := rfl
    omega
theorem fsP_take {t : List UInt8} (i : Nat) : (fsP (t.take i)).v.length ≤ t.length ∧ (fsP (t.take i)).n ≤ 240 := by
  have := fsP_len (t.take i)
  rw [List.length_take] at this; omega
theorem bitV_val {c : UInt8} {n : Nat} (hc : c.toNat - 48 ≤ 1) : (((c.toNat - 48) * 2 ^ (7 - n % 8) : Nat) : Int) = ((bitV c n).toNat : Int) := by
  unfold bitV
  have h1 : 2 ^ (7 - n % 8) ≤ 2 ^ 7 := Nat.pow_le_pow_right (by decide) (by omega)
  have h2 : (c.toNat - 48) * 2 ^ (7 - n % 8) ≤ 1 * 2 ^ 7 := Nat.mul_le_mul hc h1
  have e : 1 * 2 ^ 7 = 128 := rfl
  rw [UInt8.toNat_ofNat']; omega
theorem fsP_next {t : List UInt8} {s s1 : Fs} {i : Nat} (hs : s = fsP (t.take i)) (hi : i < t.length) (h1 : s1 = fullF s) : s1.n + 1 ≤ 240 ∧ s1.v.length ≤ t.length := by
  have h9 := fsP_take (t := t) (i + 1)
  rw [take_nth hi, fsP_snoc, ← hs] at h9
  have e : stepF s (nth t i) = ⟨s1.v, s1.p, putBit s1.d s1.n (nth t i), s1.n + 1⟩ := by unfold stepF; rw [← h1]
  rw [e] at h9
  exact ⟨h9.2, h9.1⟩
def encBk (b : Bk) : List Value := ys b.l
theorem encBk_len (b : Bk) : (encBk b).length = 32 := (ys_length _).trans b.h
theorem encBk_one (b : Bk) : ∀ u ∈ encBk b, u.oneCell' = true := ys_one _
theorem end_c (b : Bk) (vb base : Nat) (ao : Option Addr) (gb cp : Nat) (v : List Bk) (w0 : World) (hV : Blk w0 vb 105 [.slice ao v.length cp]) (ha : Acc encBk 32 111 base w0 ao gb cp v) (hbs : base ≤ w0.heap.size) (hne : base ≤ gb → gb ≠ vb) (hl : v.length ≤ 900000) :
    CallsV Tryz.prog 122 [.agg (ys b.l).toArray, .pointer (some ⟨vb, 0, none⟩)] w0 (fun _ w' => (∃ a9 g9 c9, Blk w' vb 105 [.slice a9 (List.length (v ++ [b.shutB v.length])) c9] ∧ Acc encBk 32 111 base w' a9 g9 c9 (v ++ [b.shutB v.length]) ∧ (g9 = gb ∨ w0.heap.size ≤ g9)) ∧ Upd (fun i => i = vb ∨ (i = gb ∧ base ≤ i)) w0 w') := by
 have lt_gb := ha.lt
 have lt_vb := hV.lt
 refine f_n func122 ?_
 refine go ?_
 refine x_b fun bk2 w3 ebk2 sbk2 B4 u5 => ?_
 refine go ?_
 refine x_c func36 rfl rfl (seal_c bk2 b.l v.length _ (Bk.h b) B4 (by omega)) ?_
 rintro v9 w10 ⟨hs8, u11⟩ zu11
 refine go ?_
 refine t_ldY (l := (b.shutB v.length).l) isAgg111 sizeOf111 rfl rfl rfl hs8.at (Bk.h (b.shutB v.length)) (t_bslice1 (vs := ys ((b.shutB v.length).l)) underlying105 sizeOf111 zeroValue111 (by decide) (by decide) rfl rfl rfl rfl (by rw [ys_length]; exact (Bk.h (b.shutB v.length))) (fun bk14 w15 ebk14 sbk14 B16 u17 => ?_))
 have D19 := (((ha.keep u5 (fun _ h => h)).keep u11 (fun hb => show ¬ (gb = bk2) by first | omega | assumption)).keep u17 (fun _ h => h))
 refine t_append (z := .agg #[.int .u8 0, .int .u8 0, .int .u8 0, .int .u8 0, .int .u8 0, .int .u8 0, .int .u8 0, .int .u8 0, .int .u8 0, .int .u8 0, .int .u8 0, .int .u8 0, .int .u8 0, .int .u8 0, .int .u8 0, .int .u8 0, .int .u8 0, .int .u8 0, .int .u8 0, .int .u8 0, .int .u8 0, .int .u8 0, .int .u8 0, .int .u8 0, .int .u8 0, .int .u8 0, .int .u8 0, .int .u8 0, .int .u8 0, .int .u8 0, .int .u8 0, .int .u8 0]) (bytes := 32) (k := 32) (base := base) (b.shutB v.length) underlying105 (by kernel_rfl) rfl (by decide) encBk_len encBk_one rfl rfl rfl rfl D19 B16 (by omega) (by omega) (by decide) (fun ao20 gb21 cp22 w23 A24 u25 gegb21 lngb21 => ?_)
 have zu25 := u25.size
 have lt_gb21 := A24.lt
 refine x_s fun w27 sw27 B29 u28 => ?_
 refine go ?_
 refine f_ret0 results122 ?_
 have D31 := (A24.keep u28 (fun hb => show ¬ (gb21 = vb) by first | omega | assumption))
 exact ⟨⟨ao20, gb21, cp22, B29, D31, (by omega)⟩, u_d⟩

set_option maxHeartbeats 4000000 in
theorem next_c (pb db eb ab : Nat) (p d : Bk) (n : Nat) (vb base : Nat) (ao : Option Addr) (gb cp : Nat) (v : List Bk) (w0 : World) (hP : Blk w0 pb 111 (ys p.l)) (hD : Blk w0 db 111 (ys d.l)) (hE : Blk w0 eb 115 [.func (.func 122) #[] #[.pointer (some ⟨vb, 0, none⟩)]]) (hN : Blk w0 ab 3 [.int .i64 (n : Int)]) (hq : vb < db ∧ db < pb ∧ pb < ab ∧ ab < eb ∧ eb < base) (hV : Blk w0 vb 105 [.slice ao v.length cp]) (ha : Acc encBk 32 111 base w0 ao gb cp v) (hbs : base ≤ w0.heap.size) (hl : v.length ≤ 800000) :
    CallsV Tryz.prog 123 [.pointer (some ⟨pb, 0, none⟩), .pointer (some ⟨db, 0, none⟩), .pointer (some ⟨eb, 0, none⟩), .pointer (some ⟨ab, 0, none⟩), .pointer (some ⟨vb, 0, none⟩)] w0 (fun _ w' => (Blk w' pb 111 (ys (nextF ⟨v, p, d, n⟩).p.l) ∧ Blk w' db 111 (ys (nextF ⟨v, p, d, n⟩).d.l) ∧ Blk w' ab 3 [.int .i64 ((nextF ⟨v, p, d, n⟩).n : Int)] ∧ (∃ a9 g9 c9, Blk w' vb 105 [.slice a9 (List.length (nextF ⟨v, p, d, n⟩).v) c9] ∧ Acc encBk 32 111 base w' a9 g9 c9 (nextF ⟨v, p, d, n⟩).v ∧ (g9 = gb ∨ w0.heap.size ≤ g9))) ∧ Upd (fun i => i = pb ∨ i = db ∨ i = ab ∨ i = vb ∨ (i = gb ∧ base ≤ i)) w0 w') := by
 have lt_gb := ha.lt
 have lt_vb := hV.lt
 have lt_pb := hP.lt
 have lt_db := hD.lt
 have lt_eb := hE.lt
 have lt_ab := hN.lt
 obtain ⟨q1, q2, q3, q4, q5⟩ := hq
 refine f_n func123 ?_
 refine go ?_
 refine t_ldY (l := d.l) isAgg111 sizeOf111 rfl rfl rfl hD.at (Bk.h d) ?_
 refine x_c func35 rfl rfl (mix_c pb p.l d.l _ (Bk.h p) (Bk.h d) hP) ?_
 rintro v3 w4 ⟨hm2, u5⟩ zu5
 refine go ?_
 have B9 := (hD.keep u5 (by omega))
 refine t_ldY (l := d.l) isAgg111 sizeOf111 rfl rfl rfl B9.at (Bk.h d) ?_
 have B11 := (hV.keep u5 (by omega))
 have D12 := (ha.keep u5 (fun hb => show ¬ (gb = pb) by first | omega | assumption))
 refine x_c func122 rfl rfl (end_c d vb base ao gb cp v _ B11 D12 (by omega) (by omega) (by omega)) ?_
 rintro v13 w14 ⟨⟨ae10, ge10, ce10, hBe10, hAe10, hGe10⟩, u15⟩ zu15
 have hle10 : (v ++ [d.shutB v.length]).length = v.length + 1 := by simp
 have lt_ge10 := hAe10.lt
 refine go ?_
 refine t_build (ps := []) (v := .agg (ys (List.replicate 32 (0 : UInt8))).toArray) rfl rfl ⟨rfl, rfl⟩ (fun w => by kernel_rfl) ?_
 have B19 := (B9.keep u15 (by omega))
 refine t_stY sizeOf111 rfl rfl rfl B19 (by simp) (by rw [ys_length]; exact (Bk.h d)) (fun w20 sw20 B22 u21 => ?_)
 refine x_s fun w24 sw24 B26 u25 => ?_
 refine go ?_
 refine t_rem rfl rfl rfl rfl (by omega) (by omega) ?_
 refine go ?_
 refine q_p (fun g14 => ?_) fun g14 => ?_
 ·
  refine go ?_
  have B30 := (((hm2.keep u15 (by omega)).keep u21 (by omega)).keep u25 (by omega))
  refine t_ldY (l := (p.mix d).l) isAgg111 sizeOf111 rfl rfl rfl B30.at (Bk.h (p.mix d)) ?_
  have B32 := ((hBe10.keep u21 (by omega)).keep u25 (by omega))
  have D33 := ((hAe10.keep u21 (fun hb => show ¬ (ge10 = db) by first | omega | assumption)).keep u25 (fun hb => show ¬ (ge10 = ab) by first | omega | assumption))
  refine x_c func122 rfl rfl (end_c (p.mix d) vb base ae10 ge10 ce10 (v ++ [d.shutB v.length]) _ B32 D33 (by omega) (by omega) (by omega)) ?_
  rintro v34 w35 ⟨⟨ae31, ge31, ce31, hBe31, hAe31, hGe31⟩, u36⟩ zu36
  have hle31 : ((v ++ [d.shutB v.length]) ++ [(p.mix d).shutB (((v ++ [d.shutB v.length])).length)]).length = ((v ++ [d.shutB v.length])).length + 1 := by simp
  have lt_ge31 := hAe31.lt
  refine go ?_
  refine t_build (ps := []) (v := .agg (ys (List.replicate 32 (0 : UInt8))).toArray) rfl rfl ⟨rfl, rfl⟩ (fun w => by kernel_rfl) ?_
  have B39 := (B30.keep u36 (by omega))
  refine t_stY sizeOf111 rfl rfl rfl B39 (by simp) (by rw [ys_length]; exact (Bk.h (p.mix d))) (fun w40 sw40 B42 u41 => ?_)
  refine go ?_
  refine f_ret0 results123 ?_
  have B45 := (((B22.keep u25 (by omega)).keep u36 (by omega)).keep u41 (by omega))
  have B46 := ((B26.keep u36 (by omega)).keep u41 (by omega))
  have B47 := (hBe31.keep u41 (by omega))
  have D48 := (hAe31.keep u41 (fun hb => show ¬ (ge31 = pb) by first | omega | assumption))
  have en44 : (nextF ⟨v, p, d, n⟩) = (⟨v ++ [d.shutB v.length] ++ [(p.mix d).shutB (v.length + 1)], zeroBk, zeroBk, 0⟩ : Fs) := by unfold nextF; rw [if_pos (by show (v.length + 1) % 5 = 4; omega)]
  rw [en44]
  exact ⟨⟨B42, B45, B46, ⟨ae31, ge31, ce31, (by have h9 := B47; simpa using h9), (by have h9 := D48; simpa using h9), by omega⟩⟩, u_d⟩
 refine go ?_
 refine f_ret0 results123 ?_
 have B50 := (((hm2.keep u15 (by omega)).keep u21 (by omega)).keep u25 (by omega))
 have B51 := (B22.keep u25 (by omega))
 have B52 := ((hBe10.keep u21 (by omega)).keep u25 (by omega))
 have D53 := ((hAe10.keep u21 (fun hb => show ¬ (ge10 = db) by first | omega | assumption)).keep u25 (fun hb => show ¬ (ge10 = ab) by first | omega | assumption))
 have en49 : (nextF ⟨v, p, d, n⟩) = (⟨v ++ [d.shutB v.length], p.mix d, zeroBk, 0⟩ : Fs) := by unfold nextF; rw [if_neg (by show ¬ ((v.length + 1) % 5 = 4); omega)]
 rw [en49]
 exact ⟨⟨B50, B51, B26, ⟨ae10, ge10, ce10, B52, D53, by omega⟩⟩, u_d⟩

theorem Acc.lowP {α : Type} {enc : α → List Value} {k : Nat} {e : TypeId} {base base' : Nat} {w : World} {ao : Option Addr} {g cap : Nat} {xs : List α} (h : Acc enc k e base w ao g cap xs) (hp : 0 < xs.length) (hb : base' ≤ base) : Acc enc k e base' w ao g cap xs := by
  rcases h.at_ with ⟨_, h2, _⟩ | ⟨h1, h2, h3⟩
  · subst h2; exact absurd hp (by simp)
  · exact ⟨h.lt, .inr ⟨h1, by omega, h3⟩⟩
theorem nextF_pos (s : Fs) : 0 < (nextF s).v.length := by unfold nextF; split <;> simp

set_option maxHeartbeats 4000000 in
theorem fill_c (t : List UInt8) (at_ : Option Addr) (bt ot ct : Nat) (w0 : World) (hl : Sl encY 1 w0 at_ bt ot t) (ht : ∀ c ∈ t, c = 48 ∨ c = 49) (hx : t.length ≤ 790000) :
    CallsV Tryz.prog 74 [.slice at_ t.length ct] w0 (fun v w' => (∃ a9 g9 c9, v = .slice a9 (fillP t).length c9 ∧ Acc encBk 32 111 w0.heap.size w' a9 g9 c9 (fillP t)) ∧ Ext w0 w') := by
 refine f_n func74 ?_
 refine go ?_
 refine x_n fun bk2 w3 ebk2 sbk2 B4 u5 => ?_
 refine go ?_
 refine t_alloc (cs := (ys (List.replicate 32 (0 : UInt8)))) zeroValue111 (by kernel_rfl) rfl rfl (fun bk8 w9 ebk8 sbk8 B10 u11 => ?_)
 refine t_alloc (cs := (ys (List.replicate 32 (0 : UInt8)))) zeroValue111 (by kernel_rfl) rfl rfl (fun bk13 w14 ebk13 sbk13 B15 u16 => ?_)
 refine go ?_
 refine x_n fun bk19 w20 ebk19 sbk19 B21 u22 => ?_
 refine x_s fun w24 sw24 B26 u25 => ?_
 refine go ?_
 refine t_mkfunc (vs := []) (us := [.pointer (some ⟨bk2, 0, none⟩)]) rfl rfl rfl rfl ?_
 refine x_n fun bk29 w30 ebk29 sbk29 B31 u32 => ?_
 refine x_s fun w34 sw34 B36 u35 => ?_
 refine go ?_
 refine t_mkfunc (vs := []) (us := [.pointer (some ⟨bk13, 0, none⟩), .pointer (some ⟨bk8, 0, none⟩), .pointer (some ⟨bk29, 0, none⟩), .pointer (some ⟨bk19, 0, none⟩), .pointer (some ⟨bk2, 0, none⟩)]) rfl rfl rfl rfl ?_
 refine go ?_
 have hA41 : Acc encBk 32 111 w34.heap.size w34 none 0 0 ([] : List Bk) := Acc.nil _ _ _ _ _ (by omega) (Nat.le_refl _)
 have lt_0 := hA41.lt
 refine go ?_
 have B42 := ((((((B4.kx u11).kx u16).kx u22).keep u25 (by omega)).kx u32).keep u35 (by omega))
 have B43 := (((((B10.kx u16).kx u22).keep u25 (by omega)).kx u32).keep u35 (by omega))
 have B44 := ((((B15.kx u22).keep u25 (by omega)).kx u32).keep u35 (by omega))
 have B45 := ((B26.kx u32).keep u35 (by omega))
 refine x_l5 (fun i => i = bk2 ∨ i = bk8 ∨ i = bk13 ∨ i = bk19) [2, 3, 4, 5, 6, 7, 12, 13] (fun (i : Nat) (s : Fs) (a1 : Option Addr) (g1 : Nat) (c1 : Nat) => [(14, .int .i64 (i : Int))]) (fun i s a1 g1 c1 w => Blk w bk2 105 [.slice a1 s.v.length c1] ∧ Blk w bk8 111 (ys s.d.l) ∧ Blk w bk13 111 (ys s.p.l) ∧ Blk w bk19 3 [.int .i64 (s.n : Int)] ∧ (i ≤ t.length) ∧ (Acc encBk 32 111 w34.heap.size w a1 g1 c1 s.v) ∧ (s = fsP (t.take i)) ∧ (s.n ≤ 240 ∧ s.v.length ≤ t.length)) (fun i s a1 g1 c1 => t.length - i) 0 (⟨[], zeroBk, zeroBk, 0⟩) none 0 0 ⟨B42, B43, B44, B45, (Nat.zero_le _), hA41, rfl, ⟨by decide, Nat.zero_le _⟩⟩ ?_
 rintro i s a1 g1 c1 w47 ⟨I49, I50, I51, I52, hi, hA, hs, hsb⟩ u48 zu48 K46 hK46
 have lt_g1 := hA.lt
 refine go ?_
 refine q_p (fun g15 => ?_) fun g15 => ?_
 ·
  refine go ?_
  refine g_i i (hl.keep (((((((((Upd.refl (fun _ => False) w0).nx u5).nx u11).nx u16).nx u22).next u25 (fun i hi h => by omega)).nx u32).next u35 (fun i hi h => by omega)).next u48 (fun i hi h => by omega)) (fun _ h => h)) (fun _ => ?_)
  iterate 4 refine st1 ?_
  refine x_k4 (fun i => i = bk2 ∨ i = bk8 ∨ i = bk13 ∨ i = bk19 ∨ (i = g1 ∧ w34.heap.size ≤ i)) [2, 3, 4, 5, 6, 7, 9, 12, 13, 14] (fun (s1 : Fs) (a2 : Option Addr) (g2 : Nat) (c2 : Nat) => []) (fun s1 a2 g2 c2 w => Blk w bk2 105 [.slice a2 s1.v.length c2] ∧ Blk w bk8 111 (ys s1.d.l) ∧ Blk w bk13 111 (ys s1.p.l) ∧ Blk w bk19 3 [.int .i64 (s1.n : Int)] ∧ (Acc encBk 32 111 w34.heap.size w a2 g2 c2 s1.v) ∧ (s1 = fullF s)) (fun K63 hK63 => ?_) ?_
  ·
   refine go ?_
   refine q_p (fun g19 => ?_) fun g19 => ?_
   ·
    refine go ?_
    have B68 := (B36.keep u48 (by omega))
    refine x_c func123 rfl rfl (next_c bk13 bk8 bk29 bk19 s.p s.d s.n bk2 w34.heap.size a1 g1 c1 s.v _ I51 I50 B68 I52 (by omega) I49 hA (by omega) (by omega)) ?_
    rintro v69 w70 ⟨⟨hPx67, hDx67, hNx67, ax67, gx67, cx67, hVx67, hAx67, hGx67⟩, u71⟩ zu71
    have lt_gx67 := hAx67.lt
    have hlx67 : (nextF ⟨s.v, s.p, s.d, s.n⟩).v.length ≤ (s.v).length + 2 ∧ (nextF ⟨s.v, s.p, s.d, s.n⟩).n = 0 := nextF_len _
    refine go ?_
    exact hK63 (nextF ⟨s.v, s.p, s.d, s.n⟩) ax67 gx67 cx67 ⟨hVx67, hDx67, hPx67, hNx67, hAx67, (by unfold fullF; rw [if_pos (by omega)])⟩
   refine go ?_
   exact hK63 s a1 g1 c1 ⟨I49, I50, I51, I52, hA, (by unfold fullF; rw [if_neg (by omega)])⟩
  rintro s1 a2 g2 c2 w64 ⟨I74, I75, I76, I77, hA2, hs1⟩ u65 zu65
  have lt_g2 := hA2.lt
  have hf := fullF_len s hsb.1
  rw [← hs1] at hf
  have hc : (nth t i).toNat = 48 ∨ (nth t i).toNat = 49 := (ht (nth t i) (nth_mem (by omega))).elim (fun h => .inl (by rw [h]; rfl)) (fun h => .inr (by rw [h]; rfl))
  refine go ?_
  refine c_drawnM follows (fun i => i = bk8) (OTl [0, 2, 4, 8, 10, 12, 14, 16, 18, 7, 20, 22, 25]) (by kernel_rfl) fun w80 u81 => ?_
  have zu81 := u81.size
  refine go ?_
  refine y_quo rfl rfl rfl rfl (by omega) (by omega) (y_same 23 (v := .int .i64 ((s1.n / 8 : Nat) : Int)) rfl (congrArg (Value.int .i64) (by omega)) ?_)
  refine y_indexArr (j := (s1.n / 8 : Nat)) (0 + (s1.n / 8 : Nat) * 1) underlying111 sizeOf5 rfl rfl rfl rfl rfl (by omega) rfl ?_
  refine go ?_
  refine y_bo (Bo.ari8 rfl (by omega)) rfl rfl rfl rfl (y_same 27 (v := .int .u8 (((nth t i).toNat - 48 : Nat) : Int)) rfl (congrArg (Value.int .u8) (by omega)) ?_)
  refine go ?_
  refine y_rem rfl rfl rfl rfl (by omega) (by omega) ?_
  refine st1 ?_
  refine y_same 30 (v := .int .i64 ((7 - s1.n % 8 : Nat) : Int)) rfl (congrArg (Value.int .i64) (by omega)) (y_bo (Bo.shl8 (7 - s1.n % 8) rfl (by omega) (by omega)) rfl rfl rfl rfl (y_same 31 (v := .int .u8 ((bitV (nth t i) s1.n).toNat : Int)) rfl (congrArg (Value.int .u8) (bitV_val (by omega))) ?_))
  refine go ?_
  have B83 := (I75.kx u81)
  refine t_load isAgg5 rfl rfl rfl (((SlY.own B83).at_ (s1.n / 8 : Nat) (by rw [s1.d.h]; omega)) 0 _ rfl) ?_
  refine go ?_
  refine y_bo (Bo.or8 (nth s1.d.l (s1.n / 8 : Nat)) (bitV (nth t i) s1.n)) rfl rfl rfl rfl ?_
  refine y_indexArr (j := (s1.n / 8 : Nat)) (0 + (s1.n / 8 : Nat) * 1) underlying111 sizeOf5 rfl rfl rfl rfl rfl (by omega) rfl ?_
  refine go ?_
  refine t_storeY (ls := s1.d.l) (v := ((nth s1.d.l (s1.n / 8 : Nat)) ||| (bitV (nth t i) s1.n))) (s1.n / 8 : Nat) sizeOf5 rfl rfl rfl B83 (by rw [s1.d.h]; omega) (fun w84 sw84 B86 u85 => ?_)
  refine go ?_
  refine x_s fun w88 sw88 B90 u89 => ?_
  refine go ?_
  have B92 := (((I74.kx u81).keep u85 (by omega)).keep u89 (by omega))
  have B93 := (B86.keep u89 (by omega))
  have B94 := (((I76.kx u81).keep u85 (by omega)).keep u89 (by omega))
  have D95 := (((hA2.keep u81 (fun _ h => h)).keep u85 (fun hb => show ¬ (g2 = bk8) by first | omega | assumption)).keep u89 (fun hb => show ¬ (g2 = bk19) by first | omega | assumption))
  exact hK46 (i + 1) (⟨s1.v, s1.p, putBit s1.d s1.n (nth t i), s1.n + 1⟩) a2 g2 c2 ⟨B92, B93, B94, B90, (by omega), D95, (by rw [take_nth (by omega), fsP_snoc, ← hs]; show _ = stepF s _; unfold stepF; rw [← hs1]), (fsP_next hs (by omega) hs1)⟩
 refine go ?_
 have B99 := (B36.keep u48 (by omega))
 refine x_c func123 rfl rfl (next_c bk13 bk8 bk29 bk19 s.p s.d s.n bk2 w34.heap.size a1 g1 c1 s.v _ I51 I50 B99 I52 (by omega) I49 hA (by omega) (by omega)) ?_
 rintro v100 w101 ⟨⟨hPx98, hDx98, hNx98, ax98, gx98, cx98, hVx98, hAx98, hGx98⟩, u102⟩ zu102
 have lt_gx98 := hAx98.lt
 have hlx98 : (nextF ⟨s.v, s.p, s.d, s.n⟩).v.length ≤ (s.v).length + 2 ∧ (nextF ⟨s.v, s.p, s.d, s.n⟩).n = 0 := nextF_len _
 refine go ?_
 refine t_rem rfl rfl rfl rfl (by omega) (by omega) ?_
 refine go ?_
 refine q_p (fun g42 => ?_) fun g42 => ?_
 ·
  refine go ?_
  refine t_ldY (l := (nextF ⟨s.v, s.p, s.d, s.n⟩).p.l) isAgg111 sizeOf111 rfl rfl rfl hPx98.at (Bk.h ((nextF ⟨s.v, s.p, s.d, s.n⟩).p)) ?_
  refine x_c func122 rfl rfl (end_c ((nextF ⟨s.v, s.p, s.d, s.n⟩).p) bk2 w34.heap.size ax98 gx98 cx98 ((nextF ⟨s.v, s.p, s.d, s.n⟩).v) _ hVx98 hAx98 (by omega) (by omega) (by omega)) ?_
  rintro v107 w108 ⟨⟨ae106, ge106, ce106, hBe106, hAe106, hGe106⟩, u109⟩ zu109
  have hle106 : ((nextF ⟨s.v, s.p, s.d, s.n⟩).v ++ [((nextF ⟨s.v, s.p, s.d, s.n⟩).p).shutB (((nextF ⟨s.v, s.p, s.d, s.n⟩).v).length)]).length = ((nextF ⟨s.v, s.p, s.d, s.n⟩).v).length + 1 := by simp
  have lt_ge106 := hAe106.lt
  refine go ?_
  refine x_s fun w113 sw113 B115 u114 => ?_
  refine go ?_
  refine f_ret1 (v := .slice ae106 ((((nextF ⟨s.v, s.p, s.d, s.n⟩).v ++ [((nextF ⟨s.v, s.p, s.d, s.n⟩).p).shutB (((nextF ⟨s.v, s.p, s.d, s.n⟩).v).length)])).length) ce106) results74 ⟨_, _, rfl, run_loadVar1 isAgg105 (B115.get rfl)⟩ ?_
  have D117 := (hAe106.keep u114 (fun hb => show ¬ (ge106 = bk2) by first | omega | assumption))
  have hit : i = t.length := by omega
  subst hit
  rw [List.take_length] at hs
  subst hs
  have hfp : fillP t = ((nextF ⟨(fsP t).v, (fsP t).p, (fsP t).d, (fsP t).n⟩).v ++ [((nextF ⟨(fsP t).v, (fsP t).p, (fsP t).d, (fsP t).n⟩).p).shutB (((nextF ⟨(fsP t).v, (fsP t).p, (fsP t).d, (fsP t).n⟩).v).length)]) := by unfold fillP endF; rw [if_pos (by show (nextF ⟨(fsP t).v, (fsP t).p, (fsP t).d, (fsP t).n⟩).v.length % 5 ≠ 0; omega)]
  rw [hfp]
  exact ⟨⟨ae106, ge106, ce106, rfl, Acc.lowP D117 (by have h9 := nextF_pos ⟨(fsP t).v, (fsP t).p, (fsP t).d, (fsP t).n⟩; first | exact h9 | (rw [List.length_append]; omega)) (by omega)⟩, u_d⟩
 refine go ?_
 refine x_s fun w119 sw119 B121 u120 => ?_
 refine go ?_
 refine f_ret1 (v := .slice ax98 (((nextF ⟨s.v, s.p, s.d, s.n⟩).v).length) cx98) results74 ⟨_, _, rfl, run_loadVar1 isAgg105 (B121.get rfl)⟩ ?_
 have D123 := (hAx98.keep u120 (fun hb => show ¬ (gx98 = bk2) by first | omega | assumption))
 have hit : i = t.length := by omega
 subst hit
 rw [List.take_length] at hs
 subst hs
 have hfp : fillP t = (nextF ⟨(fsP t).v, (fsP t).p, (fsP t).d, (fsP t).n⟩).v := by unfold fillP endF; rw [if_neg (by show ¬ ((nextF ⟨(fsP t).v, (fsP t).p, (fsP t).d, (fsP t).n⟩).v.length % 5 ≠ 0); omega)]
 rw [hfp]
 exact ⟨⟨ax98, gx98, cx98, rfl, Acc.lowP D123 (by have h9 := nextF_pos ⟨(fsP t).v, (fsP t).p, (fsP t).d, (fsP t).n⟩; first | exact h9 | (rw [List.length_append]; omega)) (by omega)⟩, u_d⟩

end Go.Proofs.YtagmkfbbhfaceaaGreatDoor
namespace Go.Proofs.YtagmkfbbhfaceaaGreatDoor
open Go Go.RowKit Go.Proofs.Tryz
set_option maxRecDepth 10000
/-! ### entries -/
structure Ent where
  m : Int
  k : Int
  h : Int
  p : Int
  b : Int
  t : Int
instance : Inhabited Ent := ⟨⟨0, 0, 0, 0, 0, 0⟩⟩
def plK (k : Int) : Bool := decide (k = 1 ∨ k = 3)
def okEnt (x : Ent) : Bool := decide ((0 ≤ x.m ∧ x.m ≤ 1000000) ∧ (1 ≤ x.h ∧ x.h ≤ 999) ∧ (1 ≤ x.k ∧ x.k ≤ 4) ∧ (((x.k = 1 ∨ x.k = 3) ∧ (0 ≤ x.p ∧ x.p ≤ 100000) ∧ x.b = 0 ∧ x.t = 0) ∨ (¬ (x.k = 1 ∨ x.k = 3) ∧ x.p = 0 ∧ (1 ≤ x.b ∧ x.b ≤ 9999) ∧ (1 ≤ x.t ∧ x.t ≤ 100000))))
theorem okEnt_iff {x : Ent} (h : okEnt x = true) : (0 ≤ x.m ∧ x.m ≤ 1000000) ∧ (1 ≤ x.h ∧ x.h ≤ 999) ∧ (1 ≤ x.k ∧ x.k ≤ 4) ∧ (0 ≤ x.p ∧ x.p ≤ 100000) ∧ (0 ≤ x.b ∧ x.b ≤ 9999) ∧ (0 ≤ x.t ∧ x.t ≤ 100000) ∧ (¬ (x.k = 1 ∨ x.k = 3) → 1 ≤ x.b ∧ 1 ≤ x.t) := by
  unfold okEnt at h; rw [decide_eq_true_eq] at h; omega
def chkG (m : Int) : List Ent → Int
  | [] => 0
  | x :: r => if okEnt x = true then (if x.m < m then 9 else chkG x.m r) else 2
def chkE (l : List Ent) : Int := if l.length = 0 then 4 else if 2000 < l.length then 5 else chkG 0 l
def lastM (m : Int) : List Ent → Int
  | [] => m
  | x :: r => lastM x.m r
theorem lastM_snoc (x : Ent) : ∀ (l : List Ent) (m : Int), lastM m (l ++ [x]) = x.m
  | [], _ => rfl
  | y :: l, _ => lastM_snoc x l y.m
def entP (m : Int) (x : Ent) : List UInt8 := putP (x.k - 1).toNat 2 ++ codesP [x.m - m, x.h - 1] ++ (if plK x.k = true then codesP [x.p] else codesP [x.b - 1, x.t - 1])
def entsG (m : Int) : List Ent → List UInt8
  | [] => []
  | x :: r => entP m x ++ entsG x.m r
theorem entsG_snoc (x : Ent) : ∀ (l : List Ent) (m : Int), entsG m (l ++ [x]) = entsG m l ++ entP (lastM m l) x
  | [], m => by simp [entsG, lastM]
  | y :: l, m => by
    simp only [List.cons_append, entsG, lastM, entsG_snoc x l y.m, List.append_assoc]
def tapeP (l : List Ent) : List UInt8 := codesP [(l.length : Int) - 1] ++ entsG 0 l
def writeP (l : List Ent) : List Bk := fillP (tapeP l)
theorem chkG_cons {m : Int} {x : Ent} {r : List Ent} (h : chkG m (x :: r) = 0) : okEnt x = true ∧ m ≤ x.m ∧ chkG x.m r = 0 := by
  unfold chkG at h
  split at h
  · split at h
    · cases h
    · exact ⟨by assumption, by omega, h⟩
  · cases h
theorem chkG_take : ∀ {l : List Ent} {m : Int} (i : Nat), chkG m l = 0 → chkG m (l.take i) = 0
  | _, _, 0, _ => by simp [chkG]
  | [], _, _ + 1, _ => by simp [chkG]
  | x :: r, m, i + 1, h => by
    obtain ⟨h1, h2, h3⟩ := chkG_cons h
    rw [List.take_succ_cons]
    unfold chkG
    rw [if_pos h1, if_neg (by omega)]
    exact chkG_take i h3
theorem chkG_at : ∀ {l : List Ent} {m : Int} {i : Nat}, chkG m l = 0 → i < l.length → okEnt (nth l i) = true ∧ lastM m (l.take i) ≤ (nth l i).m
  | x :: r, m, 0, h, _ => by
    obtain ⟨h1, h2, h3⟩ := chkG_cons h
    exact ⟨h1, h2⟩
  | x :: r, m, i + 1, h, hi => by
    obtain ⟨h1, h2, h3⟩ := chkG_cons h
    have := chkG_at (i := i) h3 (by simpa using hi)
    exact ⟨by simpa [nth] using this.1, by simpa [nth, lastM] using this.2⟩
theorem lastM_ge : ∀ {l : List Ent} {m : Int}, chkG m l = 0 → m ≤ lastM m l
  | [], _, _ => Int.le_refl _
  | x :: r, m, h => by
    obtain ⟨_, h2, h3⟩ := chkG_cons h
    have := lastM_ge h3
    show m ≤ lastM x.m r
    omega
theorem entP_len {m : Int} {x : Ent} (hx : okEnt x = true) (hm : m ≤ x.m) (h0 : 0 ≤ m) : (entP m x).length ≤ 238 := by
  have h := okEnt_iff hx
  have h1 : (codesP [x.m - m, x.h - 1]).length ≤ 59 * 2 := codesP_len (l := [x.m - m, x.h - 1]) (by simp; omega)
  have h2 : (codesP [x.p]).length ≤ 59 * 1 := codesP_len (l := [x.p]) (by simp; omega)
  unfold entP
  rw [List.length_append, List.length_append, putP_length]
  split
  · omega
  · rename_i hk
    have hk2 : ¬ (x.k = 1 ∨ x.k = 3) := by simpa [plK] using hk
    have h3 : (codesP [x.b - 1, x.t - 1]).length ≤ 59 * 2 := codesP_len (l := [x.b - 1, x.t - 1]) (by have := h.2.2.2.2.2.2 hk2; simp; omega)
    omega
theorem entsG_len : ∀ {l : List Ent} {m : Int}, chkG m l = 0 → 0 ≤ m → (entsG m l).length ≤ 238 * l.length
  | [], _, _, _ => Nat.zero_le _
  | x :: r, m, h, h0 => by
    obtain ⟨h1, h2, h3⟩ := chkG_cons h
    have q1 := entP_len h1 h2 h0
    have q2 := entsG_len h3 (by omega)
    simp only [entsG, List.length_append, List.length_cons]; omega
theorem chkE_ok {l : List Ent} (h : chkE l = 0) : 1 ≤ l.length ∧ l.length ≤ 2000 ∧ chkG 0 l = 0 := by
  unfold chkE at h
  split at h
  · cases h
  · split at h
    · cases h
    · exact ⟨by omega, by omega, h⟩
theorem tapeP_len {l : List Ent} (h : chkE l = 0) : (tapeP l).length ≤ 59 + 238 * l.length := by
  obtain ⟨h1, h2, h3⟩ := chkE_ok h
  have q1 : (codesP [(l.length : Int) - 1]).length ≤ 59 * 1 := codesP_len (l := [(l.length : Int) - 1]) (by simp; omega)
  have q2 := entsG_len h3 (Int.le_refl 0)
  unfold tapeP; rw [List.length_append]; omega
theorem codesP_bits {l : List Int} : ∀ c ∈ codesP l, c = 48 ∨ c = 49 := fun c h => by
  unfold codesP at h
  obtain ⟨z, _, hc⟩ := List.mem_flatMap.1 h
  exact putP_bits _ _ c hc
theorem entP_bits {m : Int} {x : Ent} : ∀ c ∈ entP m x, c = 48 ∨ c = 49 := fun c h => by
  unfold entP at h
  rcases List.mem_append.1 h with h | h
  · rcases List.mem_append.1 h with h | h
    · exact putP_bits _ _ c h
    · exact codesP_bits c h
  · split at h <;> exact codesP_bits c h
theorem entsG_bits : ∀ {l : List Ent} {m : Int}, ∀ c ∈ entsG m l, c = 48 ∨ c = 49
  | [], _, c, h => by cases h
  | x :: r, m, c, h => by
    rcases List.mem_append.1 h with h | h
    · exact entP_bits c h
    · exact entsG_bits c h
theorem tapeP_bits {l : List Ent} : ∀ c ∈ tapeP l, c = 48 ∨ c = 49 := fun c h => by
  rcases List.mem_append.1 h with h | h
  · exact codesP_bits c h
  · exact entsG_bits c h
/-- the bytes of blocks -/
def bytesP (v : List Bk) : List UInt8 := v.flatMap Bk.l
theorem bytesP_snoc (v : List Bk) (b : Bk) : bytesP (v ++ [b]) = bytesP v ++ b.l := by unfold bytesP; rw [List.flatMap_append]; simp
theorem bytesP_len : ∀ (v : List Bk), (bytesP v).length = 32 * v.length
  | [] => rfl
  | b :: v => by
    have e : bytesP (b :: v) = b.l ++ bytesP v := rfl
    rw [e, List.length_append, b.h, bytesP_len v, List.length_cons]; omega
theorem fillP_len {t : List UInt8} : (fillP t).length ≤ t.length + 3 ∧ 1 ≤ (fillP t).length := by
  have h1 := fsP_len t
  have h2 := nextF_len (fsP t)
  have h3 : 1 ≤ (nextF (fsP t)).v.length := by unfold nextF; split <;> simp
  unfold fillP endF
  split
  · rw [List.length_append]; simp only [List.length_cons, List.length_nil]; omega
  · omega
def encEnt (x : Ent) : List Value := [.int .i64 x.m, .int .i64 x.k, .int .i64 x.h, .int .i64 x.p, .int .i64 x.b, .int .i64 x.t]
theorem isPlace_c (k : Int) (w0 : World) :
    CallsV Tryz.prog 73 [.int .i64 k] w0 (fun v w' => v = .bool (plK k) ∧ Ext w0 w') := by
 refine f_n func73 ?_
 refine go ?_
 refine t_splitp 5 rfl (fun g5 => ?_) (fun g5 => ?_)
 ·
  refine go ?_
  refine f_1 results73 ?_
  exact ⟨by simp [plK, *], u_d⟩
 refine go ?_
 refine f_1 results73 ?_
 exact ⟨by simp [plK, *], u_d⟩

set_option maxHeartbeats 4000000 in
theorem isEntry_c (x : Ent) (w0 : World) :
    CallsV Tryz.prog 70 [.agg #[.int .i64 x.m, .int .i64 x.k, .int .i64 x.h, .int .i64 x.p, .int .i64 x.b, .int .i64 x.t]] w0 (fun v w' => v = .bool (okEnt x) ∧ Ext w0 w') := by
 refine f_n func70 ?_
 refine go ?_
 refine x_b fun bk2 w3 ebk2 sbk2 B4 u5 => ?_
 refine go ?_
 refine x_l fun bk9 w10 ebk9 sbk9 B11 u12 => ?_
 refine x_c func108 rfl rfl (within1_v 0 1000000 x.m bk9 _ _ B11) ?_
 rintro _ w15 ⟨rfl, u16⟩ zu16
 refine go ?_
 refine t_splitp 8 rfl (fun g8 => ?_) (fun g8 => ?_)
 ·
  refine go ?_
  refine f_1 results70 ?_
  exact ⟨congrArg Value.bool (by unfold okEnt; first | exact (decide_eq_false (by omega)).symm | exact (decide_eq_true (by omega)).symm | exact decide_eq_decide.2 (by omega)), u_d⟩
 refine go ?_
 refine x_l fun bk20 w21 ebk20 sbk20 B22 u23 => ?_
 refine x_c func108 rfl rfl (within1_v 1 999 x.h bk20 _ _ B22) ?_
 rintro _ w26 ⟨rfl, u27⟩ zu27
 refine go ?_
 refine t_splitp 15 rfl (fun g15 => ?_) (fun g15 => ?_)
 ·
  refine go ?_
  refine f_1 results70 ?_
  exact ⟨congrArg Value.bool (by unfold okEnt; first | exact (decide_eq_false (by omega)).symm | exact (decide_eq_true (by omega)).symm | exact decide_eq_decide.2 (by omega)), u_d⟩
 refine go ?_
 refine t_splitp 20 rfl (fun g20 => ?_) (fun g20 => ?_)
 ·
  refine go ?_
  refine f_1 results70 ?_
  exact ⟨congrArg Value.bool (by unfold okEnt; first | exact (decide_eq_false (by omega)).symm | exact (decide_eq_true (by omega)).symm | exact decide_eq_decide.2 (by omega)), u_d⟩
 refine go ?_
 refine q_p (fun g24 => ?_) fun g24 => ?_
 ·
  refine go ?_
  refine f_1 results70 ?_
  exact ⟨congrArg Value.bool (by unfold okEnt; first | exact (decide_eq_false (by omega)).symm | exact (decide_eq_true (by omega)).symm | exact decide_eq_decide.2 (by omega)), u_d⟩
 refine go ?_
 refine x_c func73 rfl rfl (isPlace_c x.k _) ?_
 rintro _ w36 ⟨rfl, u37⟩ zu37
 refine go ?_
 refine q_b (fun g27 => ?_) fun g27 => ?_
 ·
  have hk9 : (x.k = 1 ∨ x.k = 3) := by simpa [plK] using g27
  refine go ?_
  refine x_l fun bk41 w42 ebk41 sbk41 B43 u44 => ?_
  refine x_c func108 rfl rfl (within1_v 0 100000 x.p bk41 _ _ B43) ?_
  rintro _ w47 ⟨rfl, u48⟩ zu48
  refine go ?_
  refine t_splitp 32 rfl (fun g32 => ?_) (fun g32 => ?_)
  ·
   refine go ?_
   refine t_splitp 37 rfl (fun g37 => ?_) (fun g37 => ?_)
   ·
    refine go ?_
    refine f_1 results70 ?_
    exact ⟨congrArg Value.bool (by unfold okEnt; first | exact (decide_eq_false (by omega)).symm | exact (decide_eq_true (by omega)).symm | exact decide_eq_decide.2 (by omega)), u_d⟩
   refine go ?_
   refine f_1 results70 ?_
   exact ⟨congrArg Value.bool (by unfold okEnt; first | exact (decide_eq_false (by omega)).symm | exact (decide_eq_true (by omega)).symm | exact decide_eq_decide.2 (by omega)), u_d⟩
  refine go ?_
  refine f_1 results70 ?_
  exact ⟨congrArg Value.bool (by unfold okEnt; first | exact (decide_eq_false (by omega)).symm | exact (decide_eq_true (by omega)).symm | exact decide_eq_decide.2 (by omega)), u_d⟩
 have hk9 : ¬ (x.k = 1 ∨ x.k = 3) := by simpa [plK] using g27
 refine go ?_
 refine t_splitp 45 rfl (fun g45 => ?_) (fun g45 => ?_)
 ·
  refine go ?_
  refine x_l fun bk52 w53 ebk52 sbk52 B54 u55 => ?_
  refine x_c func108 rfl rfl (within1_v 1 9999 x.b bk52 _ _ B54) ?_
  rintro _ w58 ⟨rfl, u59⟩ zu59
  refine go ?_
  refine t_splitp 51 rfl (fun g51 => ?_) (fun g51 => ?_)
  ·
   refine go ?_
   refine x_l fun bk62 w63 ebk62 sbk62 B64 u65 => ?_
   refine x_c func108 rfl rfl (within1_v 1 100000 x.t bk62 _ _ B64) ?_
   rintro _ w68 ⟨rfl, u69⟩ zu69
   refine go ?_
   refine f_1 results70 ?_
   exact ⟨congrArg Value.bool (by unfold okEnt; first | exact (decide_eq_false (by omega)).symm | exact (decide_eq_true (by omega)).symm | exact decide_eq_decide.2 (by omega)), u_d⟩
  refine go ?_
  refine f_1 results70 ?_
  exact ⟨congrArg Value.bool (by unfold okEnt; first | exact (decide_eq_false (by omega)).symm | exact (decide_eq_true (by omega)).symm | exact decide_eq_decide.2 (by omega)), u_d⟩
 refine go ?_
 refine f_1 results70 ?_
 exact ⟨congrArg Value.bool (by unfold okEnt; first | exact (decide_eq_false (by omega)).symm | exact (decide_eq_true (by omega)).symm | exact decide_eq_decide.2 (by omega)), u_d⟩

theorem checkEntries_c (l : List Ent) (al : Option Addr) (bl ol cl : Nat) (w0 : World) (hl : Sl encEnt 6 w0 al bl ol l) (hll : l.length ≤ 1000000000) :
    CallsV Tryz.prog 29 [.slice al l.length cl] w0 (fun v w' => v = .int .i64 (chkE l) ∧ Ext w0 w') := by
 refine f_n func29 ?_
 refine go ?_
 refine q_p (fun g6 => ?_) fun g6 => ?_
 ·
  refine go ?_
  refine f_1 results29 ?_
  exact ⟨by unfold chkE; rw [if_pos (by omega)], u_d⟩
 refine go ?_
 refine q_p (fun g10 => ?_) fun g10 => ?_
 ·
  refine go ?_
  refine f_1 results29 ?_
  exact ⟨by unfold chkE; rw [if_neg (by omega), if_pos (by omega)], u_d⟩
 refine go ?_
 refine x_l2 (fun _ => False) [14, 15] (fun (i : Nat) (m : Int) => [(3, .int .i64 m), (16, .int .i64 (i : Int))]) (fun i m w => (i ≤ l.length) ∧ (chkG m (l.drop i) = chkG 0 l)) (fun i m => l.length - i) 0 0 ⟨(Nat.zero_le _), rfl⟩ ?_
 rintro i m w11 ⟨hi, hc⟩ u12 zu12 K10 hK10
 refine go ?_
 refine q_p (fun g17 => ?_) fun g17 => ?_
 ·
  refine go ?_
  refine g_i i (hl.keep ((Upd.refl (fun _ => False) w0).nx u12) (fun _ h => h)) (fun _ => ?_)
  refine go ?_
  refine x_n fun bk19 w20 ebk19 sbk19 B21 u22 => ?_
  refine x_s fun w24 sw24 B26 u25 => ?_
  refine go ?_
  refine x_c func70 rfl rfl (isEntry_c (nth l i) _) ?_
  rintro _ w31 ⟨rfl, u32⟩ zu32
  refine go ?_
  refine q_b (fun g20 => ?_) fun g20 => ?_
  ·
   refine go ?_
   refine f_1 results29 ?_
   have he : chkE l = chkG 0 l := by unfold chkE; rw [if_neg (by omega), if_neg (by omega)]
   have g22 : okEnt (nth l i) = false := by cases h9 : okEnt (nth l i) <;> simp [h9] at g20 ⊢
   exact ⟨by rw [he, ← hc, drop_nth (by omega)]; unfold chkG; rw [if_neg (by rw [g22]; decide)], u_d⟩
  have g22 : okEnt (nth l i) = true := by cases h9 : okEnt (nth l i) <;> simp [h9] at g20 ⊢
  refine go ?_
  refine q_p (fun g24 => ?_) fun g24 => ?_
  ·
   refine go ?_
   refine f_1 results29 ?_
   have he : chkE l = chkG 0 l := by unfold chkE; rw [if_neg (by omega), if_neg (by omega)]
   exact ⟨by rw [he, ← hc, drop_nth (by omega)]; unfold chkG; rw [if_pos g22, if_pos (by omega)], u_d⟩
  refine go ?_
  exact hK10 (i + 1) ((nth l i).m) ⟨(by omega), (by rw [drop_nth (by omega)] at hc; rw [← hc]; conv => rhs; unfold chkG; rw [if_pos g22, if_neg (by omega)])⟩
 refine go ?_
 refine f_1 results29 ?_
 have he : chkE l = chkG 0 l := by unfold chkE; rw [if_neg (by omega), if_neg (by omega)]
 exact ⟨by rw [he, ← hc, List.drop_of_length_le (by omega)]; rfl, u_d⟩

set_option maxHeartbeats 4000000 in
theorem write_c (l : List Ent) (al : Option Addr) (bl ol cl : Nat) (w0 : World) (hl : Sl encEnt 6 w0 al bl ol l) (hok0 : chkE l = 0) :
    CallsV Tryz.prog 30 [.slice al l.length cl] w0 (fun v w' => (∃ a9 g9 c9, v = .slice a9 (writeP l).length c9 ∧ Acc encBk 32 111 w0.heap.size w' a9 g9 c9 (writeP l)) ∧ Ext w0 w') := by
 obtain ⟨hl1, hl2, hok⟩ := chkE_ok hok0
 have hc0 : (codesP [(l.length : Int) - 1]).length ≤ 59 := by have h9 := codesP_len (l := [(l.length : Int) - 1]) (by simp; omega); simpa using h9
 refine f_n func30 ?_
 refine go ?_
 refine x_n fun bk3 w4 ebk3 sbk3 B5 u6 => ?_
 have hN8 : Acc encY 1 5 w4.heap.size w4 none 0 0 ([] : List UInt8) := Acc.nil _ _ _ _ _ (by omega) (Nat.le_refl _)
 have lt_0 := hN8.lt
 refine go ?_
 refine x_l fun bk10 w11 ebk10 sbk10 B12 u13 => ?_
 have D16 := (hN8.keep u13 (fun _ h => h))
 have B17 := (B5.kx u13)
 refine x_c func71 rfl rfl (code_c ([((l.length : Int) - 1)] : List Int) (some ⟨bk10, 0, none⟩) bk10 0 1 bk3 w4.heap.size none 0 0 ([] : List UInt8) _ B17 D16 (by omega) (by omega) (SlI.own (xs := ([((l.length : Int) - 1)] : List Int)) B12) (by omega) (by simp; omega) (by first | (simp only [List.length_cons, List.length_nil]; omega) | (simp only [List.length_append, List.length_cons, List.length_nil, putP_length] at *; omega) | (have h7 := codesP_len (l := [(nth l j).m - (lastM 0 (l.take j)), (nth l j).h - 1]) (by simp; omega); simp only [List.length_append, List.length_cons, List.length_nil, putP_length] at *; omega))) ?_
 rintro v18 w19 ⟨⟨at15, gt15, ct15, hBt15, hAt15, hGt15⟩, u20⟩ zu20
 have lt_gt15 := hAt15.lt
 refine go ?_
 refine x_l5 (fun i => i = bk3 ∨ (i = gt15 ∧ w4.heap.size ≤ i)) [3, 12, 13] (fun (j : Nat) (a1 : Option Addr) (g1 : Nat) (c1 : Nat) (cur : List UInt8) => [(4, .int .i64 (lastM 0 (l.take j))), (14, .int .i64 (j : Int))]) (fun j a1 g1 c1 cur w => Blk w bk3 118 [.slice a1 cur.length c1] ∧ (j ≤ l.length) ∧ (Acc encY 1 5 w4.heap.size w a1 g1 c1 cur) ∧ (cur = (codesP [(l.length : Int) - 1]) ++ entsG 0 (l.take j)) ∧ ((g1 = gt15 ∨ w19.heap.size ≤ g1))) (fun j a1 g1 c1 cur => l.length - j) 0 at15 gt15 ct15 (([] : List UInt8) ++ codesP ([((l.length : Int) - 1)] : List Int)) ⟨hBt15, (Nat.zero_le _), hAt15, (by simp [entsG]), (.inl rfl)⟩ ?_
 rintro j a1 g1 c1 cur w27 ⟨I29, hi, hA, hcu, hg1⟩ u28 zu28 K26 hK26
 have lt_g1 := hA.lt
 have hlen1 := entsG_len (chkG_take j hok) (Int.le_refl 0)
 rw [List.length_take, Nat.min_eq_left hi] at hlen1
 have hcl := congrArg List.length hcu
 simp only [List.length_append] at hcl
 refine go ?_
 refine q_p (fun g15 => ?_) fun g15 => ?_
 ·
  obtain ⟨hx0, hasc⟩ := chkG_at hok (show j < l.length by omega)
  have hx := okEnt_iff hx0
  obtain ⟨x1, x2, x3, x4, x5, x6, x7⟩ := hx
  have hm0 : 0 ≤ (lastM 0 (l.take j)) := lastM_ge (chkG_take j hok)
  refine go ?_
  refine g_i j (hl.keep (((((Upd.refl (fun _ => False) w0).nx u6).nx u13).next u20 (fun i hi h => by omega)).next u28 (fun i hi h => by omega)) (fun _ h => h)) (fun _ => ?_)
  refine go ?_
  refine x_n fun bk36 w37 ebk36 sbk36 B38 u39 => ?_
  refine x_s fun w41 sw41 B43 u42 => ?_
  iterate 7 refine st1 ?_
  refine t_same 20 (v := .int .i64 (((nth l j).k - 1).toNat : Int)) rfl (congrArg (Value.int .i64) (by omega)) (t_conv underlying39 underlying175 rfl rfl rfl (IntWalk.u64_in _ (by omega)) ?_)
  have D47 := ((hA.keep u39 (fun _ h => h)).keep u42 (fun hb => show ¬ (g1 = bk36) by first | omega | assumption))
  have B48 := ((I29.kx u39).keep u42 (by omega))
  refine x_c func72 rfl rfl (put_c (((nth l j).k - 1).toNat) 2 bk3 w4.heap.size a1 g1 c1 cur _ B48 D47 (by omega) (by omega) (by omega) (by decide) (by simp only [List.length_append] at *; omega)) ?_
  rintro v49 w50 ⟨⟨at46, gt46, ct46, hBt46, hAt46, hGt46⟩, u51⟩ zu51
  have lt_gt46 := hAt46.lt
  refine go ?_
  refine x_l fun bk55 w56 ebk55 sbk55 B57 u58 => ?_
  have D61 := (hAt46.keep u58 (fun _ h => h))
  have B62 := (hBt46.kx u58)
  refine x_c func71 rfl rfl (code_c ([(((nth l j).m) - (lastM 0 (l.take j))), (((nth l j).h) - 1)] : List Int) (some ⟨bk55, 0, none⟩) bk55 0 2 bk3 w4.heap.size at46 gt46 ct46 (cur ++ putP (((nth l j).k - 1).toNat) 2) _ B62 D61 (by omega) (by omega) (SlI.own (xs := ([(((nth l j).m) - (lastM 0 (l.take j))), (((nth l j).h) - 1)] : List Int)) B57) (by omega) (by simp; omega) (by first | (simp only [List.length_cons, List.length_nil]; omega) | (simp only [List.length_append, List.length_cons, List.length_nil, putP_length] at *; omega) | (have h7 := codesP_len (l := [(nth l j).m - (lastM 0 (l.take j)), (nth l j).h - 1]) (by simp; omega); simp only [List.length_append, List.length_cons, List.length_nil, putP_length] at *; omega))) ?_
  rintro v63 w64 ⟨⟨at60, gt60, ct60, hBt60, hAt60, hGt60⟩, u65⟩ zu65
  have lt_gt60 := hAt60.lt
  refine go ?_
  refine x_c func73 rfl rfl (isPlace_c ((nth l j).k) _) ?_
  rintro _ w71 ⟨rfl, u72⟩ zu72
  refine go ?_
  refine q_b (fun g36 => ?_) fun g36 => ?_
  ·
   have hk9 : ((nth l j).k = 1 ∨ (nth l j).k = 3) := by simpa [plK] using g36
   refine go ?_
   refine x_l fun bk75 w76 ebk75 sbk75 B77 u78 => ?_
   have D81 := ((hAt60.keep u72 (fun _ h => h)).keep u78 (fun _ h => h))
   have B82 := ((hBt60.kx u72).kx u78)
   refine x_c func71 rfl rfl (code_c ([(nth l j).p] : List Int) (some ⟨bk75, 0, none⟩) bk75 0 1 bk3 w4.heap.size at60 gt60 ct60 ((cur ++ putP (((nth l j).k - 1).toNat) 2) ++ codesP ([(((nth l j).m) - (lastM 0 (l.take j))), (((nth l j).h) - 1)] : List Int)) _ B82 D81 (by omega) (by omega) (SlI.own (xs := ([(nth l j).p] : List Int)) B77) (by omega) (by simp; omega) (by first | (simp only [List.length_cons, List.length_nil]; omega) | (simp only [List.length_append, List.length_cons, List.length_nil, putP_length] at *; omega) | (have h7 := codesP_len (l := [(nth l j).m - (lastM 0 (l.take j)), (nth l j).h - 1]) (by simp; omega); simp only [List.length_append, List.length_cons, List.length_nil, putP_length] at *; omega))) ?_
   rintro v83 w84 ⟨⟨at80, gt80, ct80, hBt80, hAt80, hGt80⟩, u85⟩ zu85
   have lt_gt80 := hAt80.lt
   refine go ?_
   exact hK26 (j + 1) at80 gt80 ct80 (((cur ++ putP (((nth l j).k - 1).toNat) 2) ++ codesP ([(((nth l j).m) - (lastM 0 (l.take j))), (((nth l j).h) - 1)] : List Int)) ++ codesP ([(nth l j).p] : List Int)) ⟨hBt80, (by omega), hAt80, (by rw [take_nth (by omega), entsG_snoc, ← List.append_assoc, ← hcu]; unfold entP; rw [if_pos (by exact g36)]; simp only [List.append_assoc]), (by omega)⟩ (hs := by exact ⟨(congrArg (fun z => some (Value.int .i64 z)) (by rw [take_nth (by omega), lastM_snoc])), rfl, rfl, rfl, rfl, trivial⟩)
  have hk9 : ¬ ((nth l j).k = 1 ∨ (nth l j).k = 3) := by simpa [plK] using g36
  have x8 := x7 hk9
  refine go ?_
  refine x_l fun bk88 w89 ebk88 sbk88 B90 u91 => ?_
  have D94 := ((hAt60.keep u72 (fun _ h => h)).keep u91 (fun _ h => h))
  have B95 := ((hBt60.kx u72).kx u91)
  refine x_c func71 rfl rfl (code_c ([(((nth l j).b) - 1), (((nth l j).t) - 1)] : List Int) (some ⟨bk88, 0, none⟩) bk88 0 2 bk3 w4.heap.size at60 gt60 ct60 ((cur ++ putP (((nth l j).k - 1).toNat) 2) ++ codesP ([(((nth l j).m) - (lastM 0 (l.take j))), (((nth l j).h) - 1)] : List Int)) _ B95 D94 (by omega) (by omega) (SlI.own (xs := ([(((nth l j).b) - 1), (((nth l j).t) - 1)] : List Int)) B90) (by omega) (by simp; omega) (by first | (simp only [List.length_cons, List.length_nil]; omega) | (simp only [List.length_append, List.length_cons, List.length_nil, putP_length] at *; omega) | (have h7 := codesP_len (l := [(nth l j).m - (lastM 0 (l.take j)), (nth l j).h - 1]) (by simp; omega); simp only [List.length_append, List.length_cons, List.length_nil, putP_length] at *; omega))) ?_
  rintro v96 w97 ⟨⟨at93, gt93, ct93, hBt93, hAt93, hGt93⟩, u98⟩ zu98
  have lt_gt93 := hAt93.lt
  refine go ?_
  exact hK26 (j + 1) at93 gt93 ct93 (((cur ++ putP (((nth l j).k - 1).toNat) 2) ++ codesP ([(((nth l j).m) - (lastM 0 (l.take j))), (((nth l j).h) - 1)] : List Int)) ++ codesP ([(((nth l j).b) - 1), (((nth l j).t) - 1)] : List Int)) ⟨hBt93, (by omega), hAt93, (by rw [take_nth (by omega), entsG_snoc, ← List.append_assoc, ← hcu]; unfold entP; rw [if_neg (by rw [g36]; decide)]; simp only [List.append_assoc]), (by omega)⟩ (hs := by exact ⟨(congrArg (fun z => some (Value.int .i64 z)) (by rw [take_nth (by omega), lastM_snoc])), rfl, rfl, rfl, rfl, trivial⟩)
 have hcb : ∀ c ∈ cur, c = 48 ∨ c = 49 := by
   have h9 : j = l.length := by omega
   rw [h9, List.take_length] at hcu
   intro c hc
   rw [hcu] at hc
   exact tapeP_bits (l := l) c hc
 refine go ?_
 refine x_c func74 rfl rfl (fill_c cur a1 g1 0 c1 _ (hA.sl (fun _ => rfl)) hcb (by omega)) ?_
 rintro _ w103 ⟨⟨a9, g9, c9, rfl, hF9⟩, u104⟩ zu104
 have lt_g9 := hF9.lt
 refine go ?_
 refine f_1 results30 ?_
 have hil : j = l.length := by omega
 subst hil
 rw [List.take_length] at hcu
 have hcur : cur = tapeP l := hcu
 subst hcur
 exact ⟨⟨a9, g9, c9, rfl, hF9.lowP (Nat.lt_of_lt_of_le Nat.zero_lt_one fillP_len.2) (by omega)⟩, u_d⟩

end Go.Proofs.YtagmkfbbhfaceaaGreatDoor
namespace Go.Proofs.YtagmkfbbhfaceaaGreatDoor
open Go Go.RowKit Go.Proofs.Tryz
set_option maxRecDepth 10000
theorem bytes_c (v : List Bk) (av : Option Addr) (bv ov cv : Nat) (w0 : World) (hv : Sl encBk 32 w0 av bv ov v) (hvl : v.length ≤ 30000) (hpos : 0 < w0.heap.size) :
    CallsV Tryz.prog 31 [.slice av v.length cv] w0 (fun v' w' => (∃ a9 g9 c9, v' = .slice a9 (bytesP v).length c9 ∧ Acc encY 1 5 w0.heap.size w' a9 g9 c9 (bytesP v)) ∧ Ext w0 w') := by
 refine f_n func31 ?_
 refine go ?_
 refine x_l4 (fun _ => False) [5, 6] (fun (i : Nat) (a1 : Option Addr) (g1 : Nat) (c1 : Nat) => [(2, .slice a1 ((bytesP (v.take i)).length) c1), (7, .int .i64 (i : Int))]) (fun i a1 g1 c1 w => (i ≤ v.length) ∧ (Acc encY 1 5 w0.heap.size w a1 g1 c1 (bytesP (v.take i)))) (fun i a1 g1 c1 => v.length - i) 0 none 0 0 ⟨(Nat.zero_le _), (Acc.nil _ _ _ _ _ hpos (by omega))⟩ ?_
 rintro i a1 g1 c1 w5 ⟨hi, hA⟩ u6 zu6 K4 hK4
 have E7 := Sc.mk ((Upd.refl (fun _ => False) w0).nx u6)
 have lt_g1 := hA.lt
 have hbl := bytesP_len (v.take i)
 rw [List.length_take, Nat.min_eq_left hi] at hbl
 have hel := (nth v i).h
 refine go ?_
 refine q_p (fun g8 => ?_) fun g8 => ?_
 ·
  refine go ?_
  refine g_i i (hv.keep E7.u (fun _ h => h)) (fun _ => ?_)
  refine t_ldY (l := (nth v i).l) isAgg111 sizeOf111 rfl rfl rfl ((hv.keep E7.u (fun _ h => h)).at_ i (by omega)) (Bk.h (nth v i)) (t_alloc (cs := (ys (List.replicate 32 (0 : UInt8)))) zeroValue111 (by kernel_rfl) rfl rfl (fun bk13 w14 ebk13 sbk13 B15 u16 => ?_))
  refine t_stY sizeOf111 rfl rfl rfl B15 (Bk.h (nth v i)) (by rw [ys_length]; exact (by first | omega | simp | assumption)) (fun w18 sw18 B20 u19 => ?_)
  refine go ?_
  refine t_arrS 0 32 underlying111 sizeOf5 rfl rfl rfl (.inr ⟨rfl, rfl⟩) (k := .i64) (m := 0) (x1 := .tmp 0) (.inr ⟨rfl, rfl⟩) (k' := .i64) (q := 0) (x2 := .tmp 0) (by omega) (by omega) (by omega) (t_same 12 (v := .slice (some ⟨bk13, 0 + 0 * 1, none⟩) ((nth v i).l.length) 32) rfl (by rw [(nth v i).h]) ?_)
  have D22 := ((hA.keep u16 (fun _ h => h)).keep u19 (fun hb => show ¬ (g1 = bk13) by first | omega | assumption))
  refine t_appendAll (enc := encY) (z := .int .u8 0) (bytes := 1) (k := 1) (base := w0.heap.size) (xs := (bytesP (v.take i))) (ys := (nth v i).l) underlying24 (by kernel_rfl) rfl (by decide) (fun _ => rfl) (by intro x; simp [encY, Value.oneCell']) rfl rfl rfl rfl D22 (SlY.own B20) (by omega) (by omega) (by omega) (by decide) (fun ao23 gb24 cp25 w26 A27 u28 gegb24 lngb24 => ?_)
  have zu28 := u28.size
  have lt_gb24 := A27.lt
  refine go ?_
  exact hK4 (i + 1) ao23 gb24 cp25 ⟨(by omega), (by rw [take_nth (by omega), bytesP_snoc]; exact A27)⟩ (hs := by exact ⟨(congrArg some (by rw [take_nth (by omega), bytesP_snoc])), rfl, rfl, rfl, trivial⟩)
 refine go ?_
 refine f_1 results31 ?_
 have hiv : v.take i = v := List.take_of_length_le (by omega)
 exact ⟨⟨a1, g1, c1, by rw [hiv], by rw [hiv] at hA; exact hA⟩, u_d⟩

/-- the log of entries -/
def logP (l : List Ent) : List UInt8 := if chkE l = 0 then bytesP (writeP l) else []
theorem writeP_len {l : List Ent} (h : chkE l = 0) : (writeP l).length ≤ 30000 ∧ 1 ≤ (writeP l).length := by
  have h1 := tapeP_len h
  have h2 := chkE_ok h
  have h3 := fsP_len (tapeP l)
  have h4 := nextF_len (fsP (tapeP l))
  have h5 := fillP_len (t := tapeP l)
  refine ⟨?_, h5.2⟩
  show (endF (nextF (fsP (tapeP l)))).length ≤ 30000
  unfold endF
  split
  · rw [List.length_append]; simp only [List.length_cons, List.length_nil]; omega
  · omega

theorem WriteLog_c (l : List Ent) (al : Option Addr) (bl ol cl : Nat) (w0 : World) (hl : Sl encEnt 6 w0 al bl ol l) (hll : l.length ≤ 1000000000) (hpos : 0 < w0.heap.size) :
    CallsV Tryz.prog 9 [.slice al l.length cl] w0 (fun v w' => (∃ a9 g9 c9, v = .tuple #[.slice a9 (logP l).length c9, .int .i64 (chkE l)] ∧ Acc encY 1 5 w0.heap.size w' a9 g9 c9 (logP l)) ∧ Ext w0 w') := by
 refine f_n func9 ?_
 refine go ?_
 refine x_c func29 rfl rfl (checkEntries_c l al bl ol cl _ hl (by omega)) ?_
 rintro _ w6 ⟨rfl, u7⟩ zu7
 refine go ?_
 refine q_p (fun g8 => ?_) fun g8 => ?_
 ·
  refine go ?_
  refine f_ret2 (v1 := .slice none 0 0) (v2 := .int .i64 (chkE l)) results9 rfl rfl ?_
  exact ⟨⟨none, 0, 0, by unfold logP; rw [if_neg (by omega)]; rfl, by unfold logP; rw [if_neg (by omega)]; exact Acc.nil _ _ _ _ _ hpos (by omega)⟩, u_d⟩
 have hok0 : chkE l = 0 := by omega
 have hwl := writeP_len hok0
 refine go ?_
 refine x_c func30 rfl rfl (write_c l al bl ol cl _ (hl.keep ((Upd.refl (fun _ => False) w0).nx u7) (fun _ h => h)) hok0) ?_
 rintro _ w15 ⟨⟨ar13, gr13, cr13, rfl, hFr13⟩, u16⟩ zu16
 have lt_gr13 := hFr13.lt
 refine x_c func31 rfl rfl (bytes_c (writeP l) ar13 gr13 0 cr13 _ (hFr13.sl encBk_len) (by omega) (by omega)) ?_
 rintro _ w21 ⟨⟨ay19, gy19, cy19, rfl, hFy19⟩, u22⟩ zu22
 have lt_gy19 := hFy19.lt
 refine go ?_
 refine f_ret2 (v1 := .slice ay19 ((bytesP (writeP l)).length) cy19) (v2 := .int .i64 0) results9 rfl rfl ?_
 have hlg : logP l = bytesP (writeP l) := by unfold logP; rw [if_pos hok0]
 exact ⟨⟨ay19, gy19, cy19, by rw [hlg, hok0], by rw [hlg]; exact Acc.lowP hFy19 (by rw [bytesP_len]; omega) (by omega)⟩, u_d⟩

end Go.Proofs.YtagmkfbbhfaceaaGreatDoor
namespace Go.Proofs.YtagmkfbbhfaceaaGreatDoor
open Go Go.RowKit
/-- A slice in memory, what it holds. -/
structure Hl (α : Type) where
  xs : List α
  ao : Option Addr
  g : Nat
  o : Nat
  cp : Nat
instance {α : Type} : Inhabited (Hl α) := ⟨⟨[], none, 0, 0, 0⟩⟩
theorem Acc.ge {α : Type} {enc : α → List Value} {k : Nat} {e : TypeId} {base : Nat} {w : World} {ao : Option Addr} {g cap : Nat} {xs : List α} (h : Acc enc k e base w ao g cap xs) (hp : 0 < xs.length) : base ≤ g := by
  rcases h.at_ with ⟨_, h1, _⟩ | ⟨_, h2, _⟩
  · subst h1; simp at hp
  · exact h2
theorem subAddr0 (ao : Option Addr) (cap k : Nat) : subAddr ao cap 0 k = ao := by
  unfold subAddr
  split
  · rfl
  · cases ao <;> simp [Addr.add]
section
variable {α : Type} [Inhabited α] {p : α → Bool} {l : List α} {j k : Nat}
end
section
variable {P : Program} {ops : Array Oper} {Q : Exit → Act → World → Prop} {N : Nat} {ds : List Deferred} {rest : List Oper} {L : Slots} {w : World} {rd : Option Nat} {d : Nat} {ty : TypeId} {pos : String} {aft : Array Edge} {g : Option (Nat × Bool)}
theorem WL.value0 {o : Oper} {v : Value} {w' : World} (hg : grd ops L o.guard = true) (hd : o.dst = none)
    (hr : ∀ a, Kn N ds L a → (execOp a.eval o).run P w = .ok (.value v) w') (h : WL rd P ops Q N ds rest L w') : WL rd P ops Q N ds (o :: rest) L w := by
  refine ⟨fun a ha => ?_⟩
  unfold wpListIn
  rw [if_pos (ha.wanted hg)]
  unfold Oper.wpIn
  refine ⟨fun f _ => rnd_fn _ f, ?_⟩
  rw [semAt_of_ok (by simp) (hr a ha), Oper.uponIn_value, hd]
  exact h _ ha
theorem zero_cells {z : Value} {k n : Nat} (hz : z.cells.size = k) : (Builtin.zeroCells z.cells n).toList.length = n * k := by simp [Builtin.zeroCells, hz]
theorem zero_one {z : Value} {n : Nat} (h1 : z.cells.toList.all Value.oneCell' = true) : ∀ u ∈ (Builtin.zeroCells z.cells n).toList, u.oneCell' = true := by
  intro u hu
  simp only [Builtin.zeroCells] at hu
  rw [Array.toList_map] at hu
  obtain ⟨q, hq, rfl⟩ := List.mem_map.1 hu
  simp only [Array.toList_range, List.mem_range] at hq
  have hpos : 0 < z.cells.size := by
    rcases Nat.eq_zero_or_pos z.cells.size with h | h
    · rw [h, Nat.mul_zero] at hq; omega
    · exact h
  have hlt : q % z.cells.size < z.cells.size := Nat.mod_lt _ hpos
  have : z.cells[q % z.cells.size]! = z.cells[q % z.cells.size] := by simp [hlt]
  rw [this]
  exact List.all_eq_true.1 h1 _ (by rw [← Array.getElem_toList hlt]; exact List.getElem_mem _)
/-- clear(s[i:]) of a slice of the call's own. -/
theorem t_clear {α : Type} {enc : α → List Value} {k : Nat} {t e : TypeId} {z : Value} {base : Nat} {x : Operand} {ao : Option Addr} {gb cap i n c : Nat} {xs : List α} {ats : Array TypeId}
    (hu : P.underlying t = some (.slice e)) (ht : ats = #[t]) (hv : ∀ w, (zeroValue e).run P w = .ok z w) (hz : z.cells.size = k) (h1 : z.cells.toList.all Value.oneCell' = true) (hk : ∀ x, (enc x).length = k)
    (hg : grd ops L g = true) (hx : ev L x = some (.slice (subAddr ao cap i k) n c)) (hn : n = xs.length - i) (hi : i ≤ xs.length) (ha : Acc enc k e base w ao gb cap xs)
    (h : ∀ w', w'.heap.size = w.heap.size → Acc enc k e base w' ao gb cap (xs.take i) → Upd (fun j => j = gb ∧ base ≤ j) w w' → WL rd P ops Q N ds rest L w') :
    WL rd P ops Q N ds (⟨none, .call ⟨.builtin .clear, #[x], ats⟩, ty, pos, aft, g⟩ :: rest) L w := by
  subst ht hn
  have hsame : xs.length - i = 0 → WL rd P ops Q N ds (⟨none, .call ⟨.builtin .clear, #[x], #[t]⟩, ty, pos, aft, g⟩ :: rest) L w := fun h0 => by
    have e1 : xs.take i = xs := List.take_of_length_le (by omega)
    refine WL.value0 (v := .tuple #[]) (w' := w) hg rfl (fun a hk => ?_) (h w rfl (by rw [e1]; exact ha) (Upd.refl _ _))
    rw [h0] at hx
    simp only [execOp, resolve, invoke, builtin]
    cases hs : subAddr ao cap i k <;> rw [hs] at hx <;> simp [hk.ev hx, Builtin.clear_, run_underlying hu]
  rcases Nat.eq_zero_or_pos (xs.length - i) with h0 | hp
  · exact hsame h0
  rcases ha.at_ with ⟨_, h2, _⟩ | ⟨h2, h3, cur, h4, h5, h6, h7, h8⟩
  · subst h2; simp at hp
  subst h2
  have hB : Blk w gb e cur.toList := by unfold Blk; rw [h4]
  have hlen := flatMap_len hk xs
  have hzl := zero_cells (n := xs.length - i) hz
  have hcl : cur.toList.length = cap * k := by rw [Array.length_toList]; exact h7
  have hmul : i * k + (xs.length - i) * k = xs.length * k := by rw [← Nat.add_mul]; congr 1; omega
  have hcm : xs.length * k ≤ cap * k := Nat.mul_le_mul_right k h5
  have hsub : subAddr (some ⟨gb, 0, none⟩) cap i k = some ⟨gb, i * k, none⟩ := by rw [subAddr_some (by omega), Nat.zero_add]
  rw [hsub] at hx
  obtain ⟨w', hr, hB', hU, hs⟩ := run_storeCells (P := P) (Builtin.zeroCells z.cells (xs.length - i)).toList w cur.toList (i * k) 0 hB (by rw [hzl, hcl]; omega) (zero_one h1)
  refine WL.value0 (v := .tuple #[]) (w' := w') hg rfl (fun a hk => ?_) (h w' hs ⟨by rw [hs]; exact ha.lt, .inr ⟨rfl, h3, (lay cur.toList (i * k) (Builtin.zeroCells z.cells (xs.length - i)).toList).toArray, ?_, ?_, h6, ?_, ?_⟩⟩ (hU.mono fun j hj => ⟨hj, by omega⟩))
  · obtain ⟨m, hm⟩ : ∃ m, xs.length - i = m + 1 := ⟨xs.length - i - 1, by omega⟩
    rw [hm] at hx hr
    simp only [execOp, resolve, invoke, builtin]
    simp [hk.ev hx, Builtin.clear_, run_underlying hu, hv, hr]
  · have := hB'
    unfold Blk at this
    simpa using this
  · rw [List.length_take]; omega
  · simp only [List.size_toArray, lay_length, Array.length_toList]; exact h7
  · rw [List.length_take, Nat.min_eq_left hi, lay_ov _ _ _ (by rw [hzl, hcl]; omega)]
    have e1 : (i * k) ≤ cur.toList.length := by rw [Array.length_toList, h7]; omega
    rw [List.append_assoc, List.take_append_of_le_length (by rw [List.length_take]; omega), List.take_take, Nat.min_self]
    have e2 : cur.toList.take (i * k) = (cur.toList.take (xs.length * k)).take (i * k) := by rw [List.take_take, Nat.min_eq_left (by omega)]
    rw [e2, h8]
    have e3 : xs.flatMap enc = (xs.take i).flatMap enc ++ (xs.drop i).flatMap enc := by rw [← List.flatMap_append, List.take_append_drop]
    rw [e3, List.take_left' (by rw [flatMap_len hk, List.length_take, Nat.min_eq_left hi])]
end
end Go.Proofs.YtagmkfbbhfaceaaGreatDoor
