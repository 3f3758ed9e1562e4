/-
  Part 16 of the proof: contracts and plain laws. Conditions: none.
-/
import Derived.Test.YtjdcpnaocjddoaaGreatDoorFK15
namespace Go.Proofs.YtjdcpnaocjddoaaGreatDoor
open Go Go.RowKit
/-! ### a decoder's results -/
def okD (i len : Nat) (R : Int × Int × Int) : Prop := R.2.2 = 0 → (0 ≤ R.1 ∧ R.1 ≤ 1000000000) ∧ (i : Int) < R.2.1 ∧ R.2.1 ≤ (i : Int) + (len : Int)
theorem decG_ok : ∀ (l : List UInt8) (z : Nat) (lf n : Int) (i : Nat), (0 ≤ lf → 1 ≤ lf ∧ 1 ≤ n) → okD i l.length (decG z lf n i l)
  | [], _, _, _, _, _ => fun e => by cases e
  | c :: r, z, lf, n, i, h => by
    have ih : ∀ (z : Nat) (lf n : Int), (0 ≤ lf → 1 ≤ lf ∧ 1 ≤ n) → okD i (r.length + 1) (decG z lf n (i + 1) r) := fun z lf n h e => by
      have := decG_ok r z lf n (i + 1) h e
      omega
    rw [List.length_cons]
    unfold decG
    split
    · intro e; cases e
    · rename_i hc
      split
      · split
        · intro e; cases e
        · exact ih _ _ _ h
      · split
        · rename_i h1
          split
          · intro _
            exact ⟨⟨Int.le_refl 0, (by show (0 : Int) ≤ 1000000000; decide)⟩, (by show (i : Int) < (i : Int) + 1; omega), (by show (i : Int) + 1 ≤ (i : Int) + ((r.length + 1 : Nat) : Int); omega)⟩
          · exact ih z z 1 (fun _ => ⟨by omega, by decide⟩)
        · rename_i h1
          have hb : 0 ≤ (c.toNat : Int) - 48 := by
            by_cases q : c = 48
            · subst q; decide
            · by_cases q2 : c = 49
              · subst q2; decide
              · exact absurd ⟨q, q2⟩ hc
          have h2 := h (by omega)
          split
          · split
            · intro e; cases e
            · intro _
              exact ⟨⟨(by show 0 ≤ 2 * n + ((c.toNat : Int) - 48) - 1; omega), (by show 2 * n + ((c.toNat : Int) - 48) - 1 ≤ 1000000000; omega)⟩, (by show (i : Int) < (i : Int) + 1; omega), (by show (i : Int) + 1 ≤ (i : Int) + ((r.length + 1 : Nat) : Int); omega)⟩
          · exact ih z (lf - 1) _ (fun _ => ⟨by omega, by omega⟩)
theorem decP_ok {l : List UInt8} (h : (decP l).2.2 = 0) : (0 ≤ (decP l).1 ∧ (decP l).1 ≤ 1000000000) ∧ 0 < (decP l).2.1 ∧ (decP l).2.1 ≤ (l.length : Int) := by
  have := decG_ok l 0 (-1) 0 0 (fun h => absurd h (by decide)) h
  unfold decP
  omega
/-! ### a log is parsed -/
/-- what is left of a tape, and whether it broke off -/
structure Scr where
  r : List UInt8
  b : Bool
instance : Inhabited Scr := ⟨⟨[], false⟩⟩
def cdV (s : Scr) : Int := if (decP s.r).2.2 = 0 then (decP s.r).1 else 0
def cdS (s : Scr) : Scr := if (decP s.r).2.2 = 0 then ⟨s.r.drop (decP s.r).2.1.toNat, s.b⟩ else ⟨s.r, true⟩
def d48 (c : UInt8) : Int := (c.toNat : Int) - 48
def knd (s : Scr) : Int := 1 + 2 * d48 (nth s.r 0) + d48 (nth s.r 1)
def s2_ (s : Scr) : Scr := ⟨s.r.drop 2, s.b⟩
/-- an entry is parsed, m minutes being said -/
def entV (s : Scr) (m : Int) : Ent :=
  if s.r.length < 2 then ⟨0, 0, 0, 0, 0, 0⟩
  else if plK (knd s) then ⟨m + cdV (s2_ s), knd s, 1 + cdV (cdS (s2_ s)), cdV (cdS (cdS (s2_ s))), 0, 0⟩
  else ⟨m + cdV (s2_ s), knd s, 1 + cdV (cdS (s2_ s)), 0, 1 + cdV (cdS (cdS (s2_ s))), 1 + cdV (cdS (cdS (cdS (s2_ s))))⟩
def entS (s : Scr) : Scr :=
  if s.r.length < 2 then ⟨s.r, true⟩
  else if plK (knd s) then cdS (cdS (cdS (s2_ s))) else cdS (cdS (cdS (cdS (s2_ s))))
def parN : Nat → Scr → Int → List Ent → List Ent × Scr
  | 0, s, _, E => (E, s)
  | n + 1, s, m, E => if s.b = true then (E, s) else parN n (entS s) (entV s m).m (E ++ [entV s m])
/-- the entries of a tape, and whether it broke off -/
def parP (t : List UInt8) : List Ent × Scr := parN (cdV ⟨t, false⟩ + 1).toNat (cdS ⟨t, false⟩) 0 []
def bitL (l : List UInt8) : Prop := ∀ c ∈ l, c = 48 ∨ c = 49
theorem cdV_r (s : Scr) : 0 ≤ cdV s ∧ cdV s ≤ 1000000000 := by
  unfold cdV
  split
  · rename_i h; exact (decP_ok h).1
  · decide
theorem cdS_r (s : Scr) : (cdS s).r.length ≤ s.r.length ∧ ((cdS s).b = false → s.b = false) ∧ (bitL s.r → bitL (cdS s).r) := by
  unfold cdS
  split
  · exact ⟨by show (s.r.drop _).length ≤ _; rw [List.length_drop]; omega, fun h => h, fun h c hc => h c (List.mem_of_mem_drop hc)⟩
  · exact ⟨Nat.le_refl _, (fun h => by cases h), fun h => h⟩
theorem bit_nth {l : List UInt8} (h : bitL l) {i : Nat} (hi : i < l.length) : 0 ≤ d48 (nth l i) ∧ d48 (nth l i) ≤ 1 := by
  have h9 : nth l i = 48 ∨ nth l i = 49 := h _ (nth_mem hi)
  unfold d48
  rcases h9 with e | e <;> rw [e] <;> decide
theorem entS_r (s : Scr) : (entS s).r.length ≤ s.r.length ∧ (2 ≤ s.r.length → (entS s).r.length + 2 ≤ s.r.length) ∧ (s.r.length < 2 → (entS s).b = true) ∧ (bitL s.r → bitL (entS s).r) := by
  unfold entS
  split
  · rename_i h; exact ⟨Nat.le_refl _, fun h2 => by omega, fun _ => rfl, fun h => h⟩
  · rename_i h
    have e0 : (s2_ s).r.length + 2 = s.r.length := by show (s.r.drop 2).length + 2 = _; rw [List.length_drop]; omega
    have b0 : bitL s.r → bitL (s2_ s).r := fun h c hc => h c (List.mem_of_mem_drop hc)
    have h1 := cdS_r (s2_ s)
    have h2 := cdS_r (cdS (s2_ s))
    have h3 := cdS_r (cdS (cdS (s2_ s)))
    have h4 := cdS_r (cdS (cdS (cdS (s2_ s))))
    split
    · exact ⟨by omega, fun _ => by omega, fun q => absurd q h, fun q => h3.2.2 (h2.2.2 (h1.2.2 (b0 q)))⟩
    · exact ⟨by omega, fun _ => by omega, fun q => absurd q h, fun q => h4.2.2 (h3.2.2 (h2.2.2 (h1.2.2 (b0 q))))⟩
theorem entV_m (s : Scr) (m : Int) (h0 : 0 ≤ m) : 0 ≤ (entV s m).m ∧ (entV s m).m ≤ m + 1000000000 := by
  have := cdV_r (s2_ s)
  unfold entV
  split
  · exact ⟨Int.le_refl 0, by show (0 : Int) ≤ _; omega⟩
  · split
    · exact ⟨by show 0 ≤ m + _; omega, by show m + _ ≤ m + _; omega⟩
    · exact ⟨by show 0 ≤ m + _; omega, by show m + _ ≤ m + _; omega⟩
theorem parN_stop {n : Nat} {s : Scr} {m : Int} {E : List Ent} (h : s.b = true) : parN n s m E = (E, s) := by
  cases n with
  | zero => rfl
  | succ n => show (if _ then _ else _) = _; rw [if_pos h]
theorem parN_step {n : Nat} {s : Scr} {m : Int} {E : List Ent} (h : s.b = false) : parN (n + 1) s m E = parN n (entS s) (entV s m).m (E ++ [entV s m]) := by
  show (if _ then _ else _) = _
  rw [if_neg (by rw [h]; decide)]
/-- the digits of a log's data -/
def tapG (v : List Bk) (n k : Nat) : List UInt8 := if k = gL n k then [] else digs ((nth v k).l.take 30)
def tapB (v : List Bk) : Nat → List UInt8
  | 0 => []
  | k + 1 => tapB v k ++ tapG v v.length k
theorem digs_bits (l : List UInt8) : bitL (digs l) := fun c hc => by
  unfold digs at hc
  obtain ⟨x, _, hx⟩ := List.mem_flatMap.1 hc
  exact putP_bits _ _ c hx
theorem tapG_len (v : List Bk) (n k : Nat) : (tapG v n k).length ≤ 240 ∧ bitL (tapG v n k) := by
  unfold tapG
  split
  · exact ⟨by decide, fun c hc => by cases hc⟩
  · exact ⟨by rw [digs_len, blk30]; decide, digs_bits _⟩
theorem tapB_len (v : List Bk) : ∀ k, (tapB v k).length ≤ 240 * k ∧ bitL (tapB v k)
  | 0 => ⟨by show (0 : Nat) ≤ 0; exact Nat.le_refl _, fun c hc => by cases hc⟩
  | k + 1 => by
    have h1 := tapB_len v k
    have h2 := tapG_len v v.length k
    refine ⟨?_, fun c hc => ?_⟩
    · show (tapB v k ++ tapG v v.length k).length ≤ _
      rw [List.length_append]; omega
    · rcases List.mem_append.1 hc with h | h
      · exact h1.2 c h
      · exact h2.2 c h
/-- what the readers return -/
def readR (b : List UInt8) : List Ent × Int × Int :=
  if opE b ≠ 0 then ([], 0, opE b)
  else match badP (opP b) with
    | k :: _ => ([], (k : Int), 121)
    | [] => if (parP (tapB (opP b) (opP b).length)).2.b = true ∨ chkE (parP (tapB (opP b) (opP b).length)).1 ≠ 0 ∨ writeP (parP (tapB (opP b) (opP b).length)).1 ≠ opP b then ([], 0, 4)
      else ((parP (tapB (opP b) (opP b).length)).1, 0, 0)
theorem bytesP_inj {u v : List Bk} (h : bytesP u = bytesP v) : u = v := by
  have hl := congrArg List.length h
  rw [bytesP_len, bytesP_len] at hl
  have e1 := blksP_of u
  have e2 := blksP_of v
  rw [← e1, ← e2, h, show u.length = v.length by omega]
/-- the first unsound block -/
theorem badP_head {v : List Bk} {k : Nat} (hk : k < v.length) (hb : badB v k = true) (hn : ∀ i, i < k → badB v i = false) : ∃ r, badP v = k :: r := by
  have h1 : (List.range k).filter (badB v) = [] := List.filter_eq_nil_iff.2 fun i hi => by rw [hn i (List.mem_range.1 hi)]; decide
  obtain ⟨d, hd⟩ : ∃ d, v.length = (k + 1) + d := ⟨v.length - (k + 1), by omega⟩
  refine ⟨((List.range d).map (fun x => k + 1 + x)).filter (badB v), ?_⟩
  unfold badP
  rw [hd, List.range_add, List.filter_append, filter_succ, h1, if_pos hb]; rfl
theorem badP_nil {v : List Bk} (hn : ∀ i, i < v.length → badB v i = false) : badP v = [] := by
  unfold badP
  exact List.filter_eq_nil_iff.2 fun i hi => by rw [hn i (List.mem_range.1 hi)]; decide

end Go.Proofs.YtjdcpnaocjddoaaGreatDoor
namespace Go.Proofs.YtjdcpnaocjddoaaGreatDoor
open Go Go.RowKit Go.Proofs.Tryz
theorem Sl.subTo {α : Type} [Inhabited α] {enc : α → List Value} {k : Nat} {w : World} {ao : Option Addr} {b o : Nat} {xs : List α} (h : Sl enc k w ao b o xs) (cap n : Nat) (hc : xs.length ≤ cap) : Sl enc k w (subAddr ao cap 0 k) b o (xs.take n) := by
  have := h.sub cap 0 n hc
  simpa using this

theorem eqI_c (xs : List Int) (aa : Option Addr) (ba oa ca : Nat) (ab : Option Addr) (bb ob cb : Nat) (w0 : World) (ha : Sl encI 1 w0 aa ba oa xs) (hb : Sl encI 1 w0 ab bb ob xs) (hxl : xs.length ≤ 1000000) :
    CallsV Tryz.prog 33 [.slice aa xs.length ca, .slice ab xs.length cb] w0 (fun v w' => v = .bool true ∧ Ext w0 w') := by
 refine f_n func33 ?_
 iterate 13 refine st1 ?_
 refine t_samehd (v := .bool false) (by simp) ?_
 refine go ?_
 refine x_l1 (fun _ => False) [0, 1] (fun (j : Nat) => [(5, .int .i64 (j : Int))]) (fun j w => (j ≤ xs.length)) (fun j => xs.length - j) 0 (Nat.zero_le _) ?_
 rintro j w7 hj u8 zu8 K6 hK6
 refine go ?_
 refine q_p (fun g14 => ?_) fun g14 => ?_
 ·
  refine go ?_
  refine c_drawnM follows (fun _ => False) (OTl [0, 2, 4, 6, 8, 10, 12, 14, 16]) (by kernel_rfl) fun w14 u15 => ?_
  have zu15 := u15.size
  have E16 := Sc.mk (((Upd.refl (fun _ => False) w0).nx u8).nx u15)
  refine go ?_
  refine y_i j (ha.keep E16.u (fun _ h => h)) (fun _ => ?_)
  refine go ?_
  refine y_i j (hb.keep E16.u (fun _ h => h)) (fun _ => ?_)
  iterate 2 refine st1 ?_
  refine y_samehd (v := .bool false) (by simp) ?_
  refine go ?_
  exact hK6 (j + 1) (by omega)
 refine go ?_
 refine f_1 results33 ?_
 exact ⟨rfl, u_d⟩

end Go.Proofs.YtjdcpnaocjddoaaGreatDoor
namespace Go.Proofs.YtjdcpnaocjddoaaGreatDoor
open Go Go.RowKit Go.Proofs.Tryz
theorem own76 : Own Tryz.prog 76 := ⟨Tryz.f76, func76, by kernel_rfl, by kernel_rfl⟩

theorem length_c (xs : List UInt8) (ab : Option Addr) (cb : Nat) (w0 : World) (hxl : xs.length ≤ 1000000000) :
    CallsV Tryz.prog 74 [.slice ab xs.length cb] w0 (fun v w' => v = .int .i64 (opE xs) ∧ Ext w0 w') := by
 refine f_n func74 ?_
 refine go ?_
 refine t_quo rfl rfl rfl rfl (by omega) (by omega) (t_same 6 (v := .int .i64 ((xs.length / 32 : Nat) : Int)) rfl (congrArg (Value.int .i64) (by omega)) ?_)
 iterate 4 refine st1 ?_
 refine x_k1 (fun _ => False) [3] (fun (z9 : Bool) => [(19, .bool z9)]) (fun z9 w => (z9 = decide (xs.length % 32 ≠ 0 ∨ xs.length / 32 < 2 ∨ xs.length / 32 % 5 = 1))) (fun K8 hK8 => ?_) ?_
 ·
  refine go ?_
  refine t_rem rfl rfl rfl rfl (by omega) (by omega) ?_
  refine go ?_
  refine t_splitp 11 rfl (fun g11 => ?_) (fun g11 => ?_)
  ·
   refine go ?_
   exact hK8 true (by first | exact (decide_eq_false (by omega)).symm | exact (decide_eq_true (by omega)).symm | exact decide_eq_decide.2 (by omega))
  refine go ?_
  refine t_splitp 15 rfl (fun g15 => ?_) (fun g15 => ?_)
  ·
   refine go ?_
   exact hK8 true (by first | exact (decide_eq_false (by omega)).symm | exact (decide_eq_true (by omega)).symm | exact decide_eq_decide.2 (by omega))
  refine go ?_
  refine t_rem rfl rfl rfl rfl (by omega) (by omega) ?_
  refine go ?_
  exact hK8 (decide ((((xs.length / 32 : Nat) : Int) % 5) = 1)) (by first | exact (decide_eq_false (by omega)).symm | exact (decide_eq_true (by omega)).symm | exact decide_eq_decide.2 (by omega))
 rintro z9 w9 hz9 u10 zu10
 refine q_b (fun g19 => ?_) fun g19 => ?_
 ·
  have hzb : (xs.length % 32 ≠ 0 ∨ xs.length / 32 < 2 ∨ xs.length / 32 % 5 = 1) := by rw [hz9] at g19; exact of_decide_eq_true g19
  refine go ?_
  refine f_1 results74 ?_
  exact ⟨by unfold opE; rw [if_pos hzb], u_d⟩
 have hzb : ¬ (xs.length % 32 ≠ 0 ∨ xs.length / 32 < 2 ∨ xs.length / 32 % 5 = 1) := by rw [hz9] at g19; exact of_decide_eq_false g19
 refine go ?_
 refine q_p (fun g21 => ?_) fun g21 => ?_
 ·
  refine go ?_
  refine f_1 results74 ?_
  exact ⟨by unfold opE; rw [if_neg hzb, if_pos (by omega)], u_d⟩
 refine go ?_
 refine f_1 results74 ?_
 exact ⟨by unfold opE; rw [if_neg hzb, if_neg (by omega)], u_d⟩

theorem opP_nth {xs : List UInt8} {k : Nat} (h0 : opE xs = 0) (hk : k < xs.length / 32) : (nth (opP xs) k).l = (xs.drop (32 * k)).take 32 := by
  have hok := opE_ok h0
  unfold opP
  rw [if_pos h0]
  have e : nth (blksP xs (xs.length / 32)) k = mk32 (ckP xs k) := by
    unfold blksP
    rw [nth_eq (by rw [List.length_map, List.length_range]; exact hk), List.getElem_map, List.getElem_range]
  rw [e, mk32_l (ckP_len hok.1 hk)]; rfl
theorem snd_same {b : List UInt8} {k : Nat} (h : b.length = 32) : (((mkB (b.take 30)).shutB k).l = b) ↔ b.drop 30 = chkP b k := by
  have e : ((mkB (b.take 30)).shutB k).l = b.take 30 ++ chkP b k := by
    show sealL (mkB (b.take 30)).l k = _
    unfold sealL
    have h1 := (mkB_take (x := b.take 30) (by rw [List.length_take]; omega)).1
    rw [h1, chkP_take (a := (mkB (b.take 30)).l) (b := b) k h1]
  rw [e]
  constructor
  · intro h9
    have := congrArg (List.drop 30) h9
    rw [List.drop_append_of_le_length (by rw [List.length_take]; omega), List.drop_of_length_le (by rw [List.length_take]; omega), List.nil_append] at this
    exact this.symm
  · intro h9; rw [← h9, List.take_append_drop]

theorem soundR_c (xs : List UInt8) (ab : Option Addr) (bb ob cb : Nat) (k : Nat) (w0 : World) (hs : Sl encY 1 w0 ab bb ob xs) (hcb : xs.length ≤ cb) (hxl : xs.length ≤ 1000000) (hpos : 0 < w0.heap.size) (hE0 : opE xs = 0) (hk : k < xs.length / 32) :
    CallsV Tryz.prog 75 [.slice ab xs.length cb, .int .i64 (k : Int)] w0 (fun v w' => v = .bool (decide ((nth (opP xs) k).l.drop 30 = chkP (nth (opP xs) k).l k)) ∧ Ext w0 w') := by
 have hok := opE_ok hE0
 have h32 : ((xs.drop (32 * k)).take 32).length = 32 := by rw [List.length_take, List.length_drop]; omega
 have h30 : (((xs.drop (32 * k)).take 32).take 30).length = 30 := by rw [List.length_take]; omega
 refine f_n func75 ?_
 refine go ?_
 refine t_sliceM ((32 * k)) (32) underlying25 sizeOf5 rfl rfl rfl rfl rfl (by omega) (by omega) (by omega) (t_same 12 (v := .slice (subAddr ab cb (32 * k) 1) (((xs.drop (32 * k)).take 32).length) (cb - (32 * k))) rfl (by rw [h32]) ?_)
 refine go ?_
 refine t_sliceTo (30) underlying25 sizeOf5 rfl rfl rfl rfl (by omega) (by omega) (t_same 14 (v := .slice (subAddr (subAddr ab cb (32 * k) 1) (cb - (32 * k)) 0 1) ((((xs.drop (32 * k)).take 32).take 30).length) (cb - (32 * k))) rfl (by rw [h30]) ?_)
 refine go ?_
 refine x_c func55 rfl rfl (rBlock_c (((((xs).drop (32 * k)).take 32)).take 30) (subAddr (subAddr ab cb (32 * k) 1) (cb - (32 * k)) 0 1) bb (ob + (32 * k) * 1) (cb - (32 * k)) k _ (Sl.subTo (hs.sub cb (32 * k) 32 (by omega)) (cb - (32 * k)) 30 (by omega)) h30 (by omega) (by omega)) ?_
 rintro _ w6 ⟨⟨ak4, gk4, ck4, rfl, hFk4⟩, u7⟩ zu7
 have lt_gk4 := hFk4.lt
 refine go ?_
 refine x_c func18 rfl rfl (rSame_c (((mkB (((((xs).drop (32 * k)).take 32)).take 30)).shutB k).l) (((xs).drop (32 * k)).take 32) ak4 gk4 0 ck4 (subAddr ab cb (32 * k) 1) bb (ob + (32 * k) * 1) (cb - (32 * k)) _ (hFk4.sl (fun _ => rfl)) ((hs.keep ((Upd.refl (fun _ => False) w0).nx u7) (fun _ h => h)).sub cb (32 * k) 32 (by omega)) (by rw [Bk.h]; decide)) ?_
 rintro _ w11 ⟨rfl, u12⟩ zu12
 refine go ?_
 refine f_1 results75 ?_
 have hsi := snd_same (k := k) h32
 exact ⟨congrArg Value.bool (decide_eq_decide.2 (by rw [hsi, opP_nth hE0 hk])), u_d⟩

end Go.Proofs.YtjdcpnaocjddoaaGreatDoor
namespace Go.Proofs.YtjdcpnaocjddoaaGreatDoor
open Go Go.RowKit Go.Proofs.Tryz
theorem rnext_c (t : List UInt8) (p : Nat) (s : Scr) (bs : Nat) (w0 : World) (hS : Blk w0 bs 140 [.string (strB t), .int .i64 (p : Int), .bool s.b]) (hp : t.drop p = s.r) (hpl : p ≤ t.length) (htl : t.length ≤ 1000000) :
    CallsV Tryz.prog 76 [.pointer (some ⟨bs, 0, none⟩)] w0 (fun v w' => ∃ p' : Nat, v = .int .i64 (cdV s) ∧ Blk w' bs 140 [.string (strB t), .int .i64 (p' : Int), .bool (cdS s).b] ∧ t.drop p' = (cdS s).r ∧ p' ≤ t.length ∧ Upd (fun i => i = bs) w0 w') := by
 have lt_bs := hS.lt
 have hsl : s.r.length ≤ 1000000 := by rw [← hp, List.length_drop]; omega
 refine f_n func76 ?_
 refine go ?_
 refine c_drawnM follows (fun _ => False) (OTl [0, 2, 4, 6, 8, 10, 12, 14, 16, 19, 20, 22, 24, 26, 28, 30, 32]) (by kernel_rfl) fun w3 u4 => ?_
 have zu4 := u4.size
 refine go ?_
 refine y_subS p t.length underlying9 rfl rfl rfl (.inl ⟨rfl, rfl, by first | rfl | omega⟩) (.inr ⟨rfl, rfl⟩) (k' := .i64) (n := 0) (x2 := .tmp 0) (by omega) (by omega) (y_same 15 (v := .string (strB s.r)) rfl (congrArg (fun z => Value.string (strB z)) (by rw [List.take_of_length_le (by rw [List.length_drop]; exact Nat.le_refl _), hp])) ?_)
 refine go ?_
 refine x_c func27 rfl rfl (rDecode_c s.r _ (by omega)) ?_
 rintro _ w7 ⟨rfl, u8⟩ zu8
 refine go ?_
 refine q_p (fun g21 => ?_) fun g21 => ?_
 ·
  have hdz : ¬ (decP s.r).2.2 = 0 := by omega
  have hcs : cdS s = ⟨s.r, true⟩ := by unfold cdS; rw [if_neg hdz]
  have hcv : cdV s = 0 := by unfold cdV; rw [if_neg hdz]
  refine go ?_
  refine x_s fun w14 sw14 B16 u15 => ?_
  refine go ?_
  refine f_1 results76 ?_
  rw [hcs, hcv]
  exact ⟨p, rfl, B16, hp, hpl, u_d⟩
 have hdz : (decP s.r).2.2 = 0 := by omega
 have hdo := decP_ok hdz
 have hcs : cdS s = ⟨s.r.drop (decP s.r).2.1.toNat, s.b⟩ := by unfold cdS; rw [if_pos hdz]
 have hcv : cdV s = (decP s.r).1 := by unfold cdV; rw [if_pos hdz]
 obtain ⟨u9, hu9⟩ : ∃ u : Nat, u = (decP s.r).2.1.toNat := ⟨_, rfl⟩
 have hrl := congrArg List.length hp
 rw [List.length_drop] at hrl
 iterate 10 refine st1 ?_
 refine t_same 30 (v := .int .i64 ((p + u9 : Nat) : Int)) rfl (congrArg (Value.int .i64) (by omega)) ?_
 refine go ?_
 refine x_s fun w20 sw20 B22 u21 => ?_
 refine go ?_
 refine f_1 results76 ?_
 rw [hcs, hcv]
 exact ⟨p + u9, rfl, B22, (by rw [← List.drop_drop, hp, hu9]), (by omega), u_d⟩

end Go.Proofs.YtjdcpnaocjddoaaGreatDoor
namespace Go.Proofs.YtjdcpnaocjddoaaGreatDoor
open Go Go.RowKit Go.Proofs.Tryz
theorem kindP_4 {k : Int} {s2 s3 : List UInt8} (_ : s2 = if k = 2 then [48, 49] else [48, 48]) (_ : s3 = if k = 3 then [49, 48] else s2) (h : k = 4) : ([49, 49] : List UInt8) = putP (k - 1).toNat 2 := by subst h; rfl
theorem kindP_n {k : Int} {s2 s3 : List UInt8} (h2 : s2 = if k = 2 then [48, 49] else [48, 48]) (h3 : s3 = if k = 3 then [49, 48] else s2) (hk : 1 ≤ k ∧ k ≤ 4) (h : ¬ k = 4) : s3 = putP (k - 1).toNat 2 := by
  subst h2 h3
  have : k = 1 ∨ k = 2 ∨ k = 3 := by omega
  rcases this with rfl | rfl | rfl <;> rfl

set_option maxHeartbeats 4000000 in
theorem rBits_c (l : List Ent) (al : Option Addr) (bl ol cl : Nat) (w0 : World) (hl : Sl encEnt 6 w0 al bl ol l) (hok0 : chkE l = 0) (hpos : 0 < w0.heap.size) :
    CallsV Tryz.prog 54 [.slice al l.length cl] w0 (fun v w' => (∃ a9 g9 c9, v = .slice a9 (List.length (bitsP l)) c9 ∧ Acc encStr 1 9 w0.heap.size w' a9 g9 c9 (bitsP l)) ∧ Ext w0 w') := by
 obtain ⟨hl1, hl2, hok⟩ := chkE_ok hok0
 refine f_n func54 ?_
 refine go ?_
 refine x_c func25 rfl rfl (by have h9 := rCode_c ((l.length : Int) - 1).toNat w0 (by omega); rw [Int.toNat_of_nonneg (by omega)] at h9; exact h9) ?_
 rintro _ w4 ⟨rfl, u5⟩ zu5
 refine x_l fun bk8 w9 ebk8 sbk8 B10 u11 => ?_
 refine go ?_
 refine x_l2 (fun i => i = bk8 ∨ w9.heap.size ≤ i) [0] (fun (j : Nat) (q : (Option Addr × Nat × Nat)) => [(3, .slice q.1 (((codeP ((l.length : Int) - 1).toNat) :: bitsG 0 (l.take j)).length) q.2.2), (4, .int .i64 (lastM 0 (l.take j))), (5, .int .i64 (j : Int))]) (fun j q w => (j ≤ l.length) ∧ (Acc encStr 1 9 bk8 w q.1 q.2.1 q.2.2 ((codeP ((l.length : Int) - 1).toNat) :: bitsG 0 (l.take j))) ∧ (q.2.1 = bk8 ∨ w9.heap.size ≤ q.2.1)) (fun j q => l.length - j) 0 (some ⟨bk8, 0, none⟩, bk8, 1) ⟨(Nat.zero_le _), (Acc.ofBlk (xs := [(codeP ((l.length : Int) - 1).toNat)]) encStr 1 (fun _ => rfl) B10 (Nat.le_refl _) (by simp)), (.inl rfl)⟩ ?_
 rintro j q w16 ⟨hj, hA, hgW⟩ u17 zu17 K15 hK15
 have lt_q_2_1 := hA.lt
 have hll := bitsP_len (l.take j) 0
 rw [List.length_take, Nat.min_eq_left hj] at hll
 have hgl := hA.lt
 have hLl : ((codeP ((l.length : Int) - 1).toNat) :: bitsG 0 (l.take j)).length = (bitsG 0 (l.take j)).length + 1 := List.length_cons
 refine go ?_
 refine q_p (fun g16 => ?_) fun g16 => ?_
 ·
  have hblt := hl.lt (by omega)
  obtain ⟨hx0, hasc⟩ := chkG_at hok (show j < l.length by omega)
  obtain ⟨x1, x2, x3, x4, x5, x6, x7⟩ := okEnt_iff hx0
  have hm0 : 0 ≤ (lastM 0 (l.take j)) := lastM_ge (chkG_take j hok)
  refine go ?_
  refine g_i j (hl.keep ((((Upd.refl (fun _ => False) w0).nx u5).nx u11).next u17 (fun i hi h => by omega)) (fun _ h => h)) (fun _ => ?_)
  refine go ?_
  refine x_n fun bk24 w25 ebk24 sbk24 B26 u27 => ?_
  refine x_s fun w29 sw29 B31 u30 => ?_
  iterate 7 refine st1 ?_
  refine x_k1 (fun _ => False) [0, 3, 4, 5, 6] (fun (s2 : List UInt8) => [(7, .string (strB s2))]) (fun s2 w => (s2 = if (nth l j).k = 2 then [48, 49] else [48, 48])) (fun K38 hK38 => ?_) ?_
  ·
   refine go ?_
   refine q_p (fun g25 => ?_) fun g25 => ?_
   ·
    refine go ?_
    exact hK38 ([48, 49]) (by rw [if_pos (by omega)])
   refine go ?_
   exact hK38 ([48, 48]) (by rw [if_neg (by omega)])
  rintro s2 w39 hs2 u40 zu40
  refine x_k1 (fun _ => False) [0, 3, 4, 5, 6] (fun (s3 : List UInt8) => [(7, .string (strB s3))]) (fun s3 w => (s3 = if (nth l j).k = 3 then [49, 48] else s2)) (fun K47 hK47 => ?_) ?_
  ·
   refine go ?_
   refine q_p (fun g28 => ?_) fun g28 => ?_
   ·
    refine go ?_
    exact hK47 ([49, 48]) (by rw [if_pos (by omega)])
   refine go ?_
   exact hK47 s2 (by rw [if_neg (by omega)])
  rintro s3 w48 hs3 u49 zu49
  refine x_k1 (fun _ => False) [0, 3, 4, 5, 6] (fun (z8 : Unit) => [(7, .string (strB (putP ((nth l j).k - 1).toNat 2)))]) (fun z8 w => True) (fun K56 hK56 => ?_) ?_
  ·
   refine go ?_
   refine q_p (fun g31 => ?_) fun g31 => ?_
   ·
    refine go ?_
    exact hK56 () trivial (hs := by exact ⟨(congrArg (fun z => some (Value.string (strB z))) (kindP_4 hs2 hs3 g31)), rfl, rfl, rfl, rfl, rfl, trivial⟩)
   refine go ?_
   exact hK56 () trivial (hs := by exact ⟨(congrArg (fun z => some (Value.string (strB z))) (kindP_n hs2 hs3 (by omega) g31)), rfl, rfl, rfl, rfl, rfl, trivial⟩)
  rintro z8 w57 _ u58 zu58
  refine go ?_
  refine c_drawnM follows (fun i => (i = q.2.1 ∧ bk8 ≤ i)) (OTl [0, 2, 4, 6, 8, 10, 14, 16, 18, 13, 21, 23, 25, 26]) (by kernel_rfl) fun w62 u63 => ?_
  have zu63 := u63.size
  refine go ?_
  refine x_c func25 rfl rfl (by have h9 := rCode_c (((nth l j).m) - (lastM 0 (l.take j))).toNat w62 (by omega); rw [Int.toNat_of_nonneg (by omega)] at h9; exact h9) ?_
  rintro _ w66 ⟨rfl, u67⟩ zu67
  refine go ?_
  refine x_c func25 rfl rfl (by have h9 := rCode_c (((nth l j).h) - 1).toNat w66 (by omega); rw [Int.toNat_of_nonneg (by omega)] at h9; exact h9) ?_
  rintro _ w71 ⟨rfl, u72⟩ zu72
  refine go ?_
  refine x_l fun bk75 w76 ebk75 sbk75 B77 u78 => ?_
  refine t_same 43 (v := .slice (some ⟨bk75, 0, none⟩) 3 3) rfl rfl ?_
  refine go ?_
  have D80 := (((((((((hA.keep u27 (fun _ h => h)).keep u30 (fun hb => show ¬ (q.2.1 = bk24) by first | omega | assumption)).keep u40 (fun _ h => h)).keep u49 (fun _ h => h)).keep u58 (fun _ h => h)).keep u63 (fun _ h => h)).keep u67 (fun _ h => h)).keep u72 (fun _ h => h)).keep u78 (fun _ h => h))
  refine t_appendAll (enc := encStr) (z := .string (strB ([]))) (bytes := 16) (k := 1) (base := bk8) (xs := ((codeP ((l.length : Int) - 1).toNat) :: bitsG 0 (l.take j))) (ys := [putP ((nth l j).k - 1).toNat 2, codeP ((nth l j).m - (lastM 0 (l.take j))).toNat, codeP ((nth l j).h - 1).toNat]) underlying105 (by kernel_rfl) rfl (by decide) (fun _ => rfl) (by intro x; simp [encStr, Value.oneCell']) rfl rfl rfl rfl D80 (SlStr.own (xs := [putP ((nth l j).k - 1).toNat 2, codeP ((nth l j).m - (lastM 0 (l.take j))).toNat, codeP ((nth l j).h - 1).toNat]) B77) (by omega) (by simp only [List.length_cons]; omega) (by simp only [List.length_cons, List.length_nil]; omega) (by decide) (fun ao81 gb82 cp83 w84 A85 u86 gegb82 lngb82 => ?_)
  have zu86 := u86.size
  have lt_gb82 := A85.lt
  iterate 5 refine st1 ?_
  refine x_k1 (fun _ => False) [0, 3, 5, 6] (fun (z9 : Bool) => [(52, .bool z9)]) (fun z9 w => (z9 = plK (nth l j).k)) (fun K93 hK93 => ?_) ?_
  ·
   refine go ?_
   refine t_splitp 48 rfl (fun g48 => ?_) (fun g48 => ?_)
   ·
    refine go ?_
    exact hK93 true (by unfold plK; first | exact (decide_eq_true (by omega)).symm | exact decide_eq_decide.2 (by omega) | exact (decide_eq_false (by omega)).symm)
   refine go ?_
   exact hK93 (decide ((nth l j).k = 3)) (by unfold plK; first | exact (decide_eq_true (by omega)).symm | exact decide_eq_decide.2 (by omega) | exact (decide_eq_false (by omega)).symm)
  rintro z9 w94 hz9 u95 zu95
  refine q_b (fun g52 => ?_) fun g52 => ?_
  ·
   have hk9 : ((nth l j).k = 1 ∨ (nth l j).k = 3) := by
     rw [hz9] at g52
     simpa [plK] using g52
   refine go ?_
   refine x_c func25 rfl rfl (by have h9 := rCode_c ((nth l j).p).toNat w94 (by omega); rw [Int.toNat_of_nonneg (by omega)] at h9; exact h9) ?_
   rintro _ w98 ⟨rfl, u99⟩ zu99
   refine x_l fun bk102 w103 ebk102 sbk102 B104 u105 => ?_
   have D107 := (((A85.keep u95 (fun _ h => h)).keep u99 (fun _ h => h)).keep u105 (fun _ h => h))
   refine t_append (z := .string (strB ([]))) (bytes := 16) (k := 1) (base := bk8) (codeP ((nth l j).p).toNat) underlying105 (by kernel_rfl) rfl (by decide) (fun _ => rfl) (by intro x; simp [encStr, Value.oneCell']) rfl rfl rfl rfl D107 B104 (by omega) (by simp only [List.length_append, List.length_cons, List.length_nil]; omega) (by decide) (fun ao108 gb109 cp110 w111 A112 u113 gegb109 lngb109 => ?_)
   have zu113 := u113.size
   have lt_gb109 := A112.lt
   refine go ?_
   have hst9 : ((codeP ((l.length : Int) - 1).toNat) :: bitsG 0 (l.take (j + 1))) = ((((codeP ((l.length : Int) - 1).toNat) :: bitsG 0 (l.take j)) ++ [putP ((nth l j).k - 1).toNat 2, codeP ((nth l j).m - (lastM 0 (l.take j))).toNat, codeP ((nth l j).h - 1).toNat]) ++ [(codeP ((nth l j).p).toNat)]) := (by rw [take_nth (by omega), bitsG_snoc]; unfold entB; rw [if_pos (by rw [← hz9]; exact g52)]; simp only [List.append_assoc, List.cons_append, List.nil_append])
   exact hK15 (j + 1) (ao108, gb109, cp110) ⟨(by omega), (by rw [hst9]; exact A112), (show gb109 = bk8 ∨ w9.heap.size ≤ gb109 by omega)⟩ (hs := by exact ⟨(by rw [hst9]; rfl), (congrArg (fun z => some (Value.int .i64 z)) (by rw [take_nth (by omega), lastM_snoc])), rfl, rfl, trivial⟩)
  have hk9 : ¬ ((nth l j).k = 1 ∨ (nth l j).k = 3) := by
    rw [hz9] at g52
    simpa [plK] using g52
  have x8 := x7 hk9
  refine c_drawnM follows (fun i => (i = gb82 ∧ bk8 ≤ i)) (OTl [0, 2, 4, 6, 10, 12, 14, 9, 17, 19, 21, 22]) (by kernel_rfl) fun w115 u116 => ?_
  have zu116 := u116.size
  refine go ?_
  refine x_c func25 rfl rfl (by have h9 := rCode_c (((nth l j).b) - 1).toNat w115 (by omega); rw [Int.toNat_of_nonneg (by omega)] at h9; exact h9) ?_
  rintro _ w119 ⟨rfl, u120⟩ zu120
  refine go ?_
  refine x_c func25 rfl rfl (by have h9 := rCode_c (((nth l j).t) - 1).toNat w119 (by omega); rw [Int.toNat_of_nonneg (by omega)] at h9; exact h9) ?_
  rintro _ w124 ⟨rfl, u125⟩ zu125
  refine go ?_
  refine x_l fun bk128 w129 ebk128 sbk128 B130 u131 => ?_
  refine t_same 68 (v := .slice (some ⟨bk128, 0, none⟩) 2 2) rfl rfl ?_
  refine go ?_
  have D133 := (((((A85.keep u95 (fun _ h => h)).keep u116 (fun _ h => h)).keep u120 (fun _ h => h)).keep u125 (fun _ h => h)).keep u131 (fun _ h => h))
  refine t_appendAll (enc := encStr) (z := .string (strB ([]))) (bytes := 16) (k := 1) (base := bk8) (xs := (((codeP ((l.length : Int) - 1).toNat) :: bitsG 0 (l.take j)) ++ [putP ((nth l j).k - 1).toNat 2, codeP ((nth l j).m - (lastM 0 (l.take j))).toNat, codeP ((nth l j).h - 1).toNat])) (ys := [codeP ((nth l j).b - 1).toNat, codeP ((nth l j).t - 1).toNat]) underlying105 (by kernel_rfl) rfl (by decide) (fun _ => rfl) (by intro x; simp [encStr, Value.oneCell']) rfl rfl rfl rfl D133 (SlStr.own (xs := [codeP ((nth l j).b - 1).toNat, codeP ((nth l j).t - 1).toNat]) B130) (by omega) (by simp only [List.length_append, List.length_cons, List.length_nil]; omega) (by simp only [List.length_cons, List.length_nil]; omega) (by decide) (fun ao134 gb135 cp136 w137 A138 u139 gegb135 lngb135 => ?_)
  have zu139 := u139.size
  have lt_gb135 := A138.lt
  refine go ?_
  have hst9 : ((codeP ((l.length : Int) - 1).toNat) :: bitsG 0 (l.take (j + 1))) = ((((codeP ((l.length : Int) - 1).toNat) :: bitsG 0 (l.take j)) ++ [putP ((nth l j).k - 1).toNat 2, codeP ((nth l j).m - (lastM 0 (l.take j))).toNat, codeP ((nth l j).h - 1).toNat]) ++ [codeP ((nth l j).b - 1).toNat, codeP ((nth l j).t - 1).toNat]) := (by rw [take_nth (by omega), bitsG_snoc]; unfold entB; rw [if_neg (by rw [← hz9, g52]; exact Bool.false_ne_true)]; simp only [List.append_assoc, List.cons_append, List.nil_append])
  exact hK15 (j + 1) (ao134, gb135, cp136) ⟨(by omega), (by rw [hst9]; exact A138), (show gb135 = bk8 ∨ w9.heap.size ≤ gb135 by omega)⟩ (hs := by exact ⟨(by rw [hst9]; rfl), (congrArg (fun z => some (Value.int .i64 z)) (by rw [take_nth (by omega), lastM_snoc])), rfl, rfl, trivial⟩)
 have hjt : l.take j = l := List.take_of_length_le (by omega)
 refine go ?_
 refine f_1 results54 ?_
 have hfin : ((codeP ((l.length : Int) - 1).toNat) :: bitsG 0 (l.take j)) = bitsP l := by rw [hjt]; rfl
 rw [hfin] at hA
 obtain ⟨gz, hz⟩ := Acc.lower (base' := w0.heap.size) hA (by omega) hpos
 exact ⟨⟨_, gz, _, by rw [hfin], hz⟩, u_d⟩

end Go.Proofs.YtjdcpnaocjddoaaGreatDoor
namespace Go.Proofs.YtjdcpnaocjddoaaGreatDoor
open Go Go.RowKit Go.Proofs.Tryz
theorem flat_mem {bs : List (List UInt8)} {x : List UInt8} (h : x ∈ bs) : x.length ≤ bs.flatten.length := by
  obtain ⟨a, b, rfl⟩ := List.append_of_mem h
  simp only [List.flatten_append, List.flatten_cons, List.length_append]; omega
theorem flat_take (bs : List (List UInt8)) (i : Nat) : (bs.take i).flatten.length ≤ bs.flatten.length := by
  conv => rhs; rw [← List.take_append_drop i bs, List.flatten_append, List.length_append]
  omega
theorem flat_take2 {bs : List (List UInt8)} {i : Nat} (h : i < bs.length) : (bs.take i).flatten.length + (nth bs i).length ≤ bs.flatten.length := by
  have h1 := flat_take bs (i + 1)
  rw [take_nth h, List.flatten_append, List.length_append] at h1
  simpa using h1

set_option maxHeartbeats 4000000 in
theorem rData_c (bs : List (List UInt8)) (ab : Option Addr) (bb ob cb : Nat) (w0 : World) (hs : Sl encStr 1 w0 ab bb ob bs) (hb : ∀ x ∈ bs, ∀ c ∈ x, c = 48 ∨ c = 49) (hT0 : 0 < bs.flatten.length) (hTl : bs.flatten.length ≤ 900000) (hbl : bs.length ≤ 1000000) (hpos : 0 < w0.heap.size) :
    CallsV Tryz.prog 53 [.slice ab bs.length cb] w0 (fun v w' => (∃ a9 g9 c9, v = .slice a9 (List.length (dataP bs.flatten)) c9 ∧ Acc encY 1 5 w0.heap.size w' a9 g9 c9 (dataP bs.flatten)) ∧ Ext w0 w') := by
 refine f_n func53 ?_
 refine go ?_
 refine x_l fun bk3 w4 ebk3 sbk3 B5 u6 => ?_
 refine go ?_
 refine x_l5 (fun i => i = bk3 ∨ w4.heap.size ≤ i) [0] (fun (i : Nat) (o1 : List UInt8) (q : (Option Addr × Nat × Nat)) (y : Nat) (m : Nat) => [(3, .slice q.1 o1.length q.2.2), (4, .int .i64 (y : Int)), (5, .int .i64 (m : Int)), (6, .int .i64 (i : Int))]) (fun i o1 q y m w => (i ≤ bs.length) ∧ (Acc encY 1 5 bk3 w q.1 q.2.1 q.2.2 o1) ∧ (q.2.1 = bk3 ∨ w4.heap.size ≤ q.2.1) ∧ (digs o1 ++ putP y m = (bs.take i).flatten) ∧ (m < 8) ∧ (y < 2 ^ m)) (fun i o1 q y m => bs.length - i) 0 ([]) (some ⟨bk3, 0, none⟩, bk3, 0) 0 0 ⟨(Nat.zero_le _), (Acc.ofBlk (xs := ([] : List UInt8)) encY 1 (fun _ => rfl) B5 (Nat.le_refl _) (by decide)), (.inl rfl), rfl, (by decide), (by decide)⟩ ?_
 rintro i o1 q y m w11 ⟨hi, hAq, hqW, hd, hm, hy⟩ u12 zu12 K10 hK10
 have lt_q_2_1 := hAq.lt
 have hgl := hAq.lt
 have hdl := congrArg List.length hd
 rw [List.length_append, digs_len, putP_length] at hdl
 have htl := flat_take bs i
 refine go ?_
 refine q_p (fun g12 => ?_) fun g12 => ?_
 ·
  have hblt := hs.lt (by omega)
  have hxl := flat_mem (nth_mem (show i < bs.length by omega))
  have htn := flat_take2 (show i < bs.length by omega)
  refine go ?_
  refine x_l5 (fun i => i = bk3 ∨ w4.heap.size ≤ i) [0, 6] (fun (k : Nat) (o2 : List UInt8) (r : (Option Addr × Nat × Nat)) (y2 : Nat) (m2 : Nat) => [(3, .slice r.1 o2.length r.2.2), (4, .int .i64 (y2 : Int)), (5, .int .i64 (m2 : Int)), (7, .int .i64 (k : Int))]) (fun k o2 r y2 m2 w => (k ≤ (nth bs i).length) ∧ (Acc encY 1 5 bk3 w r.1 r.2.1 r.2.2 o2) ∧ (r.2.1 = bk3 ∨ w4.heap.size ≤ r.2.1) ∧ (digs o2 ++ putP y2 m2 = (bs.take i).flatten ++ (nth bs i).take k) ∧ (m2 < 8) ∧ (y2 < 2 ^ m2)) (fun k o2 r y2 m2 => (nth bs i).length - k) 0 o1 q y m ⟨(Nat.zero_le _), hAq, (by omega), (by rw [List.take_zero, List.append_nil]; exact hd), hm, hy⟩ ?_
  rintro k o2 r y2 m2 w19 ⟨hk, hAr, hrW, hd2, hm2, hy2⟩ u20 zu20 K18 hK18
  have E21 := Sc.mk ((((Upd.refl (fun _ => False) w0).nx u6).next u12 (fun i hi h => by omega)).next u20 (fun i hi h => by omega))
  have lt_r_2_1 := hAr.lt
  have hgl2 := hAr.lt
  have hdl2 := congrArg List.length hd2
  rw [List.length_append, digs_len, putP_length, List.length_append, List.length_take] at hdl2
  have hp2 := pow_le8 (show m2 ≤ 8 by omega)
  refine go ?_
  refine g_i i (hs.keep E21.u (fun _ h => h)) (fun _ => ?_)
  refine go ?_
  refine t_lenS underlying9 rfl rfl rfl rfl ?_
  refine go ?_
  refine q_p (fun g21 => ?_) fun g21 => ?_
  ·
   have hcb := hb _ (nth_mem (show i < bs.length by omega)) _ (nth_mem (show k < (nth bs i).length by omega))
   have hci : (((nth (nth bs i) k)).toNat : Int) = 48 ∨ (((nth (nth bs i) k)).toNat : Int) = 49 := by
     rcases hcb with e | e
     · rw [e]; exact .inl rfl
     · rw [e]; exact .inr rfl
   have hyl0 := dat_lt hy2 hcb
   refine go ?_
   refine g_i i (hs.keep E21.u (fun _ h => h)) (fun _ => ?_)
   refine go ?_
   refine t_idxS k underlying9 rfl rfl rfl rfl rfl (by omega) (t_bo (Bo.ari8 rfl (by omega)) rfl rfl rfl rfl (t_conv underlying5 underlying3 rfl rfl rfl (IntWalk.i64_in _ (by omega)) ?_))
   refine go ?_
   refine q_p (fun g38 => ?_) fun g38 => ?_
   ·
    have hyl : 2 * y2 + (((nth (nth bs i) k)).toNat - 48) < 256 := by have h9 := pow_le8 (show m2 + 1 ≤ 8 by omega); omega
    refine go ?_
    refine t_conv underlying3 underlying5 rfl rfl rfl (IntWalk.u8_in _ (by omega)) (t_same 41 (v := .int .u8 ((UInt8.ofNat (2 * y2 + ((nth (nth bs i) k).toNat - 48))).toNat : Int)) rfl (congrArg (Value.int .u8) (by rw [u8_ofN hyl]; omega)) ?_)
    refine x_l fun bk29 w30 ebk29 sbk29 B31 u32 => ?_
    have D34 := (hAr.keep u32 (fun _ h => h))
    refine t_append (z := .int .u8 0) (bytes := 1) (k := 1) (base := bk3) (UInt8.ofNat (2 * y2 + ((nth (nth bs i) k).toNat - 48))) underlying25 (by kernel_rfl) rfl (by decide) (fun _ => rfl) (by intro x; simp [encY, Value.oneCell']) rfl rfl rfl rfl D34 B31 (by omega) (by omega) (by decide) (fun ao35 gb36 cp37 w38 A39 u40 gegb36 lngb36 => ?_)
    have zu40 := u40.size
    have lt_gb36 := A39.lt
    refine go ?_
    exact hK18 (k + 1) (o2 ++ [UInt8.ofNat (2 * y2 + ((nth (nth bs i) k).toNat - 48))]) (ao35, gb36, cp37) 0 0 ⟨(by omega), A39, (show gb36 = bk3 ∨ w4.heap.size ≤ gb36 by omega), (by rw [take_nth (show k < (nth bs i).length by omega), ← List.append_assoc, ← dat_next hd2 hcb, dat_full hyl, show m2 + 1 = 8 by omega]; show _ ++ [] = _; rw [List.append_nil]), (by decide), (by decide)⟩ (hs := by exact ⟨rfl, (congrArg (fun z => some (Value.int .i64 z)) (by omega)), (congrArg (fun z => some (Value.int .i64 z)) (by omega)), rfl, rfl, rfl, trivial⟩)
   refine go ?_
   exact hK18 (k + 1) o2 r (2 * y2 + ((nth (nth bs i) k).toNat - 48)) (m2 + 1) ⟨(by omega), hAr, (show r.2.1 = bk3 ∨ w4.heap.size ≤ r.2.1 by omega), (by rw [take_nth (show k < (nth bs i).length by omega), ← List.append_assoc]; exact dat_next hd2 hcb), (by omega), (dat_lt hy2 hcb)⟩ (hs := by exact ⟨rfl, (congrArg (fun z => some (Value.int .i64 z)) (by omega)), (congrArg (fun z => some (Value.int .i64 z)) (by omega)), rfl, rfl, rfl, trivial⟩)
  refine go ?_
  exact hK10 (i + 1) o2 r y2 m2 ⟨(by omega), hAr, (show r.2.1 = bk3 ∨ w4.heap.size ≤ r.2.1 by omega), (by rw [hd2, take_nth (show i < bs.length by omega), List.flatten_append, List.take_of_length_le (show (nth bs i).length ≤ k by omega)]; simp), hm2, hy2⟩
 have hti : bs.take i = bs := List.take_of_length_le (by omega)
 rw [hti] at hd
 refine go ?_
 refine x_l3 (fun _ => False) [3] (fun (z : Nat) (y3 : Nat) (m3 : Nat) => [(4, .int .i64 (y3 : Int)), (5, .int .i64 (m3 : Int))]) (fun z y3 m3 w => (digs o1 ++ putP y3 m3 = bs.flatten ++ List.replicate z 48) ∧ (m3 ≤ 8) ∧ (y3 < 2 ^ m3) ∧ (z + m = m3) ∧ (m = 0 → m3 = 0)) (fun z y3 m3 => 8 - m3) 0 y m ⟨(by rw [hd]; simp), (by omega), hy, (by omega), (fun h => h)⟩ ?_
 rintro z y3 m3 w44 ⟨hd3, hm3, hy3, hzm, hmz⟩ u45 zu45 K43 hK43
 have hp3 := pow_le8 hm3
 refine st1 ?_
 refine x_k1 (fun _ => False) [3, 4, 5] (fun (z9 : Bool) => [(49, .bool z9)]) (fun z9 w => (z9 = decide (0 < m3 ∧ m3 < 8))) (fun K52 hK52 => ?_) ?_
 ·
  refine go ?_
  refine t_splitp 46 rfl (fun g46 => ?_) (fun g46 => ?_)
  ·
   refine go ?_
   exact hK52 (decide ((m3 : Int) < 8)) (by first | exact (decide_eq_false (by omega)).symm | exact decide_eq_decide.2 (by omega))
  refine go ?_
  exact hK52 false (by first | exact (decide_eq_false (by omega)).symm | exact decide_eq_decide.2 (by omega))
 rintro z9 w53 hz9 u54 zu54
 refine q_b (fun g49 => ?_) fun g49 => ?_
 ·
  have hz9b : 0 < m3 ∧ m3 < 8 := by rw [hz9] at g49; exact of_decide_eq_true g49
  refine go ?_
  exact hK43 (z + 1) (2 * y3) (m3 + 1) ⟨(dat_pad hd3), (by omega), (by rw [Nat.pow_succ]; omega), (by omega), (by omega)⟩ (hs := by exact ⟨(congrArg (fun z => some (Value.int .i64 z)) (by omega)), (congrArg (fun z => some (Value.int .i64 z)) (by omega)), rfl, trivial⟩)
 have hz9b : ¬ (0 < m3 ∧ m3 < 8) := by rw [hz9] at g49; exact of_decide_eq_false g49
 iterate 6 refine st1 ?_
 refine x_k3 (fun i => i = bk3 ∨ w4.heap.size ≤ i) [] (fun (o3 : List UInt8) (t : (Option Addr × Nat × Nat)) (z3 : Nat) => [(3, .slice t.1 o3.length t.2.2)]) (fun o3 t z3 w => (Acc encY 1 5 bk3 w t.1 t.2.1 t.2.2 o3) ∧ (t.2.1 = bk3 ∨ w4.heap.size ≤ t.2.1) ∧ (digs o3 = bs.flatten ++ List.replicate z3 48) ∧ (z3 ≤ 7) ∧ (o3.length ≤ bs.flatten.length + 1)) (fun K60 hK60 => ?_) ?_
 ·
  refine go ?_
  refine q_p (fun g55 => ?_) fun g55 => ?_
  ·
   refine go ?_
   refine t_conv underlying3 underlying5 rfl rfl rfl (IntWalk.u8_in _ (by omega)) (t_same 58 (v := .int .u8 ((UInt8.ofNat y3).toNat : Int)) rfl (congrArg (Value.int .u8) (by rw [u8_ofN (by have h9 := pow_le8 hm3; omega)])) ?_)
   refine x_l fun bk64 w65 ebk64 sbk64 B66 u67 => ?_
   have D69 := (((hAq.keep u45 (fun _ h => h)).keep u54 (fun _ h => h)).keep u67 (fun _ h => h))
   refine t_append (z := .int .u8 0) (bytes := 1) (k := 1) (base := bk3) (UInt8.ofNat y3) underlying25 (by kernel_rfl) rfl (by decide) (fun _ => rfl) (by intro x; simp [encY, Value.oneCell']) rfl rfl rfl rfl D69 B66 (by omega) (by omega) (by decide) (fun ao70 gb71 cp72 w73 A74 u75 gegb71 lngb71 => ?_)
   have zu75 := u75.size
   have lt_gb71 := A74.lt
   refine go ?_
   exact hK60 (o1 ++ [UInt8.ofNat y3]) (ao70, gb71, cp72) z ⟨A74, (show gb71 = bk3 ∨ w4.heap.size ≤ gb71 by omega), (by rw [dat_full (show y3 < 256 by have h9 := pow_le8 hm3; omega)]; rw [show m3 = 8 by omega] at hd3; exact hd3), (by omega), (by rw [List.length_append]; simp only [List.length_cons, List.length_nil]; omega)⟩
  refine go ?_
  have D77 := ((hAq.keep u45 (fun _ h => h)).keep u54 (fun _ h => h))
  exact hK60 o1 q z ⟨D77, (show q.2.1 = bk3 ∨ w4.heap.size ≤ q.2.1 by omega), (by rw [show m3 = 0 by omega] at hd3; have h9 : digs o1 ++ [] = _ := hd3; rw [List.append_nil] at h9; exact h9), (by omega), (by omega)⟩
 rintro o3 t z3 w61 ⟨hAt, htW, hd4, hz3, hl3⟩ u62 zu62
 have lt_t_2_1 := hAt.lt
 refine go ?_
 refine x_l3 (fun i => i = bk3 ∨ w4.heap.size ≤ i) [] (fun (o4 : List UInt8) (s : (Option Addr × Nat × Nat)) (z4 : Nat) => [(3, .slice s.1 o4.length s.2.2)]) (fun o4 s z4 w => (Acc encY 1 5 bk3 w s.1 s.2.1 s.2.2 o4) ∧ (s.2.1 = bk3 ∨ w4.heap.size ≤ s.2.1) ∧ (digs o4 = bs.flatten ++ List.replicate z4 48) ∧ (o4.length + (30 - o4.length % 30) % 30 = o3.length + (30 - o3.length % 30) % 30) ∧ (z4 = z3 + 8 * (o4.length - o3.length) ∧ o3.length ≤ o4.length)) (fun o4 s z4 => (30 - o4.length % 30) % 30) o3 t z3 ⟨hAt, (by omega), hd4, rfl, (by omega)⟩ ?_
 rintro o4 s z4 w81 ⟨hAs, hsW, hd5, hru, hz4⟩ u82 zu82 K80 hK80
 have lt_s_2_1 := hAs.lt
 have hgl4 := hAs.lt
 refine go ?_
 refine t_rem rfl rfl rfl rfl (by omega) (by omega) ?_
 refine go ?_
 refine q_p (fun g64 => ?_) fun g64 => ?_
 ·
  refine go ?_
  refine x_l fun bk86 w87 ebk86 sbk86 B88 u89 => ?_
  have D91 := (hAs.keep u89 (fun _ h => h))
  refine t_append (z := .int .u8 0) (bytes := 1) (k := 1) (base := bk3) (0 : UInt8) underlying25 (by kernel_rfl) rfl (by decide) (fun _ => rfl) (by intro x; simp [encY, Value.oneCell']) rfl rfl rfl rfl D91 B88 (by omega) (by omega) (by decide) (fun ao92 gb93 cp94 w95 A96 u97 gegb93 lngb93 => ?_)
  have zu97 := u97.size
  have lt_gb93 := A96.lt
  refine go ?_
  exact hK80 (o4 ++ [0]) (ao92, gb93, cp94) (z4 + 8) ⟨A96, (show gb93 = bk3 ∨ w4.heap.size ≤ gb93 by omega), (dat_zero hd5), (by rw [List.length_append]; simp only [List.length_cons, List.length_nil]; omega), (by rw [List.length_append]; simp only [List.length_cons, List.length_nil]; omega)⟩ (hm := (by simp only [List.length_append, List.length_cons, List.length_nil]; omega))
 refine go ?_
 refine f_1 results53 ?_
 have hfin := dataP_uniq hT0 (fun x hx => by obtain ⟨y9, hy9, hx9⟩ := List.mem_flatten.1 hx; exact hb y9 hy9 x hx9) hd5 (by omega) (by omega)
 obtain ⟨gz, hz⟩ := Acc.lower (base' := w0.heap.size) hAs (by omega) hpos
 rw [hfin] at hz
 exact ⟨⟨_, gz, _, by rw [hfin], hz⟩, u_d⟩

end Go.Proofs.YtjdcpnaocjddoaaGreatDoor
namespace Go.Proofs.YtjdcpnaocjddoaaGreatDoor
open Go Go.RowKit
theorem made_flat {α : Type} [Inhabited α] {enc : α → List Value} {k : Nat} (hk0 : 0 < k) (hk : ∀ x, (enc x).length = k) (x0 : α) (n : Nat) : madeCells (enc x0).toArray (n * k) = ((List.replicate n x0).flatMap enc).toArray := by
  apply Array.ext
  · have := flatMap_len hk (List.replicate n x0)
    simp only [List.size_toArray, this, List.length_replicate]; simp [madeCells]
  · intro i h1 h2
    have hi : i < n * k := by simpa [madeCells] using h1
    have hq : i / k < n := (Nat.div_lt_iff_lt_mul hk0).2 hi
    have hm : i % k < k := Nat.mod_lt _ hk0
    have hlt : i % k < (enc x0).length := by rw [hk]; exact hm
    have h3 := flatMap_at hk (List.replicate n x0) (i / k) (i % k) ((enc x0)[i % k]) (by simpa using hq) (by
      rw [show nth (List.replicate n x0) (i / k) = x0 by simp [nth, List.getD_eq_getElem?_getD, hq]]
      exact List.getElem?_eq_getElem hlt)
    rw [show i / k * k + i % k = i from Nat.div_add_mod' i k] at h3
    have h4 : (madeCells (enc x0).toArray (n * k))[i] = (enc x0)[i % k] := by
      simp only [madeCells, Array.getElem_map, Array.getElem_range, List.size_toArray, hk]
      rw [getElem!_pos _ _ (by rw [List.size_toArray]; exact hlt)]
      simp
    rw [h4]
    have h5 : ((List.replicate n x0).flatMap enc)[i]'(by simpa using h2) = (enc x0)[i % k] := by
      rw [List.getElem_eq_iff]; exact h3
    simpa using h5.symm
section
variable {rd : Option Nat} {P : Program} {ops : Array Oper} {Q : Exit → Act → World → Prop} {N : Nat} {ds : List Deferred} {rest : List Oper} {L : Slots} {w : World}
variable {d : Nat} {ty : TypeId} {pos : String} {aft : Array Edge} {g : Option (Nat × Bool)}
/-- make([]E, n). -/
theorem t_makeN {α : Type} [Inhabited α] {enc : α → List Value} {k : Nat} {t e : TypeId} {x y : Operand} {n bytes : Nat} {m : Int} {z : Value} (x0 : α) (hu : P.underlying t = some (.slice e)) (hi : (P.info? e).map (fun i => (i.zero, i.size, i.bytes)) = some (some z, k, bytes)) (hz : z.cells = (enc x0).toArray) (hk0 : 0 < k) (hk : ∀ x, (enc x).length = k) (hb : bytes ≤ 1000)
    (hg : grd ops L g = true) (hN : Nat.blt d N = true) (hx : ev L x = some (.int .i64 m)) (hy : ev L y = some (.int .i64 m)) (em : m = (n : Int)) (hn : n ≤ 1000000)
    (h : ∀ b w', b = w.heap.size → w'.heap.size = w.heap.size + 1 → Acc enc k e b w' (some ⟨b, 0, none⟩) b n (List.replicate n x0) → Ext w w' → WL rd P ops Q N ds rest ((d, .slice (some ⟨b, 0, none⟩) n n) :: L) w') :
    WL rd P ops Q N ds (⟨some d, .makeSlice t x y, ty, pos, aft, g⟩ :: rest) L w := by
  subst em
  obtain ⟨i, hi0, hi1, hi2, hi3⟩ := info_parts' hi
  have hbn : (bytes : Int) * (n : Int) ≤ 1000 * 1000000 := by
    have := Nat.mul_le_mul hb hn
    have h2 : ((bytes * n : Nat) : Int) ≤ ((1000 * 1000000 : Nat) : Int) := by omega
    rw [Int.natCast_mul] at h2
    omega
  have hr := run_make (P := P) w t e i z hu hi0 hi1 .i64 .i64 (n : Int) (n : Int) (by omega) (Int.le_refl _) (by rw [hi3]; omega) (by omega)
  rw [hi2, Int.toNat_natCast, hz, made_flat hk0 hk x0 n] at hr
  have hB := Blk.new w e ((List.replicate n x0).flatMap enc)
  have hA := Acc.ofBlk enc k hk hB (Nat.le_refl _) (by simpa using hn)
  rw [List.length_replicate] at hA
  exact WL.value (w' := w.alloc (.cells ((List.replicate n x0).flatMap enc).toArray e)) hg rfl hN (fun a hk => by simp [execOp, hk.ev hx, hk.ev hy, hr]) (h _ _ rfl (by simp) hA (Upd.alloc _ _))
end
end Go.Proofs.YtjdcpnaocjddoaaGreatDoor
