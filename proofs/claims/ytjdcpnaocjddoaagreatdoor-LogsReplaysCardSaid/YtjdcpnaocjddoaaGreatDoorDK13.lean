/-
  Part 13 of the proof: contracts and plain laws. Conditions: none.
-/
import Derived.Test.YtjdcpnaocjddoaaGreatDoorDK12
namespace Go.Proofs.YtjdcpnaocjddoaaGreatDoor
open Go Go.RowKit Go.Proofs.Tryz
set_option maxHeartbeats 4000000 in
theorem rCopy_c (V : SG) (oh ol ou : Nat) (w0 : World) (hI : SIn w0 V oh ol ou) (hpos : 0 < w0.heap.size) (hr : V.rs.length ≤ 999) (hl : V.ld.length ≤ 9999) (hu : V.un.length ≤ 9999) (hcl : ∀ r ∈ V.rs, r.c.length ≤ 9999) :
    CallsV Tryz.prog 58 [.agg #[.int .i64 V.m, .slice V.ah V.rs.length V.ch, .slice V.al V.ld.length V.cl, .slice V.au V.un.length V.cu, .int .i64 V.wk]] w0 (fun v w' => (∃ V' : SG, v = .agg #[.int .i64 V'.m, .slice V'.ah V'.rs.length V'.ch, .slice V'.al V'.ld.length V'.cl, .slice V'.au V'.un.length V'.cu, .int .i64 V'.wk] ∧ RIn w0.heap.size w' V' ∧ V'.st = V.st) ∧ Ext w0 w') := by
 have hhs := hI.hs
 have hls := hI.ls
 have hus := hI.us
 refine f_n func58 ?_
 refine go ?_
 refine x_b fun bk2 w3 ebk2 sbk2 B4 u5 => ?_
 refine x_n fun bk7 w8 ebk7 sbk7 B9 u10 => ?_
 have E11 := Sc.mk (((Upd.refl (fun _ => False) w0).nx u5).nx u10)
 iterate 2 refine st1 ?_
 refine x_k2 (fun _ => False) [1, 2] (fun (W : SG) (b3 : Nat) => [(3, .pointer (some ⟨b3, 0, none⟩))]) (fun W b3 w => (Blk w b3 37 [.int .i64 V.m, .slice none 0 0, .slice W.al V.ld.length W.cl, .slice W.au V.un.length W.cu, .int .i64 V.wk]) ∧ (Acc encCrg 2 48 w0.heap.size w W.al W.gl W.cl V.ld) ∧ (Acc encCrg 2 48 w0.heap.size w W.au W.gu W.cu V.un) ∧ (w8.heap.size ≤ b3)) (fun K16 hK16 => ?_) ?_
 ·
  refine c_drawnM follows (fun _ => False) (.look 0 (.look 1 (.look 2 (.look 3 (.look 5 (.look 6 (.look 9 (.look 10 (.act 4 (.act 7 (.act 8 (.act 11 (.look 12 (.act 13 (.act 14 .done .stop) .stop)) (.act 13 (.act 11 (.look 12 (.act 14 .done .stop)) .stop) .stop)) (.act 13 (.act 8 (.act 11 (.look 12 (.act 14 .done .stop)) .stop) .stop) .stop)) (.act 8 (.act 7 (.act 11 (.look 12 (.act 13 (.act 14 .done .stop) .stop)) (.act 13 (.act 11 (.look 12 (.act 14 .done .stop)) .stop) .stop)) (.act 13 (.act 7 (.act 11 (.look 12 (.act 14 .done .stop)) .stop) .stop) .stop)) (.act 13 (.act 7 (.act 8 (.act 11 (.look 12 (.act 14 .done .stop)) .stop) .stop) (.act 8 (.act 7 (.act 11 (.look 12 (.act 14 .done .stop)) .stop) .stop) .stop)) .stop))) (.act 8 (.act 4 (.act 7 (.act 11 (.look 12 (.act 13 (.act 14 .done .stop) .stop)) (.act 13 (.act 11 (.look 12 (.act 14 .done .stop)) .stop) .stop)) (.act 13 (.act 7 (.act 11 (.look 12 (.act 14 .done .stop)) .stop) .stop) .stop)) (.act 13 (.act 4 (.act 7 (.act 11 (.look 12 (.act 14 .done .stop)) .stop) .stop) .stop) .stop)) (.act 13 (.act 4 (.act 7 (.act 8 (.act 11 (.look 12 (.act 14 .done .stop)) .stop) .stop) (.act 8 (.act 7 (.act 11 (.look 12 (.act 14 .done .stop)) .stop) .stop) .stop)) (.act 8 (.act 4 (.act 7 (.act 11 (.look 12 (.act 14 .done .stop)) .stop) .stop) .stop) .stop)) .stop))))))))))) (by kernel_rfl) fun w19 u20 => ?_
  have zu20 := u20.size
  have E21 := Sc.mk (E11.u.nx u20)
  refine go ?_
  refine s_or ?_ ?_
  ·
   refine go ?_
   refine x_l fun bk22 w23 ebk22 sbk22 B24 u25 => ?_
   have E26 := Sc.mk (E21.u.nx u25)
   refine go ?_
   refine s_or ?_ ?_
   ·
    refine go ?_
    refine t_copyG (enc := encCrg) (z := .agg #[.int .i64 0, .int .i64 0]) (bytes := 16) (k := 2) (ys := V.ld) underlying35 (by kernel_rfl) rfl (by decide) (fun _ => rfl) (by intro x; simp [encCrg, Value.oneCell']) rfl rfl rfl rfl B24 (hls.keep E26.u (fun _ h => h)) (by omega) (by decide) (fun ao27 gb28 cp29 w30 A31 u32 gegb28 => ?_)
    have zu32 := u32.size
    have E33 := Sc.mk (E26.u.next u32 (fun i hi h => by omega))
    have lt_gb28 := A31.lt
    refine go ?_
    refine s_or ?_ ?_
    ·
     refine go ?_
     refine x_l fun bk34 w35 ebk34 sbk34 B36 u37 => ?_
     have E38 := Sc.mk (E33.u.nx u37)
     refine go ?_
     refine s_or ?_ ?_
     ·
      refine go ?_
      refine t_copyG (enc := encCrg) (z := .agg #[.int .i64 0, .int .i64 0]) (bytes := 16) (k := 2) (ys := V.un) underlying35 (by kernel_rfl) rfl (by decide) (fun _ => rfl) (by intro x; simp [encCrg, Value.oneCell']) rfl rfl rfl rfl B36 (hus.keep E38.u (fun _ h => h)) (by omega) (by decide) (fun ao39 gb40 cp41 w42 A43 u44 gegb40 => ?_)
      have zu44 := u44.size
      have lt_gb40 := A43.lt
      refine go ?_
      refine x_n fun bk46 w47 ebk46 sbk46 B48 u49 => ?_
      refine go ?_
      refine x_s fun w51 sw51 B53 u52 => ?_
      refine go ?_
      have D55 := ((((A31.keep u37 (fun _ h => h)).keep u44 (fun hb => show ¬ ((gb28 = bk34 ∧ bk34 ≤ gb28)) by first | omega | assumption)).keep u49 (fun _ h => h)).keep u52 (fun hb => show ¬ (gb28 = bk46) by first | omega | assumption))
      have D56 := ((A43.keep u49 (fun _ h => h)).keep u52 (fun hb => show ¬ (gb40 = bk46) by first | omega | assumption))
      obtain ⟨gz57, hgz57⟩ := Acc.lower (base' := w0.heap.size) D55 (by omega) hpos
      obtain ⟨gz58, hgz58⟩ := Acc.lower (base' := w0.heap.size) D56 (by omega) hpos
      exact hK16 (⟨0, [], none, 0, 0, [], ao27, gz57, cp29, [], ao39, gz58, cp41, 0⟩) bk46 ⟨B53, hgz57, hgz58, (by omega)⟩
     refine go ?_
     refine x_n fun bk59 w60 ebk59 sbk59 B61 u62 => ?_
     refine go ?_
     have B64 := (B36.kx u62)
     refine t_copyG (enc := encCrg) (z := .agg #[.int .i64 0, .int .i64 0]) (bytes := 16) (k := 2) (ys := V.un) underlying35 (by kernel_rfl) rfl (by decide) (fun _ => rfl) (by intro x; simp [encCrg, Value.oneCell']) rfl rfl rfl rfl B64 (hus.keep (E38.u.nx u62) (fun _ h => h)) (by omega) (by decide) (fun ao65 gb66 cp67 w68 A69 u70 gegb66 => ?_)
     have zu70 := u70.size
     have lt_gb66 := A69.lt
     refine go ?_
     refine x_s fun w72 sw72 B74 u73 => ?_
     refine go ?_
     have D76 := ((((A31.keep u37 (fun _ h => h)).keep u62 (fun _ h => h)).keep u70 (fun hb => show ¬ ((gb28 = bk34 ∧ bk34 ≤ gb28)) by first | omega | assumption)).keep u73 (fun hb => show ¬ (gb28 = bk59) by first | omega | assumption))
     have D77 := (A69.keep u73 (fun hb => show ¬ (gb66 = bk59) by first | omega | assumption))
     obtain ⟨gz78, hgz78⟩ := Acc.lower (base' := w0.heap.size) D76 (by omega) hpos
     obtain ⟨gz79, hgz79⟩ := Acc.lower (base' := w0.heap.size) D77 (by omega) hpos
     exact hK16 (⟨0, [], none, 0, 0, [], ao27, gz78, cp29, [], ao65, gz79, cp67, 0⟩) bk59 ⟨B74, hgz78, hgz79, (by omega)⟩
    refine go ?_
    refine x_n fun bk80 w81 ebk80 sbk80 B82 u83 => ?_
    refine go ?_
    refine x_l fun bk85 w86 ebk85 sbk85 B87 u88 => ?_
    refine go ?_
    refine t_copyG (enc := encCrg) (z := .agg #[.int .i64 0, .int .i64 0]) (bytes := 16) (k := 2) (ys := V.un) underlying35 (by kernel_rfl) rfl (by decide) (fun _ => rfl) (by intro x; simp [encCrg, Value.oneCell']) rfl rfl rfl rfl B87 (hus.keep ((E33.u.nx u83).nx u88) (fun _ h => h)) (by omega) (by decide) (fun ao90 gb91 cp92 w93 A94 u95 gegb91 => ?_)
    have zu95 := u95.size
    have lt_gb91 := A94.lt
    refine go ?_
    refine x_s fun w97 sw97 B99 u98 => ?_
    refine go ?_
    have D101 := ((((A31.keep u83 (fun _ h => h)).keep u88 (fun _ h => h)).keep u95 (fun hb => show ¬ ((gb28 = bk85 ∧ bk85 ≤ gb28)) by first | omega | assumption)).keep u98 (fun hb => show ¬ (gb28 = bk80) by first | omega | assumption))
    have D102 := (A94.keep u98 (fun hb => show ¬ (gb91 = bk80) by first | omega | assumption))
    obtain ⟨gz103, hgz103⟩ := Acc.lower (base' := w0.heap.size) D101 (by omega) hpos
    obtain ⟨gz104, hgz104⟩ := Acc.lower (base' := w0.heap.size) D102 (by omega) hpos
    exact hK16 (⟨0, [], none, 0, 0, [], ao27, gz103, cp29, [], ao90, gz104, cp92, 0⟩) bk80 ⟨B99, hgz103, hgz104, (by omega)⟩
   refine s_or ?_ ?_
   ·
    refine go ?_
    refine x_l fun bk105 w106 ebk105 sbk105 B107 u108 => ?_
    have E109 := Sc.mk (E26.u.nx u108)
    refine go ?_
    refine s_or ?_ ?_
    ·
     refine go ?_
     have B110 := (B24.kx u108)
     refine t_copyG (enc := encCrg) (z := .agg #[.int .i64 0, .int .i64 0]) (bytes := 16) (k := 2) (ys := V.ld) underlying35 (by kernel_rfl) rfl (by decide) (fun _ => rfl) (by intro x; simp [encCrg, Value.oneCell']) rfl rfl rfl rfl B110 (hls.keep E109.u (fun _ h => h)) (by omega) (by decide) (fun ao111 gb112 cp113 w114 A115 u116 gegb112 => ?_)
     have zu116 := u116.size
     have E117 := Sc.mk (E109.u.next u116 (fun i hi h => by omega))
     have lt_gb112 := A115.lt
     refine go ?_
     refine s_or ?_ ?_
     ·
      refine go ?_
      have B118 := (B107.keep u116 (by omega))
      refine t_copyG (enc := encCrg) (z := .agg #[.int .i64 0, .int .i64 0]) (bytes := 16) (k := 2) (ys := V.un) underlying35 (by kernel_rfl) rfl (by decide) (fun _ => rfl) (by intro x; simp [encCrg, Value.oneCell']) rfl rfl rfl rfl B118 (hus.keep E117.u (fun _ h => h)) (by omega) (by decide) (fun ao119 gb120 cp121 w122 A123 u124 gegb120 => ?_)
      have zu124 := u124.size
      have lt_gb120 := A123.lt
      refine go ?_
      refine x_n fun bk126 w127 ebk126 sbk126 B128 u129 => ?_
      refine go ?_
      refine x_s fun w131 sw131 B133 u132 => ?_
      refine go ?_
      have D135 := (((A115.keep u124 (fun hb => show ¬ ((gb112 = bk105 ∧ bk105 ≤ gb112)) by first | omega | assumption)).keep u129 (fun _ h => h)).keep u132 (fun hb => show ¬ (gb112 = bk126) by first | omega | assumption))
      have D136 := ((A123.keep u129 (fun _ h => h)).keep u132 (fun hb => show ¬ (gb120 = bk126) by first | omega | assumption))
      obtain ⟨gz137, hgz137⟩ := Acc.lower (base' := w0.heap.size) D135 (by omega) hpos
      obtain ⟨gz138, hgz138⟩ := Acc.lower (base' := w0.heap.size) D136 (by omega) hpos
      exact hK16 (⟨0, [], none, 0, 0, [], ao111, gz137, cp113, [], ao119, gz138, cp121, 0⟩) bk126 ⟨B133, hgz137, hgz138, (by omega)⟩
     refine go ?_
     refine x_n fun bk139 w140 ebk139 sbk139 B141 u142 => ?_
     refine go ?_
     have B144 := ((B107.keep u116 (by omega)).kx u142)
     refine t_copyG (enc := encCrg) (z := .agg #[.int .i64 0, .int .i64 0]) (bytes := 16) (k := 2) (ys := V.un) underlying35 (by kernel_rfl) rfl (by decide) (fun _ => rfl) (by intro x; simp [encCrg, Value.oneCell']) rfl rfl rfl rfl B144 (hus.keep (E117.u.nx u142) (fun _ h => h)) (by omega) (by decide) (fun ao145 gb146 cp147 w148 A149 u150 gegb146 => ?_)
     have zu150 := u150.size
     have lt_gb146 := A149.lt
     refine go ?_
     refine x_s fun w152 sw152 B154 u153 => ?_
     refine go ?_
     have D156 := (((A115.keep u142 (fun _ h => h)).keep u150 (fun hb => show ¬ ((gb112 = bk105 ∧ bk105 ≤ gb112)) by first | omega | assumption)).keep u153 (fun hb => show ¬ (gb112 = bk139) by first | omega | assumption))
     have D157 := (A149.keep u153 (fun hb => show ¬ (gb146 = bk139) by first | omega | assumption))
     obtain ⟨gz158, hgz158⟩ := Acc.lower (base' := w0.heap.size) D156 (by omega) hpos
     obtain ⟨gz159, hgz159⟩ := Acc.lower (base' := w0.heap.size) D157 (by omega) hpos
     exact hK16 (⟨0, [], none, 0, 0, [], ao111, gz158, cp113, [], ao145, gz159, cp147, 0⟩) bk139 ⟨B154, hgz158, hgz159, (by omega)⟩
    refine go ?_
    refine x_n fun bk160 w161 ebk160 sbk160 B162 u163 => ?_
    have E164 := Sc.mk (E109.u.nx u163)
    refine go ?_
    have B165 := ((B24.kx u108).kx u163)
    refine t_copyG (enc := encCrg) (z := .agg #[.int .i64 0, .int .i64 0]) (bytes := 16) (k := 2) (ys := V.ld) underlying35 (by kernel_rfl) rfl (by decide) (fun _ => rfl) (by intro x; simp [encCrg, Value.oneCell']) rfl rfl rfl rfl B165 (hls.keep E164.u (fun _ h => h)) (by omega) (by decide) (fun ao166 gb167 cp168 w169 A170 u171 gegb167 => ?_)
    have zu171 := u171.size
    have lt_gb167 := A170.lt
    refine go ?_
    have B173 := ((B107.kx u163).keep u171 (by omega))
    refine t_copyG (enc := encCrg) (z := .agg #[.int .i64 0, .int .i64 0]) (bytes := 16) (k := 2) (ys := V.un) underlying35 (by kernel_rfl) rfl (by decide) (fun _ => rfl) (by intro x; simp [encCrg, Value.oneCell']) rfl rfl rfl rfl B173 (hus.keep (E164.u.next u171 (fun i hi h => by omega)) (fun _ h => h)) (by omega) (by decide) (fun ao174 gb175 cp176 w177 A178 u179 gegb175 => ?_)
    have zu179 := u179.size
    have lt_gb175 := A178.lt
    refine go ?_
    refine x_s fun w181 sw181 B183 u182 => ?_
    refine go ?_
    have D185 := ((A170.keep u179 (fun hb => show ¬ ((gb167 = bk105 ∧ bk105 ≤ gb167)) by first | omega | assumption)).keep u182 (fun hb => show ¬ (gb167 = bk160) by first | omega | assumption))
    have D186 := (A178.keep u182 (fun hb => show ¬ (gb175 = bk160) by first | omega | assumption))
    obtain ⟨gz187, hgz187⟩ := Acc.lower (base' := w0.heap.size) D185 (by omega) hpos
    obtain ⟨gz188, hgz188⟩ := Acc.lower (base' := w0.heap.size) D186 (by omega) hpos
    exact hK16 (⟨0, [], none, 0, 0, [], ao166, gz187, cp168, [], ao174, gz188, cp176, 0⟩) bk160 ⟨B183, hgz187, hgz188, (by omega)⟩
   refine go ?_
   refine x_n fun bk189 w190 ebk189 sbk189 B191 u192 => ?_
   have E193 := Sc.mk (E26.u.nx u192)
   refine go ?_
   refine s_or ?_ ?_
   ·
    refine go ?_
    have B194 := (B24.kx u192)
    refine t_copyG (enc := encCrg) (z := .agg #[.int .i64 0, .int .i64 0]) (bytes := 16) (k := 2) (ys := V.ld) underlying35 (by kernel_rfl) rfl (by decide) (fun _ => rfl) (by intro x; simp [encCrg, Value.oneCell']) rfl rfl rfl rfl B194 (hls.keep E193.u (fun _ h => h)) (by omega) (by decide) (fun ao195 gb196 cp197 w198 A199 u200 gegb196 => ?_)
    have zu200 := u200.size
    have lt_gb196 := A199.lt
    refine go ?_
    refine x_l fun bk202 w203 ebk202 sbk202 B204 u205 => ?_
    refine go ?_
    refine t_copyG (enc := encCrg) (z := .agg #[.int .i64 0, .int .i64 0]) (bytes := 16) (k := 2) (ys := V.un) underlying35 (by kernel_rfl) rfl (by decide) (fun _ => rfl) (by intro x; simp [encCrg, Value.oneCell']) rfl rfl rfl rfl B204 (hus.keep ((E193.u.next u200 (fun i hi h => by omega)).nx u205) (fun _ h => h)) (by omega) (by decide) (fun ao207 gb208 cp209 w210 A211 u212 gegb208 => ?_)
    have zu212 := u212.size
    have lt_gb208 := A211.lt
    refine go ?_
    refine x_s fun w214 sw214 B216 u215 => ?_
    refine go ?_
    have D218 := (((A199.keep u205 (fun _ h => h)).keep u212 (fun hb => show ¬ ((gb196 = bk202 ∧ bk202 ≤ gb196)) by first | omega | assumption)).keep u215 (fun hb => show ¬ (gb196 = bk189) by first | omega | assumption))
    have D219 := (A211.keep u215 (fun hb => show ¬ (gb208 = bk189) by first | omega | assumption))
    obtain ⟨gz220, hgz220⟩ := Acc.lower (base' := w0.heap.size) D218 (by omega) hpos
    obtain ⟨gz221, hgz221⟩ := Acc.lower (base' := w0.heap.size) D219 (by omega) hpos
    exact hK16 (⟨0, [], none, 0, 0, [], ao195, gz220, cp197, [], ao207, gz221, cp209, 0⟩) bk189 ⟨B216, hgz220, hgz221, (by omega)⟩
   refine go ?_
   refine x_l fun bk222 w223 ebk222 sbk222 B224 u225 => ?_
   have E226 := Sc.mk (E193.u.nx u225)
   refine go ?_
   have B227 := ((B24.kx u192).kx u225)
   refine t_copyG (enc := encCrg) (z := .agg #[.int .i64 0, .int .i64 0]) (bytes := 16) (k := 2) (ys := V.ld) underlying35 (by kernel_rfl) rfl (by decide) (fun _ => rfl) (by intro x; simp [encCrg, Value.oneCell']) rfl rfl rfl rfl B227 (hls.keep E226.u (fun _ h => h)) (by omega) (by decide) (fun ao228 gb229 cp230 w231 A232 u233 gegb229 => ?_)
   have zu233 := u233.size
   have lt_gb229 := A232.lt
   refine go ?_
   have B235 := (B224.keep u233 (by omega))
   refine t_copyG (enc := encCrg) (z := .agg #[.int .i64 0, .int .i64 0]) (bytes := 16) (k := 2) (ys := V.un) underlying35 (by kernel_rfl) rfl (by decide) (fun _ => rfl) (by intro x; simp [encCrg, Value.oneCell']) rfl rfl rfl rfl B235 (hus.keep (E226.u.next u233 (fun i hi h => by omega)) (fun _ h => h)) (by omega) (by decide) (fun ao236 gb237 cp238 w239 A240 u241 gegb237 => ?_)
   have zu241 := u241.size
   have lt_gb237 := A240.lt
   refine go ?_
   refine x_s fun w243 sw243 B245 u244 => ?_
   refine go ?_
   have D247 := ((A232.keep u241 (fun hb => show ¬ ((gb229 = bk222 ∧ bk222 ≤ gb229)) by first | omega | assumption)).keep u244 (fun hb => show ¬ (gb229 = bk189) by first | omega | assumption))
   have D248 := (A240.keep u244 (fun hb => show ¬ (gb237 = bk189) by first | omega | assumption))
   obtain ⟨gz249, hgz249⟩ := Acc.lower (base' := w0.heap.size) D247 (by omega) hpos
   obtain ⟨gz250, hgz250⟩ := Acc.lower (base' := w0.heap.size) D248 (by omega) hpos
   exact hK16 (⟨0, [], none, 0, 0, [], ao228, gz249, cp230, [], ao236, gz250, cp238, 0⟩) bk189 ⟨B245, hgz249, hgz250, (by omega)⟩
  refine s_or ?_ ?_
  ·
   refine go ?_
   refine x_l fun bk251 w252 ebk251 sbk251 B253 u254 => ?_
   have E255 := Sc.mk (E21.u.nx u254)
   refine go ?_
   refine s_or ?_ ?_
   ·
    refine go ?_
    refine x_l fun bk256 w257 ebk256 sbk256 B258 u259 => ?_
    have E260 := Sc.mk (E255.u.nx u259)
    refine go ?_
    refine s_or ?_ ?_
    ·
     refine go ?_
     refine t_copyG (enc := encCrg) (z := .agg #[.int .i64 0, .int .i64 0]) (bytes := 16) (k := 2) (ys := V.ld) underlying35 (by kernel_rfl) rfl (by decide) (fun _ => rfl) (by intro x; simp [encCrg, Value.oneCell']) rfl rfl rfl rfl B258 (hls.keep E260.u (fun _ h => h)) (by omega) (by decide) (fun ao261 gb262 cp263 w264 A265 u266 gegb262 => ?_)
     have zu266 := u266.size
     have E267 := Sc.mk (E260.u.next u266 (fun i hi h => by omega))
     have lt_gb262 := A265.lt
     refine go ?_
     refine s_or ?_ ?_
     ·
      refine go ?_
      have B268 := ((B253.kx u259).keep u266 (by omega))
      refine t_copyG (enc := encCrg) (z := .agg #[.int .i64 0, .int .i64 0]) (bytes := 16) (k := 2) (ys := V.un) underlying35 (by kernel_rfl) rfl (by decide) (fun _ => rfl) (by intro x; simp [encCrg, Value.oneCell']) rfl rfl rfl rfl B268 (hus.keep E267.u (fun _ h => h)) (by omega) (by decide) (fun ao269 gb270 cp271 w272 A273 u274 gegb270 => ?_)
      have zu274 := u274.size
      have lt_gb270 := A273.lt
      refine go ?_
      refine x_n fun bk276 w277 ebk276 sbk276 B278 u279 => ?_
      refine go ?_
      refine x_s fun w281 sw281 B283 u282 => ?_
      refine go ?_
      have D285 := (((A265.keep u274 (fun hb => show ¬ ((gb262 = bk251 ∧ bk251 ≤ gb262)) by first | omega | assumption)).keep u279 (fun _ h => h)).keep u282 (fun hb => show ¬ (gb262 = bk276) by first | omega | assumption))
      have D286 := ((A273.keep u279 (fun _ h => h)).keep u282 (fun hb => show ¬ (gb270 = bk276) by first | omega | assumption))
      obtain ⟨gz287, hgz287⟩ := Acc.lower (base' := w0.heap.size) D285 (by omega) hpos
      obtain ⟨gz288, hgz288⟩ := Acc.lower (base' := w0.heap.size) D286 (by omega) hpos
      exact hK16 (⟨0, [], none, 0, 0, [], ao261, gz287, cp263, [], ao269, gz288, cp271, 0⟩) bk276 ⟨B283, hgz287, hgz288, (by omega)⟩
     refine go ?_
     refine x_n fun bk289 w290 ebk289 sbk289 B291 u292 => ?_
     refine go ?_
     have B294 := (((B253.kx u259).keep u266 (by omega)).kx u292)
     refine t_copyG (enc := encCrg) (z := .agg #[.int .i64 0, .int .i64 0]) (bytes := 16) (k := 2) (ys := V.un) underlying35 (by kernel_rfl) rfl (by decide) (fun _ => rfl) (by intro x; simp [encCrg, Value.oneCell']) rfl rfl rfl rfl B294 (hus.keep (E267.u.nx u292) (fun _ h => h)) (by omega) (by decide) (fun ao295 gb296 cp297 w298 A299 u300 gegb296 => ?_)
     have zu300 := u300.size
     have lt_gb296 := A299.lt
     refine go ?_
     refine x_s fun w302 sw302 B304 u303 => ?_
     refine go ?_
     have D306 := (((A265.keep u292 (fun _ h => h)).keep u300 (fun hb => show ¬ ((gb262 = bk251 ∧ bk251 ≤ gb262)) by first | omega | assumption)).keep u303 (fun hb => show ¬ (gb262 = bk289) by first | omega | assumption))
     have D307 := (A299.keep u303 (fun hb => show ¬ (gb296 = bk289) by first | omega | assumption))
     obtain ⟨gz308, hgz308⟩ := Acc.lower (base' := w0.heap.size) D306 (by omega) hpos
     obtain ⟨gz309, hgz309⟩ := Acc.lower (base' := w0.heap.size) D307 (by omega) hpos
     exact hK16 (⟨0, [], none, 0, 0, [], ao261, gz308, cp263, [], ao295, gz309, cp297, 0⟩) bk289 ⟨B304, hgz308, hgz309, (by omega)⟩
    refine go ?_
    refine x_n fun bk310 w311 ebk310 sbk310 B312 u313 => ?_
    have E314 := Sc.mk (E260.u.nx u313)
    refine go ?_
    have B315 := (B258.kx u313)
    refine t_copyG (enc := encCrg) (z := .agg #[.int .i64 0, .int .i64 0]) (bytes := 16) (k := 2) (ys := V.ld) underlying35 (by kernel_rfl) rfl (by decide) (fun _ => rfl) (by intro x; simp [encCrg, Value.oneCell']) rfl rfl rfl rfl B315 (hls.keep E314.u (fun _ h => h)) (by omega) (by decide) (fun ao316 gb317 cp318 w319 A320 u321 gegb317 => ?_)
    have zu321 := u321.size
    have lt_gb317 := A320.lt
    refine go ?_
    have B323 := (((B253.kx u259).kx u313).keep u321 (by omega))
    refine t_copyG (enc := encCrg) (z := .agg #[.int .i64 0, .int .i64 0]) (bytes := 16) (k := 2) (ys := V.un) underlying35 (by kernel_rfl) rfl (by decide) (fun _ => rfl) (by intro x; simp [encCrg, Value.oneCell']) rfl rfl rfl rfl B323 (hus.keep (E314.u.next u321 (fun i hi h => by omega)) (fun _ h => h)) (by omega) (by decide) (fun ao324 gb325 cp326 w327 A328 u329 gegb325 => ?_)
    have zu329 := u329.size
    have lt_gb325 := A328.lt
    refine go ?_
    refine x_s fun w331 sw331 B333 u332 => ?_
    refine go ?_
    have D335 := ((A320.keep u329 (fun hb => show ¬ ((gb317 = bk251 ∧ bk251 ≤ gb317)) by first | omega | assumption)).keep u332 (fun hb => show ¬ (gb317 = bk310) by first | omega | assumption))
    have D336 := (A328.keep u332 (fun hb => show ¬ (gb325 = bk310) by first | omega | assumption))
    obtain ⟨gz337, hgz337⟩ := Acc.lower (base' := w0.heap.size) D335 (by omega) hpos
    obtain ⟨gz338, hgz338⟩ := Acc.lower (base' := w0.heap.size) D336 (by omega) hpos
    exact hK16 (⟨0, [], none, 0, 0, [], ao316, gz337, cp318, [], ao324, gz338, cp326, 0⟩) bk310 ⟨B333, hgz337, hgz338, (by omega)⟩
   refine go ?_
   refine x_n fun bk339 w340 ebk339 sbk339 B341 u342 => ?_
   refine go ?_
   refine x_l fun bk344 w345 ebk344 sbk344 B346 u347 => ?_
   have E348 := Sc.mk ((E255.u.nx u342).nx u347)
   refine go ?_
   refine t_copyG (enc := encCrg) (z := .agg #[.int .i64 0, .int .i64 0]) (bytes := 16) (k := 2) (ys := V.ld) underlying35 (by kernel_rfl) rfl (by decide) (fun _ => rfl) (by intro x; simp [encCrg, Value.oneCell']) rfl rfl rfl rfl B346 (hls.keep E348.u (fun _ h => h)) (by omega) (by decide) (fun ao349 gb350 cp351 w352 A353 u354 gegb350 => ?_)
   have zu354 := u354.size
   have lt_gb350 := A353.lt
   refine go ?_
   have B356 := (((B253.kx u342).kx u347).keep u354 (by omega))
   refine t_copyG (enc := encCrg) (z := .agg #[.int .i64 0, .int .i64 0]) (bytes := 16) (k := 2) (ys := V.un) underlying35 (by kernel_rfl) rfl (by decide) (fun _ => rfl) (by intro x; simp [encCrg, Value.oneCell']) rfl rfl rfl rfl B356 (hus.keep (E348.u.next u354 (fun i hi h => by omega)) (fun _ h => h)) (by omega) (by decide) (fun ao357 gb358 cp359 w360 A361 u362 gegb358 => ?_)
   have zu362 := u362.size
   have lt_gb358 := A361.lt
   refine go ?_
   refine x_s fun w364 sw364 B366 u365 => ?_
   refine go ?_
   have D368 := ((A353.keep u362 (fun hb => show ¬ ((gb350 = bk251 ∧ bk251 ≤ gb350)) by first | omega | assumption)).keep u365 (fun hb => show ¬ (gb350 = bk339) by first | omega | assumption))
   have D369 := (A361.keep u365 (fun hb => show ¬ (gb358 = bk339) by first | omega | assumption))
   obtain ⟨gz370, hgz370⟩ := Acc.lower (base' := w0.heap.size) D368 (by omega) hpos
   obtain ⟨gz371, hgz371⟩ := Acc.lower (base' := w0.heap.size) D369 (by omega) hpos
   exact hK16 (⟨0, [], none, 0, 0, [], ao349, gz370, cp351, [], ao357, gz371, cp359, 0⟩) bk339 ⟨B366, hgz370, hgz371, (by omega)⟩
  refine go ?_
  refine x_n fun bk372 w373 ebk372 sbk372 B374 u375 => ?_
  have E376 := Sc.mk (E21.u.nx u375)
  refine go ?_
  refine s_or ?_ ?_
  ·
   refine go ?_
   refine x_l fun bk377 w378 ebk377 sbk377 B379 u380 => ?_
   have E381 := Sc.mk (E376.u.nx u380)
   refine go ?_
   refine s_or ?_ ?_
   ·
    refine go ?_
    refine t_copyG (enc := encCrg) (z := .agg #[.int .i64 0, .int .i64 0]) (bytes := 16) (k := 2) (ys := V.ld) underlying35 (by kernel_rfl) rfl (by decide) (fun _ => rfl) (by intro x; simp [encCrg, Value.oneCell']) rfl rfl rfl rfl B379 (hls.keep E381.u (fun _ h => h)) (by omega) (by decide) (fun ao382 gb383 cp384 w385 A386 u387 gegb383 => ?_)
    have zu387 := u387.size
    have lt_gb383 := A386.lt
    refine go ?_
    refine x_l fun bk389 w390 ebk389 sbk389 B391 u392 => ?_
    refine go ?_
    refine t_copyG (enc := encCrg) (z := .agg #[.int .i64 0, .int .i64 0]) (bytes := 16) (k := 2) (ys := V.un) underlying35 (by kernel_rfl) rfl (by decide) (fun _ => rfl) (by intro x; simp [encCrg, Value.oneCell']) rfl rfl rfl rfl B391 (hus.keep ((E381.u.next u387 (fun i hi h => by omega)).nx u392) (fun _ h => h)) (by omega) (by decide) (fun ao394 gb395 cp396 w397 A398 u399 gegb395 => ?_)
    have zu399 := u399.size
    have lt_gb395 := A398.lt
    refine go ?_
    refine x_s fun w401 sw401 B403 u402 => ?_
    refine go ?_
    have D405 := (((A386.keep u392 (fun _ h => h)).keep u399 (fun hb => show ¬ ((gb383 = bk389 ∧ bk389 ≤ gb383)) by first | omega | assumption)).keep u402 (fun hb => show ¬ (gb383 = bk372) by first | omega | assumption))
    have D406 := (A398.keep u402 (fun hb => show ¬ (gb395 = bk372) by first | omega | assumption))
    obtain ⟨gz407, hgz407⟩ := Acc.lower (base' := w0.heap.size) D405 (by omega) hpos
    obtain ⟨gz408, hgz408⟩ := Acc.lower (base' := w0.heap.size) D406 (by omega) hpos
    exact hK16 (⟨0, [], none, 0, 0, [], ao382, gz407, cp384, [], ao394, gz408, cp396, 0⟩) bk372 ⟨B403, hgz407, hgz408, (by omega)⟩
   refine go ?_
   refine x_l fun bk409 w410 ebk409 sbk409 B411 u412 => ?_
   have E413 := Sc.mk (E381.u.nx u412)
   refine go ?_
   have B414 := (B379.kx u412)
   refine t_copyG (enc := encCrg) (z := .agg #[.int .i64 0, .int .i64 0]) (bytes := 16) (k := 2) (ys := V.ld) underlying35 (by kernel_rfl) rfl (by decide) (fun _ => rfl) (by intro x; simp [encCrg, Value.oneCell']) rfl rfl rfl rfl B414 (hls.keep E413.u (fun _ h => h)) (by omega) (by decide) (fun ao415 gb416 cp417 w418 A419 u420 gegb416 => ?_)
   have zu420 := u420.size
   have lt_gb416 := A419.lt
   refine go ?_
   have B422 := (B411.keep u420 (by omega))
   refine t_copyG (enc := encCrg) (z := .agg #[.int .i64 0, .int .i64 0]) (bytes := 16) (k := 2) (ys := V.un) underlying35 (by kernel_rfl) rfl (by decide) (fun _ => rfl) (by intro x; simp [encCrg, Value.oneCell']) rfl rfl rfl rfl B422 (hus.keep (E413.u.next u420 (fun i hi h => by omega)) (fun _ h => h)) (by omega) (by decide) (fun ao423 gb424 cp425 w426 A427 u428 gegb424 => ?_)
   have zu428 := u428.size
   have lt_gb424 := A427.lt
   refine go ?_
   refine x_s fun w430 sw430 B432 u431 => ?_
   refine go ?_
   have D434 := ((A419.keep u428 (fun hb => show ¬ ((gb416 = bk409 ∧ bk409 ≤ gb416)) by first | omega | assumption)).keep u431 (fun hb => show ¬ (gb416 = bk372) by first | omega | assumption))
   have D435 := (A427.keep u431 (fun hb => show ¬ (gb424 = bk372) by first | omega | assumption))
   obtain ⟨gz436, hgz436⟩ := Acc.lower (base' := w0.heap.size) D434 (by omega) hpos
   obtain ⟨gz437, hgz437⟩ := Acc.lower (base' := w0.heap.size) D435 (by omega) hpos
   exact hK16 (⟨0, [], none, 0, 0, [], ao415, gz436, cp417, [], ao423, gz437, cp425, 0⟩) bk372 ⟨B432, hgz436, hgz437, (by omega)⟩
  refine go ?_
  refine x_l fun bk438 w439 ebk438 sbk438 B440 u441 => ?_
  refine go ?_
  refine x_l fun bk443 w444 ebk443 sbk443 B445 u446 => ?_
  have E447 := Sc.mk ((E376.u.nx u441).nx u446)
  refine go ?_
  refine t_copyG (enc := encCrg) (z := .agg #[.int .i64 0, .int .i64 0]) (bytes := 16) (k := 2) (ys := V.ld) underlying35 (by kernel_rfl) rfl (by decide) (fun _ => rfl) (by intro x; simp [encCrg, Value.oneCell']) rfl rfl rfl rfl B445 (hls.keep E447.u (fun _ h => h)) (by omega) (by decide) (fun ao448 gb449 cp450 w451 A452 u453 gegb449 => ?_)
  have zu453 := u453.size
  have lt_gb449 := A452.lt
  refine go ?_
  have B455 := ((B440.kx u446).keep u453 (by omega))
  refine t_copyG (enc := encCrg) (z := .agg #[.int .i64 0, .int .i64 0]) (bytes := 16) (k := 2) (ys := V.un) underlying35 (by kernel_rfl) rfl (by decide) (fun _ => rfl) (by intro x; simp [encCrg, Value.oneCell']) rfl rfl rfl rfl B455 (hus.keep (E447.u.next u453 (fun i hi h => by omega)) (fun _ h => h)) (by omega) (by decide) (fun ao456 gb457 cp458 w459 A460 u461 gegb457 => ?_)
  have zu461 := u461.size
  have lt_gb457 := A460.lt
  refine go ?_
  refine x_s fun w463 sw463 B465 u464 => ?_
  refine go ?_
  have D467 := ((A452.keep u461 (fun hb => show ¬ ((gb449 = bk438 ∧ bk438 ≤ gb449)) by first | omega | assumption)).keep u464 (fun hb => show ¬ (gb449 = bk372) by first | omega | assumption))
  have D468 := (A460.keep u464 (fun hb => show ¬ (gb457 = bk372) by first | omega | assumption))
  obtain ⟨gz469, hgz469⟩ := Acc.lower (base' := w0.heap.size) D467 (by omega) hpos
  obtain ⟨gz470, hgz470⟩ := Acc.lower (base' := w0.heap.size) D468 (by omega) hpos
  exact hK16 (⟨0, [], none, 0, 0, [], ao448, gz469, cp450, [], ao456, gz470, cp458, 0⟩) bk372 ⟨B465, hgz469, hgz470, (by omega)⟩
 rintro W b3 w17 ⟨hb3, hWl, hWu, hb3g⟩ u18 zu18
 have B472 := (B9.kx u18)
 have lb3 := hb3.lt
 have lWl := hWl.lt
 have lWu := hWu.lt
 have hnl := hWl.neB hb3 (by decide)
 have hnu := hWu.neB hb3 (by decide)
 have hnl7 := hWl.neB B472 (by decide)
 have hnu7 := hWu.neB B472 (by decide)
 refine go ?_
 refine x_l3 (fun i => i = b3 ∨ w17.heap.size ≤ i) [1, 2, 3] (fun (j : Nat) (rs : List HR) (q : (Option Addr × Nat × Nat)) => [(4, .int .i64 (j : Int))]) (fun j rs q w => Blk w b3 37 [.int .i64 V.m, .slice q.1 rs.length q.2.2, .slice W.al V.ld.length W.cl, .slice W.au V.un.length W.cu, .int .i64 V.wk] ∧ (j ≤ V.rs.length) ∧ (Acc encHR 3 46 w0.heap.size w q.1 q.2.1 q.2.2 rs) ∧ (q.2.1 = 0 ∨ w17.heap.size ≤ q.2.1) ∧ (∀ r ∈ rs, r.o = 0 ∧ Acc encCrg 2 48 w0.heap.size w r.ao r.g r.cp r.c) ∧ (rs.map HR.hul = (V.rs.take j).map HR.hul)) (fun j rs q => V.rs.length - j) 0 ([]) (none, 0, 0) ⟨hb3, (Nat.zero_le _), (Acc.nil _ _ _ _ _ hpos (by omega)), (.inl rfl), (fun r hr => by cases hr), rfl⟩ ?_
 rintro j rs q w476 ⟨I478, hj, hA, hqW, hcs, hul⟩ u477 zu477 K475 hK475
 have E479 := Sc.mk ((E11.u.nx u18).next u477 (fun i hi h => by omega))
 have B480 := (B472.keep u477 (by omega))
 have lt_q_2_1 := hA.lt
 have hgl := hA.lt
 have hrl : rs.length = j := by have h9 := congrArg List.length hul; rw [List.length_map, List.length_map, List.length_take] at h9; omega
 refine go ?_
 refine q_p (fun g23 => ?_) fun g23 => ?_
 ·
  have hnj := nth_mem (show j < V.rs.length by omega)
  have hclj := hcl _ hnj
  have hblt := hhs.lt (by omega)
  refine go ?_
  refine g_i j (hhs.keep E479.u (fun _ h => h)) (fun _ => ?_)
  refine go ?_
  refine x_n fun bk486 w487 ebk486 sbk486 B488 u489 => ?_
  refine x_s fun w491 sw491 B493 u492 => ?_
  refine go ?_
  refine x_l fun bk496 w497 ebk496 sbk496 B498 u499 => ?_
  refine go ?_
  refine t_copyG (enc := encCrg) (z := .agg #[.int .i64 0, .int .i64 0]) (bytes := 16) (k := 2) (ys := (nth V.rs j).c) underlying35 (by kernel_rfl) rfl (by decide) (fun _ => rfl) (by intro x; simp [encCrg, Value.oneCell']) rfl rfl rfl rfl B498 ((hI.cs _ hnj).keep (((E479.u.nx u489).next u492 (fun i hi h => by omega)).nx u499) (fun _ h => h)) (by omega) (by decide) (fun ao501 gb502 cp503 w504 A505 u506 gegb502 => ?_)
  have zu506 := u506.size
  have lt_gb502 := A505.lt
  obtain ⟨gz508, hgz508, hgz508g⟩ := Acc.lowG (base' := w0.heap.size) A505 (by omega) hpos (by omega)
  have lt_gz508 := hgz508.lt
  have hgz508n : w0.heap.size ≤ gz508 → w0.heap.size ≤ gz508 := fun h => h
  refine go ?_
  refine x_s fun w509 sw509 B511 u510 => ?_
  refine go ?_
  refine x_l fun bk513 w514 ebk513 sbk513 B515 u516 => ?_
  have D518 := ((((((hA.keep u489 (fun _ h => h)).keep u492 (fun hb => show ¬ (q.2.1 = bk486) by first | omega | assumption)).keep u499 (fun _ h => h)).keep u506 (fun hb => show ¬ ((q.2.1 = bk496 ∧ bk496 ≤ q.2.1)) by first | omega | assumption)).keep u510 (fun hb => show ¬ (q.2.1 = bk486) by first | omega | assumption)).keep u516 (fun _ h => h))
  refine t_append (z := .agg #[.int .i64 0, .int .i64 0, .slice none 0 0]) (bytes := 40) (k := 3) (base := w0.heap.size) (⟨(nth V.rs j).n, (nth V.rs j).p, ao501, gz508, 0, cp503, (nth V.rs j).c⟩ : HR) underlying34 (by kernel_rfl) rfl (by decide) (fun _ => rfl) (by intro x; simp [encHR, Value.oneCell']) rfl rfl rfl rfl D518 B515 (by omega) (by omega) (by decide) (fun ao519 gb520 cp521 w522 A523 u524 gegb520 lngb520 => ?_)
  have zu524 := u524.size
  have lt_gb520 := A523.lt
  refine go ?_
  refine x_s fun w526 sw526 B528 u527 => ?_
  refine go ?_
  have D530 := (A523.keep u527 (fun hb => show ¬ (gb520 = b3) by first | omega | assumption))
  have D531 := ((((hgz508.keep u510 (fun hb => show ¬ (gz508 = bk486) by first | omega | assumption)).keep u516 (fun _ h => h)).keep u524 (fun hb => show ¬ ((gz508 = q.2.1 ∧ w0.heap.size ≤ gz508)) by first | omega | assumption)).keep u527 (fun hb => show ¬ (gz508 = b3) by first | omega | assumption))
  exact hK475 (j + 1) (rs ++ [(⟨(nth V.rs j).n, (nth V.rs j).p, ao501, gz508, 0, cp503, (nth V.rs j).c⟩ : HR)]) (ao519, gb520, cp521) ⟨B528, (by omega), D530, (show gb520 = 0 ∨ w17.heap.size ≤ gb520 by omega), (ca_snoc (cs_keep hcs hA I478 (((((((((Upd.refl (fun i => i = b3 ∨ (i = q.2.1 ∧ w0.heap.size ≤ i)) _).nx u489).next u492 (fun i hi h => by omega)).nx u499).next u506 (fun i hi h => by omega)).next u510 (fun i hi h => by omega)).nx u516).next u524 (fun i hi h => by omega)).next u527 (fun i hi h => by omega)) (fun _ h => h)) ⟨rfl, D531⟩), (by rw [take_nth (show j < V.rs.length by omega), List.map_append, List.map_append, hul]; rfl)⟩
 refine go ?_
 refine x_s fun w533 sw533 B535 u534 => ?_
 refine go ?_
 refine f_ret1 (v := .agg #[.int .i64 V.m, .slice q.1 rs.length q.2.2, .slice W.al V.ld.length W.cl, .slice W.au V.un.length W.cu, .int .i64 V.wk]) results58 ⟨_, _, rfl, run_loadVarN (vs := [.int .i64 V.m, .slice q.1 rs.length q.2.2, .slice W.al V.ld.length W.cl, .slice W.au V.un.length W.cu, .int .i64 V.wk]) isAgg37 sizeOf37 rfl (B535.at.sub 0 5)⟩ ?_
 have D537 := (hA.keep u534 (fun hb => show ¬ (q.2.1 = bk7) by first | omega | assumption))
 have D538 := ((hWl.keep u477 (fun hb => show ¬ (W.gl = b3 ∨ w17.heap.size ≤ W.gl) by first | omega | assumption)).keep u534 (fun hb => show ¬ (W.gl = bk7) by first | omega | assumption))
 have D539 := ((hWu.keep u477 (fun hb => show ¬ (W.gu = b3 ∨ w17.heap.size ≤ W.gu) by first | omega | assumption)).keep u534 (fun hb => show ¬ (W.gu = bk7) by first | omega | assumption))
 have hjn : V.rs.take j = V.rs := List.take_of_length_le (by omega)
 rw [hjn] at hul
 exact ⟨⟨⟨V.m, rs, q.1, q.2.1, q.2.2, V.ld, W.al, W.gl, W.cl, V.un, W.au, W.gu, W.cu, V.wk⟩, rfl, ⟨D537, (fun r hr => ⟨(hcs r hr).1, (hcs r hr).2.keep ((Upd.refl (fun i => i = bk7) _).next u534 (fun i hi h => by omega)) (fun hb hs => (hcs r hr).2.neB B480 (by decide) hb hs)⟩), D538, D539⟩, by simp only [SG.st, hul]⟩, u_d⟩

end Go.Proofs.YtjdcpnaocjddoaaGreatDoor
