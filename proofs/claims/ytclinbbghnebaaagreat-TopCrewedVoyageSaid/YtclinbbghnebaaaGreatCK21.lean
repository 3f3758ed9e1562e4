/-
  Part 21 of the proof: contracts and plain laws. Conditions: none.
-/
import Derived.Test.YtclinbbghnebaaaGreatCK20
namespace Go.Proofs.YtclinbbghnebaaaGreat
open Go Go.RowKit Go.Proofs.Tryz
set_option maxRecDepth 10000

theorem stop_k : StopB 7700 2000 100 125 90 = ⟨246, 271⟩ ∧ StopE 7700 2000 100 125 90 = 0 := ⟨by kernel_rfl, by kernel_rfl⟩
def svK : Voy := ⟨⟨0, 10⟩, [⟨0, 100, ⟨50, 100⟩, ⟨0, 0⟩⟩], 200, 10⟩
theorem arr_k : ArrB svK 50 = ⟨30, 70⟩ ∧ ArrE svK 50 = 0 := ⟨by kernel_rfl, by kernel_rfl⟩

set_option maxHeartbeats 4000000 in
theorem moorDepth_c  (w0 : World) :
    CallsV Tryz.prog 42 [] w0 (fun v w' => v = .bool true ∧ Ext w0 w') := by
 refine f_n func42 ?_
 refine go ?_
 refine x_l fun bk3 w4 ebk3 sbk3 B5 u6 => ?_
 refine go ?_
 refine x_l fun bk8 w9 ebk8 sbk8 B10 u11 => ?_
 refine go ?_
 refine x_n fun bk13 w14 ebk13 sbk13 B15 u16 => ?_
 refine x_s fun w18 sw18 B20 u19 => ?_
 iterate 2 refine st1 ?_
 refine x_k1 (fun _ => False) [] (fun (b2 : Nat) => [(2, .pointer (some ⟨b2, 0, none⟩)), (3, .int .i64 0)]) (fun b2 w => (Blk w b2 243 [.int .i64 100, .int .i64 100, .int .i64 115, .int .i64 115, .int .i64 (-1)])) (fun K26 hK26 => ?_) ?_
 ·
  refine c_drawnM follows (fun _ => False) (.look 0 (.look 1 (.act 2 (.look 3 (.act 4 (.act 5 (.act 6 (.look 7 (.look 8 (.look 9 (.act 10 (.act 11 (.look 12 .done) .stop) .stop)))) (.act 10 (.act 6 (.look 7 (.look 8 (.look 9 (.act 11 (.look 12 .done) .stop)))) .stop) .stop)) (.act 10 (.act 5 (.act 6 (.look 7 (.look 8 (.look 9 (.act 11 (.look 12 .done) .stop)))) .stop) .stop) .stop)) (.act 5 (.act 4 (.act 6 (.look 7 (.look 8 (.look 9 (.act 10 (.act 11 (.look 12 .done) .stop) .stop)))) (.act 10 (.act 6 (.look 7 (.look 8 (.look 9 (.act 11 (.look 12 .done) .stop)))) .stop) .stop)) (.act 10 (.act 4 (.act 6 (.look 7 (.look 8 (.look 9 (.act 11 (.look 12 .done) .stop)))) .stop) .stop) .stop)) (.act 10 (.act 4 (.act 5 (.act 6 (.look 7 (.look 8 (.look 9 (.act 11 (.look 12 .done) .stop)))) .stop) .stop) (.act 5 (.act 4 (.act 6 (.look 7 (.look 8 (.look 9 (.act 11 (.look 12 .done) .stop)))) .stop) .stop) .stop)) .stop)))) (.act 4 (.act 2 (.look 3 (.act 5 (.act 6 (.look 7 (.look 8 (.look 9 (.act 10 (.act 11 (.look 12 .done) .stop) .stop)))) (.act 10 (.act 6 (.look 7 (.look 8 (.look 9 (.act 11 (.look 12 .done) .stop)))) .stop) .stop)) (.act 10 (.act 5 (.act 6 (.look 7 (.look 8 (.look 9 (.act 11 (.look 12 .done) .stop)))) .stop) .stop) .stop))) (.act 5 (.act 2 (.look 3 (.act 6 (.look 7 (.look 8 (.look 9 (.act 10 (.act 11 (.look 12 .done) .stop) .stop)))) (.act 10 (.act 6 (.look 7 (.look 8 (.look 9 (.act 11 (.look 12 .done) .stop)))) .stop) .stop))) (.act 10 (.act 2 (.look 3 (.act 6 (.look 7 (.look 8 (.look 9 (.act 11 (.look 12 .done) .stop)))) .stop)) .stop) .stop)) (.act 10 (.act 2 (.look 3 (.act 5 (.act 6 (.look 7 (.look 8 (.look 9 (.act 11 (.look 12 .done) .stop)))) .stop) .stop)) (.act 5 (.act 2 (.look 3 (.act 6 (.look 7 (.look 8 (.look 9 (.act 11 (.look 12 .done) .stop)))) .stop)) .stop) .stop)) .stop))) (.act 5 (.act 2 (.look 3 (.act 4 (.act 6 (.look 7 (.look 8 (.look 9 (.act 10 (.act 11 (.look 12 .done) .stop) .stop)))) (.act 10 (.act 6 (.look 7 (.look 8 (.look 9 (.act 11 (.look 12 .done) .stop)))) .stop) .stop)) (.act 10 (.act 4 (.act 6 (.look 7 (.look 8 (.look 9 (.act 11 (.look 12 .done) .stop)))) .stop) .stop) .stop))) (.act 4 (.act 2 (.look 3 (.act 6 (.look 7 (.look 8 (.look 9 (.act 10 (.act 11 (.look 12 .done) .stop) .stop)))) (.act 10 (.act 6 (.look 7 (.look 8 (.look 9 (.act 11 (.look 12 .done) .stop)))) .stop) .stop))) (.act 10 (.act 2 (.look 3 (.act 6 (.look 7 (.look 8 (.look 9 (.act 11 (.look 12 .done) .stop)))) .stop)) .stop) .stop)) (.act 10 (.act 2 (.look 3 (.act 4 (.act 6 (.look 7 (.look 8 (.look 9 (.act 11 (.look 12 .done) .stop)))) .stop) .stop)) (.act 4 (.act 2 (.look 3 (.act 6 (.look 7 (.look 8 (.look 9 (.act 11 (.look 12 .done) .stop)))) .stop)) .stop) .stop)) .stop))) (.act 10 (.act 2 (.look 3 (.act 4 (.act 5 (.act 6 (.look 7 (.look 8 (.look 9 (.act 11 (.look 12 .done) .stop)))) .stop) .stop) (.act 5 (.act 4 (.act 6 (.look 7 (.look 8 (.look 9 (.act 11 (.look 12 .done) .stop)))) .stop) .stop) .stop))) (.act 4 (.act 2 (.look 3 (.act 5 (.act 6 (.look 7 (.look 8 (.look 9 (.act 11 (.look 12 .done) .stop)))) .stop) .stop)) (.act 5 (.act 2 (.look 3 (.act 6 (.look 7 (.look 8 (.look 9 (.act 11 (.look 12 .done) .stop)))) .stop)) .stop) .stop)) (.act 5 (.act 2 (.look 3 (.act 4 (.act 6 (.look 7 (.look 8 (.look 9 (.act 11 (.look 12 .done) .stop)))) .stop) .stop)) (.act 4 (.act 2 (.look 3 (.act 6 (.look 7 (.look 8 (.look 9 (.act 11 (.look 12 .done) .stop)))) .stop)) .stop) .stop)) .stop))) .stop)))))) (by kernel_rfl) fun w29 u30 => ?_
  have zu30 := u30.size
  refine go ?_
  refine s_or ?_ ?_
  ·
   refine go ?_
   refine x_l fun bk32 w33 ebk32 sbk32 B34 u35 => ?_
   refine go ?_
   refine s_or ?_ ?_
   ·
    refine go ?_
    refine x_l fun bk37 w38 ebk37 sbk37 B39 u40 => ?_
    refine go ?_
    refine s_or ?_ ?_
    ·
     refine go ?_
     refine x_c func7 rfl rfl (moorOne_c 1000 _) ?_
     rintro _ w43 ⟨rfl, u44⟩ zu44
     refine go ?_
     refine s_or ?_ ?_
     ·
      refine go ?_
      have B47 := ((B34.kx u40).kx u44)
      have B48 := (((((((B5.kx u11).kx u16).keep u19 (by omega)).kx u30).kx u35).kx u40).kx u44)
      have B49 := ((((((B10.kx u16).keep u19 (by omega)).kx u30).kx u35).kx u40).kx u44)
      have B50 := (B39.kx u44)
      refine x_c func108 rfl rfl (Float_c bk32 bk3 bk8 bk37 _ (Sl.ofBlk (enc := encSx) (xs := [⟨bk3, bk8⟩, ⟨bk3, bk8⟩]) (fun _ => rfl) B47) (Sl.ofBlk (enc := encRt) (xs := hvC) (fun _ => rfl) B48) (Sl.ofBlk (enc := encRt) (xs := hvH) (fun _ => rfl) B49) (SlI.own (xs := [3, 1]) B50)) ?_
      rintro _ w52 ⟨rfl, u53⟩ zu53
      refine go ?_
      refine x_n fun bk56 w57 ebk56 sbk56 B58 u59 => ?_
      refine go ?_
      refine x_s fun w61 sw61 B63 u62 => ?_
      refine go ?_
      exact hK26 bk56 B63
     refine go ?_
     refine x_n fun bk65 w66 ebk65 sbk65 B67 u68 => ?_
     refine go ?_
     have B70 := (((B34.kx u40).kx u44).kx u68)
     have B71 := ((((((((B5.kx u11).kx u16).keep u19 (by omega)).kx u30).kx u35).kx u40).kx u44).kx u68)
     have B72 := (((((((B10.kx u16).keep u19 (by omega)).kx u30).kx u35).kx u40).kx u44).kx u68)
     have B73 := ((B39.kx u44).kx u68)
     refine x_c func108 rfl rfl (Float_c bk32 bk3 bk8 bk37 _ (Sl.ofBlk (enc := encSx) (xs := [⟨bk3, bk8⟩, ⟨bk3, bk8⟩]) (fun _ => rfl) B70) (Sl.ofBlk (enc := encRt) (xs := hvC) (fun _ => rfl) B71) (Sl.ofBlk (enc := encRt) (xs := hvH) (fun _ => rfl) B72) (SlI.own (xs := [3, 1]) B73)) ?_
     rintro _ w75 ⟨rfl, u76⟩ zu76
     refine go ?_
     refine x_s fun w79 sw79 B81 u80 => ?_
     refine go ?_
     exact hK26 bk65 B81
    refine go ?_
    refine x_n fun bk83 w84 ebk83 sbk83 B85 u86 => ?_
    refine go ?_
    refine x_c func7 rfl rfl (moorOne_c 1000 _) ?_
    rintro _ w89 ⟨rfl, u90⟩ zu90
    refine go ?_
    have B93 := (((B34.kx u40).kx u86).kx u90)
    have B94 := ((((((((B5.kx u11).kx u16).keep u19 (by omega)).kx u30).kx u35).kx u40).kx u86).kx u90)
    have B95 := (((((((B10.kx u16).keep u19 (by omega)).kx u30).kx u35).kx u40).kx u86).kx u90)
    have B96 := ((B39.kx u86).kx u90)
    refine x_c func108 rfl rfl (Float_c bk32 bk3 bk8 bk37 _ (Sl.ofBlk (enc := encSx) (xs := [⟨bk3, bk8⟩, ⟨bk3, bk8⟩]) (fun _ => rfl) B93) (Sl.ofBlk (enc := encRt) (xs := hvC) (fun _ => rfl) B94) (Sl.ofBlk (enc := encRt) (xs := hvH) (fun _ => rfl) B95) (SlI.own (xs := [3, 1]) B96)) ?_
    rintro _ w98 ⟨rfl, u99⟩ zu99
    refine go ?_
    refine x_s fun w102 sw102 B104 u103 => ?_
    refine go ?_
    exact hK26 bk83 B104
   refine s_or ?_ ?_
   ·
    refine go ?_
    refine x_c func7 rfl rfl (moorOne_c 1000 _) ?_
    rintro _ w107 ⟨rfl, u108⟩ zu108
    refine go ?_
    refine s_or ?_ ?_
    ·
     refine go ?_
     refine x_l fun bk111 w112 ebk111 sbk111 B113 u114 => ?_
     refine go ?_
     refine s_or ?_ ?_
     ·
      refine go ?_
      have B116 := ((B34.kx u108).kx u114)
      have B117 := (((((((B5.kx u11).kx u16).keep u19 (by omega)).kx u30).kx u35).kx u108).kx u114)
      have B118 := ((((((B10.kx u16).keep u19 (by omega)).kx u30).kx u35).kx u108).kx u114)
      refine x_c func108 rfl rfl (Float_c bk32 bk3 bk8 bk111 _ (Sl.ofBlk (enc := encSx) (xs := [⟨bk3, bk8⟩, ⟨bk3, bk8⟩]) (fun _ => rfl) B116) (Sl.ofBlk (enc := encRt) (xs := hvC) (fun _ => rfl) B117) (Sl.ofBlk (enc := encRt) (xs := hvH) (fun _ => rfl) B118) (SlI.own (xs := [3, 1]) B113)) ?_
      rintro _ w120 ⟨rfl, u121⟩ zu121
      refine go ?_
      refine x_n fun bk124 w125 ebk124 sbk124 B126 u127 => ?_
      refine go ?_
      refine x_s fun w129 sw129 B131 u130 => ?_
      refine go ?_
      exact hK26 bk124 B131
     refine go ?_
     refine x_n fun bk133 w134 ebk133 sbk133 B135 u136 => ?_
     refine go ?_
     have B138 := (((B34.kx u108).kx u114).kx u136)
     have B139 := ((((((((B5.kx u11).kx u16).keep u19 (by omega)).kx u30).kx u35).kx u108).kx u114).kx u136)
     have B140 := (((((((B10.kx u16).keep u19 (by omega)).kx u30).kx u35).kx u108).kx u114).kx u136)
     have B141 := (B113.kx u136)
     refine x_c func108 rfl rfl (Float_c bk32 bk3 bk8 bk111 _ (Sl.ofBlk (enc := encSx) (xs := [⟨bk3, bk8⟩, ⟨bk3, bk8⟩]) (fun _ => rfl) B138) (Sl.ofBlk (enc := encRt) (xs := hvC) (fun _ => rfl) B139) (Sl.ofBlk (enc := encRt) (xs := hvH) (fun _ => rfl) B140) (SlI.own (xs := [3, 1]) B141)) ?_
     rintro _ w143 ⟨rfl, u144⟩ zu144
     refine go ?_
     refine x_s fun w147 sw147 B149 u148 => ?_
     refine go ?_
     exact hK26 bk133 B149
    refine go ?_
    refine x_n fun bk151 w152 ebk151 sbk151 B153 u154 => ?_
    refine go ?_
    refine x_l fun bk156 w157 ebk156 sbk156 B158 u159 => ?_
    refine go ?_
    have B161 := (((B34.kx u108).kx u154).kx u159)
    have B162 := ((((((((B5.kx u11).kx u16).keep u19 (by omega)).kx u30).kx u35).kx u108).kx u154).kx u159)
    have B163 := (((((((B10.kx u16).keep u19 (by omega)).kx u30).kx u35).kx u108).kx u154).kx u159)
    refine x_c func108 rfl rfl (Float_c bk32 bk3 bk8 bk156 _ (Sl.ofBlk (enc := encSx) (xs := [⟨bk3, bk8⟩, ⟨bk3, bk8⟩]) (fun _ => rfl) B161) (Sl.ofBlk (enc := encRt) (xs := hvC) (fun _ => rfl) B162) (Sl.ofBlk (enc := encRt) (xs := hvH) (fun _ => rfl) B163) (SlI.own (xs := [3, 1]) B158)) ?_
    rintro _ w165 ⟨rfl, u166⟩ zu166
    refine go ?_
    refine x_s fun w169 sw169 B171 u170 => ?_
    refine go ?_
    exact hK26 bk151 B171
   refine go ?_
   refine x_n fun bk173 w174 ebk173 sbk173 B175 u176 => ?_
   refine go ?_
   refine s_or ?_ ?_
   ·
    refine go ?_
    refine x_l fun bk178 w179 ebk178 sbk178 B180 u181 => ?_
    refine go ?_
    refine x_c func7 rfl rfl (moorOne_c 1000 _) ?_
    rintro _ w184 ⟨rfl, u185⟩ zu185
    refine go ?_
    have B188 := (((B34.kx u176).kx u181).kx u185)
    have B189 := ((((((((B5.kx u11).kx u16).keep u19 (by omega)).kx u30).kx u35).kx u176).kx u181).kx u185)
    have B190 := (((((((B10.kx u16).keep u19 (by omega)).kx u30).kx u35).kx u176).kx u181).kx u185)
    have B191 := (B180.kx u185)
    refine x_c func108 rfl rfl (Float_c bk32 bk3 bk8 bk178 _ (Sl.ofBlk (enc := encSx) (xs := [⟨bk3, bk8⟩, ⟨bk3, bk8⟩]) (fun _ => rfl) B188) (Sl.ofBlk (enc := encRt) (xs := hvC) (fun _ => rfl) B189) (Sl.ofBlk (enc := encRt) (xs := hvH) (fun _ => rfl) B190) (SlI.own (xs := [3, 1]) B191)) ?_
    rintro _ w193 ⟨rfl, u194⟩ zu194
    refine go ?_
    refine x_s fun w197 sw197 B199 u198 => ?_
    refine go ?_
    exact hK26 bk173 B199
   refine go ?_
   refine x_c func7 rfl rfl (moorOne_c 1000 _) ?_
   rintro _ w202 ⟨rfl, u203⟩ zu203
   refine go ?_
   refine x_l fun bk206 w207 ebk206 sbk206 B208 u209 => ?_
   refine go ?_
   have B211 := (((B34.kx u176).kx u203).kx u209)
   have B212 := ((((((((B5.kx u11).kx u16).keep u19 (by omega)).kx u30).kx u35).kx u176).kx u203).kx u209)
   have B213 := (((((((B10.kx u16).keep u19 (by omega)).kx u30).kx u35).kx u176).kx u203).kx u209)
   refine x_c func108 rfl rfl (Float_c bk32 bk3 bk8 bk206 _ (Sl.ofBlk (enc := encSx) (xs := [⟨bk3, bk8⟩, ⟨bk3, bk8⟩]) (fun _ => rfl) B211) (Sl.ofBlk (enc := encRt) (xs := hvC) (fun _ => rfl) B212) (Sl.ofBlk (enc := encRt) (xs := hvH) (fun _ => rfl) B213) (SlI.own (xs := [3, 1]) B208)) ?_
   rintro _ w215 ⟨rfl, u216⟩ zu216
   refine go ?_
   refine x_s fun w219 sw219 B221 u220 => ?_
   refine go ?_
   exact hK26 bk173 B221
  refine s_or ?_ ?_
  ·
   refine go ?_
   refine x_l fun bk223 w224 ebk223 sbk223 B225 u226 => ?_
   refine go ?_
   refine s_or ?_ ?_
   ·
    refine go ?_
    refine x_l fun bk228 w229 ebk228 sbk228 B230 u231 => ?_
    refine go ?_
    refine s_or ?_ ?_
    ·
     refine go ?_
     refine x_c func7 rfl rfl (moorOne_c 1000 _) ?_
     rintro _ w234 ⟨rfl, u235⟩ zu235
     refine go ?_
     refine s_or ?_ ?_
     ·
      refine go ?_
      have B238 := (B230.kx u235)
      have B239 := (((((((B5.kx u11).kx u16).keep u19 (by omega)).kx u30).kx u226).kx u231).kx u235)
      have B240 := ((((((B10.kx u16).keep u19 (by omega)).kx u30).kx u226).kx u231).kx u235)
      have B241 := ((B225.kx u231).kx u235)
      refine x_c func108 rfl rfl (Float_c bk228 bk3 bk8 bk223 _ (Sl.ofBlk (enc := encSx) (xs := [⟨bk3, bk8⟩, ⟨bk3, bk8⟩]) (fun _ => rfl) B238) (Sl.ofBlk (enc := encRt) (xs := hvC) (fun _ => rfl) B239) (Sl.ofBlk (enc := encRt) (xs := hvH) (fun _ => rfl) B240) (SlI.own (xs := [3, 1]) B241)) ?_
      rintro _ w243 ⟨rfl, u244⟩ zu244
      refine go ?_
      refine x_n fun bk247 w248 ebk247 sbk247 B249 u250 => ?_
      refine go ?_
      refine x_s fun w252 sw252 B254 u253 => ?_
      refine go ?_
      exact hK26 bk247 B254
     refine go ?_
     refine x_n fun bk256 w257 ebk256 sbk256 B258 u259 => ?_
     refine go ?_
     have B261 := ((B230.kx u235).kx u259)
     have B262 := ((((((((B5.kx u11).kx u16).keep u19 (by omega)).kx u30).kx u226).kx u231).kx u235).kx u259)
     have B263 := (((((((B10.kx u16).keep u19 (by omega)).kx u30).kx u226).kx u231).kx u235).kx u259)
     have B264 := (((B225.kx u231).kx u235).kx u259)
     refine x_c func108 rfl rfl (Float_c bk228 bk3 bk8 bk223 _ (Sl.ofBlk (enc := encSx) (xs := [⟨bk3, bk8⟩, ⟨bk3, bk8⟩]) (fun _ => rfl) B261) (Sl.ofBlk (enc := encRt) (xs := hvC) (fun _ => rfl) B262) (Sl.ofBlk (enc := encRt) (xs := hvH) (fun _ => rfl) B263) (SlI.own (xs := [3, 1]) B264)) ?_
     rintro _ w266 ⟨rfl, u267⟩ zu267
     refine go ?_
     refine x_s fun w270 sw270 B272 u271 => ?_
     refine go ?_
     exact hK26 bk256 B272
    refine go ?_
    refine x_n fun bk274 w275 ebk274 sbk274 B276 u277 => ?_
    refine go ?_
    refine x_c func7 rfl rfl (moorOne_c 1000 _) ?_
    rintro _ w280 ⟨rfl, u281⟩ zu281
    refine go ?_
    have B284 := ((B230.kx u277).kx u281)
    have B285 := ((((((((B5.kx u11).kx u16).keep u19 (by omega)).kx u30).kx u226).kx u231).kx u277).kx u281)
    have B286 := (((((((B10.kx u16).keep u19 (by omega)).kx u30).kx u226).kx u231).kx u277).kx u281)
    have B287 := (((B225.kx u231).kx u277).kx u281)
    refine x_c func108 rfl rfl (Float_c bk228 bk3 bk8 bk223 _ (Sl.ofBlk (enc := encSx) (xs := [⟨bk3, bk8⟩, ⟨bk3, bk8⟩]) (fun _ => rfl) B284) (Sl.ofBlk (enc := encRt) (xs := hvC) (fun _ => rfl) B285) (Sl.ofBlk (enc := encRt) (xs := hvH) (fun _ => rfl) B286) (SlI.own (xs := [3, 1]) B287)) ?_
    rintro _ w289 ⟨rfl, u290⟩ zu290
    refine go ?_
    refine x_s fun w293 sw293 B295 u294 => ?_
    refine go ?_
    exact hK26 bk274 B295
   refine s_or ?_ ?_
   ·
    refine go ?_
    refine x_c func7 rfl rfl (moorOne_c 1000 _) ?_
    rintro _ w298 ⟨rfl, u299⟩ zu299
    refine go ?_
    refine s_or ?_ ?_
    ·
     refine go ?_
     refine x_l fun bk302 w303 ebk302 sbk302 B304 u305 => ?_
     refine go ?_
     refine s_or ?_ ?_
     ·
      refine go ?_
      have B307 := (((((((B5.kx u11).kx u16).keep u19 (by omega)).kx u30).kx u226).kx u299).kx u305)
      have B308 := ((((((B10.kx u16).keep u19 (by omega)).kx u30).kx u226).kx u299).kx u305)
      have B309 := ((B225.kx u299).kx u305)
      refine x_c func108 rfl rfl (Float_c bk302 bk3 bk8 bk223 _ (Sl.ofBlk (enc := encSx) (xs := [⟨bk3, bk8⟩, ⟨bk3, bk8⟩]) (fun _ => rfl) B304) (Sl.ofBlk (enc := encRt) (xs := hvC) (fun _ => rfl) B307) (Sl.ofBlk (enc := encRt) (xs := hvH) (fun _ => rfl) B308) (SlI.own (xs := [3, 1]) B309)) ?_
      rintro _ w311 ⟨rfl, u312⟩ zu312
      refine go ?_
      refine x_n fun bk315 w316 ebk315 sbk315 B317 u318 => ?_
      refine go ?_
      refine x_s fun w320 sw320 B322 u321 => ?_
      refine go ?_
      exact hK26 bk315 B322
     refine go ?_
     refine x_n fun bk324 w325 ebk324 sbk324 B326 u327 => ?_
     refine go ?_
     have B329 := (B304.kx u327)
     have B330 := ((((((((B5.kx u11).kx u16).keep u19 (by omega)).kx u30).kx u226).kx u299).kx u305).kx u327)
     have B331 := (((((((B10.kx u16).keep u19 (by omega)).kx u30).kx u226).kx u299).kx u305).kx u327)
     have B332 := (((B225.kx u299).kx u305).kx u327)
     refine x_c func108 rfl rfl (Float_c bk302 bk3 bk8 bk223 _ (Sl.ofBlk (enc := encSx) (xs := [⟨bk3, bk8⟩, ⟨bk3, bk8⟩]) (fun _ => rfl) B329) (Sl.ofBlk (enc := encRt) (xs := hvC) (fun _ => rfl) B330) (Sl.ofBlk (enc := encRt) (xs := hvH) (fun _ => rfl) B331) (SlI.own (xs := [3, 1]) B332)) ?_
     rintro _ w334 ⟨rfl, u335⟩ zu335
     refine go ?_
     refine x_s fun w338 sw338 B340 u339 => ?_
     refine go ?_
     exact hK26 bk324 B340
    refine go ?_
    refine x_n fun bk342 w343 ebk342 sbk342 B344 u345 => ?_
    refine go ?_
    refine x_l fun bk347 w348 ebk347 sbk347 B349 u350 => ?_
    refine go ?_
    have B352 := ((((((((B5.kx u11).kx u16).keep u19 (by omega)).kx u30).kx u226).kx u299).kx u345).kx u350)
    have B353 := (((((((B10.kx u16).keep u19 (by omega)).kx u30).kx u226).kx u299).kx u345).kx u350)
    have B354 := (((B225.kx u299).kx u345).kx u350)
    refine x_c func108 rfl rfl (Float_c bk347 bk3 bk8 bk223 _ (Sl.ofBlk (enc := encSx) (xs := [⟨bk3, bk8⟩, ⟨bk3, bk8⟩]) (fun _ => rfl) B349) (Sl.ofBlk (enc := encRt) (xs := hvC) (fun _ => rfl) B352) (Sl.ofBlk (enc := encRt) (xs := hvH) (fun _ => rfl) B353) (SlI.own (xs := [3, 1]) B354)) ?_
    rintro _ w356 ⟨rfl, u357⟩ zu357
    refine go ?_
    refine x_s fun w360 sw360 B362 u361 => ?_
    refine go ?_
    exact hK26 bk342 B362
   refine go ?_
   refine x_n fun bk364 w365 ebk364 sbk364 B366 u367 => ?_
   refine go ?_
   refine s_or ?_ ?_
   ·
    refine go ?_
    refine x_l fun bk369 w370 ebk369 sbk369 B371 u372 => ?_
    refine go ?_
    refine x_c func7 rfl rfl (moorOne_c 1000 _) ?_
    rintro _ w375 ⟨rfl, u376⟩ zu376
    refine go ?_
    have B379 := (B371.kx u376)
    have B380 := ((((((((B5.kx u11).kx u16).keep u19 (by omega)).kx u30).kx u226).kx u367).kx u372).kx u376)
    have B381 := (((((((B10.kx u16).keep u19 (by omega)).kx u30).kx u226).kx u367).kx u372).kx u376)
    have B382 := (((B225.kx u367).kx u372).kx u376)
    refine x_c func108 rfl rfl (Float_c bk369 bk3 bk8 bk223 _ (Sl.ofBlk (enc := encSx) (xs := [⟨bk3, bk8⟩, ⟨bk3, bk8⟩]) (fun _ => rfl) B379) (Sl.ofBlk (enc := encRt) (xs := hvC) (fun _ => rfl) B380) (Sl.ofBlk (enc := encRt) (xs := hvH) (fun _ => rfl) B381) (SlI.own (xs := [3, 1]) B382)) ?_
    rintro _ w384 ⟨rfl, u385⟩ zu385
    refine go ?_
    refine x_s fun w388 sw388 B390 u389 => ?_
    refine go ?_
    exact hK26 bk364 B390
   refine go ?_
   refine x_c func7 rfl rfl (moorOne_c 1000 _) ?_
   rintro _ w393 ⟨rfl, u394⟩ zu394
   refine go ?_
   refine x_l fun bk397 w398 ebk397 sbk397 B399 u400 => ?_
   refine go ?_
   have B402 := ((((((((B5.kx u11).kx u16).keep u19 (by omega)).kx u30).kx u226).kx u367).kx u394).kx u400)
   have B403 := (((((((B10.kx u16).keep u19 (by omega)).kx u30).kx u226).kx u367).kx u394).kx u400)
   have B404 := (((B225.kx u367).kx u394).kx u400)
   refine x_c func108 rfl rfl (Float_c bk397 bk3 bk8 bk223 _ (Sl.ofBlk (enc := encSx) (xs := [⟨bk3, bk8⟩, ⟨bk3, bk8⟩]) (fun _ => rfl) B399) (Sl.ofBlk (enc := encRt) (xs := hvC) (fun _ => rfl) B402) (Sl.ofBlk (enc := encRt) (xs := hvH) (fun _ => rfl) B403) (SlI.own (xs := [3, 1]) B404)) ?_
   rintro _ w406 ⟨rfl, u407⟩ zu407
   refine go ?_
   refine x_s fun w410 sw410 B412 u411 => ?_
   refine go ?_
   exact hK26 bk364 B412
  refine s_or ?_ ?_
  ·
   refine go ?_
   refine x_c func7 rfl rfl (moorOne_c 1000 _) ?_
   rintro _ w415 ⟨rfl, u416⟩ zu416
   refine go ?_
   refine s_or ?_ ?_
   ·
    refine go ?_
    refine x_l fun bk419 w420 ebk419 sbk419 B421 u422 => ?_
    refine go ?_
    refine s_or ?_ ?_
    ·
     refine go ?_
     refine x_l fun bk424 w425 ebk424 sbk424 B426 u427 => ?_
     refine go ?_
     refine s_or ?_ ?_
     ·
      refine go ?_
      have B429 := (B421.kx u427)
      have B430 := (((((((B5.kx u11).kx u16).keep u19 (by omega)).kx u30).kx u416).kx u422).kx u427)
      have B431 := ((((((B10.kx u16).keep u19 (by omega)).kx u30).kx u416).kx u422).kx u427)
      refine x_c func108 rfl rfl (Float_c bk419 bk3 bk8 bk424 _ (Sl.ofBlk (enc := encSx) (xs := [⟨bk3, bk8⟩, ⟨bk3, bk8⟩]) (fun _ => rfl) B429) (Sl.ofBlk (enc := encRt) (xs := hvC) (fun _ => rfl) B430) (Sl.ofBlk (enc := encRt) (xs := hvH) (fun _ => rfl) B431) (SlI.own (xs := [3, 1]) B426)) ?_
      rintro _ w433 ⟨rfl, u434⟩ zu434
      refine go ?_
      refine x_n fun bk437 w438 ebk437 sbk437 B439 u440 => ?_
      refine go ?_
      refine x_s fun w442 sw442 B444 u443 => ?_
      refine go ?_
      exact hK26 bk437 B444
     refine go ?_
     refine x_n fun bk446 w447 ebk446 sbk446 B448 u449 => ?_
     refine go ?_
     have B451 := ((B421.kx u427).kx u449)
     have B452 := ((((((((B5.kx u11).kx u16).keep u19 (by omega)).kx u30).kx u416).kx u422).kx u427).kx u449)
     have B453 := (((((((B10.kx u16).keep u19 (by omega)).kx u30).kx u416).kx u422).kx u427).kx u449)
     have B454 := (B426.kx u449)
     refine x_c func108 rfl rfl (Float_c bk419 bk3 bk8 bk424 _ (Sl.ofBlk (enc := encSx) (xs := [⟨bk3, bk8⟩, ⟨bk3, bk8⟩]) (fun _ => rfl) B451) (Sl.ofBlk (enc := encRt) (xs := hvC) (fun _ => rfl) B452) (Sl.ofBlk (enc := encRt) (xs := hvH) (fun _ => rfl) B453) (SlI.own (xs := [3, 1]) B454)) ?_
     rintro _ w456 ⟨rfl, u457⟩ zu457
     refine go ?_
     refine x_s fun w460 sw460 B462 u461 => ?_
     refine go ?_
     exact hK26 bk446 B462
    refine go ?_
    refine x_n fun bk464 w465 ebk464 sbk464 B466 u467 => ?_
    refine go ?_
    refine x_l fun bk469 w470 ebk469 sbk469 B471 u472 => ?_
    refine go ?_
    have B474 := ((B421.kx u467).kx u472)
    have B475 := ((((((((B5.kx u11).kx u16).keep u19 (by omega)).kx u30).kx u416).kx u422).kx u467).kx u472)
    have B476 := (((((((B10.kx u16).keep u19 (by omega)).kx u30).kx u416).kx u422).kx u467).kx u472)
    refine x_c func108 rfl rfl (Float_c bk419 bk3 bk8 bk469 _ (Sl.ofBlk (enc := encSx) (xs := [⟨bk3, bk8⟩, ⟨bk3, bk8⟩]) (fun _ => rfl) B474) (Sl.ofBlk (enc := encRt) (xs := hvC) (fun _ => rfl) B475) (Sl.ofBlk (enc := encRt) (xs := hvH) (fun _ => rfl) B476) (SlI.own (xs := [3, 1]) B471)) ?_
    rintro _ w478 ⟨rfl, u479⟩ zu479
    refine go ?_
    refine x_s fun w482 sw482 B484 u483 => ?_
    refine go ?_
    exact hK26 bk464 B484
   refine s_or ?_ ?_
   ·
    refine go ?_
    refine x_l fun bk486 w487 ebk486 sbk486 B488 u489 => ?_
    refine go ?_
    refine s_or ?_ ?_
    ·
     refine go ?_
     refine x_l fun bk491 w492 ebk491 sbk491 B493 u494 => ?_
     refine go ?_
     refine s_or ?_ ?_
     ·
      refine go ?_
      have B496 := (((((((B5.kx u11).kx u16).keep u19 (by omega)).kx u30).kx u416).kx u489).kx u494)
      have B497 := ((((((B10.kx u16).keep u19 (by omega)).kx u30).kx u416).kx u489).kx u494)
      have B498 := (B488.kx u494)
      refine x_c func108 rfl rfl (Float_c bk491 bk3 bk8 bk486 _ (Sl.ofBlk (enc := encSx) (xs := [⟨bk3, bk8⟩, ⟨bk3, bk8⟩]) (fun _ => rfl) B493) (Sl.ofBlk (enc := encRt) (xs := hvC) (fun _ => rfl) B496) (Sl.ofBlk (enc := encRt) (xs := hvH) (fun _ => rfl) B497) (SlI.own (xs := [3, 1]) B498)) ?_
      rintro _ w500 ⟨rfl, u501⟩ zu501
      refine go ?_
      refine x_n fun bk504 w505 ebk504 sbk504 B506 u507 => ?_
      refine go ?_
      refine x_s fun w509 sw509 B511 u510 => ?_
      refine go ?_
      exact hK26 bk504 B511
     refine go ?_
     refine x_n fun bk513 w514 ebk513 sbk513 B515 u516 => ?_
     refine go ?_
     have B518 := (B493.kx u516)
     have B519 := ((((((((B5.kx u11).kx u16).keep u19 (by omega)).kx u30).kx u416).kx u489).kx u494).kx u516)
     have B520 := (((((((B10.kx u16).keep u19 (by omega)).kx u30).kx u416).kx u489).kx u494).kx u516)
     have B521 := ((B488.kx u494).kx u516)
     refine x_c func108 rfl rfl (Float_c bk491 bk3 bk8 bk486 _ (Sl.ofBlk (enc := encSx) (xs := [⟨bk3, bk8⟩, ⟨bk3, bk8⟩]) (fun _ => rfl) B518) (Sl.ofBlk (enc := encRt) (xs := hvC) (fun _ => rfl) B519) (Sl.ofBlk (enc := encRt) (xs := hvH) (fun _ => rfl) B520) (SlI.own (xs := [3, 1]) B521)) ?_
     rintro _ w523 ⟨rfl, u524⟩ zu524
     refine go ?_
     refine x_s fun w527 sw527 B529 u528 => ?_
     refine go ?_
     exact hK26 bk513 B529
    refine go ?_
    refine x_n fun bk531 w532 ebk531 sbk531 B533 u534 => ?_
    refine go ?_
    refine x_l fun bk536 w537 ebk536 sbk536 B538 u539 => ?_
    refine go ?_
    have B541 := ((((((((B5.kx u11).kx u16).keep u19 (by omega)).kx u30).kx u416).kx u489).kx u534).kx u539)
    have B542 := (((((((B10.kx u16).keep u19 (by omega)).kx u30).kx u416).kx u489).kx u534).kx u539)
    have B543 := ((B488.kx u534).kx u539)
    refine x_c func108 rfl rfl (Float_c bk536 bk3 bk8 bk486 _ (Sl.ofBlk (enc := encSx) (xs := [⟨bk3, bk8⟩, ⟨bk3, bk8⟩]) (fun _ => rfl) B538) (Sl.ofBlk (enc := encRt) (xs := hvC) (fun _ => rfl) B541) (Sl.ofBlk (enc := encRt) (xs := hvH) (fun _ => rfl) B542) (SlI.own (xs := [3, 1]) B543)) ?_
    rintro _ w545 ⟨rfl, u546⟩ zu546
    refine go ?_
    refine x_s fun w549 sw549 B551 u550 => ?_
    refine go ?_
    exact hK26 bk531 B551
   refine go ?_
   refine x_n fun bk553 w554 ebk553 sbk553 B555 u556 => ?_
   refine go ?_
   refine s_or ?_ ?_
   ·
    refine go ?_
    refine x_l fun bk558 w559 ebk558 sbk558 B560 u561 => ?_
    refine go ?_
    refine x_l fun bk563 w564 ebk563 sbk563 B565 u566 => ?_
    refine go ?_
    have B568 := (B560.kx u566)
    have B569 := ((((((((B5.kx u11).kx u16).keep u19 (by omega)).kx u30).kx u416).kx u556).kx u561).kx u566)
    have B570 := (((((((B10.kx u16).keep u19 (by omega)).kx u30).kx u416).kx u556).kx u561).kx u566)
    refine x_c func108 rfl rfl (Float_c bk558 bk3 bk8 bk563 _ (Sl.ofBlk (enc := encSx) (xs := [⟨bk3, bk8⟩, ⟨bk3, bk8⟩]) (fun _ => rfl) B568) (Sl.ofBlk (enc := encRt) (xs := hvC) (fun _ => rfl) B569) (Sl.ofBlk (enc := encRt) (xs := hvH) (fun _ => rfl) B570) (SlI.own (xs := [3, 1]) B565)) ?_
    rintro _ w572 ⟨rfl, u573⟩ zu573
    refine go ?_
    refine x_s fun w576 sw576 B578 u577 => ?_
    refine go ?_
    exact hK26 bk553 B578
   refine go ?_
   refine x_l fun bk580 w581 ebk580 sbk580 B582 u583 => ?_
   refine go ?_
   refine x_l fun bk585 w586 ebk585 sbk585 B587 u588 => ?_
   refine go ?_
   have B590 := ((((((((B5.kx u11).kx u16).keep u19 (by omega)).kx u30).kx u416).kx u556).kx u583).kx u588)
   have B591 := (((((((B10.kx u16).keep u19 (by omega)).kx u30).kx u416).kx u556).kx u583).kx u588)
   have B592 := (B582.kx u588)
   refine x_c func108 rfl rfl (Float_c bk585 bk3 bk8 bk580 _ (Sl.ofBlk (enc := encSx) (xs := [⟨bk3, bk8⟩, ⟨bk3, bk8⟩]) (fun _ => rfl) B587) (Sl.ofBlk (enc := encRt) (xs := hvC) (fun _ => rfl) B590) (Sl.ofBlk (enc := encRt) (xs := hvH) (fun _ => rfl) B591) (SlI.own (xs := [3, 1]) B592)) ?_
   rintro _ w594 ⟨rfl, u595⟩ zu595
   refine go ?_
   refine x_s fun w598 sw598 B600 u599 => ?_
   refine go ?_
   exact hK26 bk553 B600
  refine go ?_
  refine x_n fun bk602 w603 ebk602 sbk602 B604 u605 => ?_
  refine go ?_
  refine s_or ?_ ?_
  ·
   refine go ?_
   refine x_l fun bk607 w608 ebk607 sbk607 B609 u610 => ?_
   refine go ?_
   refine s_or ?_ ?_
   ·
    refine go ?_
    refine x_l fun bk612 w613 ebk612 sbk612 B614 u615 => ?_
    refine go ?_
    refine x_c func7 rfl rfl (moorOne_c 1000 _) ?_
    rintro _ w618 ⟨rfl, u619⟩ zu619
    refine go ?_
    have B622 := ((B609.kx u615).kx u619)
    have B623 := ((((((((B5.kx u11).kx u16).keep u19 (by omega)).kx u30).kx u605).kx u610).kx u615).kx u619)
    have B624 := (((((((B10.kx u16).keep u19 (by omega)).kx u30).kx u605).kx u610).kx u615).kx u619)
    have B625 := (B614.kx u619)
    refine x_c func108 rfl rfl (Float_c bk607 bk3 bk8 bk612 _ (Sl.ofBlk (enc := encSx) (xs := [⟨bk3, bk8⟩, ⟨bk3, bk8⟩]) (fun _ => rfl) B622) (Sl.ofBlk (enc := encRt) (xs := hvC) (fun _ => rfl) B623) (Sl.ofBlk (enc := encRt) (xs := hvH) (fun _ => rfl) B624) (SlI.own (xs := [3, 1]) B625)) ?_
    rintro _ w627 ⟨rfl, u628⟩ zu628
    refine go ?_
    refine x_s fun w631 sw631 B633 u632 => ?_
    refine go ?_
    exact hK26 bk602 B633
   refine go ?_
   refine x_c func7 rfl rfl (moorOne_c 1000 _) ?_
   rintro _ w636 ⟨rfl, u637⟩ zu637
   refine go ?_
   refine x_l fun bk640 w641 ebk640 sbk640 B642 u643 => ?_
   refine go ?_
   have B645 := ((B609.kx u637).kx u643)
   have B646 := ((((((((B5.kx u11).kx u16).keep u19 (by omega)).kx u30).kx u605).kx u610).kx u637).kx u643)
   have B647 := (((((((B10.kx u16).keep u19 (by omega)).kx u30).kx u605).kx u610).kx u637).kx u643)
   refine x_c func108 rfl rfl (Float_c bk607 bk3 bk8 bk640 _ (Sl.ofBlk (enc := encSx) (xs := [⟨bk3, bk8⟩, ⟨bk3, bk8⟩]) (fun _ => rfl) B645) (Sl.ofBlk (enc := encRt) (xs := hvC) (fun _ => rfl) B646) (Sl.ofBlk (enc := encRt) (xs := hvH) (fun _ => rfl) B647) (SlI.own (xs := [3, 1]) B642)) ?_
   rintro _ w649 ⟨rfl, u650⟩ zu650
   refine go ?_
   refine x_s fun w653 sw653 B655 u654 => ?_
   refine go ?_
   exact hK26 bk602 B655
  refine s_or ?_ ?_
  ·
   refine go ?_
   refine x_l fun bk657 w658 ebk657 sbk657 B659 u660 => ?_
   refine go ?_
   refine s_or ?_ ?_
   ·
    refine go ?_
    refine x_l fun bk662 w663 ebk662 sbk662 B664 u665 => ?_
    refine go ?_
    refine x_c func7 rfl rfl (moorOne_c 1000 _) ?_
    rintro _ w668 ⟨rfl, u669⟩ zu669
    refine go ?_
    have B672 := (B664.kx u669)
    have B673 := ((((((((B5.kx u11).kx u16).keep u19 (by omega)).kx u30).kx u605).kx u660).kx u665).kx u669)
    have B674 := (((((((B10.kx u16).keep u19 (by omega)).kx u30).kx u605).kx u660).kx u665).kx u669)
    have B675 := ((B659.kx u665).kx u669)
    refine x_c func108 rfl rfl (Float_c bk662 bk3 bk8 bk657 _ (Sl.ofBlk (enc := encSx) (xs := [⟨bk3, bk8⟩, ⟨bk3, bk8⟩]) (fun _ => rfl) B672) (Sl.ofBlk (enc := encRt) (xs := hvC) (fun _ => rfl) B673) (Sl.ofBlk (enc := encRt) (xs := hvH) (fun _ => rfl) B674) (SlI.own (xs := [3, 1]) B675)) ?_
    rintro _ w677 ⟨rfl, u678⟩ zu678
    refine go ?_
    refine x_s fun w681 sw681 B683 u682 => ?_
    refine go ?_
    exact hK26 bk602 B683
   refine go ?_
   refine x_c func7 rfl rfl (moorOne_c 1000 _) ?_
   rintro _ w686 ⟨rfl, u687⟩ zu687
   refine go ?_
   refine x_l fun bk690 w691 ebk690 sbk690 B692 u693 => ?_
   refine go ?_
   have B695 := ((((((((B5.kx u11).kx u16).keep u19 (by omega)).kx u30).kx u605).kx u660).kx u687).kx u693)
   have B696 := (((((((B10.kx u16).keep u19 (by omega)).kx u30).kx u605).kx u660).kx u687).kx u693)
   have B697 := ((B659.kx u687).kx u693)
   refine x_c func108 rfl rfl (Float_c bk690 bk3 bk8 bk657 _ (Sl.ofBlk (enc := encSx) (xs := [⟨bk3, bk8⟩, ⟨bk3, bk8⟩]) (fun _ => rfl) B692) (Sl.ofBlk (enc := encRt) (xs := hvC) (fun _ => rfl) B695) (Sl.ofBlk (enc := encRt) (xs := hvH) (fun _ => rfl) B696) (SlI.own (xs := [3, 1]) B697)) ?_
   rintro _ w699 ⟨rfl, u700⟩ zu700
   refine go ?_
   refine x_s fun w703 sw703 B705 u704 => ?_
   refine go ?_
   exact hK26 bk602 B705
  refine go ?_
  refine x_c func7 rfl rfl (moorOne_c 1000 _) ?_
  rintro _ w708 ⟨rfl, u709⟩ zu709
  refine go ?_
  refine s_or ?_ ?_
  ·
   refine go ?_
   refine x_l fun bk712 w713 ebk712 sbk712 B714 u715 => ?_
   refine go ?_
   refine x_l fun bk717 w718 ebk717 sbk717 B719 u720 => ?_
   refine go ?_
   have B722 := (B714.kx u720)
   have B723 := ((((((((B5.kx u11).kx u16).keep u19 (by omega)).kx u30).kx u605).kx u709).kx u715).kx u720)
   have B724 := (((((((B10.kx u16).keep u19 (by omega)).kx u30).kx u605).kx u709).kx u715).kx u720)
   refine x_c func108 rfl rfl (Float_c bk712 bk3 bk8 bk717 _ (Sl.ofBlk (enc := encSx) (xs := [⟨bk3, bk8⟩, ⟨bk3, bk8⟩]) (fun _ => rfl) B722) (Sl.ofBlk (enc := encRt) (xs := hvC) (fun _ => rfl) B723) (Sl.ofBlk (enc := encRt) (xs := hvH) (fun _ => rfl) B724) (SlI.own (xs := [3, 1]) B719)) ?_
   rintro _ w726 ⟨rfl, u727⟩ zu727
   refine go ?_
   refine x_s fun w730 sw730 B732 u731 => ?_
   refine go ?_
   exact hK26 bk602 B732
  refine go ?_
  refine x_l fun bk734 w735 ebk734 sbk734 B736 u737 => ?_
  refine go ?_
  refine x_l fun bk739 w740 ebk739 sbk739 B741 u742 => ?_
  refine go ?_
  have B744 := ((((((((B5.kx u11).kx u16).keep u19 (by omega)).kx u30).kx u605).kx u709).kx u737).kx u742)
  have B745 := (((((((B10.kx u16).keep u19 (by omega)).kx u30).kx u605).kx u709).kx u737).kx u742)
  have B746 := (B736.kx u742)
  refine x_c func108 rfl rfl (Float_c bk739 bk3 bk8 bk734 _ (Sl.ofBlk (enc := encSx) (xs := [⟨bk3, bk8⟩, ⟨bk3, bk8⟩]) (fun _ => rfl) B741) (Sl.ofBlk (enc := encRt) (xs := hvC) (fun _ => rfl) B744) (Sl.ofBlk (enc := encRt) (xs := hvH) (fun _ => rfl) B745) (SlI.own (xs := [3, 1]) B746)) ?_
  rintro _ w748 ⟨rfl, u749⟩ zu749
  refine go ?_
  refine x_s fun w752 sw752 B754 u753 => ?_
  refine go ?_
  exact hK26 bk602 B754
 rintro b2 w27 hb2 u28 zu28
 have hb2l := hb2.lt
 refine go ?_
 refine x_c func7 rfl rfl (moorOne_c 1000 _) ?_
 rintro _ w759 ⟨rfl, u760⟩ zu760
 refine go ?_
 refine x_l fun bk763 w764 ebk763 sbk763 B765 u766 => ?_
 refine go ?_
 refine x_c func109 rfl rfl (Level_c 2 1000 1000 400 bk763 _ (Sl.ofBlk (enc := encRt) (xs := cvR) (fun _ => rfl) B765) (by decide) (by decide) (by decide)) ?_
 rintro _ w769 ⟨rfl, u770⟩ zu770
 refine go ?_
 refine x_n fun bk773 w774 ebk773 sbk773 B775 u776 => ?_
 refine x_s fun w778 sw778 B780 u779 => ?_
 refine go ?_
 refine c_drawnM follows (fun _ => False) (OTl [0, 2, 4, 6, 8, 10, 12, 14, 17, 19, 20, 22, 24, 26, 28, 30, 32, 34, 36]) (by kernel_rfl) fun w783 u784 => ?_
 have zu784 := u784.size
 refine go ?_
 refine x_c func7 rfl rfl (moorOne_c 100 _) ?_
 rintro _ w787 ⟨rfl, u788⟩ zu788
 refine go ?_
 refine x_c func7 rfl rfl (moorOne_c 115 _) ?_
 rintro _ w792 ⟨rfl, u793⟩ zu793
 refine go ?_
 refine y_eqS (xs := [.int .i64 100, .int .i64 100, .int .i64 115, .int .i64 115, .int .i64 (-1)]) (ys := [.int .i64 100, .int .i64 100, .int .i64 115, .int .i64 115, .int .i64 (-1)]) (by kernel_rfl) (eqIn243 9997 100 100 115 115 (-1) 100 100 115 115 (-1)) rfl rfl rfl rfl (y_samehd (v := .bool true) rfl ?_)
 refine go ?_
 refine y_eqS (xs := [.int .i64 140, .int .i64 160]) (ys := [.int .i64 140, .int .i64 160]) (by kernel_rfl) (eqIn28 9998 140 160 140 160) rfl rfl rfl rfl (y_samehd (v := .bool true) rfl ?_)
 refine go ?_
 refine f_1 results42 ?_
 exact ⟨rfl, u_d⟩

theorem moorStops_c  (w0 : World) :
    CallsV Tryz.prog 16 [] w0 (fun v w' => v = .bool true ∧ Ext w0 w') := by
 refine f_n func16 ?_
 refine go ?_
 refine x_c func41 rfl rfl (Stop_c 7700 2000 100 125 90 _) ?_
 rintro _ w4 ⟨rfl, u5⟩ zu5
 iterate 2 refine st1 ?_
 refine t_same 9 (v := .agg #[.int .i64 246, .int .i64 271]) rfl (congrArg (fun x : Bnd => Value.agg #[.int .i64 x.lo, .int .i64 x.hi]) stop_k.1) ?_
 refine st1 ?_
 refine t_same 10 (v := .int .i64 0) rfl (congrArg (Value.int .i64) stop_k.2) ?_
 refine x_n fun bk8 w9 ebk8 sbk8 B10 u11 => ?_
 refine x_s fun w13 sw13 B15 u14 => ?_
 refine go ?_
 refine x_l fun bk18 w19 ebk18 sbk18 B20 u21 => ?_
 refine go ?_
 refine x_n fun bk23 w24 ebk23 sbk23 B25 u26 => ?_
 refine x_s fun w28 sw28 B30 u29 => ?_
 refine go ?_
 have B33 := ((B20.kx u26).keep u29 (by omega))
 refine x_c func9 rfl rfl (Arrive_c svK (some ⟨bk18, 0, none⟩) bk18 0 1 50 _ (Sl.ofBlk (enc := encRun) (xs := svK.runs) (fun _ => rfl) B33) (by decide)) ?_
 rintro _ w35 ⟨rfl, u36⟩ zu36
 iterate 2 refine st1 ?_
 refine t_same 19 (v := .agg #[.int .i64 30, .int .i64 70]) rfl (congrArg (fun x : Bnd => Value.agg #[.int .i64 x.lo, .int .i64 x.hi]) arr_k.1) ?_
 refine st1 ?_
 refine t_same 20 (v := .int .i64 0) rfl (congrArg (Value.int .i64) arr_k.2) ?_
 refine x_n fun bk39 w40 ebk39 sbk39 B41 u42 => ?_
 refine x_s fun w44 sw44 B46 u45 => ?_
 refine go ?_
 refine t_eqS (xs := [.int .i64 246, .int .i64 271]) (ys := [.int .i64 246, .int .i64 271]) (by kernel_rfl) (eqIn28 9998 246 271 246 271) rfl rfl rfl rfl (t_samehd (v := .bool true) rfl ?_)
 refine go ?_
 refine t_eqS (xs := [.int .i64 30, .int .i64 70]) (ys := [.int .i64 30, .int .i64 70]) (by kernel_rfl) (eqIn28 9998 30 70 30 70) rfl rfl rfl rfl (t_samehd (v := .bool true) rfl ?_)
 refine go ?_
 refine x_c func42 rfl rfl (moorDepth_c _) ?_
 rintro _ w50 ⟨rfl, u51⟩ zu51
 refine go ?_
 refine f_1 results16 ?_
 exact ⟨rfl, u_d⟩

end Go.Proofs.YtclinbbghnebaaaGreat
namespace Go.Proofs.YtclinbbghnebaaaGreat
open Go Go.RowKit Go.Proofs.Tryz
set_option maxRecDepth 10000
theorem moorRests_c  (w0 : World) :
    CallsV Tryz.prog 18 [] w0 (fun v w' => v = .bool true ∧ Ext w0 w') := by
 refine f_n func18 ?_
 refine go ?_
 refine x_n fun bk3 w4 ebk3 sbk3 B5 u6 => ?_
 refine x_s fun w8 sw8 B10 u9 => ?_
 iterate 2 refine st1 ?_
 refine x_k1 (fun _ => False) [1] (fun (_x : Unit) => [(2, .int .i64 1), (3, .int .i64 2), (4, .bool false), (5, .int .i64 0)]) (fun _x w => True) (fun K16 hK16 => ?_) ?_
 ·
  refine c_drawnM follows (fun _ => False) (OTl [0, 3, 4, 7, 9, 10, 13, 15, 16, 18, 20, 22, 24, 26, 28, 30, 32]) (by kernel_rfl) fun w19 u20 => ?_
  have zu20 := u20.size
  refine go ?_
  refine x_c func7 rfl rfl (moorOne_c 300 _) ?_
  rintro _ w23 ⟨rfl, u24⟩ zu24
  refine go ?_
  refine x_c func7 rfl rfl (moorOne_c 899 _) ?_
  rintro _ w28 ⟨rfl, u29⟩ zu29
  refine go ?_
  refine x_c func7 rfl rfl (moorOne_c 1200 _) ?_
  rintro _ w33 ⟨rfl, u34⟩ zu34
  refine go ?_
  refine x_l fun bk37 w38 ebk37 sbk37 B39 u40 => ?_
  refine go ?_
  refine x_c func21 rfl rfl (Rested_c knR knM (some ⟨bk37, 0, none⟩) bk37 0 2 _ (Sl.ofBlk (enc := encDty) (xs := knM) (fun _ => rfl) B39) (by decide) (by omega)) ?_
  rintro _ w43 ⟨⟨at9, ru9, po9, er9, rfl, hR9⟩, u44⟩ zu44
  obtain ⟨rfl, rfl, rfl, rfl⟩ := kn_rested hR9
  refine go ?_
  exact hK16 () trivial
 rintro _x w17 _ u18 zu18
 refine x_k1 (fun _ => False) [2, 3, 5] (fun (_x : Unit) => [(6, .int .i64 1300), (7, .int .i64 0)]) (fun _x w => True) (fun K52 hK52 => ?_) ?_
 ·
  refine c_drawnM follows (fun _ => False) (OTl [0, 3, 4, 7, 9, 10, 13, 15, 16, 18, 20, 22, 24]) (by kernel_rfl) fun w55 u56 => ?_
  have zu56 := u56.size
  refine go ?_
  refine x_c func7 rfl rfl (moorOne_c 300 _) ?_
  rintro _ w59 ⟨rfl, u60⟩ zu60
  refine go ?_
  refine x_c func7 rfl rfl (moorOne_c 400 _) ?_
  rintro _ w64 ⟨rfl, u65⟩ zu65
  refine go ?_
  refine x_c func7 rfl rfl (moorOne_c 700 _) ?_
  rintro _ w69 ⟨rfl, u70⟩ zu70
  refine go ?_
  refine x_l fun bk73 w74 ebk73 sbk73 B75 u76 => ?_
  refine go ?_
  refine x_c func55 rfl rfl (Next_c knR knL (some ⟨bk73, 0, none⟩) bk73 0 2 700 60 _ (Sl.ofBlk (enc := encDty) (xs := knL) (fun _ => rfl) B75) (by decide) (by omega)) ?_
  rintro _ w79 ⟨⟨t9, er9, rfl, hR9⟩, u80⟩ zu80
  obtain ⟨rfl, rfl⟩ := kn_next hR9
  refine go ?_
  exact hK52 () trivial
 rintro _x w53 _ u54 zu54
 refine go ?_
 refine f_1 results18 ?_
 exact ⟨rfl, u_d⟩

end Go.Proofs.YtclinbbghnebaaaGreat
namespace Go.Proofs.YtclinbbghnebaaaGreat
open Go Go.RowKit
set_option maxRecDepth 10000

theorem rn_take {f : W3 → Stp} {ys : List W3} {n : Nat} (h : n < ys.length) : rnL 0 ((ys.take (n + 1)).map f) = rnL 0 ((ys.take n).map f) ++ [rnS n (f (nth ys n))] := by
  have e : ((ys.take (n + 1)).map f) = (ys.take n).map f ++ [f (nth ys n)] := by rw [take_nth h, List.map_append]; rfl
  rw [e, rnL_snoc, List.length_map, List.length_take, show 0 + min n ys.length = n by omega]
theorem rn_len {f : W3 → Stp} {ys : List W3} {n : Nat} (h : n ≤ ys.length) : (rnL 0 ((ys.take n).map f)).length = n := by
  rw [rnL_len, List.length_map, List.length_take]; omega
theorem st_all {f : W3 → Stp} {P : Stp → Prop} {ys : List W3} {n : Nat} (hf : ∀ w, okW3 w → P (f w)) (h : ∀ w ∈ ys, okW3 w) : ∀ s ∈ (ys.take n).map f, P s := fun s hs => by
  obtain ⟨w, hw, rfl⟩ := List.mem_map.1 hs
  exact hf w (h w (List.mem_of_mem_take hw))
theorem st_nth {f : W3 → Stp} {ys : List W3} {n i : Nat} (hi : i < n) (hn : n ≤ ys.length) : nth ((ys.take n).map f) i = f (nth ys i) := by
  rw [nth_eq (by rw [List.length_map, List.length_take]; omega), nth_eq (show i < ys.length by omega)]
  simp
theorem rg_snoc {α : Type} (f : Nat → α) (k : Nat) : (List.range (k + 1)).map f = (List.range k).map f ++ [f k] := by rw [List.range_succ, List.map_append]; rfl
theorem rg_len {α : Type} (f : Nat → α) (k : Nat) : ((List.range k).map f).length = k := by rw [List.length_map, List.length_range]
/-- A leg: the run's time by the bounds. -/
def lgF (T : Nat → Bnd) (ys : List W3) (i : Nat) : Leg := ⟨(i : Int), ⟨(T i).lo, (T i).hi, (T (i + 1)).lo, (T (i + 1)).hi⟩, 1 + (nth ys i).c % 2, 0⟩
def dtF (T : Nat → Bnd) (i : Nat) : Dty := ⟨(T i).lo, (T i).hi, (T (i + 1)).lo, (T (i + 1)).hi⟩
def hs0 : HS := ⟨0, 20160, [], none, 0, 0, 0, [], none, 0, 0, 0⟩
theorem tmL_team (m : Nat) : teamS ((List.replicate m hs0).map HS.slr) := fun s hs => by
  obtain ⟨h, hh, rfl⟩ := List.mem_map.1 hs
  rw [List.eq_of_mem_replicate hh]; rfl
theorem tmL_mem {m : Nat} {w : World} : ∀ h ∈ List.replicate m hs0, SlrM w h := fun h hh => by
  rw [List.eq_of_mem_replicate hh]
  exact ⟨Sl.nil _ _ _ _ _ _, by decide, Sl.nil _ _ _ _ _ _, by decide⟩
theorem lgs_ok {T : Nat → Bnd} {ys : List W3} {n k : Nat} (hk : k ≤ n) (hn : n ≤ 4) (hy : n ≤ ys.length) (hys : ∀ w ∈ ys, okW3 w) (hr : ∀ k, k ≤ n → 0 ≤ (T k).lo ∧ (T k).lo ≤ (T k).hi ∧ (T k).hi ≤ 60 + 455 * (k : Int)) (hg : ∀ i, i < k → (T i).hi ≤ (T (i + 1)).lo) : ∀ x ∈ (List.range k).map (lgF T ys), okLeg x = true := fun x hx => by
  obtain ⟨i, hi, rfl⟩ := List.mem_map.1 hx
  have hi9 : i < k := List.mem_range.1 hi
  have h1 := hr i (by omega)
  have h2 := hr (i + 1) (by omega)
  have h3 := hg i hi9
  have h4 := hys _ (nth_mem (xs := ys) (i := i) (by omega))
  unfold okW3 at h4
  unfold okLeg lgF okDty
  rw [decide_eq_true_eq]
  dsimp only
  rw [decide_eq_true_eq]
  omega
theorem open_0 {r : Rul} {m : Nat} {xs : List Leg} (hr : okRul r = true) (hm : m ≤ 4) (hl : xs.length ≤ 4) (hx : ∀ x ∈ xs, okLeg x = true) : openE r ((List.replicate m hs0).map HS.slr) xs = 0 := by
  have h1 : (((List.replicate m hs0).map HS.slr).any fun s => !okSlr s) = false := by
    rw [List.any_eq_false]
    intro s hs
    rw [(tmL_team m).ok s hs]; decide
  have h2 : (xs.any fun x => !okLeg x) = false := by
    rw [List.any_eq_false]
    intro x hx9
    rw [hx x hx9]; decide
  unfold openE chkR
  rw [if_pos hr, if_neg (by decide), if_neg (by rw [List.length_map, List.length_replicate]; omega), h1, if_neg (by decide), if_neg (by omega), h2, if_neg (by decide)]
theorem plan_two {r : Rul} {ss : List Slr} {xs : List Leg} {plan : List (List Int)} {a e : Int} (h : PlanR r ss xs plan a e) (h0 : openE r ss xs = 0) : (e = 0 ∧ (asgP r xs (ss.map boardP) 0 0).1 = some plan) ∨ (e = 7 ∧ (asgP r xs (ss.map boardP) 0 0).1 = none ∧ a = ((asgP r xs (ss.map boardP) 0 0).2 : Int)) := by
  rcases h with ⟨q, _⟩ | ⟨_, h1, _, h2⟩ | ⟨_, h1, h2, h3, _⟩
  · exact absurd h0 q
  · exact .inl ⟨h2, h1⟩
  · exact .inr ⟨h3, h1, h2⟩

theorem LgsIn.snoc : ∀ {a b : List Leg} {x y : Leg}, LgsIn a b → LgIn x y → LgsIn (a ++ [x]) (b ++ [y])
  | [], [], _, _, _, h => ⟨h, trivial⟩
  | _ :: _, _ :: _, _, _, h, h' => ⟨h.1, LgsIn.snoc h.2 h'⟩
  | [], _ :: _, _, _, h, _ => h.elim
  | _ :: _, [], _, _, h, _ => h.elim
theorem lgs_map {f g : Nat → Leg} : ∀ k, (∀ i, i < k → LgIn (f i) (g i)) → LgsIn ((List.range k).map f) ((List.range k).map g)
  | 0, _ => trivial
  | k + 1, h => by
    rw [rg_snoc, rg_snoc]
    exact (lgs_map k fun i hi => h i (by omega)).snoc (h k (by omega))
theorem nth_rg {α : Type} [Inhabited α] {f : Nat → α} {n i : Nat} (h : i < n) : nth ((List.range n).map f) i = f i := by
  rw [nth_eq (by rw [rg_len]; exact h)]; simp
theorem lgF_in {TV TO : Nat → Bnd} {ys : List W3} {n i : Nat} (hi : i < n) (hT : ∀ k, k ≤ n → (TV k).lo ≤ (TO k).lo ∧ (TO k).lo = (TO k).hi ∧ (TO k).hi ≤ (TV k).hi) (hg : (TV i).hi ≤ (TV (i + 1)).lo) (hok : okLeg (lgF TV ys i) = true) : LgIn (lgF TO ys i) (lgF TV ys i) := by
  have h1 := hT i (by omega)
  have h2 := hT (i + 1) (by omega)
  refine ⟨rfl, rfl, ?_, hok⟩
  unfold InD lgF
  dsimp only
  omega
theorem dnL_snoc {k : Nat} {x : Leg} {ns : List Nat} : ∀ {xs : List Leg} {p : List (List Nat)}, p.length = xs.length → dnL k (xs ++ [x]) (p ++ [ns]) = dnL k xs p ++ (if k ∈ ns then [x.t] else [])
  | [], [], _ => by
    show (if k ∈ ns then [x.t] else []) ++ [] = [] ++ _
    rw [List.append_nil, List.nil_append]
  | y :: xs, q :: p, h => by
    rw [List.cons_append, List.cons_append, dnL, dnL, dnL_snoc (Nat.succ.inj h), List.append_assoc]
  | [], _ :: _, h => by cases h
  | _ :: _, [], h => by cases h
theorem dnL_mem {k : Nat} : ∀ {xs : List Leg} {p : List (List Nat)}, ∀ d ∈ dnL k xs p, ∃ x ∈ xs, d = x.t
  | x :: xs, ns :: p, d, h => by
    rcases List.mem_append.1 h with h | h
    · split at h
      · exact ⟨x, by simp, List.mem_singleton.1 h⟩
      · cases h
    · obtain ⟨y, hy, e⟩ := dnL_mem d h
      exact ⟨y, List.mem_cons_of_mem _ hy, e⟩
  | [], [], _, h => by cases h
  | [], _ :: _, _, h => by cases h
  | _ :: _, [], _, h => by cases h
theorem dnL_len {k : Nat} : ∀ {xs : List Leg} {p : List (List Nat)}, (dnL k xs p).length ≤ xs.length
  | x :: xs, ns :: p => by
    have := dnL_len (k := k) (xs := xs) (p := p)
    rw [dnL, List.length_append, List.length_cons]
    split
    · rw [List.length_singleton]; omega
    · rw [List.length_nil]; omega
  | [], [] => Nat.le_refl _
  | [], _ :: _ => Nat.le_refl _
  | _ :: _, [] => Nat.zero_le _
/-- What member j has done behind i legs and c members of the next one. -/
def dnU (T : Nat → Bnd) (ys : List W3) (p : List (List Nat)) (j i c : Nat) : List Dty := dnL j ((List.range i).map (lgF T ys)) (p.take i) ++ (if j ∈ (nth p i).take c then [dtF T i] else [])
theorem dnU_zero {T : Nat → Bnd} {ys : List W3} {p : List (List Nat)} {j : Nat} : dnU T ys p j 0 0 = [] := by
  unfold dnU
  rw [List.take_zero, List.take_zero, if_neg (List.not_mem_nil)]; rfl
theorem dnU_next {T : Nat → Bnd} {ys : List W3} {p : List (List Nat)} {j i : Nat} (h : i < p.length) : dnU T ys p j (i + 1) 0 = dnU T ys p j i (nth p i).length := by
  unfold dnU
  rw [rg_snoc, take_nth h, dnL_snoc (by rw [rg_len, List.length_take]; omega), List.take_zero, if_neg (List.not_mem_nil), List.append_nil, List.take_length]; rfl
theorem dnU_all {T : Nat → Bnd} {ys : List W3} {p : List (List Nat)} {j n : Nat} (h : p.length = n) : dnU T ys p j n 0 = dnL j ((List.range n).map (lgF T ys)) p := by
  unfold dnU
  rw [List.take_zero, if_neg (List.not_mem_nil), List.append_nil, List.take_of_length_le (by omega)]
theorem not_take {l : List Nat} {c : Nat} (hn : l.Nodup) (hc : c < l.length) : nth l c ∉ l.take c := fun hm => by
  have h1 : (l.take (c + 1)).Nodup := (List.take_sublist _ _).nodup hn
  rw [take_nth hc, List.nodup_append] at h1
  exact h1.2.2 _ hm _ (List.mem_singleton.2 rfl) rfl
theorem dnU_put {T : Nat → Bnd} {ys : List W3} {p : List (List Nat)} {i c m : Nat} (hn : (nth p i).Nodup) (hc : c < (nth p i).length) (hm : nth (nth p i) c = m) (j : Nat) : dnU T ys p j i (c + 1) = if j = m then dnU T ys p j i c ++ [dtF T i] else dnU T ys p j i c := by
  have h1 := not_take hn hc
  unfold dnU
  rw [take_nth hc]
  rw [hm] at h1 ⊢
  by_cases e : j = m
  · rw [e, if_pos rfl, if_pos (by simp), if_neg h1, List.append_nil]
  · rw [if_neg e]
    by_cases q : j ∈ (nth p i).take c
    · rw [if_pos q, if_pos (List.mem_append_left _ q)]
    · rw [if_neg q, if_neg (fun h => (List.mem_append.1 h).elim q (fun h => e (List.mem_singleton.1 h)))]
theorem dnU_len {T : Nat → Bnd} {ys : List W3} {p : List (List Nat)} {j i c : Nat} : (dnU T ys p j i c).length ≤ i + 1 := by
  have := dnL_len (k := j) (xs := (List.range i).map (lgF T ys)) (p := p.take i)
  rw [rg_len] at this
  unfold dnU
  rw [List.length_append]
  split
  · rw [List.length_singleton]; omega
  · rw [List.length_nil]; omega
/-- The legs, the first i of them with their true minutes. -/
def lgM (TV TO : Nat → Bnd) (ys : List W3) (n i : Nat) : List Leg := (List.range n).map fun a => if a < i then lgF TO ys a else lgF TV ys a
theorem lgM_len {TV TO : Nat → Bnd} {ys : List W3} {n i : Nat} : (lgM TV TO ys n i).length = n := rg_len _ _
theorem lgM_zero {TV TO : Nat → Bnd} {ys : List W3} {n : Nat} : lgM TV TO ys n 0 = (List.range n).map (lgF TV ys) := List.map_congr_left fun _a _ => if_neg (Nat.not_lt_zero _)
theorem lgM_all {TV TO : Nat → Bnd} {ys : List W3} {n : Nat} : lgM TV TO ys n n = (List.range n).map (lgF TO ys) := List.map_congr_left fun _a h => if_pos (List.mem_range.1 h)
theorem lgM_at {TV TO : Nat → Bnd} {ys : List W3} {n i : Nat} (h : i < n) : nth (lgM TV TO ys n i) i = lgF TV ys i := by
  unfold lgM; rw [nth_rg h, if_neg (Nat.lt_irrefl _)]
theorem lgM_set {TV TO : Nat → Bnd} {ys : List W3} {n i : Nat} : (lgM TV TO ys n i).set i (lgF TO ys i) = lgM TV TO ys n (i + 1) := by
  unfold lgM
  apply List.ext_getElem
  · simp
  · intro j h1 h2
    rw [List.getElem_set]
    simp only [List.getElem_map, List.getElem_range]
    by_cases e : i = j
    · subst e; rw [if_pos rfl, if_pos (by omega)]
    · rw [if_neg e]
      by_cases q : j < i
      · rw [if_pos q, if_pos (by omega)]
      · rw [if_neg q, if_neg (by omega)]
def HRK.hl (h : HRK) : HL := ⟨h.xs, h.ao, h.g, 0, h.cap⟩
theorem Sl.hl {w : World} {ao : Option Addr} {g o : Nat} {rows : List HRK} (h : Sl encHRK 1 w ao g o rows) : Sl encHL 1 w ao g o (rows.map HRK.hl) :=
  ⟨fun hp => h.addr (by rwa [List.length_map] at hp), fun hp => h.lt (by rwa [List.length_map] at hp), fun i hi => by
    rw [List.length_map] at hi
    rw [nth_map2 _ hi]
    exact h.at_ i hi⟩
/-- Where a slice of times lies. -/
structure HA where
  ao : Option Addr
  g : Nat
  cp : Nat
instance : Inhabited HA := ⟨⟨default, default, default⟩⟩
def dst4 (b : Nat) (e0 e1 e2 e3 : HA) : Prop := ((b ≤ e0.g → e0.g ≠ e1.g) ∧ (b ≤ e0.g → e0.g ≠ e2.g) ∧ (b ≤ e0.g → e0.g ≠ e3.g)) ∧ (b ≤ e1.g → e1.g ≠ e2.g) ∧ (b ≤ e1.g → e1.g ≠ e3.g) ∧ (b ≤ e2.g → e2.g ≠ e3.g)
theorem dst4.n01 {b : Nat} {e0 e1 e2 e3 : HA} (h : dst4 b e0 e1 e2 e3) : ¬ (e0.g = e1.g ∧ b ≤ e0.g) := by unfold dst4 at h; omega
theorem dst4.n02 {b : Nat} {e0 e1 e2 e3 : HA} (h : dst4 b e0 e1 e2 e3) : ¬ (e0.g = e2.g ∧ b ≤ e0.g) := by unfold dst4 at h; omega
theorem dst4.n03 {b : Nat} {e0 e1 e2 e3 : HA} (h : dst4 b e0 e1 e2 e3) : ¬ (e0.g = e3.g ∧ b ≤ e0.g) := by unfold dst4 at h; omega
theorem dst4.n10 {b : Nat} {e0 e1 e2 e3 : HA} (h : dst4 b e0 e1 e2 e3) : ¬ (e1.g = e0.g ∧ b ≤ e1.g) := by unfold dst4 at h; omega
theorem dst4.n12 {b : Nat} {e0 e1 e2 e3 : HA} (h : dst4 b e0 e1 e2 e3) : ¬ (e1.g = e2.g ∧ b ≤ e1.g) := by unfold dst4 at h; omega
theorem dst4.n13 {b : Nat} {e0 e1 e2 e3 : HA} (h : dst4 b e0 e1 e2 e3) : ¬ (e1.g = e3.g ∧ b ≤ e1.g) := by unfold dst4 at h; omega
theorem dst4.n20 {b : Nat} {e0 e1 e2 e3 : HA} (h : dst4 b e0 e1 e2 e3) : ¬ (e2.g = e0.g ∧ b ≤ e2.g) := by unfold dst4 at h; omega
theorem dst4.n21 {b : Nat} {e0 e1 e2 e3 : HA} (h : dst4 b e0 e1 e2 e3) : ¬ (e2.g = e1.g ∧ b ≤ e2.g) := by unfold dst4 at h; omega
theorem dst4.n23 {b : Nat} {e0 e1 e2 e3 : HA} (h : dst4 b e0 e1 e2 e3) : ¬ (e2.g = e3.g ∧ b ≤ e2.g) := by unfold dst4 at h; omega
theorem dst4.n30 {b : Nat} {e0 e1 e2 e3 : HA} (h : dst4 b e0 e1 e2 e3) : ¬ (e3.g = e0.g ∧ b ≤ e3.g) := by unfold dst4 at h; omega
theorem dst4.n31 {b : Nat} {e0 e1 e2 e3 : HA} (h : dst4 b e0 e1 e2 e3) : ¬ (e3.g = e1.g ∧ b ≤ e3.g) := by unfold dst4 at h; omega
theorem dst4.n32 {b : Nat} {e0 e1 e2 e3 : HA} (h : dst4 b e0 e1 e2 e3) : ¬ (e3.g = e2.g ∧ b ≤ e3.g) := by unfold dst4 at h; omega
theorem dst4.put0 {b s : Nat} {a : Option Addr} {g c : Nat} {e0 e1 e2 e3 : HA} (h : dst4 b e0 e1 e2 e3) (hg : g = e0.g ∨ s ≤ g) (h1 : e1.g < s) (h2 : e2.g < s) (h3 : e3.g < s) : dst4 b (⟨a, g, c⟩ : HA) e1 e2 e3 := by unfold dst4 at h ⊢; dsimp only; omega
theorem dst4.put1 {b s : Nat} {a : Option Addr} {g c : Nat} {e0 e1 e2 e3 : HA} (h : dst4 b e0 e1 e2 e3) (hg : g = e1.g ∨ s ≤ g) (h0 : e0.g < s) (h2 : e2.g < s) (h3 : e3.g < s) : dst4 b e0 (⟨a, g, c⟩ : HA) e2 e3 := by unfold dst4 at h ⊢; dsimp only; omega
theorem dst4.put2 {b s : Nat} {a : Option Addr} {g c : Nat} {e0 e1 e2 e3 : HA} (h : dst4 b e0 e1 e2 e3) (hg : g = e2.g ∨ s ≤ g) (h0 : e0.g < s) (h1 : e1.g < s) (h3 : e3.g < s) : dst4 b e0 e1 (⟨a, g, c⟩ : HA) e3 := by unfold dst4 at h ⊢; dsimp only; omega
theorem dst4.put3 {b s : Nat} {a : Option Addr} {g c : Nat} {e0 e1 e2 e3 : HA} (h : dst4 b e0 e1 e2 e3) (hg : g = e3.g ∨ s ≤ g) (h0 : e0.g < s) (h1 : e1.g < s) (h2 : e2.g < s) : dst4 b e0 e1 e2 (⟨a, g, c⟩ : HA) := by unfold dst4 at h ⊢; dsimp only; omega
theorem row_at {r : Rul} {xs : List Leg} {ms : List Mb} {p : List (List Nat)} {i : Nat} (h : planOk r xs ms p) (hi : i < xs.length) : (nth p i).length = (nth xs i).h.toNat ∧ (nth p i).Nodup ∧ ∀ k ∈ nth p i, k < ms.length := by
  obtain ⟨h1, _, h3⟩ := stg_at h hi
  exact ⟨h1.len, h1.asc.nodup, fun k hk => h3 ▸ (h1.asc.mem hk).2⟩
/-- Exact times that keep the rules: what Rested returns. -/
theorem rested_ok {r : Rul} {D : List Dty} {a rule e : Int} {pos : Bool} (hr : okRul r = true) (hl : D.length ≤ 20) (hd : ∀ d ∈ D, okDty d = true ∧ d.bl = d.bh ∧ d.el = d.eh) (hb : brokP r (srtS (D.map lngS)) = 0) (h : RestA r D a rule pos e) : a = -1 ∧ pos = true ∧ e = 0 := by
  have hc : chkRD r D = 0 := by
    unfold chkRD chkR chkD
    rw [if_pos hr, if_neg (by decide), if_neg (by omega), if_neg]
    intro hc
    obtain ⟨d, hd9, hq⟩ := List.any_eq_true.1 hc
    rw [(hd d hd9).1] at hq; cases hq
  rcases h with ⟨q, _⟩ | ⟨_, h1, h2, h3⟩
  · exact absurd hc q
  · obtain ⟨h4, h5, _⟩ := rest_at hr (fun d hd9 => (hd d hd9).1) h2
    have h6 := h4.2 hb
    have h7 : D.map shtS = D.map lngS := List.map_congr_left fun d hd9 => by
      obtain ⟨_, q1, q2⟩ := hd d hd9
      unfold shtS lngS; rw [q1, q2]
    refine ⟨by omega, ?_, h1⟩
    rw [h3, h7, decide_eq_true_eq]; exact hb
theorem dn_exact {TO : Nat → Bnd} {ys : List W3} {p : List (List Nat)} {n j : Nat} (hok : ∀ x ∈ (List.range n).map (lgF TO ys), okLeg x = true) (hT : ∀ k, k ≤ n → (TO k).lo = (TO k).hi) : ∀ d ∈ dnL j ((List.range n).map (lgF TO ys)) p, okDty d = true ∧ d.bl = d.bh ∧ d.el = d.eh := fun d hd => by
  obtain ⟨x, hx, rfl⟩ := dnL_mem d hd
  refine ⟨(okLeg_ok (hok x hx)).1, ?_⟩
  obtain ⟨i, hi, rfl⟩ := List.mem_map.1 hx
  have h1 := List.mem_range.1 hi
  exact ⟨hT i (by omega), hT (i + 1) (by omega)⟩
theorem ver_zero {r : Rul} {ss : List Slr} {xs : List Leg} {p : List (List Nat)} {v e : Int} (h0 : openE r ss xs = 0) (hp : planOk r xs (ss.map boardP) p) (hg : verGo r xs (p.map castL) (ss.map boardP) 0 = -1) (h : VerR r ss xs (p.map castL) v e) : v = -1 ∧ e = 0 := by
  have hl : (p.map castL).length = xs.length := by rw [List.length_map]; exact planOk_len hp
  have hb : ((p.map castL).any (badRow ss.length)) = false := by
    rw [List.any_eq_false]
    intro l hl9
    obtain ⟨ns, hns, rfl⟩ := List.mem_map.1 hl9
    obtain ⟨i, hi, e9⟩ := List.mem_iff_getElem.1 hns
    have h9 := (row_at hp (i := i) (by rw [← planOk_len hp]; exact hi)).2.2
    rw [nth_eq hi, e9, List.length_map] at h9
    have : badRow ss.length (castL ns) = false := by
      unfold badRow
      rw [Bool.not_eq_false', decide_eq_true_eq]
      intro a ha
      obtain ⟨k, hk, rfl⟩ := List.mem_map.1 ha
      have := h9 k hk
      omega
    rw [this]; decide
  rcases h with ⟨q, _⟩ | ⟨_, q, _⟩ | ⟨_, _, q, _⟩ | ⟨_, _, _, h1, h2⟩
  · exact absurd h0 q
  · exact absurd hl q
  · rw [hb] at q; cases q
  · exact ⟨h2.trans hg, h1⟩
theorem plan_zero {r : Rul} {ss : List Slr} {xs : List Leg} {plan : List (List Int)} {a e : Int} (h : PlanR r ss xs plan a e) (h0 : openE r ss xs = 0) (hn : (asgP r xs (ss.map boardP) 0 0).1 ≠ none) : e = 0 := by
  rcases plan_two h h0 with ⟨q, _⟩ | ⟨_, q, _⟩
  · exact q
  · exact absurd q hn

end Go.Proofs.YtclinbbghnebaaaGreat
