/-
  Part 4 of the proof: contracts and plain laws. Conditions: none.
-/
import Derived.Test.YtclinbbghnebaaaGreatProg
import Derived.ProofKit
import Derived.OpenShut
import Derived.Deep.Slices
import Derived.RangeFuncNested
import Derived.RangeFuncBound
import Derived.RangeFuncLeaves
import Derived.ArgAppend
import Derived.Test.YtclinbbghnebaaaGreatDK3
namespace Go.Proofs.YtclinbbghnebaaaGreat
open Go Go.RowKit
def tb : Tb where
  sc := [1, 2, 3, 4, 5, 6, 9, 10, 11, 12, 15, 16, 17, 20, 21, 25, 26, 29, 32, 37, 38, 39, 41, 43, 44, 46, 47, 50, 54, 55, 56, 60, 61, 62, 63, 66, 69, 70, 71, 74, 75, 80, 81, 84, 86, 88, 91, 93, 94, 96, 97, 99, 102, 103, 105, 106, 108, 109, 110, 111, 112, 113, 116, 117, 120, 123, 124, 125, 128, 129, 131, 132, 133, 136, 139, 140, 141, 142, 143, 144, 150, 151, 152, 153, 154, 155, 156, 157, 158, 159, 161, 162, 165, 166, 167, 168, 169, 170, 173, 174, 175, 176, 177, 178, 181, 182, 183, 184, 185, 187, 190, 193, 196, 197, 198, 199, 200, 201, 202, 203, 205, 206, 207, 208, 209, 210, 211, 212, 213, 214, 215, 216, 218, 219, 220, 221, 222, 225, 226, 227, 229, 233, 236, 239, 245, 246, 249, 252, 255, 256, 257, 258, 259, 260, 261, 262, 263, 264, 265, 270, 271, 272, 273, 276, 277, 278, 279, 280, 281, 282, 283, 284, 286, 287, 288, 289, 290, 291, 292, 293, 294, 295, 296, 297, 298, 299, 300, 301, 303, 304, 305, 306, 307, 308, 309, 310, 311, 312, 313, 314, 315, 316, 321, 322, 323, 324, 325, 326, 327, 328, 329, 330, 331, 332, 333, 336, 337, 338, 339, 340, 341, 342, 343, 344, 345, 346, 347, 350, 352, 353, 354, 357, 358, 359, 360, 361, 362, 363, 364, 365, 366, 367, 368, 369, 370, 371, 373, 374, 379, 381, 382, 383, 384, 385, 386, 387, 388, 389, 390, 391, 392, 393, 394, 395, 396, 397, 398, 399, 400, 401, 402, 403, 404, 405, 406, 407, 408, 409, 410, 411, 412, 413, 414, 415, 416, 417, 418, 419, 420, 421, 422, 423, 424, 425, 426, 427, 428, 429, 430, 431, 432, 438, 439, 440, 441, 442, 443, 446]
  ag := [(7, 4), (8, 4), (13, 2), (14, 2), (18, 1), (19, 1), (22, 5), (23, 3), (24, 6), (27, 2), (28, 2), (30, 6), (31, 6), (33, 5), (34, 5), (35, 4), (36, 4), (48, 11), (49, 11), (51, 4), (52, 4), (57, 6), (58, 6), (64, 4), (65, 5), (67, 5), (68, 5), (72, 5), (73, 5), (76, 4), (77, 4), (78, 7), (79, 7), (82, 4), (83, 4), (89, 4), (95, 4), (100, 3), (101, 3), (114, 5), (115, 5), (118, 3), (119, 3), (121, 3), (122, 3), (126, 2), (127, 2), (134, 6), (135, 6), (137, 2), (138, 2), (145, 4), (146, 4), (147, 2), (148, 2), (163, 2), (164, 2), (171, 5), (172, 5), (179, 2), (180, 2), (188, 2), (189, 2), (191, 4), (192, 4), (194, 2), (195, 2), (223, 13), (224, 13), (230, 4), (231, 4), (234, 2), (235, 2), (237, 2), (238, 2), (240, 5), (241, 5), (242, 5), (243, 5), (247, 2), (248, 2), (250, 2), (251, 2), (253, 9), (254, 9), (266, 6), (267, 6), (268, 5), (269, 5), (274, 2), (275, 2), (317, 2), (318, 2), (319, 3), (320, 3), (334, 2), (335, 2), (348, 3), (349, 3), (355, 4), (356, 4), (375, 8), (376, 8), (377, 2), (378, 2), (433, 4), (434, 4), (435, 0), (436, 0), (437, 0), (444, 11), (445, 11)]
  sl := [(26, 34, 5), (32, 31, 6), (37, 36, 4), (38, 3, 1), (44, 122, 3), (47, 127, 2), (55, 135, 6), (63, 22, 5), (66, 68, 5), (71, 23, 3), (74, 79, 7), (75, 77, 4), (80, 83, 4), (81, 335, 2), (84, 38, 1), (97, 101, 3), (116, 115, 5), (117, 116, 1), (128, 138, 2), (144, 148, 2), (174, 180, 2), (175, 180, 2), (190, 189, 2), (193, 192, 4), (216, 135, 6), (236, 235, 2), (239, 238, 2), (246, 241, 5), (252, 251, 2), (265, 269, 5), (297, 28, 2), (347, 356, 4), (374, 378, 2)]
  fd := [(7, [(0, 2), (1, 3), (2, 4), (3, 6)]), (8, [(0, 2), (1, 3), (2, 4), (3, 6)]), (13, [(0, 9), (1, 12)]), (14, [(0, 9), (1, 12)]), (18, [(0, 17)]), (19, [(0, 17)]), (27, [(0, 3), (1, 3)]), (28, [(0, 3), (1, 3)]), (30, [(0, 3), (1, 3), (2, 28), (4, 28)]), (31, [(0, 3), (1, 3), (2, 28), (4, 28)]), (33, [(0, 28), (2, 32), (3, 3), (4, 3)]), (34, [(0, 28), (2, 32), (3, 3), (4, 3)]), (35, [(0, 3), (1, 3), (2, 3), (3, 4)]), (36, [(0, 3), (1, 3), (2, 3), (3, 4)]), (48, [(0, 3), (1, 3), (2, 3), (3, 3), (4, 3), (5, 3), (6, 3), (7, 3), (8, 3), (9, 3), (10, 47)]), (49, [(0, 3), (1, 3), (2, 3), (3, 3), (4, 3), (5, 3), (6, 3), (7, 3), (8, 3), (9, 3), (10, 47)]), (51, [(0, 3), (1, 3), (2, 3), (3, 3)]), (52, [(0, 3), (1, 3), (2, 3), (3, 3)]), (57, [(0, 3), (1, 3), (2, 3), (3, 3), (4, 3), (5, 3)]), (58, [(0, 3), (1, 3), (2, 3), (3, 3), (4, 3), (5, 3)]), (67, [(0, 3), (1, 3), (2, 3), (3, 3), (4, 3)]), (68, [(0, 3), (1, 3), (2, 3), (3, 3), (4, 3)]), (72, [(0, 3), (1, 3), (2, 3), (3, 3), (4, 3)]), (73, [(0, 3), (1, 3), (2, 3), (3, 3), (4, 3)]), (76, [(0, 28), (2, 28)]), (77, [(0, 28), (2, 28)]), (78, [(0, 3), (1, 77), (5, 3), (6, 3)]), (79, [(0, 3), (1, 77), (5, 3), (6, 3)]), (82, [(0, 3), (1, 3), (2, 81), (3, 75)]), (83, [(0, 3), (1, 3), (2, 81), (3, 75)]), (100, [(0, 3), (1, 3), (2, 3)]), (101, [(0, 3), (1, 3), (2, 3)]), (114, [(0, 28), (2, 28), (4, 4)]), (115, [(0, 28), (2, 28), (4, 4)]), (118, [(0, 26), (1, 37), (2, 117)]), (119, [(0, 26), (1, 37), (2, 117)]), (121, [(0, 3), (1, 3), (2, 3)]), (122, [(0, 3), (1, 3), (2, 3)]), (126, [(0, 3), (1, 3)]), (127, [(0, 3), (1, 3)]), (134, [(0, 3), (1, 3), (2, 3), (3, 133), (4, 3), (5, 3)]), (135, [(0, 3), (1, 3), (2, 3), (3, 133), (4, 3), (5, 3)]), (137, [(0, 3), (1, 3)]), (138, [(0, 3), (1, 3)]), (145, [(0, 3), (1, 3), (2, 3), (3, 3)]), (146, [(0, 3), (1, 3), (2, 3), (3, 3)]), (147, [(0, 38), (1, 3)]), (148, [(0, 38), (1, 3)]), (163, [(0, 84), (1, 3)]), (164, [(0, 84), (1, 3)]), (171, [(0, 73)]), (172, [(0, 73)]), (179, [(0, 3), (1, 3)]), (180, [(0, 3), (1, 3)]), (188, [(0, 3), (1, 3)]), (189, [(0, 3), (1, 3)]), (191, [(0, 3), (1, 3), (2, 3), (3, 3)]), (192, [(0, 3), (1, 3), (2, 3), (3, 3)]), (194, [(0, 190), (1, 193)]), (195, [(0, 190), (1, 193)]), (223, [(0, 49), (11, 222), (12, 128)]), (224, [(0, 49), (11, 222), (12, 128)]), (230, [(0, 3), (1, 3), (2, 28)]), (231, [(0, 3), (1, 3), (2, 28)]), (234, [(0, 3), (1, 3)]), (235, [(0, 3), (1, 3)]), (237, [(0, 3), (1, 3)]), (238, [(0, 3), (1, 3)]), (240, [(0, 3), (1, 3), (2, 3), (3, 236), (4, 239)]), (241, [(0, 3), (1, 3), (2, 3), (3, 236), (4, 239)]), (242, [(0, 28), (2, 28), (4, 3)]), (243, [(0, 28), (2, 28), (4, 3)]), (247, [(0, 3), (1, 246)]), (248, [(0, 3), (1, 246)]), (250, [(0, 3), (1, 3)]), (251, [(0, 3), (1, 3)]), (253, [(0, 3), (1, 3), (2, 28), (4, 252), (5, 3), (6, 28), (8, 3)]), (254, [(0, 3), (1, 3), (2, 28), (4, 252), (5, 3), (6, 28), (8, 3)]), (266, [(0, 172), (5, 265)]), (267, [(0, 172), (5, 265)]), (268, [(0, 83), (4, 175)]), (269, [(0, 83), (4, 175)]), (274, [(0, 38), (1, 3)]), (275, [(0, 38), (1, 3)]), (317, [(0, 3), (1, 3)]), (318, [(0, 3), (1, 3)]), (319, [(0, 318), (2, 3)]), (320, [(0, 318), (2, 3)]), (334, [(0, 3), (1, 3)]), (335, [(0, 3), (1, 3)]), (348, [(0, 3), (1, 3), (2, 347)]), (349, [(0, 3), (1, 3), (2, 347)]), (355, [(0, 3), (1, 3), (2, 3), (3, 3)]), (356, [(0, 3), (1, 3), (2, 3), (3, 3)]), (375, [(0, 248), (2, 374), (3, 3), (4, 3), (5, 3), (6, 3), (7, 3)]), (376, [(0, 248), (2, 374), (3, 3), (4, 3), (5, 3), (6, 3), (7, 3)]), (377, [(0, 3), (1, 3)]), (378, [(0, 3), (1, 3)]), (433, [(0, 17), (1, 17), (2, 17), (3, 9)]), (434, [(0, 17), (1, 17), (2, 17), (3, 9)]), (436, [(0, 435)]), (437, [(0, 435)]), (444, [(0, 12), (1, 12), (2, 308), (3, 438), (4, 5), (5, 5), (6, 439), (7, 440), (8, 441), (9, 442), (10, 443)]), (445, [(0, 12), (1, 12), (2, 308), (3, 438), (4, 5), (5, 5), (6, 439), (7, 440), (8, 441), (9, 442), (10, 443)])]
  el := [(3, .int .i64 0, 1, 8), (22, .agg #[.int .u8 0, .int .u8 0, .int .u8 0, .int .u8 0, .int .u8 0], 5, 5), (23, .agg #[.int .u8 0, .int .u8 0, .int .u8 0], 3, 3), (28, .agg #[.int .i64 0, .int .i64 0], 2, 16), (31, .agg #[.int .i64 0, .int .i64 0, .int .i64 0, .int .i64 0, .int .i64 0, .int .i64 0], 6, 48), (34, .agg #[.int .i64 0, .int .i64 0, .slice none 0 0, .int .i64 0, .int .i64 0], 5, 56), (36, .agg #[.int .i64 0, .int .i64 0, .int .i64 0, .bool false], 4, 32), (38, .slice none 0 0, 1, 24), (68, .agg #[.int .i64 0, .int .i64 0, .int .i64 0, .int .i64 0, .int .i64 0], 5, 40), (77, .agg #[.int .i64 0, .int .i64 0, .int .i64 0, .int .i64 0], 4, 32), (79, .agg #[.int .i64 0, .int .i64 0, .int .i64 0, .int .i64 0, .int .i64 0, .int .i64 0, .int .i64 0], 7, 56), (83, .agg #[.int .i64 0, .int .i64 0, .slice none 0 0, .slice none 0 0], 4, 64), (101, .agg #[.int .i64 0, .int .i64 0, .int .i64 0], 3, 24), (115, .agg #[.int .i64 0, .int .i64 0, .int .i64 0, .int .i64 0, .bool false], 5, 40), (116, .slice none 0 0, 1, 24), (122, .agg #[.int .i64 0, .int .i64 0, .int .i64 0], 3, 24), (127, .agg #[.int .i64 0, .int .i64 0], 2, 16), (135, .agg #[.int .i64 0, .int .i64 0, .int .i64 0, .int .i64 0, .int .i64 0, .int .i64 0], 6, 48), (138, .agg #[.int .i64 0, .int .i64 0], 2, 16), (148, .agg #[.slice none 0 0, .int .i64 0], 2, 32), (180, .agg #[.int .i64 0, .int .i64 0], 2, 16), (189, .agg #[.int .i64 0, .int .i64 0], 2, 16), (192, .agg #[.int .i64 0, .int .i64 0, .int .i64 0, .int .i64 0], 4, 32), (235, .agg #[.int .i64 0, .int .i64 0], 2, 16), (238, .agg #[.int .i64 0, .int .i64 0], 2, 16), (241, .agg #[.int .i64 0, .int .i64 0, .int .i64 0, .slice none 0 0, .slice none 0 0], 5, 72), (251, .agg #[.int .i64 0, .int .i64 0], 2, 16), (269, .agg #[.int .i64 0, .int .i64 0, .slice none 0 0, .slice none 0 0, .slice none 0 0], 5, 88), (335, .agg #[.int .i64 0, .int .i64 0], 2, 16), (356, .agg #[.int .i64 0, .int .i64 0, .int .i64 0, .int .i64 0], 4, 32), (378, .agg #[.int .i64 0, .int .i64 0], 2, 16)]
  zv := [(3, .int .i64 0), (4, .bool false), (22, .agg #[.int .u8 0, .int .u8 0, .int .u8 0, .int .u8 0, .int .u8 0]), (28, .agg #[.int .i64 0, .int .i64 0]), (31, .agg #[.int .i64 0, .int .i64 0, .int .i64 0, .int .i64 0, .int .i64 0, .int .i64 0]), (34, .agg #[.int .i64 0, .int .i64 0, .slice none 0 0, .int .i64 0, .int .i64 0]), (36, .agg #[.int .i64 0, .int .i64 0, .int .i64 0, .bool false]), (38, .slice none 0 0), (39, .int .i64 0), (44, .slice none 0 0), (49, .agg #[.int .i64 0, .int .i64 0, .int .i64 0, .int .i64 0, .int .i64 0, .int .i64 0, .int .i64 0, .int .i64 0, .int .i64 0, .int .i64 0, .slice none 0 0]), (52, .agg #[.int .i64 0, .int .i64 0, .int .i64 0, .int .i64 0]), (58, .agg #[.int .i64 0, .int .i64 0, .int .i64 0, .int .i64 0, .int .i64 0, .int .i64 0]), (65, .agg #[.int .i64 0, .int .i64 0, .int .i64 0, .int .i64 0, .int .i64 0]), (68, .agg #[.int .i64 0, .int .i64 0, .int .i64 0, .int .i64 0, .int .i64 0]), (73, .agg #[.int .i64 0, .int .i64 0, .int .i64 0, .int .i64 0, .int .i64 0]), (77, .agg #[.int .i64 0, .int .i64 0, .int .i64 0, .int .i64 0]), (79, .agg #[.int .i64 0, .int .i64 0, .int .i64 0, .int .i64 0, .int .i64 0, .int .i64 0, .int .i64 0]), (83, .agg #[.int .i64 0, .int .i64 0, .slice none 0 0, .slice none 0 0]), (89, .agg #[.slice none 0 0, .slice none 0 0, .slice none 0 0, .slice none 0 0]), (101, .agg #[.int .i64 0, .int .i64 0, .int .i64 0]), (103, .pointer none), (115, .agg #[.int .i64 0, .int .i64 0, .int .i64 0, .int .i64 0, .bool false]), (119, .agg #[.slice none 0 0, .slice none 0 0, .slice none 0 0]), (122, .agg #[.int .i64 0, .int .i64 0, .int .i64 0]), (127, .agg #[.int .i64 0, .int .i64 0]), (135, .agg #[.int .i64 0, .int .i64 0, .int .i64 0, .int .i64 0, .int .i64 0, .int .i64 0]), (138, .agg #[.int .i64 0, .int .i64 0]), (144, .slice none 0 0), (146, .agg #[.int .i64 0, .int .i64 0, .int .i64 0, .int .i64 0]), (148, .agg #[.slice none 0 0, .int .i64 0]), (153, .nilFunc), (159, .pointer none), (164, .agg #[.slice none 0 0, .int .i64 0]), (172, .agg #[.int .i64 0, .int .i64 0, .int .i64 0, .int .i64 0, .int .i64 0]), (180, .agg #[.int .i64 0, .int .i64 0]), (189, .agg #[.int .i64 0, .int .i64 0]), (192, .agg #[.int .i64 0, .int .i64 0, .int .i64 0, .int .i64 0]), (195, .agg #[.slice none 0 0, .slice none 0 0]), (224, .agg #[.int .i64 0, .int .i64 0, .int .i64 0, .int .i64 0, .int .i64 0, .int .i64 0, .int .i64 0, .int .i64 0, .int .i64 0, .int .i64 0, .slice none 0 0, .map none, .slice none 0 0]), (231, .agg #[.int .i64 0, .int .i64 0, .int .i64 0, .int .i64 0]), (235, .agg #[.int .i64 0, .int .i64 0]), (238, .agg #[.int .i64 0, .int .i64 0]), (241, .agg #[.int .i64 0, .int .i64 0, .int .i64 0, .slice none 0 0, .slice none 0 0]), (243, .agg #[.int .i64 0, .int .i64 0, .int .i64 0, .int .i64 0, .int .i64 0]), (248, .agg #[.int .i64 0, .slice none 0 0]), (251, .agg #[.int .i64 0, .int .i64 0]), (254, .agg #[.int .i64 0, .int .i64 0, .int .i64 0, .int .i64 0, .slice none 0 0, .int .i64 0, .int .i64 0, .int .i64 0, .int .i64 0]), (267, .agg #[.int .i64 0, .int .i64 0, .int .i64 0, .int .i64 0, .int .i64 0, .slice none 0 0]), (269, .agg #[.int .i64 0, .int .i64 0, .slice none 0 0, .slice none 0 0, .slice none 0 0]), (275, .agg #[.slice none 0 0, .int .i64 0]), (297, .slice none 0 0), (318, .agg #[.int .i64 0, .int .i64 0]), (320, .agg #[.int .i64 0, .int .i64 0, .int .i64 0]), (349, .agg #[.int .i64 0, .int .i64 0, .slice none 0 0]), (356, .agg #[.int .i64 0, .int .i64 0, .int .i64 0, .int .i64 0]), (358, .int .u64 0), (376, .agg #[.int .i64 0, .slice none 0 0, .slice none 0 0, .int .i64 0, .int .i64 0, .int .i64 0, .int .i64 0, .int .i64 0]), (378, .agg #[.int .i64 0, .int .i64 0])]
instance : TbC Tryz.prog := ⟨tb, fun _ => by kernel_rfl, fun _ => by kernel_rfl, fun _ => by kernel_rfl, fun _ => by kernel_rfl, by kernel_rfl, fun _ => by kernel_rfl, by kernel_rfl⟩
end Go.Proofs.YtclinbbghnebaaaGreat
namespace Go.Proofs.YtclinbbghnebaaaGreat
open Go Go.RowKit Go.ChangeShapes Go.WideShapes Go.ChangeAt

variable {H : Type} {enc : TypeId × Value → H} {P : Program} {w : World} {t e : TypeId} {cs : List Value}

/-- These cells read at type t. -/
def Rd (enc : TypeId × Value → H) (P : Program) (w : World) (t : TypeId) (cs : List Value) : Prop := ∃ fuel x, DataW.trod enc P w 0 (fun _ => true) true fuel t cs = some x

theorem Rd.of {v : Value} {d : DataW H} {p : List MemPlace} (h : DataW.Trod enc P w 0 (fun _ => true) true t v d p) : Rd enc P w t v.cells.toList := by
  obtain ⟨fuel, hf⟩ := h
  exact ⟨fuel, _, hf⟩

theorem Rd.int (ht : P.underlying t = some (.int .i64)) (h : Rd enc P w t cs) : ∃ n : Int, cs = [.int .i64 n] ∧ (-9223372036854775808 ≤ n ∧ n ≤ 9223372036854775807) := by
  obtain ⟨fuel, x, hf⟩ := h
  obtain ⟨n, h1, _, h2⟩ := DataW.trod_int ht hf
  refine ⟨n, h1, ?_⟩
  simp [Lit.wf] at h2
  have e : IntKind.i64.min = -9223372036854775808 := rfl
  omega

theorem Rd.bool (ht : P.underlying t = some .bool) (h : Rd enc P w t cs) : ∃ b : Bool, cs = [.bool b] := by
  obtain ⟨fuel, x, hf⟩ := h
  obtain ⟨b, h1, _⟩ := DataW.trod_bool ht hf
  exact ⟨b, h1⟩

theorem Rd.struct {fs : Array Field} (ht : P.underlying t = some (.struct fs)) (h : Rd enc P w t cs) : cs.length = P.cellsOf t ∧ ∀ (i : Nat) (f : Field), fs[i]? = some f → Rd enc P w f.type ((cs.drop f.offset).take (P.cellsOf f.type)) := by
  obtain ⟨fuel, x, hf⟩ := h
  obtain ⟨xs, n, _, _, h1, h2, h3⟩ := DataW.trod_struct ht hf
  refine ⟨h1, fun i f hi => ?_⟩
  have h4 := h3 i f hi
  have hlt : i < xs.length := by rw [h2]; exact (Array.getElem?_eq_some_iff.1 hi).1
  exact ⟨n, xs[i], by rw [h4]; simp [hlt]⟩

theorem Rd.array {n : Nat} (ht : P.underlying t = some (.array n e)) (h : Rd enc P w t cs) : cs.length = P.cellsOf t ∧ ∀ i, i < n → Rd enc P w e ((cs.drop (i * P.cellsOf e)).take (P.cellsOf e)) := by
  obtain ⟨fuel, x, hf⟩ := h
  obtain ⟨xs, m, _, _, h1, h2, h3⟩ := DataW.trod_array ht hf
  refine ⟨h1, fun i hi => ?_⟩
  exact ⟨m, xs[i], by rw [h3 i hi]; simp [show i < xs.length by omega]⟩

/-- A slice that came in: each element's cells read at the element's type. -/
theorem Rd.slice (ht : P.underlying t = some (.slice e)) (hk : 0 < P.cellsOf e) (h : Rd enc P w t cs) : ∃ ao len cap, cs = [.slice ao len cap] ∧ len ≤ cap ∧ cap ≤ maxLen ∧
    (0 < len → ∃ b o, ao = some ⟨b, o, none⟩ ∧ b < w.heap.size ∧ ∀ i, i < len → ∃ cs', cs'.length = P.cellsOf e ∧ At w b (o + i * P.cellsOf e) cs' ∧ Rd enc P w e cs') := by
  obtain ⟨fuel, x, hf⟩ := h
  rcases Go.Deep.open_slice ht hf with ⟨h1, _⟩ | ⟨a, len, cap, m, n, D, Pl, h1, _, h2, h3, hm, _, h4⟩
  · exact ⟨none, 0, 0, h1, Nat.le_refl _, by decide, fun h => absurd h (Nat.lt_irrefl _)⟩
  · refine ⟨some a, len, cap, h1, h2, h3, fun hp => ?_⟩
    have hlm : len ≤ m := by rw [hm]; simp; exact h2
    have cell : ∀ i, i < len → ∃ cs', w.cells? 0 (a.add (i * P.cellsOf e)) (P.cellsOf e) = some cs' ∧ Rd enc P w e cs' := fun i hi => by
      obtain ⟨cs', q1, q2⟩ := h4 i (by omega)
      exact ⟨cs', q1, n, _, q2⟩
    obtain ⟨c0, q1, _⟩ := cell 0 hp
    obtain ⟨_, hl0, hc0⟩ := World.cells?_some q1
    have hfirst : w.cell? a = c0[0]? := by
      have := hc0 0 hk
      simpa [Addr.add] using this
    have hsp : a.spot = none := World.cell?_spot (by rw [hfirst]; exact List.getElem?_eq_getElem (by omega))
    obtain ⟨b, o, sp⟩ := a
    obtain rfl : sp = none := hsp
    refine ⟨b, o, rfl, World.cells?_block (by simpa [addr_add] using q1) hk, fun i hi => ?_⟩
    obtain ⟨cs', r1, r2⟩ := cell i hi
    obtain ⟨_, hl1, hc1⟩ := World.cells?_some r1
    refine ⟨cs', hl1, fun j v hj => ?_, r2⟩
    have hjl : j < P.cellsOf e := by rw [← hl1]; exact (List.getElem?_eq_some_iff.1 hj).1
    have := hc1 j hjl
    rw [addr_add, addr_add] at this
    rw [this, hj]

theorem okWide_array {r : Reach} {base n : Nat} {v : Value} (ht : P.underlying t = some (.array n e)) (h : Value.okWide P w r base t v) : ∃ cs, v = .agg cs ∧ cs.size = P.cellsOf t := by
  simp only [Value.okWide, ht] at h
  obtain ⟨cs, h1, h2, _⟩ := h
  exact ⟨cs, h1, h2⟩

/-- A field of a struct that came in. -/
theorem Rd.fld {fs : Array Field} {f : Field} {u : TypeId} {o n : Nat} (ht : P.underlying t = some (.struct fs)) (h : Rd enc P w t cs) (i : Nat) (hi : fs[i]? = some f) (hu : f.type = u) (ho : f.offset = o) (hn : P.cellsOf u = n) : Rd enc P w u ((cs.drop o).take n) := by
  subst hu ho hn; exact (h.struct ht).2 i f hi

/-- An element of an array that came in. -/
theorem Rd.elt {n k : Nat} (ht : P.underlying t = some (.array n e)) (h : Rd enc P w t cs) (i : Nat) (hi : i < n) (hk : P.cellsOf e = k) : Rd enc P w e ((cs.drop (i * k)).take k) := by
  subst hk; exact (h.array ht).2 i hi

/-- A slice that came in, as a list of what its elements are. -/
theorem Rd.sl {α : Type} [Inhabited α] {enc' : α → List Value} {k : Nat} {R : α → Prop} (hk : P.cellsOf e = k) (hk0 : 0 < k) (ht : P.underlying t = some (.slice e)) (he : ∀ cs, Rd enc P w e cs → ∃ x, cs = enc' x ∧ R x) (h : Rd enc P w t cs) :
    ∃ (ao : Option Addr) (b o cap : Nat) (xs : List α), cs = [.slice ao xs.length cap] ∧ xs.length ≤ cap ∧ cap ≤ maxLen ∧ Sl enc' k w ao b o xs ∧ ∀ x ∈ xs, R x := by
  subst hk
  obtain ⟨ao, len, cap, h1, h2, h3, h4⟩ := h.slice ht hk0
  rcases Nat.eq_zero_or_pos len with h0 | h0
  · subst h0
    exact ⟨ao, 0, 0, cap, [], h1, h2, h3, Sl.nil _ _ _ _ _ _, fun x hx => by cases hx⟩
  · obtain ⟨b, o, hao, hb, hel⟩ := h4 h0
    have key : ∀ n, n ≤ len → ∃ xs : List α, xs.length = n ∧ (∀ i, i < n → At w b (o + i * P.cellsOf e) (enc' (nth xs i))) ∧ ∀ x ∈ xs, R x := by
      intro n
      induction n with
      | zero => exact fun _ => ⟨[], rfl, fun i hi => by omega, fun x hx => by cases hx⟩
      | succ n ih =>
        intro hn
        obtain ⟨xs, q1, q2, q3⟩ := ih (by omega)
        obtain ⟨cs', r1, r2, r3⟩ := hel n (by omega)
        obtain ⟨x, rfl, hx⟩ := he _ r3
        refine ⟨xs ++ [x], by simp [q1], fun i hi => ?_, fun y hy => ?_⟩
        · by_cases e : i = n
          · subst e
            have : nth (xs ++ [x]) i = x := by simp [nth, List.getD_eq_getElem?_getD, q1]
            rw [this]; exact r2
          · have : nth (xs ++ [x]) i = nth xs i := by simp [nth, List.getD_eq_getElem?_getD, List.getElem?_append_left (show i < xs.length by omega)]
            rw [this]; exact q2 i (by omega)
        · rcases List.mem_append.1 hy with hy | hy
          · exact q3 y hy
          · have : y = x := by simpa using hy
            subst this; exact hx
    obtain ⟨xs, q1, q2, q3⟩ := key len (Nat.le_refl _)
    subst q1
    exact ⟨ao, b, o, cap, xs, h1, h2, h3, ⟨fun _ => hao, fun _ => hb, q2⟩, q3⟩

end Go.Proofs.YtclinbbghnebaaaGreat
namespace Go.Proofs.YtclinbbghnebaaaGreat
open Go Go.RowKit

theorem Upd.putObj (w : World) (l : Nat) (o : Obj) : Upd (· = l) w (w.putObj l o) := ⟨rfl, rfl, rfl, by simp, fun k _ hn => World.putObj_heap_other hn⟩

/-- What may turn is cells. -/
def CellsIn (S : Nat → Prop) (w : World) : Prop := ∀ k, k < w.heap.size → S k → ∃ cur t f, w.heap[k]? = some (.cells cur t f)

theorem CellsIn.none (w : World) : CellsIn (fun _ => False) w := fun _ _ h => h.elim
theorem Blk.cellsIn {w : World} {b : Nat} {t : TypeId} {cs : List Value} (h : Blk w b t cs) : CellsIn (· = b) w := fun k _ e => by subst e; exact ⟨_, _, _, h⟩
theorem Acc.cellsIn {α : Type} {enc : α → List Value} {k : Nat} {e : TypeId} {base : Nat} {w : World} {ao : Option Addr} {g cap : Nat} {xs : List α} (h : Acc enc k e base w ao g cap xs) : CellsIn (fun i => i = g ∧ base ≤ i) w := fun i _ hi => by
  rcases h.at_ with ⟨_, _, _, h1⟩ | ⟨_, _, cur, h1, _⟩
  · omega
  · rw [hi.1]; exact ⟨_, _, _, h1⟩
theorem CellsIn.or {S T : Nat → Prop} {w : World} (h : CellsIn S w) (k : CellsIn T w) : CellsIn (fun i => S i ∨ T i) w := fun i hi h' => h'.elim (h i hi) (k i hi)

theorem KeepsFrom.of_upd {S : Nat → Prop} {B : Nat} {w w' : World} (u : Upd S w w') (h : CellsIn S w) : KeepsFrom B w w' :=
  ⟨u.size, fun k o _ hk ho => (u.block k (Array.getElem?_eq_some_iff.1 hk).1 (fun hs => by
    obtain ⟨c, t, f, hc⟩ := h k (Array.getElem?_eq_some_iff.1 hk).1 hs
    rw [hk] at hc
    cases hc
    cases ho)).trans hk⟩

/-! ### The marks of ended loops among the deferred calls -/
def mark (D : Nat) : Deferred := { target := .collected D, args := #[] }

/-- The deferred calls are the marks of loops in whose rounds nothing was deferred. -/
def Marks (base : Nat) : List Deferred → World → Prop
  | [], _ => True
  | d :: ds, w => (∃ D, d = mark D ∧ base ≤ D ∧ w.heap[D]? = some (.deferred (some [])) ∧ (∀ d' ∈ ds, ∀ D', d' = mark D' → D' < D)) ∧ Marks base ds w

theorem Marks.keep {base : Nat} {S : Nat → Prop} : ∀ {ds : List Deferred} {w w' : World}, Marks base ds w → Upd S w w' → CellsIn S w → Marks base ds w'
  | [], _, _, _, _, _ => trivial
  | d :: ds, w, w', h, u, hc => by
    obtain ⟨⟨D, h1, h2, h3, h4⟩, h5⟩ := h
    refine ⟨⟨D, h1, h2, ?_, h4⟩, h5.keep u hc⟩
    have hlt := lt_of_block h3
    refine (u.block D hlt (fun hs => ?_)).trans h3
    obtain ⟨c, t, f, hq⟩ := hc D hlt hs
    rw [h3] at hq
    cases hq

theorem Marks.lt {base : Nat} : ∀ {ds : List Deferred} {w : World}, Marks base ds w → ∀ d ∈ ds, ∀ D, d = mark D → D < w.heap.size
  | [], _, _, d, hd, _, _ => by cases hd
  | d :: ds, w, h, d', hd, D', e => by
    obtain ⟨⟨D, h1, h2, h3, h4⟩, h5⟩ := h
    rcases List.mem_cons.1 hd with rfl | hd
    · rw [h1] at e
      injection e with e
      injection e with e
      subst e
      exact lt_of_block h3
    · exact h5.lt d' hd D' e

theorem Marks.keepLow {base : Nat} {S : Nat → Prop} {B : Nat} : ∀ {ds : List Deferred} {w w' : World}, Marks base ds w → Upd S w w' → (∀ d ∈ ds, ∀ D, d = mark D → D < B) → (∀ k, S k → B ≤ k) → Marks base ds w'
  | [], _, _, _, _, _, _ => trivial
  | d :: ds, w, w', h, u, hB, hS => by
    obtain ⟨⟨D, h1, h2, h3, h4⟩, h5⟩ := h
    refine ⟨⟨D, h1, h2, ?_, h4⟩, h5.keepLow u (fun d' hd' => hB d' (by simp [hd'])) hS⟩
    exact (u.block D (lt_of_block h3) (fun hs => by have := hB d (by simp) D h1; have := hS D hs; omega)).trans h3

theorem Marks.push {base : Nat} {ds : List Deferred} {w : World} {D : Nat} (h : Marks base ds w) (hb : base ≤ D) (hD : w.heap[D]? = some (.deferred (some []))) (hn : ∀ d ∈ ds, ∀ D', d = mark D' → D' < D) : Marks base (mark D :: ds) w :=
  ⟨⟨D, rfl, hb, hD, hn⟩, h⟩

section steps
variable {rd : Option Nat} {P : Program} {ops : Array Oper} {Q : Exit → Act → World → Prop} {N : Nat} {ds : List Deferred} {rest : List Oper} {L : Slots} {w : World}
variable {d : Nat} {ty : TypeId} {pos : String} {aft : Array Edge} {g : Option (Nat × Bool)} {c : Code}

theorem roundIn_rnd {n m : Nat} {l : Nat} {f : FuncId} {tmps : Array Value} {assign body : Code} {R : Ending → World → Prop} (h : RoundIn Fence.wide m P l f tmps assign body w R) : RoundIn (rnd rd) n P l f tmps assign body w R := by
  obtain ⟨_, h2⟩ := h
  refine ⟨rnd_fn _ _, fun c cs _ => ?_⟩
  have := h2 c cs (room_wide _)
  cases rd with
  | none => exact this
  | some l => exact this

/-- A call of yield: one round. -/
theorem t_yield {f : Operand} {l m : Nat} {xs : Array Operand} {ats : Array TypeId} {vs : List Value} {R : Ending → World → Prop} (hg : grd ops L g = true) (hN : Nat.blt d N = true)
    (hf : ev L f = some (.func (.yield l) #[] #[])) (hv : evs L xs.toList = some vs) (hy : YieldAt Fence.wide m P l vs.toArray w R) (hR : ∀ e w', R e w' → ∃ v, e = .returned v)
    (h : ∀ v w', R (.returned v) w' → WL rd P ops Q N ds rest ((d, v) :: L) w') : WL rd P ops Q N ds (⟨some d, .call ⟨.value f, xs, ats⟩, ty, pos, aft, g⟩ :: rest) L w := by
  refine ⟨fun a ha => ?_⟩
  obtain ⟨fn, tmps, assign, body, hy1, hy2⟩ := hy
  have e1 : xs.map a.eval = vs.toArray := by rw [← ha.evs hv, ← Array.toList_map]
  have hr : (execOp a.eval ⟨some d, .call ⟨.value f, xs, ats⟩, ty, pos, aft, g⟩).run P w = .ok (.round l fn tmps assign body) w := by
    simp [execOp, resolve, ha.ev hf, Deferred.ofValue, invoke, e1, hy1]
  unfold wpListIn
  rw [if_pos (ha.wanted (o := ⟨some d, .call ⟨.value f, xs, ats⟩, ty, pos, aft, g⟩) hg)]
  unfold Oper.wpIn
  refine ⟨fun f _ => rnd_fn _ f, ?_⟩
  rw [semAt_of_ok (by simp) hr, Oper.uponIn_round]
  refine ⟨fun h => by simp [rnd_depth] at h, RoundIn.mono (roundIn_rnd hy2) ?_⟩
  intro e w' r
  obtain ⟨v, rfl⟩ := hR e w' r
  exact h v w' r _ (ha.put v hN)

/-- A loop in which deferred calls (marks) may gather. -/
theorem c_loopm {γ : Type} (Lf : γ → Slots) (Df : γ → List Deferred) (Wf : γ → World → Prop) (μ : γ → Nat) (g0 : γ) (hd0 : Df g0 = ds) (h0 : Sub (Lf g0) L) (hw : Wf g0 w)
    (step : ∀ g w', Wf g w' → ∀ K : Act → World → Prop, (∀ g' L'' w'', μ g' < μ g → Sub (Lf g') L'' → Wf g' w'' → QK K N (Df g') L'' w'') → WC rd P (Exit.then K Q) N (Df g) c (Lf g) w') :
    WC rd P Q N ds (.loop c) L w := by
  refine ⟨fun a ha => ?_⟩
  intro b k cs hro hb hr
  have key : ∀ n g a w, μ g = n → Kn N (Df g) (Lf g) a → Wf g w →
      ∃ e a' w', Q e a' w' ∧ ArrivesIn (Machine.fenced P (rnd rd)) P (lone (b.atR a (.code c :: .inLoop c :: k)) cs w) b k cs e a' w' := by
    intro n
    induction n using Nat.strongRecOn with
    | _ n ih =>
      intro g a w hn hk hW
      have hs := step g w hW (fun a' w' => ∃ g', μ g' < μ g ∧ Kn N (Df g') (Lf g') a' ∧ Wf g' w') (fun g' L'' w'' hlt hs hw'' => ⟨fun a'' ha'' => ⟨g', hlt, ha''.sub hs, hw''⟩⟩) a hk
      obtain ⟨e, a₁, w₁, hq, harr⟩ := hs b (.inLoop c :: k) cs hro hb hr
      cases e with
      | normal =>
        obtain ⟨g', hlt, hk', hW'⟩ := hq
        obtain ⟨e₂, a₂, w₂, hq₂, harr₂⟩ := ih (μ g') (hn ▸ hlt) g' a₁ w₁ rfl hk' hW'
        exact ⟨e₂, a₂, w₂, hq₂, .of_steps (StepsIn.trans harr (.one (fenced_calm hb hr rfl) stepR_inLoop)) harr₂⟩
      | exit id => exact ⟨_, a₁, w₁, hq, .pass (x := .inLoop c) rfl (fun _ _ => .inl (by simp)) harr⟩
      | goto l => exact ⟨_, a₁, w₁, hq, .pass (x := .inLoop c) rfl (fun _ _ => .inl (by simp)) harr⟩
      | ret => exact ⟨_, a₁, w₁, hq, .pass (x := .inLoop c) rfl (fun _ _ => .inl (by simp)) harr⟩
      | panic ch => exact ⟨_, a₁, w₁, hq, .pass (x := .inLoop c) rfl (fun _ _ => .inl (by simp)) harr⟩
      | outgrown => exact ⟨_, a₁, w₁, hq, .pass (x := .inLoop c) rfl (fun _ _ => .inl (by simp)) harr⟩
  obtain ⟨e, a', w', hq, harr⟩ := key _ g0 a w rfl ((hd0 ▸ ha).sub h0) hw
  exact ⟨e, a', w', hq, .of_steps (.one (fenced_calm hb hr rfl) stepR_loop) harr⟩
theorem f_enterM {R : Value → World → Prop} {f : FuncId} {fn : Func} {vs : List Value} (hf : P.funcs[f]? = some fn) (hb : fn.body = some c) (hn : Nat.ble vs.length N = true) (hN : fn.ntmps = N)
    (h : WC none P (bodyPostM (rnd none) 3 P fn fun e w' => ∃ v, e = .returned v ∧ R v w') N [] c (args 0 vs) w) : CallsV P f vs w R := by
  refine callsIn_wide.1 (callsIn_of_wp_marks (F := Fence.wide) (n := 3) hf hb trivial (h _ ⟨?_, rfl, ?_⟩))
  · have : vs.length ≤ N := Nat.le_of_ble_eq_true hn
    simp [hN]; omega
  · intro k v hk
    have ⟨_, h2⟩ := look_args vs 0 v hk
    rw [Array.getD_eq_getD_getElem?]
    have h3 : k < vs.length := by
      rcases Nat.lt_or_ge k vs.length with h | h
      · exact h
      · simp [List.getElem?_eq_none h] at h2
    rw [Array.getElem?_append_left (by simpa using h3)]
    simpa using congrArg (fun o => o.getD undef) h2

def tmpRes (L : Slots) : ResultVar → Option Value
  | .tmp t => look t L
  | .cell _ _ => none

theorem tmpRes.run {r : ResultVar} {v : Value} (h : tmpRes L r = some v) {a : Act} (ha : Kn N ds L a) (w : World) : (resOf a.tmps r).run P w = .ok v w := by
  cases r with
  | tmp t => simp only [resOf, Sem.run_pure]; rw [ha.get _ _ h]
  | cell s t => cases h

end steps
end Go.Proofs.YtclinbbghnebaaaGreat
namespace Go.Proofs.YtclinbbghnebaaaGreat
open Go Go.RowKit
theorem q_loopm {rd : Option Nat} {P : Program} {Q : Exit → Act → World → Prop} {k : List Kf} {N : Nat} {ds : List Deferred} {L : Slots} {w : World} {c : Code} {γ : Type} (Lf : γ → Slots) (Df : γ → List Deferred) (Wf : γ → World → Prop) (μ : γ → Nat) (g0 : γ) (hd0 : Df g0 = ds) (h0 : Sub (Lf g0) L) (hw : Wf g0 w)
    (step : ∀ g w', Wf g w' → ∀ K : Act → World → Prop, (∀ g' L'' w'', μ g' < μ g → Sub (Lf g') L'' → Wf g' w'' → QK K N (Df g') L'' w'') → WC rd P (QS rd P (Exit.then K (QS rd P Q k)) []) N (Df g) c (Lf g) w') :
    WC rd P (QS rd P Q k) N ds (.loop c) L w := c_loopm Lf Df Wf μ g0 hd0 h0 hw step
end Go.Proofs.YtclinbbghnebaaaGreat
namespace Go.Proofs.YtclinbbghnebaaaGreat
open Go Go.RowKit

/-- Only draws, and blocks that are new. -/
def Gr (w w' : World) : Prop := w'.os = w.os ∧ w'.tape = w.tape ∧ w'.output = w.output ∧ w.drawn ≤ w'.drawn ∧ ∃ os : Array Obj, w'.heap = w.heap ++ os
theorem Gr.refl (w : World) : Gr w w := ⟨rfl, rfl, rfl, Nat.le_refl _, #[], by simp⟩
theorem Gr.trans {a b c : World} (h : Gr a b) (k : Gr b c) : Gr a c := by
  obtain ⟨h1, h2, h3, h4, x, h5⟩ := h
  obtain ⟨k1, k2, k3, k4, y, k5⟩ := k
  exact ⟨k1.trans h1, k2.trans h2, k3.trans h3, Nat.le_trans h4 k4, x ++ y, by rw [k5, h5, Array.append_assoc]⟩
theorem Gr.alloc (w : World) (o : Obj) : Gr w (w.alloc o) := ⟨rfl, rfl, rfl, Nat.le_refl _, #[o], by show w.heap.push o = _; simp⟩
theorem Gr.drew (w : World) : Gr w w.drew := ⟨rfl, rfl, rfl, Nat.le_succ _, #[], by show w.heap = _; simp⟩

section
variable {P : Program} {ops : Array Oper} {Q : Exit → Act → World → Prop} {N : Nat} {ds : List Deferred} {rest : List Oper} {L : Slots} {w : World} {rd : Option Nat} {d : Nat} {ty : TypeId} {pos : String} {aft : Array Edge} {g : Option (Nat × Bool)}
theorem t_boxG {e : TypeId} {x : Operand} {v : Value} {cs : List Value} (hg : grd ops L g = true) (hN : Nat.blt d N = true) (hx : ev L x = some v) (hc : v.cells = cs.toArray)
    (h : ∀ b w', b = w.heap.size → w'.heap.size = w.heap.size + 1 → Blk w' b e cs → Ext w w' → Gr w w' → WL rd P ops Q N ds rest ((d, .pointer (some ⟨b, 0, none⟩)) :: L) w') :
    WL rd P ops Q N ds (⟨some d, .box e x, ty, pos, aft, g⟩ :: rest) L w :=
  WL.value (w' := w.alloc (.cells cs.toArray e)) hg rfl hN (fun a hk => by simp [execOp, hk.ev hx, Instr.box, newVar, newRow, newObj, Sem.run, hc]) (h _ _ rfl (by simp) (Blk.new _ _ _) (Upd.alloc _ _) (Gr.alloc _ _))
theorem t_bsliceG {t e : TypeId} {n : Nat} {parts : Array (Nat × Operand)} {ps : List (Nat × Value)} {cs : List Value} (hg : grd ops L g = true) (hN : Nat.blt d N = true)
    (hp : evs L (parts.toList.map (·.2)) = some (ps.map (·.2)) ∧ parts.toList.map (·.1) = ps.map (·.1))
    (hr : ∀ w, (Instr.buildSlice t n ps.toArray).run P w = .ok (.slice (some ⟨w.heap.size, 0, none⟩) n n) (w.alloc (.cells cs.toArray e)))
    (h : ∀ b w', b = w.heap.size → w'.heap.size = w.heap.size + 1 → Blk w' b e cs → Ext w w' → Gr w w' → WL rd P ops Q N ds rest ((d, .slice (some ⟨b, 0, none⟩) n n) :: L) w') :
    WL rd P ops Q N ds (⟨some d, .buildSlice t n parts, ty, pos, aft, g⟩ :: rest) L w :=
  WL.value hg rfl hN (fun a hk => by
    have e : parts.map (fun (i, x) => (i, a.eval x)) = ps.toArray := parts_ev hk hp.1 hp.2
    simp only [execOp]
    rw [e]
    simp [hr]) (h _ _ rfl (by simp) (Blk.new _ _ _) (Upd.alloc _ _) (Gr.alloc _ _))
theorem c_drawnMG {id : Nat} {L0 : Slots} {l : List Oper} (hm : P.follows .mixedOrders = true) (T : Nat → Prop) (t : OT) (hc : (l.all plainB && t.ok l (List.range l.length) []) = true)
    (h : ∀ w1, Ext w w1 → Gr w w1 → SC rd P l.toArray Q N ds w1 (SW w1.heap.size T) (OX.of l t) L0 w1) : WC rd P Q N ds (.region id l.toArray true) L0 w := by
  simp only [Bool.and_eq_true] at hc
  obtain ⟨h1, h2⟩ := hc
  refine ⟨fun a ha => ?_⟩
  refine wpIn_region_any hm (wAny.any ((SC.run (S := SW w.drew.heap.size T) (w1 := w.drew) ?_ ?_ t (List.range l.length) [] _ a _ L0 _ (by simp) (fun j hj => List.mem_range.1 hj) (fun j hj => ?_) h2 (by simp) (Upd.refl _ _) ha (h w.drew (Upd.drew _) (Gr.drew _))).1 rfl))
  · intro j o cs b ho he
    have := List.all_eq_true.1 h1 o (List.mem_of_getElem? (by simpa using ho))
    simp [plainB, he] at this
  · intro j o c ho he
    have := List.all_eq_true.1 h1 o (List.mem_of_getElem? (by simpa using ho))
    simp [plainB, he] at this
  · rw [Array.getD_eq_getD_getElem?]
    simp [hj]
end
end Go.Proofs.YtclinbbghnebaaaGreat
namespace Go.Proofs.YtclinbbghnebaaaGreat
open Go Go.RowKit

theorem Acc.lit {α : Type} (enc : α → List Value) (k : Nat) {e : TypeId} {base : Nat} {w : World} {b : Nat} (h : Blk w b e []) (hb : base ≤ b) : Acc enc k e base w (some ⟨b, 0, none⟩) b 0 [] :=
  ⟨h.lt, .inr ⟨rfl, hb, #[], h, Nat.le_refl _, by decide, by simp, by simp⟩⟩

theorem sl_cells {α : Type} [Inhabited α] {enc : α → List Value} {k : Nat} (hk0 : 0 < k) (hk : ∀ x, (enc x).length = k) {w : World} {ao : Option Addr} {b o : Nat} {xs : List α} (h : Sl enc k w ao b o xs) : ∀ j u, (xs.flatMap enc)[j]? = some u → w.cell? (Addr.add ⟨b, o, none⟩ j) = some u := by
  intro j u hj
  have hlt : j < xs.length * k := by
    rw [← flatMap_len hk xs]
    exact (List.getElem?_eq_some_iff.1 hj).1
  have hi : j / k < xs.length := (Nat.div_lt_iff_lt_mul hk0).2 hlt
  have hm : j % k < k := Nat.mod_lt _ hk0
  have h2 := flatMap_at hk xs (j / k) (j % k) ((enc (nth xs (j / k)))[j % k]'(by rw [hk]; exact hm)) hi (by simp [hk, hm])
  rw [Nat.div_add_mod'] at h2
  rw [h2] at hj
  cases hj
  have := h.at_ (j / k) hi (j % k) ((enc (nth xs (j / k)))[j % k]'(by rw [hk]; exact hm)) (by simp [hk, hm])
  rw [addr_add]
  rwa [Nat.add_assoc, Nat.div_add_mod'] at this

section
variable {rd : Option Nat} {P : Program} {ops : Array Oper} {Q : Exit → Act → World → Prop} {N : Nat} {ds : List Deferred} {rest : List Oper} {L : Slots} {w : World}
variable {d : Nat} {ty : TypeId} {pos : String} {aft : Array Edge} {g : Option (Nat × Bool)}

theorem t_appendAll {α : Type} [Inhabited α] {enc : α → List Value} {k : Nat} {t e : TypeId} {z : Value} {bytes base : Nat} {s x : Operand} {ao ay : Option Addr} {gb cap b o c : Nat} {xs ys : List α}
    (hu : P.underlying t = some (.slice e)) (hi : (P.info? e).map (fun i => (i.zero, i.size, i.bytes)) = some (some z, k, bytes)) (hz : z.cells.size = k) (hk0 : 0 < k) (hk : ∀ x, (enc x).length = k) (h1 : ∀ x, ∀ u ∈ enc x, u.oneCell' = true)
    (hg : grd ops L g = true) (hN : Nat.blt d N = true) (hs : ev L s = some (.slice ao xs.length cap)) (hx : ev L x = some (.slice ay ys.length c))
    (ha : Acc enc k e base w ao gb cap xs) (hb : Sl enc k w ay b o ys) (hbase : base ≤ w.heap.size) (hlen : xs.length ≤ 1000000) (hlen2 : ys.length ≤ 1000000) (hbytes : bytes ≤ 1000)
    (h : ∀ ao' g' cap' w', Acc enc k e base w' ao' g' cap' (xs ++ ys) → Upd (fun i => i = gb ∧ base ≤ i) w w' → (g' = gb ∨ w.heap.size ≤ g') → (xs ++ ys).length = xs.length + ys.length → WL rd P ops Q N ds rest ((d, .slice ao' (xs ++ ys).length cap') :: L) w') :
    WL rd P ops Q N ds (⟨some d, .call ⟨.builtin .append, #[s, x], #[t, t]⟩, ty, pos, aft, g⟩ :: rest) L w := by
  obtain ⟨i, hi0, hi1, hi2, hi3⟩ := info_parts' hi
  have hlen' : (xs ++ ys).length = xs.length + ys.length := by simp
  rcases Nat.eq_zero_or_pos ys.length with h0 | h0
  · have : ys = [] := List.eq_nil_of_length_eq_zero h0
    subst this
    have hle := ha.cap_le
    have hr : (Builtin.append_ #[t, t] ty #[.slice ao xs.length cap, .slice ay ([] : List α).length c]).run P w = .ok (.slice ao xs.length cap) w := by
      cases ao <;> cases ay <;> simp [Builtin.append_, run_underlying hu, sizeOf, typeInfo, hi0, Builtin.lenOf, Builtin.firstCells, loadCells, loadCellsFrom, storeCells, hle]
    have hacc : Acc enc k e base w ao gb cap (xs ++ []) := by simpa using ha
    have := h ao gb cap w hacc (Upd.refl _ _) (.inl rfl) hlen'
    rw [show (xs ++ ([] : List α)).length = xs.length from by simp] at this
    exact WL.value hg rfl hN (fun a hk' => by
      have hx' : a.eval x = .slice ay 0 c := hk'.ev hx
      have hr' : (Builtin.append_ #[t, t] ty #[.slice ao xs.length cap, .slice ay 0 c]).run P w = .ok (.slice ao xs.length cap) w := hr
      simp only [execOp, resolve, invoke, builtin]
      simp [hk'.ev hs, hx', hr']) this
  · have hay := hb.addr h0
    subst hay
    obtain ⟨gg, cc, w', hr, hown, hgrow, hgeq⟩ := run_append_lies (P := P) (w := w) t ty base e i z k bytes hu hi0 hi1 hi2 hi3 hz hk0 (.slice ao xs.length cap) xs.length (xs.flatMap enc) (ha.owns hk)
      ⟨b, o, none⟩ ys.length c (ys.flatMap enc) (flatMap_len hk ys) (sl_cells hk0 hk hb) (fun u hu => by
        obtain ⟨y, _, hy⟩ := List.mem_flatMap.1 hu
        exact h1 y u hy) h0 (by unfold maxLen; omega) (by
        have : (xs.length + ys.length) * bytes ≤ 2000000 * 1000 := Nat.mul_le_mul (by omega) hbytes
        omega) hbase _ rfl
    have hacc : Acc enc k e base w' (some ⟨gg, 0, none⟩) gg cc (xs ++ ys) := by
      obtain ⟨hl, hown⟩ := hown
      rcases hown with ⟨hq, _⟩ | ⟨g2, cap2, cur, he, hbg, hh, hc1, hc2, hc3, hc4⟩
      · cases hq
      · cases he
        refine ⟨?_, .inr ⟨rfl, hbg, cur, hh, by rw [hlen']; exact hc1, hc2, hc3, ?_⟩⟩
        · rcases Nat.lt_or_ge gg w'.heap.size with h | h
          · exact h
          · rw [Array.getElem?_eq_none h] at hh; cases hh
        · rw [hlen']; simpa using hc4
    have hupd : Upd (fun i => i = gb ∧ base ≤ i) w w' := ⟨hgrow.os, hgrow.tape, hgrow.output, hgrow.size, fun q hq hn => hgrow.block q hq (fun he => by
      rcases ha.at_ with ⟨h1, _, _, _⟩ | ⟨h1, h2, _⟩
      · subst h1; cases he
      · subst h1; simp [Value.ownBlock] at he; exact hn ⟨he, by omega⟩)⟩
    have hge : gg = gb ∨ w.heap.size ≤ gg := by
      rcases hgeq with h | h
      · left
        rcases ha.at_ with ⟨h1, _, _, _⟩ | ⟨h1, h2, _⟩
        · subst h1; simp [Value.ownBlock] at h
        · subst h1; simp [Value.ownBlock] at h; omega
      · right; omega
    have := h _ _ _ w' hacc hupd hge hlen'
    rw [hlen'] at this
    refine WL.value hg rfl hN (fun a hk' => ?_) this
    simp only [execOp, resolve, invoke, builtin]
    simp [hk'.ev hs, hk'.ev hx, hr]

/-- append([]E{}, xs...): a copy. -/
theorem t_copy {α : Type} [Inhabited α] {enc : α → List Value} {k : Nat} {t e : TypeId} {z : Value} {bytes bk : Nat} {s x : Operand} {ay : Option Addr} {b o c : Nat} {ys : List α}
    (hu : P.underlying t = some (.slice e)) (hi : (P.info? e).map (fun i => (i.zero, i.size, i.bytes)) = some (some z, k, bytes)) (hz : z.cells.size = k) (hk0 : 0 < k) (hk : ∀ x, (enc x).length = k) (h1 : ∀ x, ∀ u ∈ enc x, u.oneCell' = true)
    (hg : grd ops L g = true) (hN : Nat.blt d N = true) (hs : ev L s = some (.slice (some ⟨bk, 0, none⟩) 0 0)) (hx : ev L x = some (.slice ay ys.length c))
    (hB : Blk w bk e []) (hb : Sl enc k w ay b o ys) (hlen2 : ys.length ≤ 1000000) (hbytes : bytes ≤ 1000)
    (h : ∀ ao' g' cap' w', Acc enc k e bk w' ao' g' cap' ys → Upd (fun i => i = bk ∧ bk ≤ i) w w' → bk ≤ g' → WL rd P ops Q N ds rest ((d, .slice ao' ys.length cap') :: L) w') :
    WL rd P ops Q N ds (⟨some d, .call ⟨.builtin .append, #[s, x], #[t, t]⟩, ty, pos, aft, g⟩ :: rest) L w :=
  have hl := hB.lt
  t_appendAll (xs := ([] : List α)) (gb := bk) (cap := 0) (base := bk) hu hi hz hk0 hk h1 hg hN hs hx (Acc.lit enc k hB (Nat.le_refl _)) hb (Nat.le_of_lt hl) (by simp) hlen2 hbytes
    fun ao' g' cap' w' ha hu' hg' _ => h ao' g' cap' w' ha hu' (by omega)

theorem Acc.ofBlk {α : Type} (enc : α → List Value) (k : Nat) (hk : ∀ x, (enc x).length = k) {e : TypeId} {base : Nat} {w : World} {b : Nat} {xs : List α} (h : Blk w b e (xs.flatMap enc)) (hb : base ≤ b) (hl : xs.length ≤ 1000000) : Acc enc k e base w (some ⟨b, 0, none⟩) b xs.length xs :=
  ⟨h.lt, .inr ⟨rfl, hb, (xs.flatMap enc).toArray, h, Nat.le_refl _, by unfold maxLen; omega, by simp [flatMap_len hk xs], List.take_of_length_le (by show (xs.flatMap enc).length ≤ _; rw [flatMap_len hk xs]; exact Nat.le_refl _)⟩⟩

end

/-- What rows of slices hold: each in a block of its own from base on and below lim, none of them g2. -/
def Fam {α β : Type} [Inhabited β] (enc : β → List Value) (k : Nat) (ga : α → Option Addr) (gb go : α → Nat) (gx : α → List β) (base g2 lim : Nat) (rows : List α) (w : World) : Prop :=
  ∀ r ∈ rows, Sl enc k w (ga r) (gb r) (go r) (gx r) ∧ (0 < (gx r).length → base ≤ gb r ∧ gb r ≠ g2 ∧ gb r < lim)
section
variable {α β : Type} [Inhabited β] {enc : β → List Value} {k : Nat} {ga : α → Option Addr} {gb go : α → Nat} {gx : α → List β} {base g2 lim : Nat} {rows : List α} {w w' : World}
theorem Fam.nil : Fam enc k ga gb go gx base g2 lim [] w := fun _ h => by cases h
theorem Fam.keep {S : Nat → Prop} (h : Fam enc k ga gb go gx base g2 lim rows w) (u : Upd S w w') (hS : ∀ i, base ≤ i → i ≠ g2 → i < lim → ¬ S i) : Fam enc k ga gb go gx base g2 lim rows w' := fun r hr => by
  obtain ⟨h1, h2⟩ := h r hr
  exact ⟨h1.keep u (fun hp => hS _ (h2 hp).1 (h2 hp).2.1 (h2 hp).2.2), h2⟩
theorem Fam.mono {lim' : Nat} (h : Fam enc k ga gb go gx base g2 lim rows w) (hl : lim ≤ lim') : Fam enc k ga gb go gx base g2 lim' rows w := fun r hr => ⟨(h r hr).1, fun hp => by have := (h r hr).2 hp; omega⟩
end
end Go.Proofs.YtclinbbghnebaaaGreat
namespace Go.Proofs.YtclinbbghnebaaaGreat
open Go Go.RowKit
section
variable {rd : Option Nat} {P : Program} {ops : Array Oper} {Q : Exit → Act → World → Prop} {N : Nat} {ds : List Deferred} {rest : List Oper} {L : Slots} {w : World}
variable {d : Nat} {ty : TypeId} {pos : String} {aft : Array Edge} {g : Option (Nat × Bool)}

/-- append([]E{}, ys...): nothing that lay is turned. -/
theorem t_copyE {α : Type} [Inhabited α] {enc : α → List Value} {k : Nat} {t e : TypeId} {z : Value} {bytes bk : Nat} {s x : Operand} {ay : Option Addr} {b o c : Nat} {ys : List α}
    (hu : P.underlying t = some (.slice e)) (hi : (P.info? e).map (fun i => (i.zero, i.size, i.bytes)) = some (some z, k, bytes)) (hz : z.cells.size = k) (hk0 : 0 < k) (hk : ∀ x, (enc x).length = k) (_h1 : ∀ x, ∀ u ∈ enc x, u.oneCell' = true)
    (hg : grd ops L g = true) (hN : Nat.blt d N = true) (hs : ev L s = some (.slice (some ⟨bk, 0, none⟩) 0 0)) (hx : ev L x = some (.slice ay ys.length c))
    (hB : Blk w bk e []) (hb : Sl enc k w ay b o ys) (hlen2 : ys.length ≤ 1000000) (hbytes : bytes ≤ 1000)
    (h : ∀ ao' g' cap' w', Acc enc k e bk w' ao' g' cap' ys → Ext w w' → ((g' = bk ∨ w.heap.size ≤ g') ∧ (0 < ys.length → w.heap.size ≤ g')) → WL rd P ops Q N ds rest ((d, .slice ao' ys.length cap') :: L) w') :
    WL rd P ops Q N ds (⟨some d, .call ⟨.builtin .append, #[s, x], #[t, t]⟩, ty, pos, aft, g⟩ :: rest) L w := by
  obtain ⟨i, hi0, hi1, hi2, hi3⟩ := info_parts' hi
  have hl := hB.lt
  rcases Nat.eq_zero_or_pos ys.length with h0 | h0
  · have : ys = [] := List.eq_nil_of_length_eq_zero h0
    subst this
    have hr : (Builtin.append_ #[t, t] ty #[.slice (some ⟨bk, 0, none⟩) 0 0, .slice ay ([] : List α).length c]).run P w = .ok (.slice (some ⟨bk, 0, none⟩) 0 0) w := by
      cases ay <;> simp [Builtin.append_, run_underlying hu, sizeOf, typeInfo, hi0, Builtin.lenOf, Builtin.firstCells, loadCells, loadCellsFrom, storeCells]
    exact WL.value hg rfl hN (fun a hk' => by
      have hx' : a.eval x = .slice ay 0 c := hk'.ev hx
      have hr' : (Builtin.append_ #[t, t] ty #[.slice (some ⟨bk, 0, none⟩) 0 0, .slice ay 0 c]).run P w = .ok (.slice (some ⟨bk, 0, none⟩) 0 0) w := hr
      simp only [execOp, resolve, invoke, builtin]
      simp [hk'.ev hs, hx', hr']) (h (some ⟨bk, 0, none⟩) bk 0 w (Acc.lit enc k hB (Nat.le_refl _)) (Upd.refl _ _) ⟨.inl rfl, fun h => absurd h (Nat.lt_irrefl _)⟩)
  · have hay := hb.addr h0
    subst hay
    obtain ⟨v', w', hr, hown, hgrow⟩ := run_append_arg_grows (P := P) w t ty e i z k bytes hu hi0 hi1 hi2 hi3 hz hk0 ⟨bk, 0, none⟩ 0 0 [] (by simp) (fun j u hj => by simp at hj) ⟨b, o, none⟩ ys.length c (ys.flatMap enc) (flatMap_len hk ys) (sl_cells hk0 hk hb) (by omega) (by unfold maxLen; omega) (by
      have : (0 + ys.length) * bytes ≤ 1000000 * 1000 := Nat.mul_le_mul (by omega) hbytes
      omega)
    have hupd : Ext w w' := ⟨hgrow.os, hgrow.tape, hgrow.output, hgrow.size, fun q hq _ => hgrow.block q hq (by simp)⟩
    obtain ⟨hl2, hown⟩ := hown
    rcases hown with ⟨_, hq⟩ | ⟨g2, cap2, cur, rfl, hbg, hh, hc1, hc2, hc3, hc4⟩
    · omega
    · rw [Nat.zero_add] at hr hc1 hc4
      have hacc : Acc enc k e bk w' (some ⟨g2, 0, none⟩) g2 cap2 ys := by
        refine ⟨?_, .inr ⟨rfl, by omega, cur, hh, hc1, hc2, hc3, by simpa using hc4⟩⟩
        rcases Nat.lt_or_ge g2 w'.heap.size with h | h
        · exact h
        · rw [Array.getElem?_eq_none h] at hh; cases hh
      refine WL.value hg rfl hN (fun a hk' => ?_) (h _ _ _ w' hacc hupd ⟨.inr hbg, fun _ => hbg⟩)
      simp only [execOp, resolve, invoke, builtin]
      simp [hk'.ev hs, hk'.ev hx, hr]
end
end Go.Proofs.YtclinbbghnebaaaGreat
