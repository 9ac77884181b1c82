/- Steps of a proof: contracts of functions, walked. -/
import Derived.Test.YtiahamibfpamgaaPxTab
import Derived.Test.YtiahamibfpamgaaProg
set_option linter.unusedVariables false
set_option linter.unusedSimpArgs false
set_option maxRecDepth 10000
namespace Go.Px.Ext_
def ord6 : Nat → List (Nat × Fl)
  | 5 => [(0, .q), (1, .q), (2, .q), (3, .q), (4, .q), (5, .q), (6, .q), (7, .q), (8, .q), (9, .q), (10, .g), (11, .z), (12, .q)]
  | 6 => [(0, .q), (1, .q), (2, .q), (3, .q), (4, .q), (5, .q), (6, .q), (7, .q), (8, .q), (9, .q), (10, .q), (11, .q), (12, .q), (13, .z), (14, .q), (15, .q), (16, .q), (17, .q), (18, .q), (19, .q), (20, .q), (21, .q), (22, .z), (23, .q), (24, .q), (25, .q), (26, .q), (27, .q), (28, .q), (29, .q), (30, .z), (31, .q), (32, .q), (33, .q), (34, .q), (35, .q), (36, .q), (37, .q), (38, .z), (39, .q), (40, .q), (41, .q), (42, .q), (43, .q), (44, .q), (45, .q), (46, .z), (47, .q), (48, .q), (49, .q), (50, .q), (51, .q), (52, .q), (53, .q), (54, .q), (55, .z), (56, .q), (57, .q)]
  | _ => []
def tab6 : Nat → List Row
  | 5 => [(some 17, 8, [], true), (some 18, 16, [], true), (some 19, 393216, [0, 1], false), (some 20, 524288, [2], false), (some 21, 2, [], true), (some 22, 2097152, [4], false), (some 23, 5242880, [3, 5], false), (some 16, 8388608, [6], true), (some 24, 65536, [7], true), (some 25, 65536, [7], true), (some 5, 0, [], false), (none, 16777248, [10, 8, 6, 0, 1, 2, 3, 4, 5, 6, 7, 8, 10], false), (some 6, 33554432, [9, 11, 0, 1, 2, 3, 4, 5, 6, 7, 8, 9, 10, 11], true)]
  | 6 => [(some 26, 32, [], false), (some 27, 0, [], false), (some 28, 201326592, [0, 1], false), (some 29, 268435456, [2], true), (some 30, 536870976, [3], true), (some 31, 1610612736, [4, 3], false), (some 32, 2684354560, [3, 5], false), (some 33, 4294967296, [6, 3], true), (some 34, 8589934600, [7], true), (some 35, 8589934608, [7], true), (some 36, 60129542144, [8, 9, 7], false), (some 37, 77309411328, [10, 7], false), (some 38, 8589934594, [7], false), (some 39, 420906795008, [11, 12, 7, 7], false), (some 40, 558345748480, [13, 7], false), (some 41, 1108101562368, [7, 14], false), (some 42, 2199023255552, [15, 13], true), (some 43, 4398046511112, [16], true), (some 44, 4398046511120, [16], true), (some 45, 30786325577728, [17, 18, 16], false), (some 46, 39582418599936, [19, 16], false), (some 47, 4398046511106, [16], false), (some 48, 215504279044096, [20, 21, 16, 16], false), (some 49, 285873023221760, [22, 16], false), (some 50, 567347999932416, [16, 23], false), (some 51, 1125899906842624, [24, 22], true), (some 52, 2251799813685256, [25], true), (some 53, 2251799813685264, [25], true), (some 54, 15762598695796736, [26, 27, 25], false), (some 55, 20266198323167232, [28, 25], false), (some 56, 38280596832649216, [29, 25, 25], false), (some 57, 74309393851613184, [30, 25], false), (some 58, 146366987889541120, [25, 31], false), (some 59, 288230376151711744, [32, 30], true), (some 60, 576460752303423496, [33], true), (some 61, 576460752303423504, [33], true), (some 62, 4035225266123964416, [34, 35, 33], false), (some 63, 5188146770730811392, [36, 33], false), (some 64, 9799832789158199296, [37, 33, 33], false), (some 65, 19023204826012975104, [38, 33], false), (some 66, 37469948899722526720, [33, 39], false), (some 67, 73786976294838206464, [40, 38], true), (some 68, 147573952589676412936, [41], true), (some 69, 147573952589676412944, [41], true), (some 70, 1033017668127734890496, [42, 43, 41], false), (some 71, 1328165573307087716352, [44, 41], false), (some 72, 2508757194024499019776, [45, 41, 41], false), (some 73, 4869940435459321626624, [46, 41], false), (some 74, 9592306918328966840320, [47, 41], false), (some 75, 19037039884068257267712, [41, 48], false), (some 76, 37778931862957161709568, [49, 46], true), (some 77, 75557863725914323419144, [50], true), (some 78, 75557863725914323419152, [50], true), (some 79, 528905046081400263933952, [51, 52, 50], false), (some 80, 680020773533228910772224, [53, 50], false), (some 81, 1284483683340543498125312, [54, 50, 50], false), (some 82, 2493409502955172672831488, [55, 50], false), (some 83, 4911261142184431022243840, [50, 56], false)]
  | _ => []
def ord11 : Nat → List (Nat × Fl)
  | 6 => [(0, .q), (1, .q), (2, .q), (3, .q), (4, .q), (5, .q), (6, .q), (7, .q), (8, .q), (9, .q), (10, .g), (11, .z)]
  | _ => []
def tab11 : Nat → List Row
  | 6 => [(some 25, 1, [], true), (some 26, 33554432, [0], true), (some 27, 67108864, [1], true), (some 28, 134217728, [2], false), (some 29, 64, [], true), (some 30, 805306368, [3, 4], false), (some 31, 1073741824, [5], true), (some 32, 2147483648, [6], false), (some 33, 8, [], false), (some 34, 12884901888, [7, 8], false), (some 7, 0, [], false), (none, 17179869312, [10, 9, 0, 1, 2, 3, 4, 5, 6, 7, 8, 9, 10], false)]
  | _ => []
def ord12 : Nat → List (Nat × Fl)
  | 8 => [(0, .q), (1, .q), (3, .q), (2, .g), (4, .q), (5, .z), (6, .q)]
  | _ => []
def tab12 : Nat → List Row
  | 8 => [(some 30, 1, [], true), (some 31, 256, [], false), (some 32, 3221225472, [0, 1], false), (some 33, 256, [], false), (some 4, 4294967296, [2, 2, 0, 1, 2], true), (none, 8589934624, [3, 4, 0, 1, 2, 3, 4], false), (some 6, 0, [5, 0, 1, 2, 3, 4, 5], true)]
  | _ => []
def ord13 : Nat → List (Nat × Fl)
  | 9 => [(0, .q), (1, .q), (2, .q), (3, .q), (4, .q), (5, .q), (6, .q), (7, .q), (8, .q), (9, .q), (10, .q), (12, .q), (13, .q), (11, .g), (14, .q), (15, .q)]
  | 11 => [(0, .q), (1, .q), (2, .q), (3, .q), (4, .q), (5, .q), (6, .q), (7, .q), (8, .q), (9, .q), (10, .q), (11, .q), (12, .q), (13, .q), (14, .q), (15, .q), (16, .q), (17, .q), (18, .q), (19, .q), (20, .z)]
  | 12 => [(0, .q), (1, .q), (2, .q), (3, .q), (4, .q), (5, .q), (6, .q), (7, .q), (8, .q), (10, .q), (11, .q), (12, .q), (13, .q), (14, .q), (15, .q), (16, .q), (17, .q), (9, .g), (18, .q), (19, .q)]
  | 14 => [(0, .q), (1, .q), (2, .q), (3, .q), (4, .q), (5, .q), (6, .q), (7, .q), (8, .q), (9, .q), (10, .q), (11, .q), (12, .z)]
  | 15 => [(0, .q), (1, .q), (2, .q), (3, .q), (4, .q), (5, .q), (6, .q), (7, .q), (8, .g), (9, .z), (10, .q), (11, .q), (12, .z)]
  | _ => []
def tab13 : Nat → List Row
  | 9 => [(some 33, 32, [], true), (some 34, 8589934592, [0], false), (some 35, 17179869184, [1], true), (some 36, 34359738369, [2], true), (some 37, 103079215104, [3, 2], true), (some 38, 171798691840, [4, 2], true), (some 39, 309237645312, [5, 2], false), (some 40, 34359738400, [2], true), (some 41, 1133871366144, [7, 2], false), (some 42, 2783138807808, [6, 8, 2], false), (some 43, 4432406249472, [9, 2], false), (some 44, 8830452760576, [10, 2, 2], false), (some 45, 34359738376, [2], true), (some 46, 35218731827200, [12, 2], false), (some 47, 87995289960448, [11, 13, 2], false), (some 48, 140771848093696, [2, 14], false)]
  | 11 => [(some 51, 1, [], true), (some 52, 2251799813685248, [0], true), (some 53, 4503599627370496, [1], true), (some 54, 9007199254740992, [2], false), (some 55, 64, [], true), (some 56, 54043195528445952, [3, 4], false), (some 57, 72057594037927936, [5], true), (some 58, 144115188075855872, [6], false), (some 59, 1, [], true), (some 60, 576460752303423488, [8], true), (some 61, 1152921504606846976, [9], true), (some 62, 2305843009213693952, [10], false), (some 63, 64, [], true), (some 64, 13835058055282163712, [11, 12], false), (some 65, 18446744073709551616, [13], true), (some 66, 36893488147419103232, [14], false), (some 67, 8, [], true), (some 68, 147573952589676412928, [16], false), (some 69, 368934881474191032320, [15, 17], false), (some 70, 590584040734857363456, [7, 18], false), (none, 1180591620717411303432, [19, 0, 1, 2, 3, 4, 5, 6, 7, 8, 9, 10, 11, 12, 13, 14, 15, 16, 17, 18, 19], false)]
  | 12 => [(some 71, 32, [], true), (some 72, 1, [], true), (some 73, 4722366482869645213696, [1], true), (some 74, 9444732965739290427392, [2], true), (some 75, 18889465931478580854784, [3], false), (some 76, 37778931862957161709568, [4], false), (some 77, 77919046967349146025984, [0, 5], false), (some 78, 151115727451828646838272, [6], true), (some 79, 302231454903657293676552, [7], false), (some 80, 906694364710971881029632, [8, 7, 7], false), (some 81, 302231454903657293676545, [7], true), (some 82, 2720083094132915643088896, [10, 7], true), (some 83, 5137934733362173992501248, [11, 7], true), (some 84, 9973638011820690691325952, [12, 7], false), (some 85, 302231454903657293676576, [7], true), (some 86, 58330670796405857679572992, [13, 14, 7], false), (some 87, 77673483910239924474871808, [15, 7], true), (some 88, 155044736365576191656067072, [16, 7], false), (some 89, 310996167095863355193163776, [9, 17, 7], false), (some 90, 619272251097593794743238656, [7, 18], false)]
  | 14 => [(some 93, 8, [], true), (some 94, 9903520314283042199192993792, [0], false), (some 95, 1, [], true), (some 96, 39614081257132168796771975168, [2], true), (some 97, 79228162514264337593543950336, [3], true), (some 98, 158456325028528675187087900672, [4], false), (some 99, 32, [], true), (some 100, 950737950171172051122527404032, [5, 6], false), (some 101, 1267650600228229401496703205376, [7], true), (some 102, 2535301200456458802993406410752, [8], false), (some 103, 5090409441541483690385198809088, [1, 9], false), (some 104, 8, [0, 1, 2, 3, 4, 5, 6, 7, 8, 9, 10], true), (none, 30423614405477505635920876929024, [11, 10, 0, 1, 2, 3, 4, 5, 6, 7, 8, 9, 10], false)]
  | 15 => [(some 105, 1, [], true), (some 106, 1, [], true), (some 107, 81129638414606681695789005144064, [1], true), (some 108, 162259276829213363391578010288128, [2], true), (some 109, 324518553658426726783156020576256, [3], false), (some 110, 64, [], true), (some 111, 128, [], true), (some 112, 8, [], false), (some 113, 5192296858534827628530496329220096, [7], false), (some 114, 14927853468287629432025176946507776, [4, 5, 6, 8], false), (some 115, 40564819207303340847894502572032, [0, 0, 1, 2, 3, 4, 5, 6, 7, 8, 9], true), (some 116, 41538374868278621028243970633760768, [10, 0, 1, 2, 3, 4, 5, 6, 7, 8, 9], true), (none, 103845937170696552570609926584401920, [11, 9, 9, 0, 1, 2, 3, 4, 5, 6, 7, 8, 9], false)]
  | _ => []
def ord19 : Nat → List (Nat × Fl)
  | 3 => [(0, .q), (1, .q), (2, .q), (3, .q), (4, .q), (5, .q), (6, .q), (7, .q), (8, .g), (9, .q), (10, .z), (11, .q)]
  | _ => []
def tab19 : Nat → List Row
  | 3 => [(some 6, 1, [], true), (some 7, 64, [0], true), (some 8, 128, [1], true), (some 9, 256, [2], false), (some 10, 1, [], true), (some 11, 1024, [4], true), (some 12, 2048, [5], true), (some 13, 4096, [6], false), (some 14, 8192, [7], false), (some 15, 16896, [3, 8], false), (some 16, 32768, [9], false), (some 2, 65536, [10, 8, 0, 1, 2, 3, 4, 5, 6, 7, 8, 9, 10], true)]
  | _ => []
def ord20 : Nat → List (Nat × Fl)
  | 6 => [(0, .q), (1, .q), (2, .q), (3, .q), (4, .q), (5, .q), (6, .q), (7, .q), (8, .q)]
  | _ => []
def tab20 : Nat → List Row
  | 6 => [(some 17, 1, [], true), (some 18, 32, [], true), (some 19, 393216, [0, 1], false), (some 20, 524288, [2], false), (some 21, 2, [], true), (some 22, 32, [], true), (some 23, 6291456, [4, 5], false), (some 24, 8388608, [6], false), (some 25, 17825792, [3, 7], false)]
  | _ => []
def ord26 : Nat → List (Nat × Fl)
  | 5 => [(0, .q), (2, .q), (1, .g), (3, .z), (4, .q)]
  | 6 => [(0, .q), (1, .q), (3, .q), (5, .q), (2, .g), (4, .g), (6, .z), (7, .q), (8, .q), (9, .z), (10, .z), (11, .q)]
  | _ => []
def tab26 : Nat → List Row
  | 5 => [(some 31, 32, [], false), (some 32, 2147483648, [0], false), (some 33, 64, [], false), (some 34, 8589934592, [2, 1], false), (some 35, 21474836480, [1, 3], false)]
  | 6 => [(some 36, 128, [], true), (some 37, 32, [], false), (some 38, 137438953472, [1], false), (some 39, 64, [], false), (some 40, 549755813888, [3, 2], false), (some 41, 32, [], false), (some 42, 2199023255552, [5, 4], false), (some 43, 5497558138880, [4, 6], false), (some 44, 9070970929152, [2, 7], false), (some 45, 17592186044416, [8], false), (some 46, 35253091565568, [0, 9, 6], false), (some 7, 70368744177664, [10, 10, 0, 1, 2, 3, 4, 5, 6, 7, 8, 9, 10], true)]
  | _ => []
def ord30 : Nat → List (Nat × Fl)
  | 1 => [(0, .q), (1, .z), (2, .q), (3, .q), (4, .q), (5, .q), (6, .q), (7, .q), (8, .q), (9, .q), (10, .q), (11, .q), (12, .q), (13, .q), (14, .q), (15, .q), (16, .q), (17, .q), (18, .q), (19, .q), (20, .q), (21, .q), (22, .q), (23, .q), (24, .q), (25, .q), (26, .q), (27, .q), (28, .q), (29, .q), (30, .q), (31, .q), (32, .q), (33, .q)]
  | _ => []
def tab30 : Nat → List Row
  | 1 => [(some 5, 1, [], true), (some 6, 32, [0], false), (some 7, 64, [1, 1], true), (some 8, 136, [2], true), (some 9, 384, [3, 2], false), (some 10, 640, [4, 2], false), (some 11, 1152, [2, 5], false), (some 12, 2048, [6, 2], true), (some 13, 4104, [7], true), (some 14, 12288, [8, 7], false), (some 15, 20480, [9, 7], false), (some 16, 36864, [7, 10], false), (some 17, 65536, [11, 7], true), (some 18, 131080, [12], true), (some 19, 393216, [13, 12], false), (some 20, 131073, [12], true), (some 21, 1179648, [15, 12], true), (some 22, 2228224, [16, 12], true), (some 23, 4325376, [17, 12], false), (some 24, 9043968, [14, 18, 12], false), (some 25, 16908288, [12, 19], false), (some 26, 33554432, [20, 12], true), (some 27, 67108872, [21], true), (some 28, 201326592, [22, 21], false), (some 29, 67108865, [21], true), (some 30, 603979776, [24, 21], true), (some 31, 1140850688, [25, 21], true), (some 32, 2214592512, [26, 21], false), (some 33, 67108872, [21], true), (some 34, 8657043456, [28, 21], false), (some 35, 21541945344, [27, 29, 21], false), (some 36, 34695282688, [23, 30, 21], false), (some 37, 68786585600, [21, 31], false), (some 4, 137438953472, [32, 21, 0, 1, 2, 3, 4, 5, 6, 7, 8, 9, 10, 11, 12, 13, 14, 15, 16, 17, 18, 19, 20, 21, 22, 23, 24, 25, 26, 27, 28, 29, 30, 31, 32], true)]
  | _ => []
def ord32 : Nat → List (Nat × Fl)
  | 1 => [(0, .q), (1, .q), (2, .q), (3, .g), (4, .q), (5, .q), (6, .q), (7, .q), (8, .q), (9, .g), (10, .q), (11, .q), (12, .q)]
  | _ => []
def tab32 : Nat → List Row
  | 1 => [(some 4, 4, [], true), (some 5, 16, [0], false), (some 6, 2, [], false), (some 7, 64, [2], false), (some 8, 160, [1, 3], false), (some 9, 256, [4, 3], true), (some 10, 514, [5], true), (some 11, 1536, [6, 5], false), (some 12, 516, [5], false), (some 13, 4608, [8, 5, 5], false), (some 14, 10752, [7, 9, 5], false), (some 15, 16896, [5, 10], false), (some 3, 32768, [11, 9, 0, 1, 2, 3, 4, 5, 6, 7, 8, 9, 10, 11], true)]
  | _ => []
def ord35 : Nat → List (Nat × Fl)
  | 9 => [(0, .q), (1, .q), (2, .q), (3, .q), (4, .q), (5, .q), (6, .q), (7, .q), (8, .q), (9, .q), (10, .q), (11, .q), (12, .q)]
  | 13 => [(0, .q), (1, .q), (2, .q), (3, .q), (4, .q), (5, .q), (6, .q), (7, .q), (8, .q), (9, .z)]
  | 18 => [(0, .q), (1, .q), (2, .q), (3, .q), (4, .q), (5, .q), (6, .q), (7, .q), (8, .q), (9, .z)]
  | 22 => [(0, .q), (1, .q), (2, .q), (3, .q), (4, .q), (5, .q), (6, .q), (7, .q), (8, .q), (9, .z)]
  | 27 => [(0, .q), (1, .q), (2, .q), (3, .q), (4, .q), (5, .q), (6, .q), (7, .z)]
  | 28 => [(0, .q), (1, .q), (2, .q), (3, .q), (4, .q), (5, .q), (6, .q), (7, .z)]
  | 32 => [(0, .q), (1, .q), (2, .q), (3, .q), (4, .q), (5, .q), (6, .q), (7, .z)]
  | 33 => [(0, .q), (1, .q), (2, .q), (3, .q), (4, .q), (5, .q), (6, .q), (7, .z)]
  | 38 => [(0, .q), (1, .q), (2, .q), (3, .q), (4, .q), (5, .q), (6, .q), (7, .q), (8, .q), (9, .q), (10, .q), (11, .z)]
  | _ => []
def tab35 : Nat → List Row
  | 9 => [(some 45, 1, [], true), (some 46, 2, [], true), (some 47, 105553116266496, [0, 1], false), (some 48, 140737488355328, [2], false), (some 49, 8, [], true), (some 50, 562949953421312, [4], false), (some 51, 1407374883553280, [3, 5], false), (some 52, 1, [], true), (some 53, 4, [], true), (some 54, 13510798882111488, [7, 8], false), (some 55, 18014398509481984, [9], false), (some 56, 38280596832649216, [6, 10], false), (some 10, 72057594037927936, [11, 0, 1, 2, 3, 4, 5, 6, 7, 8, 9, 10, 11], true)]
  | 13 => [(some 73, 2048, [], true), (some 74, 2, [], true), (some 75, 8, [], true), (some 76, 37778931862957161709568, [2], false), (some 77, 94447329657392904273920, [1, 3], false), (some 78, 160560460417567937265664, [0, 4], false), (some 79, 1, [], true), (some 80, 4, [], true), (some 81, 1813388729421943762059264, [6, 7], false), (some 82, 2720083094132915643088896, [5, 8], false)]
  | 18 => [(some 98, 4096, [], true), (some 99, 2, [], true), (some 100, 8, [], true), (some 101, 1267650600228229401496703205376, [2], false), (some 102, 3169126500570573503741758013440, [1, 3], false), (some 103, 5387515050969974956360988622848, [0, 4], false), (some 104, 1, [], true), (some 105, 4, [], true), (some 106, 60847228810955011271841753858048, [6, 7], false), (some 107, 91270843216432516907762630787072, [5, 8], false)]
  | 22 => [(some 121, 4096, [], true), (some 122, 2, [], true), (some 123, 8, [], true), (some 124, 10633823966279326983230456482242756608, [2], false), (some 125, 26584559915698317458076141205606891520, [1, 3], false), (some 126, 45193751856687139678729440049531715584, [0, 4], false), (some 127, 1, [], true), (some 128, 4, [], true), (some 129, 510423550381407695195061911147652317184, [6, 7], false), (some 130, 765635325572111542792592866721478475776, [5, 8], false)]
  | 27 => [(some 150, 4096, [], true), (some 151, 2, [], true), (some 152, 4, [], true), (some 153, 9990733848941719167408001786146465954679226368, [0, 1, 2], false), (some 154, 8, [], true), (some 155, 8192, [], true), (some 156, 68507889249886074290797726533575766546371837952, [4, 5], false), (some 157, 102761833874829111436196589800363649819557756928, [3, 6], false)]
  | 28 => [(some 158, 4096, [], true), (some 159, 1, [], true), (some 160, 730750818665451459101842416358141509827966271488, [1], false), (some 161, 1826877046663628647754606040895353774569915678720, [0, 2], false), (some 162, 8, [], true), (some 163, 8192, [], true), (some 164, 17538019647970835018444217992595396235871190515712, [4, 5], false), (some 165, 26307029471956252527666326988893094353806785773568, [3, 6], false)]
  | 32 => [(some 179, 4096, [], true), (some 180, 1, [], true), (some 181, 1532495540865888858358347027150309183618739122183602176, [1], false), (some 182, 3831238852164722145895867567875772959046847805459005440, [0, 2], false), (some 183, 8, [], true), (some 184, 8192, [], true), (some 185, 36779892980781332600600328651607420406849738932406452224, [4, 5], false), (some 186, 55169839471171998900900492977411130610274608398609678336, [3, 6], false)]
  | 33 => [(some 187, 4096, [], true), (some 188, 2, [], true), (some 189, 4, [], true), (some 190, 1373116004615836417089078936326677028522390253476507549696, [0, 1, 2], false), (some 191, 8, [], true), (some 192, 8192, [], true), (some 193, 9415652603080021145753684134811499624153533166696051769344, [4, 5], false), (some 194, 14123478904620031718630526202217249436230299750044077654016, [3, 6], false)]
  | 38 => [(some 211, 4096, [], true), (some 212, 2, [], true), (some 213, 8, [], true), (some 214, 13164036458569648337239753460458804039861886925068638906788872192, [2], false), (some 215, 32910091146424120843099383651147010099654717312671597266972180480, [1, 3], false), (some 216, 55947154948921005433268952206949917169413019431541715353852706816, [0, 4], false), (some 217, 4096, [], true), (some 218, 2, [], true), (some 219, 16384, [], true), (some 220, 1263747500022686240375016332204045187826741144806589335051731730432, [7, 8], false), (some 221, 1895621250034029360562524498306067781740111717209884002577597595648, [6, 9], false), (some 222, 3475305625062387161031294913561124266523538148218120671392262258688, [5, 10], false)]
  | _ => []
def ord36 : Nat → List (Nat × Fl)
  | 1 => [(0, .q), (1, .q), (2, .q), (3, .q), (4, .q), (5, .q), (6, .q), (8, .q), (7, .g), (9, .z), (10, .q), (11, .q), (12, .q)]
  | _ => []
def tab36 : Nat → List Row
  | 1 => [(some 4, 4, [], true), (some 5, 16, [0], false), (some 6, 2, [], true), (some 7, 64, [2], false), (some 8, 160, [1, 3], false), (some 9, 256, [4], true), (some 10, 514, [5], false), (some 11, 1536, [6, 5, 5], false), (some 12, 516, [5], false), (some 13, 4608, [8, 7, 5], false), (some 14, 10752, [7, 9, 5], false), (some 15, 16896, [5, 10], false), (some 3, 32768, [11, 9, 0, 1, 2, 3, 4, 5, 6, 7, 8, 9, 10, 11], true)]
  | _ => []
def ord41 : Nat → List (Nat × Fl)
  | 11 => [(0, .q), (1, .q), (2, .q), (3, .q), (4, .q), (5, .q), (6, .q), (7, .q), (8, .z)]
  | 15 => [(0, .q), (1, .q), (2, .q), (3, .q), (4, .q), (5, .q), (6, .q), (7, .q), (8, .z)]
  | _ => []
def tab41 : Nat → List Row
  | 11 => [(some 46, 512, [], true), (some 47, 2, [], true), (some 48, 128, [], true), (some 49, 422212465065984, [1, 2], false), (some 50, 633318697598976, [0, 3], false), (some 51, 1, [], true), (some 52, 2, [], true), (some 53, 6755399441055744, [5, 6], false), (some 54, 10133099161583616, [4, 7], false)]
  | 15 => [(some 69, 1, [], true), (some 70, 2, [], true), (some 71, 128, [], true), (some 72, 3541774862152233910272, [1, 2], false), (some 73, 5312662293228350865408, [0, 3], false), (some 74, 1, [], true), (some 75, 2, [], true), (some 76, 56668397794435742564352, [5, 6], false), (some 77, 85002596691653613846528, [4, 7], false)]
  | _ => []

open Go.Proofs Go.Px
structure Ex where
  first : Int
  count : Int
  deriving DecidableEq, Inhabited
instance : Enc Ex := ⟨2, fun x => [.int .i64 x.first, .int .i64 x.count], fun _ => rfl, fun _ _ hv => by simp at hv; rcases hv with rfl | rfl <;> rfl, by decide⟩
abbrev exV (x : Ex) : Value := .agg #[.int .i64 x.first, .int .i64 x.count]
def ENT (g : Nat) : Prop := Enters Try.prog g

theorem end_c (h : Heap) (x y : Int) (hb : -9223372036854775808 ≤ x + y ∧ x + y ≤ 9223372036854775807) : FQ Try.prog 33 [.agg #[.int .i64 x, .int .i64 y]] h (.int .i64 (x + y)) := by
  refine FQ.of_EW (fun a w => Try.call33 a w) Try.func33 rfl rfl fun s h1 hX => ?_
  have hF := (Know.nil h1).since hX
  focus
    refine EW.seq ?_
    refine EW.sreg rfl ?_
    refine OX.tagc ?_
    (refine OX.gr rfl rfl (WantE.none rfl) (Gr.boxF rfl rfl ?_); intro b_ h_ hb_ hE hB; have hz_ := hE.1; replace hF := (hF.up hE).blk hB)
    refine OX.tagc ?_
    refine OX.p rfl rfl (WantE.none rfl) ?_
    refine OX.tagn ?_
    refine qT_n ?_
    refine EW.seq ?_
    refine EW.sreg rfl ?_
    refine OX.tagc ?_
    refine OX.p rfl rfl (WantE.none rfl) ?_
    refine OX.tagc ?_
    refine OX.q rfl (WantE.none rfl) (Qy.load1 rfl rfl rfl (Blk.cell hF.out.1 rfl rfl)) ?_
    refine OX.tagc ?_
    refine OX.p rfl rfl (WantE.none rfl) ?_
    refine OX.tagc ?_
    refine OX.q rfl (WantE.none rfl) (Qy.load1 rfl rfl rfl (Blk.cell hF.out.1 rfl rfl)) ?_
    refine OX.tagc ?_
    refine OX.q rfl (WantE.none rfl) (Qy.addi rfl rfl rfl (by omega)) ?_
    refine OX.tagc ?_
    refine OX.p rfl rfl (WantE.none rfl) ?_
    refine OX.tagn ?_
    refine qT_n ?_
    refine EW.ret ?_
    refine rQ_ret ?_
    refine Rets.one rfl ?_
    rotate_left
  exact ⟨rfl, hF.out.2.1⟩

theorem indexFunc_c (h : Heap) (A : Option Addr) (c : Nat) (xs : List Ex) (hr : Rd h A xs) (hl : xs.length ≤ 9000000000000000000) (g : Nat) (caps : List Value) (p : Ex → Bool)
    (hp : ∀ h1, Ext h h1 → ∀ x ∈ xs, FQ Try.prog g ([exV x] ++ caps) h1 (.bool (p x))) :
    FQ Try.prog 24 [.slice A xs.length c, .func (.func g) #[] caps.toArray] h (.int .i64 (idxF p xs)) := by
  refine FQ.of_EW (fun a w => Try.call24 a w) Try.func24 rfl rfl fun s h1 hX => ?_
  have hF := ((Know.nil h1).since hX).rd (hr.ext hX)
  focus
    refine EW.seq ?_
    refine EW.sreg rfl ?_
    refine OX.tagc ?_
    refine OX.p rfl rfl (WantE.none rfl) ?_
    refine OX.tagn ?_
    refine qT_n ?_
    refine EW.seq ?_
    refine EW.seq ?_
    refine EW.sreg rfl ?_
    refine OX.tagc ?_
    refine OX.p rfl rfl (WantE.none rfl) ?_
    refine OX.tagc ?_
    refine OX.p rfl rfl (WantE.none rfl) ?_
    refine OX.tagc ?_
    refine OX.p rfl rfl (WantE.none rfl) ?_
    refine OX.tagn ?_
    refine qT_n ?_
    refine EW.block ?_
    rotate_left
  refine EW.loopS (fun i : Nat => [(0, .slice A xs.length c), (1, .func (.func g) #[] caps.toArray), (7, .int .i64 xs.length), (8, .int .i64 i)]) (fun i h' => h' = h1 ∧ i ≤ xs.length ∧ ∀ j : Nat, j < i → p (ix xs j) = false) (fun i => xs.length - i) 0
    ⟨rfl, rfl, rfl, rfl, trivial⟩ ⟨rfl, by omega, fun j hj => by omega⟩ ?_
  rintro i e _ ⟨rfl, hi, hpre⟩
  focus
    refine EW.seq ?_
    refine EW.sreg rfl ?_
    refine OX.tagc ?_
    refine OX.p rfl rfl (WantE.none rfl) ?_
    refine OX.tagn ?_
    refine qT_n ?_
    refine EW.seq ?_
    refine EW.cond rfl ?_ ?_
    intro hb
    have hb' := of_decide_eq_true hb
    refine EW.skip ?_
    refine qT_n ?_
    refine EW.seq ?_
    refine EW.block ?_
    refine EW.seq ?_
    refine EW.sreg rfl ?_
    refine OX.tagc ?_
    refine OX.p rfl rfl (WantE.none rfl) ?_
    refine OX.tagc ?_
    refine OX.p rfl rfl (WantE.none rfl) ?_
    refine OX.tagn ?_
    refine qT_n ?_
    refine EW.seq ?_
    refine EW.sreg rfl ?_
    refine OX.tagc ?_
    refine OX.p rfl rfl (WantE.none rfl) ?_
    refine OX.tagc ?_
    refine OX.p rfl rfl (WantE.none rfl) ?_
    refine OX.tagc ?_
    refine OX.p rfl rfl (WantE.none rfl) ?_
    refine OX.tagc ?_
    refine OX.q rfl (WantE.none rfl) (Qy.indexRd rfl rfl rfl rfl rfl hF.out.1 rfl (by omega)) ?_
    refine OX.tagc ?_
    refine OX.q rfl (WantE.none rfl) (Qy.loadElk rfl rfl rfl rfl hF.out.1 rfl (by omega)) ?_
    refine OX.tagc ?_
    refine OX.q rfl (WantE.none rfl) (Qy.callv rfl rfl (fun h2 hE => hp h2 (hX.trans hE) (ix xs i) (ix_mem (by omega) (by omega)))) ?_
    refine OX.tagn ?_
    refine qT_n ?_
    refine EW.cond rfl ?_ ?_
    intro hb
    refine EW.seq ?_
    refine EW.sreg rfl ?_
    refine OX.tagc ?_
    refine OX.p rfl rfl (WantE.none rfl) ?_
    refine OX.tagc ?_
    refine OX.p rfl rfl (WantE.none rfl) ?_
    refine OX.tagn ?_
    refine qT_n ?_
    refine EW.ret ?_
    refine qB_ret ?_
    refine qT_ret ?_
    refine qT_ret ?_
    refine qB_ret ?_
    refine qT_ret ?_
    refine rQ_ret ?_
    refine Rets.one rfl ?_
    rotate_left
    intro hb
    refine EW.skip ?_
    refine qB_n ?_
    refine qT_n ?_
    refine EW.sreg rfl ?_
    refine OX.tagc ?_
    refine OX.q rfl (WantE.none rfl) (Qy.addi rfl rfl rfl (by omega)) ?_
    refine OX.tagc ?_
    refine OX.p rfl rfl (WantE.none rfl) ?_
    refine OX.tagn ?_
    refine qT_n ?_
    rotate_left
    intro hb
    have hb' := of_decide_eq_false hb
    refine EW.exit ?_
    refine qT_exit ?_
    refine qT_exit ?_
    refine qB_hit ?_
    refine qT_n ?_
    refine EW.seq ?_
    refine EW.sreg rfl ?_
    refine OX.tagc ?_
    refine OX.p rfl rfl (WantE.none rfl) ?_
    refine OX.tagn ?_
    refine qT_n ?_
    refine EW.ret ?_
    refine rQ_ret ?_
    refine Rets.one rfl ?_
    rotate_left
  · exact ⟨congrArg (Value.int .i64) (idxF_hit (by omega) hb hpre).symm, hF.out.2.1⟩
  · exact ⟨i + 1, ⟨rfl, rfl, rfl, rfl, trivial⟩, ⟨rfl, by omega, fun j hj => by
      rcases Nat.lt_or_eq_of_le (Nat.le_of_lt_succ hj) with h | rfl
      · exact hpre j h
      · exact hb⟩, by omega⟩
  · exact ⟨congrArg (Value.int .i64) (idxF_miss (p := p) (xs := xs) fun j hj => hpre j (by omega)).symm, hF.out.2.1⟩
theorem containsFunc_c (h : Heap) (A : Option Addr) (c : Nat) (xs : List Ex) (hr : Rd h A xs) (hl : xs.length ≤ 9000000000000000000) (g : Nat) (caps : List Value) (p : Ex → Bool)
    (hp : ∀ h1, Ext h h1 → ∀ x ∈ xs, FQ Try.prog g ([exV x] ++ caps) h1 (.bool (p x))) :
    FQ Try.prog 31 [.slice A xs.length c, .func (.func g) #[] caps.toArray] h (.bool (xs.any p)) := by
  refine FQ.of_EW (fun a w => Try.call31 a w) Try.func31 rfl rfl fun s h1 hX => ?_
  have hF := ((Know.nil h1).since hX).rd (hr.ext hX)
  focus
    refine EW.seq ?_
    refine EW.sreg rfl ?_
    refine OX.tagc ?_
    refine OX.p rfl rfl (WantE.none rfl) ?_
    refine OX.tagn ?_
    refine qT_n ?_
    refine EW.seq ?_
    refine EW.sreg rfl ?_
    refine OX.tagc ?_
    refine OX.p rfl rfl (WantE.none rfl) ?_
    refine OX.tagc ?_
    refine OX.p rfl rfl (WantE.none rfl) ?_
    refine OX.tagc ?_
    refine OX.q rfl (by first | exact WantE.none rfl | exact WantE.yes rfl rfl rfl (by first | assumption | rfl | exact decide_eq_true rfl)) (Qy.call rfl rfl (fun h1 hE => indexFunc_c _ A c xs (hr.ext (hX.trans hE)) hl g caps p (fun h2 hE2 => hp h2 ((hX.trans hE).trans hE2)))) ?_
    refine OX.tagc ?_
    refine OX.p rfl rfl (WantE.none rfl) ?_
    refine OX.tagc ?_
    refine OX.p rfl rfl (WantE.none rfl) ?_
    refine OX.tagn ?_
    refine qT_n ?_
    refine EW.ret ?_
    refine rQ_ret ?_
    refine Rets.one rfl ?_
    rotate_left
  exact ⟨by rw [← idxF_nonneg]; rfl, hF.out.2.1⟩
/-- a map of blocks in memory -/
def IsMap (h : Heap) (base b : Nat) (n : Int) (A : Option Addr) (c : Nat) (holes : List Ex) : Prop :=
  Blk h b 52 #[.int .i64 n, .slice A holes.length c] ∧ Own h base 35 A c holes ∧ b ∉ blk A ∧ base ≤ b
theorem IsMap.ext {h h' : Heap} {base b : Nat} {n : Int} {A : Option Addr} {c : Nat} {holes : List Ex} (k : IsMap h base b n A c holes) (x : Ext h h') : IsMap h' base b n A c holes :=
  ⟨k.1.ext x, k.2.1.ext x, k.2.2⟩
theorem given_nil (h : Heap) : FQ Try.prog 23 [.pointer none] h (.bool false) := by
  refine FQ.of_EW (fun a w => Try.call23 a w) Try.func23 rfl rfl fun s h1 hX => ?_
  have hF := (Know.nil h1).since hX
  focus
    refine EW.seq ?_
    refine EW.sreg rfl ?_
    refine OX.tagc ?_
    refine OX.p rfl rfl (WantE.none rfl) ?_
    refine OX.tagn ?_
    refine qT_n ?_
    refine EW.seq ?_
    refine EW.sreg rfl ?_
    refine OX.tagc ?_
    refine OX.p rfl rfl (WantE.none rfl) ?_
    refine OX.tagc ?_
    refine OX.p rfl rfl (WantE.none rfl) ?_
    refine OX.tagc ?_
    refine OX.p rfl rfl (WantE.none rfl) ?_
    refine OX.tagc ?_
    refine OX.sk rfl (WantE.no rfl rfl rfl rfl) ?_
    refine OX.tagc ?_
    refine OX.sk rfl (WantE.no rfl rfl rfl rfl) ?_
    refine OX.tagc ?_
    refine OX.sk rfl (WantE.no rfl rfl rfl rfl) ?_
    refine OX.tagc ?_
    refine OX.sk rfl (WantE.no rfl rfl rfl rfl) ?_
    refine OX.tagc ?_
    refine OX.sk rfl (WantE.no rfl rfl rfl rfl) ?_
    refine OX.tagc ?_
    refine OX.q rfl (WantE.none rfl) (Qy.pick_fb rfl rfl rfl rfl) ?_
    refine OX.tagc ?_
    refine OX.p rfl rfl (WantE.none rfl) ?_
    refine OX.tagn ?_
    refine qT_n ?_
    refine EW.ret ?_
    refine rQ_ret ?_
    refine Rets.one rfl ?_
    rotate_left
  exact ⟨rfl, hF.out.1⟩
theorem given_c (h : Heap) (b : Nat) (n : Int) (v : Value) (hb : Blk h b 52 #[.int .i64 n, v]) : FQ Try.prog 23 [.pointer (some ⟨b, 0, none⟩)] h (.bool (decide (0 < n))) := by
  refine FQ.of_EW (fun a w => Try.call23 a w) Try.func23 rfl rfl fun s h1 hX => ?_
  have hF := ((Know.nil h1).since hX).blk (hb.ext hX)
  focus
    refine EW.seq ?_
    refine EW.sreg rfl ?_
    refine OX.tagc ?_
    refine OX.p rfl rfl (WantE.none rfl) ?_
    refine OX.tagn ?_
    refine qT_n ?_
    refine EW.seq ?_
    refine EW.sreg rfl ?_
    refine OX.tagc ?_
    refine OX.p rfl rfl (WantE.none rfl) ?_
    refine OX.tagc ?_
    refine OX.p rfl rfl (WantE.none rfl) ?_
    refine OX.tagc ?_
    refine OX.p rfl rfl (WantE.none rfl) ?_
    refine OX.tagc ?_
    refine OX.p rfl rfl (WantE.yes rfl rfl rfl rfl) ?_
    refine OX.tagc ?_
    refine OX.p rfl rfl (WantE.yes rfl rfl rfl rfl) ?_
    refine OX.tagc ?_
    refine OX.p rfl rfl (WantE.yes rfl rfl rfl rfl) ?_
    refine OX.tagc ?_
    refine OX.q rfl (WantE.yes rfl rfl rfl rfl) (Qy.load1 rfl rfl rfl (Blk.cell hF.out.1 rfl rfl)) ?_
    refine OX.tagc ?_
    refine OX.p rfl rfl (WantE.yes rfl rfl rfl rfl) ?_
    refine OX.tagc ?_
    refine OX.q rfl (WantE.none rfl) (Qy.pick_tb rfl rfl rfl rfl) ?_
    refine OX.tagc ?_
    refine OX.p rfl rfl (WantE.none rfl) ?_
    refine OX.tagn ?_
    refine qT_n ?_
    refine EW.ret ?_
    refine rQ_ret ?_
    refine Rets.one rfl ?_
    rotate_left
  exact ⟨rfl, hF.out.2.1⟩
def mayB (n : Int) (x : Ex) : Bool := decide (1 ≤ x.count ∧ 0 ≤ x.first ∧ x.first < n ∧ x.count ≤ n - x.first)
theorem may_nil (h : Heap) (x : Ex) : FQ Try.prog 30 [.pointer none, exV x] h (.bool false) := by
  refine FQ.of_EW (fun a w => Try.call30 a w) Try.func30 rfl rfl fun s h1 hX => ?_
  have hF := (Know.nil h1).since hX
  focus
    refine EW.seq ?_
    refine EW.sreg rfl ?_
    refine OX.tagc ?_
    (refine OX.gr rfl rfl (WantE.none rfl) (Gr.boxF rfl rfl ?_); intro b_ h_ hb_ hE hB; have hz_ := hE.1; replace hF := (hF.up hE).blk hB)
    refine OX.tagc ?_
    refine OX.p rfl rfl (WantE.none rfl) ?_
    refine OX.tagn ?_
    refine qT_n ?_
    refine EW.seq ?_
    (refine EW.drawT ord30 tab30 rfl (by kernel_rfl) (by kernel_rfl) (by kernel_rfl) ?_)
    refine OX.p rfl rfl (WantE.none rfl) ?_
    refine OX.q rfl (by first | exact WantE.none rfl | exact WantE.yes rfl rfl rfl (by first | assumption | rfl | exact decide_eq_true rfl)) (Qy.call rfl rfl (fun h1 hE => given_nil _)) ?_
    refine OX.p rfl rfl (WantE.none rfl) ?_
    refine OX.sk rfl (WantE.no rfl rfl rfl rfl) ?_
    refine OX.sk rfl (WantE.no rfl rfl rfl rfl) ?_
    refine OX.sk rfl (WantE.no rfl rfl rfl rfl) ?_
    refine OX.q rfl (WantE.none rfl) (Qy.pick_fb rfl rfl rfl rfl) ?_
    refine OX.p rfl rfl (WantE.none rfl) ?_
    refine OX.sk rfl (WantE.no rfl rfl rfl rfl) ?_
    refine OX.sk rfl (WantE.no rfl rfl rfl rfl) ?_
    refine OX.sk rfl (WantE.no rfl rfl rfl rfl) ?_
    refine OX.q rfl (WantE.none rfl) (Qy.pick_fb rfl rfl rfl rfl) ?_
    refine OX.p rfl rfl (WantE.none rfl) ?_
    refine OX.sk rfl (WantE.no rfl rfl rfl rfl) ?_
    refine OX.sk rfl (WantE.no rfl rfl rfl rfl) ?_
    refine OX.sk rfl (WantE.no rfl rfl rfl rfl) ?_
    refine OX.sk rfl (WantE.no rfl rfl rfl rfl) ?_
    refine OX.sk rfl (WantE.no rfl rfl rfl rfl) ?_
    refine OX.sk rfl (WantE.no rfl rfl rfl rfl) ?_
    refine OX.sk rfl (WantE.no rfl rfl rfl rfl) ?_
    refine OX.q rfl (WantE.none rfl) (Qy.pick_fb rfl rfl rfl rfl) ?_
    refine OX.p rfl rfl (WantE.none rfl) ?_
    refine OX.sk rfl (WantE.no rfl rfl rfl rfl) ?_
    refine OX.sk rfl (WantE.no rfl rfl rfl rfl) ?_
    refine OX.sk rfl (WantE.no rfl rfl rfl rfl) ?_
    refine OX.sk rfl (WantE.no rfl rfl rfl rfl) ?_
    refine OX.sk rfl (WantE.no rfl rfl rfl rfl) ?_
    refine OX.sk rfl (WantE.no rfl rfl rfl rfl) ?_
    refine OX.sk rfl (WantE.no rfl rfl rfl rfl) ?_
    refine OX.sk rfl (WantE.no rfl rfl rfl rfl) ?_
    refine OX.sk rfl (WantE.no rfl rfl rfl rfl) ?_
    refine OX.sk rfl (WantE.no rfl rfl rfl rfl) ?_
    refine OX.q rfl (WantE.none rfl) (Qy.pick_fb rfl rfl rfl rfl) ?_
    refine OX.p rfl rfl (WantE.none rfl) ?_
    refine OX.nil ?_
    refine qT_n ?_
    refine EW.ret ?_
    refine rQ_ret ?_
    refine Rets.one rfl ?_
    rotate_left
  exact ⟨rfl, hF.out.2.1⟩
theorem may_c (h : Heap) (b : Nat) (n : Int) (v : Value) (x : Ex) (hb : Blk h b 52 #[.int .i64 n, v]) (hn : 0 ≤ n ∧ n ≤ 1000000) : FQ Try.prog 30 [.pointer (some ⟨b, 0, none⟩), exV x] h (.bool (mayB n x)) := by
  refine FQ.of_EW (fun a w => Try.call30 a w) Try.func30 rfl rfl fun s h1 hX => ?_
  have hF := ((Know.nil h1).since hX).blk (hb.ext hX)
  focus
    refine EW.seq ?_
    refine EW.sreg rfl ?_
    refine OX.tagc ?_
    (refine OX.gr rfl rfl (WantE.none rfl) (Gr.boxF rfl rfl ?_); intro b_ h_ hb_ hE hB; have hz_ := hE.1; replace hF := (hF.up hE).blk hB)
    refine OX.tagc ?_
    refine OX.p rfl rfl (WantE.none rfl) ?_
    refine OX.tagn ?_
    refine qT_n ?_
    refine EW.seq ?_
    (refine EW.drawT ord30 tab30 rfl (by kernel_rfl) (by kernel_rfl) (by kernel_rfl) ?_)
    refine OX.p rfl rfl (WantE.none rfl) ?_
    refine OX.q rfl (by first | exact WantE.none rfl | exact WantE.yes rfl rfl rfl (by first | assumption | rfl | exact decide_eq_true rfl)) (Qy.call rfl rfl (fun h1 hE => given_c _ b n v (hF.out.2.1.ext hE))) ?_
    refine OX.p rfl rfl (WantE.none rfl) ?_
    refine OX.gsplit rfl rfl rfl ?_ ?_
    intro hb
    have hb' := of_decide_eq_true hb
    refine OX.p rfl rfl (WantE.yes rfl rfl rfl (by assumption)) ?_
    refine OX.q rfl (WantE.yes rfl rfl rfl (by assumption)) (Qy.load1 rfl rfl rfl (Blk.cell hF.out.1 rfl rfl)) ?_
    refine OX.p rfl rfl (WantE.yes rfl rfl rfl (by assumption)) ?_
    refine OX.q rfl (WantE.none rfl) (Qy.pick_tb rfl rfl rfl (by assumption)) ?_
    refine OX.p rfl rfl (WantE.none rfl) ?_
    refine OX.gsplit rfl rfl rfl ?_ ?_
    intro hb
    have hb' := of_decide_eq_true hb
    refine OX.p rfl rfl (WantE.yes rfl rfl rfl (by assumption)) ?_
    refine OX.q rfl (WantE.yes rfl rfl rfl (by assumption)) (Qy.load1 rfl rfl rfl (Blk.cell hF.out.1 rfl rfl)) ?_
    refine OX.p rfl rfl (WantE.yes rfl rfl rfl (by assumption)) ?_
    refine OX.q rfl (WantE.none rfl) (Qy.pick_tb rfl rfl rfl (by assumption)) ?_
    refine OX.p rfl rfl (WantE.none rfl) ?_
    refine OX.gsplit rfl rfl rfl ?_ ?_
    intro hb
    have hb' := of_decide_eq_true hb
    refine OX.p rfl rfl (WantE.yes rfl rfl rfl (by assumption)) ?_
    refine OX.q rfl (WantE.yes rfl rfl rfl (by assumption)) (Qy.load1 rfl rfl rfl (Blk.cell hF.out.1 rfl rfl)) ?_
    refine OX.p rfl rfl (WantE.yes rfl rfl rfl (by assumption)) ?_
    refine OX.p rfl rfl (WantE.yes rfl rfl rfl (by assumption)) ?_
    refine OX.p rfl rfl (WantE.yes rfl rfl rfl (by assumption)) ?_
    refine OX.q rfl (WantE.yes rfl rfl rfl (by assumption)) (Qy.load1 rfl rfl rfl (Blk.cell hF.out.2.1 rfl rfl)) ?_
    refine OX.p rfl rfl (WantE.yes rfl rfl rfl (by assumption)) ?_
    refine OX.q rfl (WantE.none rfl) (Qy.pick_tb rfl rfl rfl (by assumption)) ?_
    refine OX.p rfl rfl (WantE.none rfl) ?_
    refine OX.gsplit rfl rfl rfl ?_ ?_
    intro hb
    have hb' := of_decide_eq_true hb
    refine OX.p rfl rfl (WantE.yes rfl rfl rfl (by assumption)) ?_
    refine OX.q rfl (WantE.yes rfl rfl rfl (by assumption)) (Qy.load1 rfl rfl rfl (Blk.cell hF.out.1 rfl rfl)) ?_
    refine OX.p rfl rfl (WantE.yes rfl rfl rfl (by assumption)) ?_
    refine OX.p rfl rfl (WantE.yes rfl rfl rfl (by assumption)) ?_
    refine OX.p rfl rfl (WantE.yes rfl rfl rfl (by assumption)) ?_
    refine OX.q rfl (WantE.yes rfl rfl rfl (by assumption)) (Qy.load1 rfl rfl rfl (Blk.cell hF.out.2.1 rfl rfl)) ?_
    refine OX.p rfl rfl (WantE.yes rfl rfl rfl (by assumption)) ?_
    refine OX.q rfl (WantE.yes rfl rfl rfl (by assumption)) (Qy.load1 rfl rfl rfl (Blk.cell hF.out.1 rfl rfl)) ?_
    refine OX.q rfl (WantE.yes rfl rfl rfl (by assumption)) (Qy.subi rfl rfl rfl (by omega)) ?_
    refine OX.p rfl rfl (WantE.yes rfl rfl rfl (by assumption)) ?_
    refine OX.q rfl (WantE.none rfl) (Qy.pick_tb rfl rfl rfl (by assumption)) ?_
    refine OX.p rfl rfl (WantE.none rfl) ?_
    refine OX.nil ?_
    refine qT_n ?_
    refine EW.ret ?_
    refine rQ_ret ?_
    refine Rets.one rfl ?_
    rotate_left
    intro hb
    have hb' := of_decide_eq_false hb
    refine OX.sk rfl (WantE.no rfl rfl rfl (by assumption)) ?_
    refine OX.sk rfl (WantE.no rfl rfl rfl (by assumption)) ?_
    refine OX.sk rfl (WantE.no rfl rfl rfl (by assumption)) ?_
    refine OX.sk rfl (WantE.no rfl rfl rfl (by assumption)) ?_
    refine OX.sk rfl (WantE.no rfl rfl rfl (by assumption)) ?_
    refine OX.sk rfl (WantE.no rfl rfl rfl (by assumption)) ?_
    refine OX.sk rfl (WantE.no rfl rfl rfl (by assumption)) ?_
    refine OX.sk rfl (WantE.no rfl rfl rfl (by assumption)) ?_
    refine OX.sk rfl (WantE.no rfl rfl rfl (by assumption)) ?_
    refine OX.sk rfl (WantE.no rfl rfl rfl (by assumption)) ?_
    refine OX.q rfl (WantE.none rfl) (Qy.pick_fb rfl rfl rfl (by assumption)) ?_
    refine OX.p rfl rfl (WantE.none rfl) ?_
    refine OX.nil ?_
    refine qT_n ?_
    refine EW.ret ?_
    refine rQ_ret ?_
    refine Rets.one rfl ?_
    rotate_left
    intro hb
    have hb' := of_decide_eq_false hb
    refine OX.sk rfl (WantE.no rfl rfl rfl (by assumption)) ?_
    refine OX.sk rfl (WantE.no rfl rfl rfl (by assumption)) ?_
    refine OX.sk rfl (WantE.no rfl rfl rfl (by assumption)) ?_
    refine OX.sk rfl (WantE.no rfl rfl rfl (by assumption)) ?_
    refine OX.sk rfl (WantE.no rfl rfl rfl (by assumption)) ?_
    refine OX.sk rfl (WantE.no rfl rfl rfl (by assumption)) ?_
    refine OX.sk rfl (WantE.no rfl rfl rfl (by assumption)) ?_
    refine OX.q rfl (WantE.none rfl) (Qy.pick_fb rfl rfl rfl (by assumption)) ?_
    refine OX.p rfl rfl (WantE.none rfl) ?_
    refine OX.sk rfl (WantE.no rfl rfl rfl rfl) ?_
    refine OX.sk rfl (WantE.no rfl rfl rfl rfl) ?_
    refine OX.sk rfl (WantE.no rfl rfl rfl rfl) ?_
    refine OX.sk rfl (WantE.no rfl rfl rfl rfl) ?_
    refine OX.sk rfl (WantE.no rfl rfl rfl rfl) ?_
    refine OX.sk rfl (WantE.no rfl rfl rfl rfl) ?_
    refine OX.sk rfl (WantE.no rfl rfl rfl rfl) ?_
    refine OX.sk rfl (WantE.no rfl rfl rfl rfl) ?_
    refine OX.sk rfl (WantE.no rfl rfl rfl rfl) ?_
    refine OX.sk rfl (WantE.no rfl rfl rfl rfl) ?_
    refine OX.q rfl (WantE.none rfl) (Qy.pick_fb rfl rfl rfl rfl) ?_
    refine OX.p rfl rfl (WantE.none rfl) ?_
    refine OX.nil ?_
    refine qT_n ?_
    refine EW.ret ?_
    refine rQ_ret ?_
    refine Rets.one rfl ?_
    rotate_left
    intro hb
    have hb' := of_decide_eq_false hb
    refine OX.sk rfl (WantE.no rfl rfl rfl (by assumption)) ?_
    refine OX.sk rfl (WantE.no rfl rfl rfl (by assumption)) ?_
    refine OX.sk rfl (WantE.no rfl rfl rfl (by assumption)) ?_
    refine OX.q rfl (WantE.none rfl) (Qy.pick_fb rfl rfl rfl (by assumption)) ?_
    refine OX.p rfl rfl (WantE.none rfl) ?_
    refine OX.sk rfl (WantE.no rfl rfl rfl rfl) ?_
    refine OX.sk rfl (WantE.no rfl rfl rfl rfl) ?_
    refine OX.sk rfl (WantE.no rfl rfl rfl rfl) ?_
    refine OX.sk rfl (WantE.no rfl rfl rfl rfl) ?_
    refine OX.sk rfl (WantE.no rfl rfl rfl rfl) ?_
    refine OX.sk rfl (WantE.no rfl rfl rfl rfl) ?_
    refine OX.sk rfl (WantE.no rfl rfl rfl rfl) ?_
    refine OX.q rfl (WantE.none rfl) (Qy.pick_fb rfl rfl rfl rfl) ?_
    refine OX.p rfl rfl (WantE.none rfl) ?_
    refine OX.sk rfl (WantE.no rfl rfl rfl rfl) ?_
    refine OX.sk rfl (WantE.no rfl rfl rfl rfl) ?_
    refine OX.sk rfl (WantE.no rfl rfl rfl rfl) ?_
    refine OX.sk rfl (WantE.no rfl rfl rfl rfl) ?_
    refine OX.sk rfl (WantE.no rfl rfl rfl rfl) ?_
    refine OX.sk rfl (WantE.no rfl rfl rfl rfl) ?_
    refine OX.sk rfl (WantE.no rfl rfl rfl rfl) ?_
    refine OX.sk rfl (WantE.no rfl rfl rfl rfl) ?_
    refine OX.sk rfl (WantE.no rfl rfl rfl rfl) ?_
    refine OX.sk rfl (WantE.no rfl rfl rfl rfl) ?_
    refine OX.q rfl (WantE.none rfl) (Qy.pick_fb rfl rfl rfl rfl) ?_
    refine OX.p rfl rfl (WantE.none rfl) ?_
    refine OX.nil ?_
    refine qT_n ?_
    refine EW.ret ?_
    refine rQ_ret ?_
    refine Rets.one rfl ?_
    rotate_left
    intro hb
    have hb' := of_decide_eq_false hb
    refine OX.sk rfl (WantE.no rfl rfl rfl (by assumption)) ?_
    refine OX.sk rfl (WantE.no rfl rfl rfl (by assumption)) ?_
    refine OX.sk rfl (WantE.no rfl rfl rfl (by assumption)) ?_
    refine OX.q rfl (WantE.none rfl) (Qy.pick_fb rfl rfl rfl (by assumption)) ?_
    refine OX.p rfl rfl (WantE.none rfl) ?_
    refine OX.sk rfl (WantE.no rfl rfl rfl rfl) ?_
    refine OX.sk rfl (WantE.no rfl rfl rfl rfl) ?_
    refine OX.sk rfl (WantE.no rfl rfl rfl rfl) ?_
    refine OX.q rfl (WantE.none rfl) (Qy.pick_fb rfl rfl rfl rfl) ?_
    refine OX.p rfl rfl (WantE.none rfl) ?_
    refine OX.sk rfl (WantE.no rfl rfl rfl rfl) ?_
    refine OX.sk rfl (WantE.no rfl rfl rfl rfl) ?_
    refine OX.sk rfl (WantE.no rfl rfl rfl rfl) ?_
    refine OX.sk rfl (WantE.no rfl rfl rfl rfl) ?_
    refine OX.sk rfl (WantE.no rfl rfl rfl rfl) ?_
    refine OX.sk rfl (WantE.no rfl rfl rfl rfl) ?_
    refine OX.sk rfl (WantE.no rfl rfl rfl rfl) ?_
    refine OX.q rfl (WantE.none rfl) (Qy.pick_fb rfl rfl rfl rfl) ?_
    refine OX.p rfl rfl (WantE.none rfl) ?_
    refine OX.sk rfl (WantE.no rfl rfl rfl rfl) ?_
    refine OX.sk rfl (WantE.no rfl rfl rfl rfl) ?_
    refine OX.sk rfl (WantE.no rfl rfl rfl rfl) ?_
    refine OX.sk rfl (WantE.no rfl rfl rfl rfl) ?_
    refine OX.sk rfl (WantE.no rfl rfl rfl rfl) ?_
    refine OX.sk rfl (WantE.no rfl rfl rfl rfl) ?_
    refine OX.sk rfl (WantE.no rfl rfl rfl rfl) ?_
    refine OX.sk rfl (WantE.no rfl rfl rfl rfl) ?_
    refine OX.sk rfl (WantE.no rfl rfl rfl rfl) ?_
    refine OX.sk rfl (WantE.no rfl rfl rfl rfl) ?_
    refine OX.q rfl (WantE.none rfl) (Qy.pick_fb rfl rfl rfl rfl) ?_
    refine OX.p rfl rfl (WantE.none rfl) ?_
    refine OX.nil ?_
    refine qT_n ?_
    refine EW.ret ?_
    refine rQ_ret ?_
    refine Rets.one rfl ?_
    rotate_left
  all_goals refine ⟨congrArg Value.bool ?_, hF.out.2.2.1⟩
  all_goals unfold mayB
  all_goals first | exact decide_eq_decide.2 (by omega) | exact (decide_eq_false (by omega)).symm | exact (decide_eq_true (by omega)).symm | rfl
end Go.Px.Ext_
