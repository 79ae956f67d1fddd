/- A part of the proof: see the last text. -/
import Derived.Test.YtcfmjomniaopcaaDoorKR2Ke2
import Derived.Test.YtcfmjomniaopcaaDoorJ3
import Derived.Test.YtcfmjomniaopcaaDoorKEngA2
import Derived.Test.YtcfmjomniaopcaaDoorEngS3
import Derived.Test.YtcfmjomniaopcaaDoorKR2Ka
import Derived.Test.YtcfmjomniaopcaaDoorR2Pl
import Derived.Test.YtcfmjomniaopcaaDoorKR2Pj
import Derived.Test.YtcfmjomniaopcaaDoorR2RefV
set_option linter.unusedSimpArgs false
set_option linter.unusedVariables false
/- The chapter's example has six candidates. -/
namespace Go.Eng
open Go Go.Proofs
set_option maxRecDepth 100000
def x45m : Mem := ⟨[[.slice none 5 [.agg [.str [97, 99, 99, 111, 117, 110, 116], .slice none 6 [.agg [.str [105, 100], .int .i64 1, .int .i64 1, .int .i64 99, .int .i64 0, .bool false], .agg [.str [111, 119, 110, 101, 114], .int .i64 2, .int .i64 0, .int .i64 0, .int .i64 12, .bool false]], .slice none 1 [.slice none 1 [.int .i64 0]], .nil, .nil]], .int .i64 5, .str [], .nil, .nil, .nil, .nil, .nil, .nil, .nil, .slice none 2 [.agg [.str [97, 99, 99, 111, 117, 110, 116], .str [97]], .agg [.str [97, 99, 99, 111, 117, 110, 116], .str [98]]], .int .i64 18, .str [], .str [], .int .i64 0, .int .i64 0, .int .i64 0, .str [], .slice none 8 [.agg [.int .i64 10, .str [], .str [], .int .i64 0, .int .i64 0, .int .i64 0, .str [], .slice none 8 [.agg [.int .i64 2, .str [], .str [99], .int .i64 0, .int .i64 0, .int .i64 0, .str [], .nil], .agg [.int .i64 1, .str [], .str [], .int .i64 0, .int .i64 1, .int .i64 7, .str [], .nil]]], .agg [.int .i64 10, .str [], .str [], .int .i64 0, .int .i64 0, .int .i64 0, .str [], .slice none 8 [.agg [.int .i64 2, .str [], .str [99], .int .i64 3, .int .i64 0, .int .i64 0, .str [], .nil], .agg [.int .i64 2, .str [], .str [99], .int .i64 1, .int .i64 0, .int .i64 0, .str [], .nil]]]], .nil, .nil, .int .i64 0, .str [], .int .i64 0, .slice none 1 [.int .i64 0, .int .i64 0], .slice none 5 [.agg [.int .i64 1, .int .i64 1, .int .i64 99, .int .i64 0, .bool true], .agg [.int .i64 2, .int .i64 0, .int .i64 0, .int .i64 12, .bool true], .agg [.int .i64 1, .int .i64 1, .int .i64 99, .int .i64 0, .bool true], .agg [.int .i64 2, .int .i64 0, .int .i64 0, .int .i64 12, .bool true]], .nil, .slice (some 1) 1 [.int .i64 0, .int .i64 2, .int .i64 4], .slice none 8 [.agg [.int .i64 10, .str [], .str [], .int .i64 0, .int .i64 0, .int .i64 0, .str [], .slice none 8 [.agg [.int .i64 2, .str [], .str [99], .int .i64 0, .int .i64 0, .int .i64 0, .str [], .nil], .agg [.int .i64 1, .str [], .str [], .int .i64 0, .int .i64 1, .int .i64 7, .str [], .nil]]], .agg [.int .i64 10, .str [], .str [], .int .i64 0, .int .i64 0, .int .i64 0, .str [], .slice none 8 [.agg [.int .i64 2, .str [], .str [99], .int .i64 3, .int .i64 0, .int .i64 0, .str [], .nil], .agg [.int .i64 2, .str [], .str [99], .int .i64 1, .int .i64 0, .int .i64 0, .str [], .nil]]]]]], [3]⟩
theorem x47 : callAt (XG GK) TT 60 47 ⟨[], []⟩ [schXD, bndXD] = some (.ptr 0 0, x45m) := by kernel_rfl
theorem x87 : callAt (XG GK) TT 60 87 ⟨[], []⟩ [.int .i64 2] = some (.slice none 1 [.slice none 1 [.int .i64 0, .int .i64 1], .slice none 1 [.int .i64 1, .int .i64 0]], ⟨[], []⟩) := by kernel_rfl
def p45_0 : List D := [.int .i64 4, .int .i64 0, .nil, .nil, .int .i64 10, .str [], .str [], .int .i64 0, .int .i64 0, .int .i64 0, .str [], .slice none 8 [.agg [.int .i64 2, .str [], .str [99], .int .i64 3, .int .i64 0, .int .i64 0, .str [], .nil], .agg [.int .i64 2, .str [], .str [99], .int .i64 1, .int .i64 0, .int .i64 0, .str [], .nil]], .slice (some 0) 13 [.agg [.int .i64 5, .int .i64 0, .nil, .nil, .int .i64 0, .str [], .str [], .int .i64 0, .int .i64 0, .int .i64 0, .str [], .nil, .slice (some 0) 13 [.agg [.int .i64 4, .int .i64 0, .nil, .nil, .int .i64 10, .str [], .str [], .int .i64 0, .int .i64 0, .int .i64 0, .str [], .slice none 8 [.agg [.int .i64 2, .str [], .str [99], .int .i64 0, .int .i64 0, .int .i64 0, .str [], .nil], .agg [.int .i64 1, .str [], .str [], .int .i64 0, .int .i64 1, .int .i64 7, .str [], .nil]], .slice (some 0) 13 [.agg [.int .i64 1, .int .i64 0, .nil, .nil, .int .i64 0, .str [], .str [], .int .i64 0, .int .i64 0, .int .i64 0, .str [], .nil, .nil]]], .agg [.int .i64 1, .int .i64 1, .nil, .nil, .int .i64 0, .str [], .str [], .int .i64 0, .int .i64 0, .int .i64 0, .str [], .nil, .nil]]]]]
def s45_0 : List D := [.int .i64 4, .int .i64 0, .nil, .nil, .int .i64 10, .str [], .str [], .int .i64 0, .int .i64 0, .int .i64 0, .str [], .slice none 8 [.agg [.int .i64 2, .str [], .str [99], .int .i64 3, .int .i64 0, .int .i64 0, .str [], .nil], .agg [.int .i64 2, .str [], .str [99], .int .i64 1, .int .i64 0, .int .i64 0, .str [], .nil]], .slice none 13 [.agg [.int .i64 5, .int .i64 0, .nil, .nil, .int .i64 0, .str [], .str [], .int .i64 0, .int .i64 0, .int .i64 0, .str [], .nil, .slice none 13 [.agg [.int .i64 4, .int .i64 0, .nil, .nil, .int .i64 10, .str [], .str [], .int .i64 0, .int .i64 0, .int .i64 0, .str [], .slice none 8 [.agg [.int .i64 2, .str [], .str [99], .int .i64 0, .int .i64 0, .int .i64 0, .str [], .nil], .agg [.int .i64 1, .str [], .str [], .int .i64 0, .int .i64 1, .int .i64 7, .str [], .nil]], .slice none 13 [.agg [.int .i64 1, .int .i64 0, .nil, .nil, .int .i64 0, .str [], .str [], .int .i64 0, .int .i64 0, .int .i64 0, .str [], .nil, .nil]]], .agg [.int .i64 1, .int .i64 1, .nil, .nil, .int .i64 0, .str [], .str [], .int .i64 0, .int .i64 0, .int .i64 0, .str [], .nil, .nil]]]]]
def q45_0 : List D := [.int .i64 4, .int .i64 0, .nil, .nil, .int .i64 10, .str [], .str [], .int .i64 0, .int .i64 0, .int .i64 0, .str [], .slice none 8 [.agg [.int .i64 2, .str [], .str [99], .int .i64 3, .int .i64 0, .int .i64 0, .str [], .nil], .agg [.int .i64 2, .str [], .str [99], .int .i64 1, .int .i64 0, .int .i64 0, .str [], .nil]], .slice none 13 [.agg [.int .i64 5, .int .i64 0, .nil, .nil, .int .i64 0, .str [], .str [], .int .i64 0, .int .i64 0, .int .i64 0, .str [], .nil, .slice none 13 [.agg [.int .i64 4, .int .i64 0, .nil, .nil, .int .i64 10, .str [], .str [], .int .i64 0, .int .i64 0, .int .i64 0, .str [], .slice none 8 [.agg [.int .i64 2, .str [], .str [99], .int .i64 0, .int .i64 0, .int .i64 0, .str [], .nil], .agg [.int .i64 1, .str [], .str [], .int .i64 0, .int .i64 1, .int .i64 7, .str [], .nil]], .slice none 13 [.agg [.int .i64 1, .int .i64 0, .nil, .nil, .int .i64 0, .str [], .str [], .int .i64 0, .int .i64 0, .int .i64 0, .str [], .nil, .nil]]], .agg [.int .i64 1, .int .i64 1, .nil, .nil, .int .i64 0, .str [], .str [], .int .i64 0, .int .i64 0, .int .i64 0, .str [], .nil, .nil]]]]]
def p45_1 : List D := [.int .i64 4, .int .i64 0, .nil, .nil, .int .i64 10, .str [], .str [], .int .i64 0, .int .i64 0, .int .i64 0, .str [], .slice none 8 [.agg [.int .i64 2, .str [], .str [99], .int .i64 3, .int .i64 0, .int .i64 0, .str [], .nil], .agg [.int .i64 2, .str [], .str [99], .int .i64 1, .int .i64 0, .int .i64 0, .str [], .nil]], .slice (some 0) 13 [.agg [.int .i64 5, .int .i64 0, .nil, .nil, .int .i64 0, .str [], .str [], .int .i64 0, .int .i64 0, .int .i64 0, .str [], .nil, .slice (some 0) 13 [.agg [.int .i64 4, .int .i64 0, .nil, .nil, .int .i64 10, .str [], .str [], .int .i64 0, .int .i64 0, .int .i64 0, .str [], .slice none 8 [.agg [.int .i64 2, .str [], .str [99], .int .i64 0, .int .i64 0, .int .i64 0, .str [], .nil], .agg [.int .i64 1, .str [], .str [], .int .i64 0, .int .i64 1, .int .i64 7, .str [], .nil]], .slice (some 0) 13 [.agg [.int .i64 1, .int .i64 0, .nil, .nil, .int .i64 0, .str [], .str [], .int .i64 0, .int .i64 0, .int .i64 0, .str [], .nil, .nil]]], .agg [.int .i64 2, .int .i64 1, .slice (some 5) 1 [.int .i64 1], .slice (some 6) 8 [.agg [.int .i64 2, .str [], .str [99], .int .i64 1, .int .i64 0, .int .i64 0, .str [], .nil]], .int .i64 0, .str [], .str [], .int .i64 0, .int .i64 0, .int .i64 0, .str [], .nil, .nil]]]]]
def s45_1 : List D := [.int .i64 4, .int .i64 0, .nil, .nil, .int .i64 10, .str [], .str [], .int .i64 0, .int .i64 0, .int .i64 0, .str [], .slice none 8 [.agg [.int .i64 2, .str [], .str [99], .int .i64 3, .int .i64 0, .int .i64 0, .str [], .nil], .agg [.int .i64 2, .str [], .str [99], .int .i64 1, .int .i64 0, .int .i64 0, .str [], .nil]], .slice none 13 [.agg [.int .i64 5, .int .i64 0, .nil, .nil, .int .i64 0, .str [], .str [], .int .i64 0, .int .i64 0, .int .i64 0, .str [], .nil, .slice none 13 [.agg [.int .i64 4, .int .i64 0, .nil, .nil, .int .i64 10, .str [], .str [], .int .i64 0, .int .i64 0, .int .i64 0, .str [], .slice none 8 [.agg [.int .i64 2, .str [], .str [99], .int .i64 0, .int .i64 0, .int .i64 0, .str [], .nil], .agg [.int .i64 1, .str [], .str [], .int .i64 0, .int .i64 1, .int .i64 7, .str [], .nil]], .slice none 13 [.agg [.int .i64 1, .int .i64 0, .nil, .nil, .int .i64 0, .str [], .str [], .int .i64 0, .int .i64 0, .int .i64 0, .str [], .nil, .nil]]], .agg [.int .i64 2, .int .i64 1, .slice none 1 [.int .i64 1], .slice none 8 [.agg [.int .i64 2, .str [], .str [99], .int .i64 1, .int .i64 0, .int .i64 0, .str [], .nil]], .int .i64 0, .str [], .str [], .int .i64 0, .int .i64 0, .int .i64 0, .str [], .nil, .nil]]]]]
def q45_1 : List D := [.int .i64 4, .int .i64 0, .nil, .nil, .int .i64 10, .str [], .str [], .int .i64 0, .int .i64 0, .int .i64 0, .str [], .slice none 8 [.agg [.int .i64 2, .str [], .str [99], .int .i64 3, .int .i64 0, .int .i64 0, .str [], .nil], .agg [.int .i64 2, .str [], .str [99], .int .i64 1, .int .i64 0, .int .i64 0, .str [], .nil]], .slice none 13 [.agg [.int .i64 5, .int .i64 0, .nil, .nil, .int .i64 0, .str [], .str [], .int .i64 0, .int .i64 0, .int .i64 0, .str [], .nil, .slice none 13 [.agg [.int .i64 4, .int .i64 0, .nil, .nil, .int .i64 10, .str [], .str [], .int .i64 0, .int .i64 0, .int .i64 0, .str [], .slice none 8 [.agg [.int .i64 2, .str [], .str [99], .int .i64 0, .int .i64 0, .int .i64 0, .str [], .nil], .agg [.int .i64 1, .str [], .str [], .int .i64 0, .int .i64 1, .int .i64 7, .str [], .nil]], .slice none 13 [.agg [.int .i64 1, .int .i64 0, .nil, .nil, .int .i64 0, .str [], .str [], .int .i64 0, .int .i64 0, .int .i64 0, .str [], .nil, .nil]]], .agg [.int .i64 2, .int .i64 1, .slice none 1 [.int .i64 1], .slice none 8 [.agg [.int .i64 2, .str [], .str [99], .int .i64 1, .int .i64 0, .int .i64 0, .str [], .nil]], .int .i64 0, .str [], .str [], .int .i64 0, .int .i64 0, .int .i64 0, .str [], .nil, .nil]]]]]
def p45_2 : List D := [.int .i64 4, .int .i64 0, .nil, .nil, .int .i64 10, .str [], .str [], .int .i64 0, .int .i64 0, .int .i64 0, .str [], .slice none 8 [.agg [.int .i64 2, .str [], .str [99], .int .i64 3, .int .i64 0, .int .i64 0, .str [], .nil], .agg [.int .i64 2, .str [], .str [99], .int .i64 1, .int .i64 0, .int .i64 0, .str [], .nil]], .slice (some 0) 13 [.agg [.int .i64 5, .int .i64 0, .nil, .nil, .int .i64 0, .str [], .str [], .int .i64 0, .int .i64 0, .int .i64 0, .str [], .nil, .slice (some 0) 13 [.agg [.int .i64 4, .int .i64 0, .nil, .nil, .int .i64 10, .str [], .str [], .int .i64 0, .int .i64 0, .int .i64 0, .str [], .slice none 8 [.agg [.int .i64 2, .str [], .str [99], .int .i64 0, .int .i64 0, .int .i64 0, .str [], .nil], .agg [.int .i64 1, .str [], .str [], .int .i64 0, .int .i64 1, .int .i64 7, .str [], .nil]], .slice (some 0) 13 [.agg [.int .i64 2, .int .i64 0, .slice (some 2) 1 [.int .i64 0], .slice (some 3) 8 [.agg [.int .i64 1, .str [], .str [], .int .i64 0, .int .i64 1, .int .i64 7, .str [], .nil]], .int .i64 0, .str [], .str [], .int .i64 0, .int .i64 0, .int .i64 0, .str [], .nil, .nil]]], .agg [.int .i64 1, .int .i64 1, .nil, .nil, .int .i64 0, .str [], .str [], .int .i64 0, .int .i64 0, .int .i64 0, .str [], .nil, .nil]]]]]
def s45_2 : List D := [.int .i64 4, .int .i64 0, .nil, .nil, .int .i64 10, .str [], .str [], .int .i64 0, .int .i64 0, .int .i64 0, .str [], .slice none 8 [.agg [.int .i64 2, .str [], .str [99], .int .i64 3, .int .i64 0, .int .i64 0, .str [], .nil], .agg [.int .i64 2, .str [], .str [99], .int .i64 1, .int .i64 0, .int .i64 0, .str [], .nil]], .slice none 13 [.agg [.int .i64 5, .int .i64 0, .nil, .nil, .int .i64 0, .str [], .str [], .int .i64 0, .int .i64 0, .int .i64 0, .str [], .nil, .slice none 13 [.agg [.int .i64 4, .int .i64 0, .nil, .nil, .int .i64 10, .str [], .str [], .int .i64 0, .int .i64 0, .int .i64 0, .str [], .slice none 8 [.agg [.int .i64 2, .str [], .str [99], .int .i64 0, .int .i64 0, .int .i64 0, .str [], .nil], .agg [.int .i64 1, .str [], .str [], .int .i64 0, .int .i64 1, .int .i64 7, .str [], .nil]], .slice none 13 [.agg [.int .i64 2, .int .i64 0, .slice none 1 [.int .i64 0], .slice none 8 [.agg [.int .i64 1, .str [], .str [], .int .i64 0, .int .i64 1, .int .i64 7, .str [], .nil]], .int .i64 0, .str [], .str [], .int .i64 0, .int .i64 0, .int .i64 0, .str [], .nil, .nil]]], .agg [.int .i64 1, .int .i64 1, .nil, .nil, .int .i64 0, .str [], .str [], .int .i64 0, .int .i64 0, .int .i64 0, .str [], .nil, .nil]]]]]
def q45_2 : List D := [.int .i64 4, .int .i64 0, .nil, .nil, .int .i64 10, .str [], .str [], .int .i64 0, .int .i64 0, .int .i64 0, .str [], .slice none 8 [.agg [.int .i64 2, .str [], .str [99], .int .i64 3, .int .i64 0, .int .i64 0, .str [], .nil], .agg [.int .i64 2, .str [], .str [99], .int .i64 1, .int .i64 0, .int .i64 0, .str [], .nil]], .slice none 13 [.agg [.int .i64 5, .int .i64 0, .nil, .nil, .int .i64 0, .str [], .str [], .int .i64 0, .int .i64 0, .int .i64 0, .str [], .nil, .slice none 13 [.agg [.int .i64 4, .int .i64 0, .nil, .nil, .int .i64 10, .str [], .str [], .int .i64 0, .int .i64 0, .int .i64 0, .str [], .slice none 8 [.agg [.int .i64 2, .str [], .str [99], .int .i64 0, .int .i64 0, .int .i64 0, .str [], .nil], .agg [.int .i64 1, .str [], .str [], .int .i64 0, .int .i64 1, .int .i64 7, .str [], .nil]], .slice none 13 [.agg [.int .i64 2, .int .i64 0, .slice none 1 [.int .i64 0], .slice none 8 [.agg [.int .i64 1, .str [], .str [], .int .i64 0, .int .i64 1, .int .i64 7, .str [], .nil]], .int .i64 0, .str [], .str [], .int .i64 0, .int .i64 0, .int .i64 0, .str [], .nil, .nil]]], .agg [.int .i64 1, .int .i64 1, .nil, .nil, .int .i64 0, .str [], .str [], .int .i64 0, .int .i64 0, .int .i64 0, .str [], .nil, .nil]]]]]
def p45_3 : List D := [.int .i64 4, .int .i64 0, .nil, .nil, .int .i64 10, .str [], .str [], .int .i64 0, .int .i64 0, .int .i64 0, .str [], .slice none 8 [.agg [.int .i64 2, .str [], .str [99], .int .i64 3, .int .i64 0, .int .i64 0, .str [], .nil], .agg [.int .i64 2, .str [], .str [99], .int .i64 1, .int .i64 0, .int .i64 0, .str [], .nil]], .slice (some 0) 13 [.agg [.int .i64 5, .int .i64 0, .nil, .nil, .int .i64 0, .str [], .str [], .int .i64 0, .int .i64 0, .int .i64 0, .str [], .nil, .slice (some 0) 13 [.agg [.int .i64 4, .int .i64 0, .nil, .nil, .int .i64 10, .str [], .str [], .int .i64 0, .int .i64 0, .int .i64 0, .str [], .slice none 8 [.agg [.int .i64 2, .str [], .str [99], .int .i64 0, .int .i64 0, .int .i64 0, .str [], .nil], .agg [.int .i64 1, .str [], .str [], .int .i64 0, .int .i64 1, .int .i64 7, .str [], .nil]], .slice (some 0) 13 [.agg [.int .i64 2, .int .i64 0, .slice (some 2) 1 [.int .i64 0], .slice (some 3) 8 [.agg [.int .i64 1, .str [], .str [], .int .i64 0, .int .i64 1, .int .i64 7, .str [], .nil]], .int .i64 0, .str [], .str [], .int .i64 0, .int .i64 0, .int .i64 0, .str [], .nil, .nil]]], .agg [.int .i64 2, .int .i64 1, .slice (some 8) 1 [.int .i64 1], .slice (some 9) 8 [.agg [.int .i64 2, .str [], .str [99], .int .i64 1, .int .i64 0, .int .i64 0, .str [], .nil]], .int .i64 0, .str [], .str [], .int .i64 0, .int .i64 0, .int .i64 0, .str [], .nil, .nil]]]]]
def s45_3 : List D := [.int .i64 4, .int .i64 0, .nil, .nil, .int .i64 10, .str [], .str [], .int .i64 0, .int .i64 0, .int .i64 0, .str [], .slice none 8 [.agg [.int .i64 2, .str [], .str [99], .int .i64 3, .int .i64 0, .int .i64 0, .str [], .nil], .agg [.int .i64 2, .str [], .str [99], .int .i64 1, .int .i64 0, .int .i64 0, .str [], .nil]], .slice none 13 [.agg [.int .i64 5, .int .i64 0, .nil, .nil, .int .i64 0, .str [], .str [], .int .i64 0, .int .i64 0, .int .i64 0, .str [], .nil, .slice none 13 [.agg [.int .i64 4, .int .i64 0, .nil, .nil, .int .i64 10, .str [], .str [], .int .i64 0, .int .i64 0, .int .i64 0, .str [], .slice none 8 [.agg [.int .i64 2, .str [], .str [99], .int .i64 0, .int .i64 0, .int .i64 0, .str [], .nil], .agg [.int .i64 1, .str [], .str [], .int .i64 0, .int .i64 1, .int .i64 7, .str [], .nil]], .slice none 13 [.agg [.int .i64 2, .int .i64 0, .slice none 1 [.int .i64 0], .slice none 8 [.agg [.int .i64 1, .str [], .str [], .int .i64 0, .int .i64 1, .int .i64 7, .str [], .nil]], .int .i64 0, .str [], .str [], .int .i64 0, .int .i64 0, .int .i64 0, .str [], .nil, .nil]]], .agg [.int .i64 2, .int .i64 1, .slice none 1 [.int .i64 1], .slice none 8 [.agg [.int .i64 2, .str [], .str [99], .int .i64 1, .int .i64 0, .int .i64 0, .str [], .nil]], .int .i64 0, .str [], .str [], .int .i64 0, .int .i64 0, .int .i64 0, .str [], .nil, .nil]]]]]
def q45_3 : List D := [.int .i64 4, .int .i64 0, .nil, .nil, .int .i64 10, .str [], .str [], .int .i64 0, .int .i64 0, .int .i64 0, .str [], .slice none 8 [.agg [.int .i64 2, .str [], .str [99], .int .i64 3, .int .i64 0, .int .i64 0, .str [], .nil], .agg [.int .i64 2, .str [], .str [99], .int .i64 1, .int .i64 0, .int .i64 0, .str [], .nil]], .slice none 13 [.agg [.int .i64 5, .int .i64 0, .nil, .nil, .int .i64 0, .str [], .str [], .int .i64 0, .int .i64 0, .int .i64 0, .str [], .nil, .slice none 13 [.agg [.int .i64 4, .int .i64 0, .nil, .nil, .int .i64 10, .str [], .str [], .int .i64 0, .int .i64 0, .int .i64 0, .str [], .slice none 8 [.agg [.int .i64 2, .str [], .str [99], .int .i64 0, .int .i64 0, .int .i64 0, .str [], .nil], .agg [.int .i64 1, .str [], .str [], .int .i64 0, .int .i64 1, .int .i64 7, .str [], .nil]], .slice none 13 [.agg [.int .i64 2, .int .i64 0, .slice none 1 [.int .i64 0], .slice none 8 [.agg [.int .i64 1, .str [], .str [], .int .i64 0, .int .i64 1, .int .i64 7, .str [], .nil]], .int .i64 0, .str [], .str [], .int .i64 0, .int .i64 0, .int .i64 0, .str [], .nil, .nil]]], .agg [.int .i64 2, .int .i64 1, .slice none 1 [.int .i64 1], .slice none 8 [.agg [.int .i64 2, .str [], .str [99], .int .i64 1, .int .i64 0, .int .i64 0, .str [], .nil]], .int .i64 0, .str [], .str [], .int .i64 0, .int .i64 0, .int .i64 0, .str [], .nil, .nil]]]]]
def p45_4 : List D := [.int .i64 4, .int .i64 0, .nil, .nil, .int .i64 18, .str [], .str [], .int .i64 0, .int .i64 0, .int .i64 0, .str [], .slice (some 0) 8 [.agg [.int .i64 10, .str [], .str [], .int .i64 0, .int .i64 0, .int .i64 0, .str [], .slice none 8 [.agg [.int .i64 2, .str [], .str [99], .int .i64 0, .int .i64 0, .int .i64 0, .str [], .nil], .agg [.int .i64 1, .str [], .str [], .int .i64 0, .int .i64 1, .int .i64 7, .str [], .nil]]], .agg [.int .i64 10, .str [], .str [], .int .i64 0, .int .i64 0, .int .i64 0, .str [], .slice none 8 [.agg [.int .i64 2, .str [], .str [99], .int .i64 3, .int .i64 0, .int .i64 0, .str [], .nil], .agg [.int .i64 2, .str [], .str [99], .int .i64 1, .int .i64 0, .int .i64 0, .str [], .nil]]]], .slice (some 0) 13 [.agg [.int .i64 5, .int .i64 0, .nil, .nil, .int .i64 0, .str [], .str [], .int .i64 0, .int .i64 0, .int .i64 0, .str [], .nil, .slice (some 0) 13 [.agg [.int .i64 1, .int .i64 1, .nil, .nil, .int .i64 0, .str [], .str [], .int .i64 0, .int .i64 0, .int .i64 0, .str [], .nil, .nil], .agg [.int .i64 1, .int .i64 0, .nil, .nil, .int .i64 0, .str [], .str [], .int .i64 0, .int .i64 0, .int .i64 0, .str [], .nil, .nil]]]]]
def s45_4 : List D := [.int .i64 4, .int .i64 0, .nil, .nil, .int .i64 18, .str [], .str [], .int .i64 0, .int .i64 0, .int .i64 0, .str [], .slice none 8 [.agg [.int .i64 10, .str [], .str [], .int .i64 0, .int .i64 0, .int .i64 0, .str [], .slice none 8 [.agg [.int .i64 2, .str [], .str [99], .int .i64 0, .int .i64 0, .int .i64 0, .str [], .nil], .agg [.int .i64 1, .str [], .str [], .int .i64 0, .int .i64 1, .int .i64 7, .str [], .nil]]], .agg [.int .i64 10, .str [], .str [], .int .i64 0, .int .i64 0, .int .i64 0, .str [], .slice none 8 [.agg [.int .i64 2, .str [], .str [99], .int .i64 3, .int .i64 0, .int .i64 0, .str [], .nil], .agg [.int .i64 2, .str [], .str [99], .int .i64 1, .int .i64 0, .int .i64 0, .str [], .nil]]]], .slice none 13 [.agg [.int .i64 5, .int .i64 0, .nil, .nil, .int .i64 0, .str [], .str [], .int .i64 0, .int .i64 0, .int .i64 0, .str [], .nil, .slice none 13 [.agg [.int .i64 1, .int .i64 1, .nil, .nil, .int .i64 0, .str [], .str [], .int .i64 0, .int .i64 0, .int .i64 0, .str [], .nil, .nil], .agg [.int .i64 1, .int .i64 0, .nil, .nil, .int .i64 0, .str [], .str [], .int .i64 0, .int .i64 0, .int .i64 0, .str [], .nil, .nil]]]]]
def q45_4 : List D := [.int .i64 4, .int .i64 0, .nil, .nil, .int .i64 18, .str [], .str [], .int .i64 0, .int .i64 0, .int .i64 0, .str [], .slice none 8 [.agg [.int .i64 10, .str [], .str [], .int .i64 0, .int .i64 0, .int .i64 0, .str [], .slice none 8 [.agg [.int .i64 2, .str [], .str [99], .int .i64 0, .int .i64 0, .int .i64 0, .str [], .nil], .agg [.int .i64 1, .str [], .str [], .int .i64 0, .int .i64 1, .int .i64 7, .str [], .nil]]], .agg [.int .i64 10, .str [], .str [], .int .i64 0, .int .i64 0, .int .i64 0, .str [], .slice none 8 [.agg [.int .i64 2, .str [], .str [99], .int .i64 3, .int .i64 0, .int .i64 0, .str [], .nil], .agg [.int .i64 2, .str [], .str [99], .int .i64 1, .int .i64 0, .int .i64 0, .str [], .nil]]]], .slice none 13 [.agg [.int .i64 5, .int .i64 0, .nil, .nil, .int .i64 0, .str [], .str [], .int .i64 0, .int .i64 0, .int .i64 0, .str [], .nil, .slice none 13 [.agg [.int .i64 1, .int .i64 1, .nil, .nil, .int .i64 0, .str [], .str [], .int .i64 0, .int .i64 0, .int .i64 0, .str [], .nil, .nil], .agg [.int .i64 1, .int .i64 0, .nil, .nil, .int .i64 0, .str [], .str [], .int .i64 0, .int .i64 0, .int .i64 0, .str [], .nil, .nil]]]]]
def p45_5 : List D := [.int .i64 4, .int .i64 0, .nil, .nil, .int .i64 18, .str [], .str [], .int .i64 0, .int .i64 0, .int .i64 0, .str [], .slice (some 0) 8 [.agg [.int .i64 10, .str [], .str [], .int .i64 0, .int .i64 0, .int .i64 0, .str [], .slice none 8 [.agg [.int .i64 2, .str [], .str [99], .int .i64 0, .int .i64 0, .int .i64 0, .str [], .nil], .agg [.int .i64 1, .str [], .str [], .int .i64 0, .int .i64 1, .int .i64 7, .str [], .nil]]], .agg [.int .i64 10, .str [], .str [], .int .i64 0, .int .i64 0, .int .i64 0, .str [], .slice none 8 [.agg [.int .i64 2, .str [], .str [99], .int .i64 3, .int .i64 0, .int .i64 0, .str [], .nil], .agg [.int .i64 2, .str [], .str [99], .int .i64 1, .int .i64 0, .int .i64 0, .str [], .nil]]]], .slice (some 0) 13 [.agg [.int .i64 5, .int .i64 0, .nil, .nil, .int .i64 0, .str [], .str [], .int .i64 0, .int .i64 0, .int .i64 0, .str [], .nil, .slice (some 0) 13 [.agg [.int .i64 1, .int .i64 1, .nil, .nil, .int .i64 0, .str [], .str [], .int .i64 0, .int .i64 0, .int .i64 0, .str [], .nil, .nil], .agg [.int .i64 2, .int .i64 0, .slice (some 11) 1 [.int .i64 0, .int .i64 1], .slice (some 12) 8 [.agg [.int .i64 1, .str [], .str [], .int .i64 0, .int .i64 1, .int .i64 7, .str [], .nil], .agg [.int .i64 2, .str [], .str [99], .int .i64 3, .int .i64 0, .int .i64 0, .str [], .nil]], .int .i64 0, .str [], .str [], .int .i64 0, .int .i64 0, .int .i64 0, .str [], .nil, .nil]]]]]
def s45_5 : List D := [.int .i64 4, .int .i64 0, .nil, .nil, .int .i64 18, .str [], .str [], .int .i64 0, .int .i64 0, .int .i64 0, .str [], .slice none 8 [.agg [.int .i64 10, .str [], .str [], .int .i64 0, .int .i64 0, .int .i64 0, .str [], .slice none 8 [.agg [.int .i64 2, .str [], .str [99], .int .i64 0, .int .i64 0, .int .i64 0, .str [], .nil], .agg [.int .i64 1, .str [], .str [], .int .i64 0, .int .i64 1, .int .i64 7, .str [], .nil]]], .agg [.int .i64 10, .str [], .str [], .int .i64 0, .int .i64 0, .int .i64 0, .str [], .slice none 8 [.agg [.int .i64 2, .str [], .str [99], .int .i64 3, .int .i64 0, .int .i64 0, .str [], .nil], .agg [.int .i64 2, .str [], .str [99], .int .i64 1, .int .i64 0, .int .i64 0, .str [], .nil]]]], .slice none 13 [.agg [.int .i64 5, .int .i64 0, .nil, .nil, .int .i64 0, .str [], .str [], .int .i64 0, .int .i64 0, .int .i64 0, .str [], .nil, .slice none 13 [.agg [.int .i64 1, .int .i64 1, .nil, .nil, .int .i64 0, .str [], .str [], .int .i64 0, .int .i64 0, .int .i64 0, .str [], .nil, .nil], .agg [.int .i64 2, .int .i64 0, .slice none 1 [.int .i64 0, .int .i64 1], .slice none 8 [.agg [.int .i64 1, .str [], .str [], .int .i64 0, .int .i64 1, .int .i64 7, .str [], .nil], .agg [.int .i64 2, .str [], .str [99], .int .i64 3, .int .i64 0, .int .i64 0, .str [], .nil]], .int .i64 0, .str [], .str [], .int .i64 0, .int .i64 0, .int .i64 0, .str [], .nil, .nil]]]]]
def q45_5 : List D := [.int .i64 4, .int .i64 0, .nil, .nil, .int .i64 18, .str [], .str [], .int .i64 0, .int .i64 0, .int .i64 0, .str [], .slice none 8 [.agg [.int .i64 10, .str [], .str [], .int .i64 0, .int .i64 0, .int .i64 0, .str [], .slice none 8 [.agg [.int .i64 2, .str [], .str [99], .int .i64 0, .int .i64 0, .int .i64 0, .str [], .nil], .agg [.int .i64 1, .str [], .str [], .int .i64 0, .int .i64 1, .int .i64 7, .str [], .nil]]], .agg [.int .i64 10, .str [], .str [], .int .i64 0, .int .i64 0, .int .i64 0, .str [], .slice none 8 [.agg [.int .i64 2, .str [], .str [99], .int .i64 3, .int .i64 0, .int .i64 0, .str [], .nil], .agg [.int .i64 2, .str [], .str [99], .int .i64 1, .int .i64 0, .int .i64 0, .str [], .nil]]]], .slice none 13 [.agg [.int .i64 5, .int .i64 0, .nil, .nil, .int .i64 0, .str [], .str [], .int .i64 0, .int .i64 0, .int .i64 0, .str [], .nil, .slice none 13 [.agg [.int .i64 1, .int .i64 1, .nil, .nil, .int .i64 0, .str [], .str [], .int .i64 0, .int .i64 0, .int .i64 0, .str [], .nil, .nil], .agg [.int .i64 2, .int .i64 0, .slice none 1 [.int .i64 0, .int .i64 1], .slice none 8 [.agg [.int .i64 1, .str [], .str [], .int .i64 0, .int .i64 1, .int .i64 7, .str [], .nil], .agg [.int .i64 2, .str [], .str [99], .int .i64 3, .int .i64 0, .int .i64 0, .str [], .nil]], .int .i64 0, .str [], .str [], .int .i64 0, .int .i64 0, .int .i64 0, .str [], .nil, .nil]]]]]
def f45 : Nat → List D
  | 0 => p45_0 ++ (p45_1 ++ (p45_2 ++ (p45_3 ++ (p45_4 ++ p45_5))))
  | 1 => q45_0 ++ (p45_1 ++ (p45_2 ++ (p45_3 ++ (p45_4 ++ p45_5))))
  | 2 => q45_0 ++ (q45_1 ++ (p45_2 ++ (p45_3 ++ (p45_4 ++ p45_5))))
  | 3 => q45_0 ++ (q45_1 ++ (q45_2 ++ (p45_3 ++ (p45_4 ++ p45_5))))
  | 4 => q45_0 ++ (q45_1 ++ (q45_2 ++ (q45_3 ++ (p45_4 ++ p45_5))))
  | 5 => q45_0 ++ (q45_1 ++ (q45_2 ++ (q45_3 ++ (q45_4 ++ p45_5))))
  | _ => q45_0 ++ (q45_1 ++ (q45_2 ++ (q45_3 ++ (q45_4 ++ q45_5))))
theorem x89_0 : callAt (XG GK) TT 100 89 ⟨[], []⟩ [.agg s45_0] = some (.agg q45_0, ⟨[], []⟩) := by kernel_rfl
theorem x89_1 : callAt (XG GK) TT 100 89 ⟨[], []⟩ [.agg s45_1] = some (.agg q45_1, ⟨[], []⟩) := by kernel_rfl
theorem x89_2 : callAt (XG GK) TT 100 89 ⟨[], []⟩ [.agg s45_2] = some (.agg q45_2, ⟨[], []⟩) := by kernel_rfl
theorem x89_3 : callAt (XG GK) TT 100 89 ⟨[], []⟩ [.agg s45_3] = some (.agg q45_3, ⟨[], []⟩) := by kernel_rfl
theorem x89_4 : callAt (XG GK) TT 100 89 ⟨[], []⟩ [.agg s45_4] = some (.agg q45_4, ⟨[], []⟩) := by kernel_rfl
theorem x89_5 : callAt (XG GK) TT 100 89 ⟨[], []⟩ [.agg s45_5] = some (.agg q45_5, ⟨[], []⟩) := by kernel_rfl
theorem stp45 : ∀ k, k < 6 → ∃ p s q, ((f45 k).drop (k * 13)).take 13 = p ∧ stripFL noR p = s ∧ (∃ n, callAt (XG GK) TT n 89 ⟨[], []⟩ [.agg s] = some (.agg q, ⟨[], []⟩)) ∧ q.length = 13 ∧ setRow (f45 k) (k * 13) q = f45 (k + 1)
  | 0, _ => ⟨p45_0, s45_0, q45_0, by kernel_rfl, by kernel_rfl, ⟨_, x89_0⟩, by kernel_rfl, by kernel_rfl⟩
  | 1, _ => ⟨p45_1, s45_1, q45_1, by kernel_rfl, by kernel_rfl, ⟨_, x89_1⟩, by kernel_rfl, by kernel_rfl⟩
  | 2, _ => ⟨p45_2, s45_2, q45_2, by kernel_rfl, by kernel_rfl, ⟨_, x89_2⟩, by kernel_rfl, by kernel_rfl⟩
  | 3, _ => ⟨p45_3, s45_3, q45_3, by kernel_rfl, by kernel_rfl, ⟨_, x89_3⟩, by kernel_rfl, by kernel_rfl⟩
  | 4, _ => ⟨p45_4, s45_4, q45_4, by kernel_rfl, by kernel_rfl, ⟨_, x89_4⟩, by kernel_rfl, by kernel_rfl⟩
  | 5, _ => ⟨p45_5, s45_5, q45_5, by kernel_rfl, by kernel_rfl, ⟨_, x89_5⟩, by kernel_rfl, by kernel_rfl⟩
  | _ + 6, h => absurd h (by omega)
theorem len45 : ∀ k, k < 6 → (f45 k).length = 78
  | 0, _ => by kernel_rfl
  | 1, _ => by kernel_rfl
  | 2, _ => by kernel_rfl
  | 3, _ => by kernel_rfl
  | 4, _ => by kernel_rfl
  | 5, _ => by kernel_rfl
  | _ + 6, h => absurd h (by omega)
def m45 : Nat → Mem
  | 0 => x45m
  | 1 => x88an
  | _ => x88bn
def n45 (k : Nat) : Mem := ⟨x88bn.boxes.set 47 (f45 k), x88bn.toks⟩
theorem n45_0 : n45 0 = x88bn := by kernel_rfl
theorem n45_at (k : Nat) : (x88bn.boxes.set 47 (f45 k))[47]? = some (f45 k) := List.getElem?_set_self (show 47 < x88bn.boxes.length from of_decide_eq_true (by kernel_rfl))
theorem n45_set (k : Nat) : (x88bn.boxes.set 47 (f45 k)).set 47 (f45 (k + 1)) = x88bn.boxes.set 47 (f45 (k + 1)) := List.set_set ..
def b45 : List D := [.slice none 5 [.agg [.str [97, 99, 99, 111, 117, 110, 116], .slice none 6 [.agg [.str [105, 100], .int .i64 1, .int .i64 1, .int .i64 99, .int .i64 0, .bool false], .agg [.str [111, 119, 110, 101, 114], .int .i64 2, .int .i64 0, .int .i64 0, .int .i64 12, .bool false]], .slice none 1 [.slice none 1 [.int .i64 0]], .nil, .nil]], .int .i64 5, .str [], .nil, .nil, .nil, .nil, .nil, .nil, .nil, .slice none 2 [.agg [.str [97, 99, 99, 111, 117, 110, 116], .str [97]], .agg [.str [97, 99, 99, 111, 117, 110, 116], .str [98]]], .int .i64 18, .str [], .str [], .int .i64 0, .int .i64 0, .int .i64 0, .str [], .slice none 8 [.agg [.int .i64 10, .str [], .str [], .int .i64 0, .int .i64 0, .int .i64 0, .str [], .slice none 8 [.agg [.int .i64 2, .str [], .str [99], .int .i64 0, .int .i64 0, .int .i64 0, .str [], .nil], .agg [.int .i64 1, .str [], .str [], .int .i64 0, .int .i64 1, .int .i64 7, .str [], .nil]]], .agg [.int .i64 10, .str [], .str [], .int .i64 0, .int .i64 0, .int .i64 0, .str [], .slice none 8 [.agg [.int .i64 2, .str [], .str [99], .int .i64 3, .int .i64 0, .int .i64 0, .str [], .nil], .agg [.int .i64 2, .str [], .str [99], .int .i64 1, .int .i64 0, .int .i64 0, .str [], .nil]]]], .nil, .nil, .int .i64 0, .str [], .int .i64 0, .slice none 1 [.int .i64 0, .int .i64 0], .slice none 5 [.agg [.int .i64 1, .int .i64 1, .int .i64 99, .int .i64 0, .bool true], .agg [.int .i64 2, .int .i64 0, .int .i64 0, .int .i64 12, .bool true], .agg [.int .i64 1, .int .i64 1, .int .i64 99, .int .i64 0, .bool true], .agg [.int .i64 2, .int .i64 0, .int .i64 0, .int .i64 12, .bool true]], .nil, .slice (some 1) 1 [.int .i64 0, .int .i64 2, .int .i64 4], .slice none 8 [.agg [.int .i64 10, .str [], .str [], .int .i64 0, .int .i64 0, .int .i64 0, .str [], .slice none 8 [.agg [.int .i64 2, .str [], .str [99], .int .i64 0, .int .i64 0, .int .i64 0, .str [], .nil], .agg [.int .i64 1, .str [], .str [], .int .i64 0, .int .i64 1, .int .i64 7, .str [], .nil]]], .agg [.int .i64 10, .str [], .str [], .int .i64 0, .int .i64 0, .int .i64 0, .str [], .slice none 8 [.agg [.int .i64 2, .str [], .str [99], .int .i64 3, .int .i64 0, .int .i64 0, .str [], .nil], .agg [.int .i64 2, .str [], .str [99], .int .i64 1, .int .i64 0, .int .i64 0, .str [], .nil]]]]]
theorem m45_b0 : x45m.boxes[0]? = some b45 := by kernel_rfl
theorem m45_b1 : x88an.boxes[0]? = some b45 := by kernel_rfl
theorem m45_a0 : (⟨x45m.boxes ++ [[.bool false, .bool false]], x45m.toks⟩ : Mem) = x88am := by kernel_rfl
theorem m45_a1 : (⟨x88an.boxes ++ [[.bool false, .bool false]], x88an.toks⟩ : Mem) = x88bm := by kernel_rfl
theorem m45_l0 : x45m.boxes.length = 1 := by kernel_rfl
theorem m45_l1 : x88an.boxes.length = 30 := by kernel_rfl

end Go.Eng
/- The chapter's example: the walk through its candidates. -/
namespace Go.Eng
open Go Go.Proofs
open Nat (reduceAdd reduceMul reduceSub)
set_option maxRecDepth 20000
set_option maxHeartbeats 32000000
attribute [local irreducible] wpI endP
@[go_sem] theorem make_makeSlice {X : Ctx} {m : Mem} {st : St} (bx : Bool) (t : Nat) (l c : Operand) : makeD X bx m st (.makeSlice t l c) = match sliceElem X.P t, ev X st l, ev X st c with
    | some e, .int .i64 n, .int .i64 n' => (match szOf X.P e, bytesOk X.P e, zeroD X.P e with
      | some k, true, some z => bif z.okC && decide (z.cells.length = k) && decide (0 ≤ n) && decide (n = n') && decide (n ≤ 16777216) then
          some (.rsl m.boxes.length 0 n.toNat k, { m with boxes := m.boxes ++ [flat (List.replicate n.toNat z)] }) else none
      | _, _, _ => none)
    | _, _, _ => none := rfl
def Six (v : D) : Prop := lenT Tryd.prog 56 v = some 6
theorem six_end : Six (frzM (n45 6) (n45 6).boxes.length 47 0 6 13) := show lenT _ _ _ = _ by kernel_rfl
def cur45 : Nat → D
  | 0 => .nil
  | 1 => .rsl 29 0 4 13
  | _ => .rsl 47 0 6 13
theorem c45 : ∃ v, callP (XG GK) TT 45 [schXD, bndXD] = some v ∧ Six v := by
  have h47 := callR_of_at x47
  have h87 : callP (XG GK) TT 87 [.int .i64 ((2 : Nat) : Int)] = some (.slice none 1 [.slice none 1 [.int .i64 0, .int .i64 1], .slice none 1 [.int .i64 1, .int .i64 0]]) := by
    show callP (XG GK) TT 87 [.int .i64 2] = _
    unfold callP; rw [callR_of_at x87]; rfl
  have ha := callR_of_at x88a
  have hb := callR_of_at x88b
  have b0 := m45_b0
  have b1 := m45_b1
  have l0 := m45_l0
  have l1 := m45_l1
  have ma0 := m45_a0
  have ma1 := m45_a1
  have fl : flat [D.bool false, D.bool false] = [.bool false, .bool false] := rfl
  refine callP_body T45 rfl (by kernel_rfl) ?_
  unfold Tryd.f45
  simp only [Option.getD_some]
  unfold bndXD at h47 ⊢
  have z2 : ((2 : Nat) : Int) ≤ 16777216 := by decide
  simp +decide only[go_sem,reduceAdd,reduceMul,reduceSub,h47,h87,fl,z2]
  refine gw (an h47 (an h87 (an fl z2))) ?_
  refine wpI_loopC (T := Nat) [5, 6, 16, 17, 18] rfl (by simp +decide only[go_sem,reduceAdd,reduceMul,reduceSub,h47,h87,fl,z2]; exact rfl) (fun k => [(18, .int .i64 (k : Int)), (6, cur45 k)]) (fun _ => []) (fun k => m45 k) (fun k => k ≤ 2) (fun k => 2 - k) 0 (by simp +decide only[go_sem,reduceAdd,reduceMul,reduceSub,h47,h87,fl,z2] <;> rfl) (by simp) ?_
  rintro k hk
  obtain rfl | rfl | rfl : k = 0 ∨ k = 1 ∨ k = 2 := by omega
  · have e1 : m45 0 = x45m := rfl
    have e2 : cur45 0 = .nil := rfl
    have lq : (((0 : Nat) : Int) < ((2 : Nat) : Int)) = True := eq_true (by omega)
    have w1 := wrap_nat 0 (by omega)
    unfold b45 at b0
    refine gw (an h47 (an h87 (an fl (an z2 (an e1 (an e2 (an lq (an w1 (an b0 (an l0 (an ma0 ha))))))))))) ?_
    exact ⟨1, by simp +decide only[go_sem,reduceAdd,reduceMul,reduceSub,h47,h87,fl,z2] <;> rfl, by omega, by omega⟩
  · have e1 : m45 1 = x88an := rfl
    have e2 : cur45 1 = .rsl 29 0 4 13 := rfl
    have lq : (((1 : Nat) : Int) < ((2 : Nat) : Int)) = True := eq_true (by omega)
    have w1 := wrap_nat 1 (by omega)
    unfold b45 at b1
    refine gw (an h47 (an h87 (an fl (an z2 (an e1 (an e2 (an lq (an w1 (an b1 (an l1 (an ma1 hb))))))))))) ?_
    exact ⟨2, by simp +decide only[go_sem,reduceAdd,reduceMul,reduceSub,h47,h87,fl,z2] <;> rfl, by omega, by omega⟩
  · have e1 : m45 2 = n45 0 := n45_0.symm
    have e2 : cur45 2 = .rsl 47 0 6 13 := rfl
    have lq : (((2 : Nat) : Int) < ((2 : Nat) : Int)) = False := eq_false (by omega)
    refine gw (an h47 (an h87 (an fl (an z2 (an e2 (an e1 lq)))))) ?_
    refine wpI_loopC (T := Nat) [6, 35, 36] rfl (by simp +decide only[go_sem,reduceAdd,reduceMul,reduceSub,h47,h87,fl,z2,e2]; exact rfl) (fun k => [(36, .int .i64 (k : Int))]) (fun _ => []) (fun k => n45 k) (fun k => k ≤ 6) (fun k => 6 - k) 0 (by simp +decide only[go_sem,reduceAdd,reduceMul,reduceSub,h47,h87,fl,z2,e2] <;> rfl) (by simp) ?_
    rintro k hk
    have en : n45 k = ⟨x88bn.boxes.set 47 (f45 k), x88bn.toks⟩ := rfl
    by_cases h1 : k < 6
    · have lq : ((k : Int) < ((6 : Nat) : Int)) = True := eq_true (by omega)
      have w1 := wrap_nat k (by omega)
      have hat := n45_at k
      have hst := n45_set k
      obtain ⟨p, s, q, hp, hs, ⟨n, hq⟩, hl, hset⟩ := stp45 k h1
      have h89 : callP (XG GK) TT 89 [.agg s] = some (.agg q) := by unfold callP; rw [callR_of_at hq]; rfl
      have hf := len45 k h1
      have h13 : (k * 13 + 13 ≤ 78) = True := eq_true (by omega)
      refine gw (an h47 (an h87 (an fl (an z2 (an e2 (an en (an lq (an w1 (an hat (an hst (an hp (an hs (an h89 (an hl (an hset (an hf h13)))))))))))))))) ?_
      exact ⟨k + 1, by simp +decide only[go_sem,reduceAdd,reduceMul,reduceSub,h47,h87,fl,z2,e2] <;> rfl, by omega, by omega⟩
    · have lq : ((k : Int) < ((6 : Nat) : Int)) = False := eq_false (by omega)
      obtain rfl : k = 6 := by omega
      refine gw (an h47 (an h87 (an fl (an z2 (an e2 lq))))) ?_
      simp +decide only[go_sem,reduceAdd,reduceMul,reduceSub,h47,h87,fl,z2,e2]
      exact six_end
end Go.Eng
/- The chapter's witness is awake. -/
namespace Go.Eng
open Go Go.Proofs
open Nat (reduceAdd reduceMul reduceSub)
set_option maxRecDepth 20000
set_option maxHeartbeats 32000000
attribute [local irreducible] wpI endP
theorem callP_at {G : Nat → Option (List D)} {n g : Nat} {ds : List D} {v : D} (h : callAt (XG G) TT n g ⟨[], []⟩ ds = some (v, ⟨[], []⟩)) : callP (XG G) TT g ds = some v := by
  unfold callP; rw [callR_of_at h]; rfl
def zI : I64 := ⟨0, by decide⟩
def exTbl : Tbl := ⟨[97, 99, 99, 111, 117, 110, 116], ⟨some [⟨[105, 100], ⟨1, by decide⟩, ⟨1, by decide⟩, ⟨99, by decide⟩, zI, false⟩, ⟨[111, 119, 110, 101, 114], ⟨2, by decide⟩, zI, zI, ⟨12, by decide⟩, false⟩], by show (2 : Nat) < 4611686018427387904; decide⟩,
  ⟨some [⟨some [zI], by show (1 : Nat) < 4611686018427387904; decide⟩], by show (1 : Nat) < 4611686018427387904; decide⟩, ⟨none, by show (0 : Nat) < 4611686018427387904; decide⟩, ⟨none, by show (0 : Nat) < 4611686018427387904; decide⟩⟩
def exS : Sl Tbl := ⟨some [exTbl], by show (1 : Nat) < 4611686018427387904; decide⟩
def colE (n : I64) : Ex := ⟨_, .leaf ⟨2, by decide⟩ [] [99] n zI zI []⟩
def litE : Ex := ⟨_, .leaf ⟨1, by decide⟩ [] [] zI ⟨1, by decide⟩ ⟨7, by decide⟩ []⟩
def eqE (x y : Ex) : Ex := ⟨_, .node ⟨10, by decide⟩ [] [] zI zI zI [] [x.1, y.1] (by show (2 : Nat) < 4611686018427387904; decide) (fun d hd => by
  rcases List.mem_cons.1 hd with h | h
  · rw [h]; exact x.2
  · rw [List.mem_singleton.1 h]; exact y.2)⟩
def exW : ExR := ⟨⟨18, by decide⟩, [], [], zI, zI, zI, [], ⟨some [eqE (colE zI) litE, eqE (colE ⟨3, by decide⟩) (colE ⟨1, by decide⟩)], by show (2 : Nat) < 4611686018427387904; decide⟩⟩
def exC : Cas := ⟨exS, ⟨some [zI, zI], by show (2 : Nat) < 4611686018427387904; decide⟩, ⟨some [[97], [98]], by show (2 : Nat) < 4611686018427387904; decide⟩, exW⟩
theorem sl_items {α : Type} {s : Sl α} {k : Nat} {f : α → D} {a : α} {l : List α} (h : s.items = a :: l) : sl k f s = .slice none k ((a :: l).map f) := by
  obtain ⟨o, ho⟩ := s
  cases o with
  | none => cases h
  | some l' => have h : l' = a :: l := h; subst h; rfl
theorem ex_ok : CaseOK exC true true true := by
  refine ⟨rfl, rfl, rfl, by decide, by decide, rfl, fun i x h => ?_, fun a h => ?_⟩
  · have h : ([zI, zI] : List I64)[i]? = some x := h
    match i, h with
    | 0, h => cases h; exact ⟨by decide, by decide⟩
    | 1, h => cases h; exact ⟨by decide, by decide⟩
    | _ + 2, h => simp at h
  · have h : a ∈ ([[97], [98]] : List Str) := h
    rcases List.mem_cons.1 h with h | h
    · rw [h]; decide
    · rw [List.mem_singleton.1 h]; decide
theorem x39 : (insL exC.s.items 0 exC.s.items && bOk (bldF stepR [] (exC.s.items.map (defS exC.s.items)))) = true := by kernel_rfl
theorem bnd_ex : ∃ ok, callP (XG GK) TT 13 [encCas exC] = some (.tuple [bndXD, .bool ok]) := by
  have h24 : callP (XG GK) TT 24 [sl 5 encTbl exC.s] = some (.bool true) := callP_at x24
  have h42 : callP (XG GK) TT 42 [exC.w.enc, .int .i64 8] = some (.bool true) := callP_at x42
  obtain ⟨b1, hb1, hsm⟩ := smallT (G := GK) exC.s
  obtain rfl : b1 = true := by rw [h24] at hb1; cases hb1; rfl
  have h39 := val39 exC.s (hsm rfl).2 (hsm rfl).1
  rw [x39] at h39
  obtain ⟨b, ok, h13, hok⟩ := bound13 (G := GK) exC true true true h24 (fun _ => h39) h42 (fun h t ht => ((hsm h).2 t ht).1)
  obtain ⟨_, _, hw, ht, _, ⟨hs, hv⟩, _⟩ := hok (.inr ex_ok)
  refine ⟨ok, ?_⟩
  rw [h13]
  obtain ⟨bs, bw, bt, bv⟩ := b
  simp only at hw ht hs hv
  subst hw hs hv
  have ht' : sl 1 I bt = .slice none 1 [.int .i64 0, .int .i64 0] := sl_items (a := zI) (l := [zI]) ht
  have e1 : sl 2 encSrc (cn (srcF exC exC.fr.items.length)) = .slice none 2 [.agg [.str [97, 99, 99, 111, 117, 110, 116], .str [97]], .agg [.str [97, 99, 99, 111, 117, 110, 116], .str [98]]] := by
    rw [← out_cn 2 encSrc (by decide)]; rfl
  have e2 : sl 5 vr (cn (varF exC exC.fr.items.length)) = .slice none 5 [.agg [.int .i64 1, .int .i64 1, .int .i64 99, .int .i64 0, .bool true], .agg [.int .i64 2, .int .i64 0, .int .i64 0, .int .i64 12, .bool true], .agg [.int .i64 1, .int .i64 1, .int .i64 99, .int .i64 0, .bool true], .agg [.int .i64 2, .int .i64 0, .int .i64 0, .int .i64 12, .bool true]] := by
    rw [← out_cn 5 vr (by decide)]; rfl
  have : encBnd ⟨cn (srcF exC exC.fr.items.length), exC.w, bt, cn (varF exC exC.fr.items.length)⟩ = bndXD := by
    rw [encBnd_eq, ht', e1, e2]; rfl
  rw [this]
theorem c86_0 : callP (XG GK) TT 86 [.int .i64 0] = some (colXD 0) := callP_at x86_0
theorem c86_1 : callP (XG GK) TT 86 [.int .i64 1] = some (colXD 1) := callP_at x86_1
theorem c86_3 : callP (XG GK) TT 86 [.int .i64 3] = some (colXD 3) := callP_at x86_3
theorem c44 : callP (XG GK) TT 44 [] = some (.tuple [schXD, bndXD]) := by
  obtain ⟨ok, h13⟩ := bnd_ex
  have h13 : callP (XG GK) TT 13 [.agg [schXD, .slice none 1 [.int .i64 0, .int .i64 0], .slice none 1 [.str [97], .str [98]], .int .i64 18, .str [], .str [], .int .i64 0, .int .i64 0, .int .i64 0, .str [], .slice none 8 [eqXD (colXD 0) litXD, eqXD (colXD 3) (colXD 1)]]] = some (.tuple [bndXD, .bool ok]) := h13
  have a0 := c86_0
  have a1 := c86_1
  have a3 := c86_3
  refine callP_val T44 rfl rfl ?_
  unfold Tryd.f44
  simp only [Option.getD_some]
  have ta := true_and
  have ot := true_or
  have rf := fun m : Mem => eq_true (p := Sub m m) fun id cs h => h
  have oto := or_true
  simp only [schXD, tblXD, bndXD, eqXD, colXD, litXD] at h13 a0 a1 a3 ⊢
  simp +decide only[go_sem,reduceAdd,reduceMul,reduceSub,h13,a0,a1,a3,ta,rf,oto]
  refine gw (an h13 (an a0 (an a1 (an a3 (an ta (an rf oto)))))) ?_
  simp +decide only[go_sem,reduceAdd,reduceMul,reduceSub,h13,a0,a1,a3,ta,rf,oto]
theorem c16 : callP (XG GK) TT 16 [schXD, bndXD, .int .i64 1, .slice none 1 [.int .i64 0]] = some (.tuple [.slice none 1 [.int .i64 1], .slice none 8 [colXD 1]]) := callP_at x16
theorem awake14 : callP (XG GK) TT 14 [] = some (.bool true) := by
  have h44 := c44
  have h16 := c16
  obtain ⟨v, h45, hv⟩ := c45
  unfold Six at hv
  refine callP_val T14 rfl rfl ?_
  unfold Tryd.f14
  simp only [Option.getD_some]
  have n6 : (((6 : Nat) : Int) == 6) = true := rfl
  have n1 : (((1 : Nat) : Int) == 1) = true := rfl
  have n2 : ((1 : Int) == 1) = true := rfl
  have at0 : ∀ (a : D) (l : List D), atI (a :: l) 0 = some a := fun _ _ => rfl
  simp only [schXD, tblXD, bndXD, eqXD, colXD, litXD] at h44 h16 h45
  simp +decide only[go_sem,reduceAdd,reduceMul,reduceSub,h44,h16,h45,hv,n6,n1,n2,at0]
  refine gw (an h44 (an h16 (an h45 (an hv (an n6 (an n1 (an n2 at0))))))) ?_
  simp +decide only[go_sem,reduceAdd,reduceMul,reduceSub,h44,h16,h45,hv,n6,n1,n2,at0]
end Go.Eng
