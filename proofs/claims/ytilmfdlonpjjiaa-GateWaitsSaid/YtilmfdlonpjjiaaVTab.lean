/- The table of the program's types, for the engine. -/
import Derived.Test.YtilmfdlonpjjiaaVTree
import Derived.Test.YtilmfdlonpjjiaaRows
import Derived.ProofKit
namespace Go.Proofs.Ytilmfdlonpjjiaa
open Go.RowKit
def Γl : TT := (.node (.node (.node (.node (.node (.node (.node (.node .leaf 1 ⟨.other, 1, 8, [.v .nilFunc]⟩ .leaf) 2 ⟨.int .i64, 1, 8, [.v (.int .i64 0)]⟩ .leaf) 3 ⟨.int .i64, 1, 8, [.v (.int .i64 0)]⟩ (.node .leaf 4 ⟨.bool, 1, 1, [.v (.bool false)]⟩ .leaf)) 5 ⟨.int .u8, 1, 1, [.v (.int .u8 0)]⟩ (.node (.node (.node .leaf 7 ⟨.struct [(0, 2), (1, 3), (2, 4), (3, 6)], 4, 24, [.v (.int .i64 0), .v (.int .i64 0), .v (.bool false), .v (.int .u8 0)]⟩ .leaf) 9 ⟨.str, 1, 16, [.v (.string ByteArray.empty)]⟩ .leaf) 12 ⟨.int .u64, 1, 8, [.v (.int .u64 0)]⟩ (.node .leaf 13 ⟨.struct [(0, 9), (1, 12)], 2, 24, [.v (.string ByteArray.empty), .v (.int .u64 0)]⟩ .leaf))) 21 ⟨.int .i32, 1, 4, [.v (.int .i32 0)]⟩ (.node (.node (.node (.node .leaf 22 ⟨.struct [(0, 3), (1, 3), (2, 3), (3, 9)], 4, 40, [.v (.int .i64 0), .v (.int .i64 0), .v (.int .i64 0), .v (.string ByteArray.empty)]⟩ .leaf) 23 ⟨.struct [(0, 3), (1, 3), (2, 3), (3, 9)], 4, 40, [.v (.int .i64 0), .v (.int .i64 0), .v (.int .i64 0), .v (.string ByteArray.empty)]⟩ .leaf) 24 ⟨.slice 23, 1, 24, [.ds true 0 []]⟩ (.node .leaf 25 ⟨.int .u64, 1, 8, [.v (.int .u64 0)]⟩ .leaf)) 26 ⟨.arr 4 25, 4, 32, [.v (.int .u64 0), .v (.int .u64 0), .v (.int .u64 0), .v (.int .u64 0)]⟩ (.node (.node .leaf 27 ⟨.arr 4 25, 4, 32, [.v (.int .u64 0), .v (.int .u64 0), .v (.int .u64 0), .v (.int .u64 0)]⟩ .leaf) 28 ⟨.arr 32 5, 32, 32, (List.replicate 32 (.v (.int .u8 0)))⟩ (.node .leaf 29 ⟨.slice 5, 1, 24, [.ds true 0 []]⟩ .leaf)))) 30 ⟨.slice 99, 1, 24, [.ds true 0 []]⟩ (.node (.node (.node (.node (.node .leaf 31 ⟨.struct [(0, 3), (1, 27), (5, 27), (9, 28), (41, 3), (42, 28), (74, 3), (75, 3), (76, 9), (77, 29), (78, 3), (79, 30)], 80, 232, [.v (.int .i64 0), .v (.int .u64 0), .v (.int .u64 0), .v (.int .u64 0), .v (.int .u64 0), .v (.int .u64 0), .v (.int .u64 0), .v (.int .u64 0), .v (.int .u64 0), .v (.int .u8 0), .v (.int .u8 0), .v (.int .u8 0), .v (.int .u8 0), .v (.int .u8 0), .v (.int .u8 0), .v (.int .u8 0), .v (.int .u8 0), .v (.int .u8 0), .v (.int .u8 0), .v (.int .u8 0), .v (.int .u8 0), .v (.int .u8 0), .v (.int .u8 0), .v (.int .u8 0), .v (.int .u8 0), .v (.int .u8 0), .v (.int .u8 0), .v (.int .u8 0), .v (.int .u8 0), .v (.int .u8 0), .v (.int .u8 0), .v (.int .u8 0), .v (.int .u8 0), .v (.int .u8 0), .v (.int .u8 0), .v (.int .u8 0), .v (.int .u8 0), .v (.int .u8 0), .v (.int .u8 0), .v (.int .u8 0), .v (.int .u8 0), .v (.int .i64 0), .v (.int .u8 0), .v (.int .u8 0), .v (.int .u8 0), .v (.int .u8 0), .v (.int .u8 0), .v (.int .u8 0), .v (.int .u8 0), .v (.int .u8 0), .v (.int .u8 0), .v (.int .u8 0), .v (.int .u8 0), .v (.int .u8 0), .v (.int .u8 0), .v (.int .u8 0), .v (.int .u8 0), .v (.int .u8 0), .v (.int .u8 0), .v (.int .u8 0), .v (.int .u8 0), .v (.int .u8 0), .v (.int .u8 0), .v (.int .u8 0), .v (.int .u8 0), .v (.int .u8 0), .v (.int .u8 0), .v (.int .u8 0), .v (.int .u8 0), .v (.int .u8 0), .v (.int .u8 0), .v (.int .u8 0), .v (.int .u8 0), .v (.int .u8 0), .v (.int .i64 0), .v (.int .i64 0), .v (.string ByteArray.empty), .ds true 0 [], .v (.int .i64 0), .ds true 0 []]⟩ .leaf) 32 ⟨.struct [(0, 3), (1, 27), (5, 27), (9, 28), (41, 3), (42, 28), (74, 3), (75, 3), (76, 9), (77, 29), (78, 3), (79, 30)], 80, 232, [.v (.int .i64 0), .v (.int .u64 0), .v (.int .u64 0), .v (.int .u64 0), .v (.int .u64 0), .v (.int .u64 0), .v (.int .u64 0), .v (.int .u64 0), .v (.int .u64 0), .v (.int .u8 0), .v (.int .u8 0), .v (.int .u8 0), .v (.int .u8 0), .v (.int .u8 0), .v (.int .u8 0), .v (.int .u8 0), .v (.int .u8 0), .v (.int .u8 0), .v (.int .u8 0), .v (.int .u8 0), .v (.int .u8 0), .v (.int .u8 0), .v (.int .u8 0), .v (.int .u8 0), .v (.int .u8 0), .v (.int .u8 0), .v (.int .u8 0), .v (.int .u8 0), .v (.int .u8 0), .v (.int .u8 0), .v (.int .u8 0), .v (.int .u8 0), .v (.int .u8 0), .v (.int .u8 0), .v (.int .u8 0), .v (.int .u8 0), .v (.int .u8 0), .v (.int .u8 0), .v (.int .u8 0), .v (.int .u8 0), .v (.int .u8 0), .v (.int .i64 0), .v (.int .u8 0), .v (.int .u8 0), .v (.int .u8 0), .v (.int .u8 0), .v (.int .u8 0), .v (.int .u8 0), .v (.int .u8 0), .v (.int .u8 0), .v (.int .u8 0), .v (.int .u8 0), .v (.int .u8 0), .v (.int .u8 0), .v (.int .u8 0), .v (.int .u8 0), .v (.int .u8 0), .v (.int .u8 0), .v (.int .u8 0), .v (.int .u8 0), .v (.int .u8 0), .v (.int .u8 0), .v (.int .u8 0), .v (.int .u8 0), .v (.int .u8 0), .v (.int .u8 0), .v (.int .u8 0), .v (.int .u8 0), .v (.int .u8 0), .v (.int .u8 0), .v (.int .u8 0), .v (.int .u8 0), .v (.int .u8 0), .v (.int .u8 0), .v (.int .i64 0), .v (.int .i64 0), .v (.string ByteArray.empty), .ds true 0 [], .v (.int .i64 0), .ds true 0 []]⟩ .leaf) 33 ⟨.other, 1, 8, [.v .nilFunc]⟩ (.node .leaf 34 ⟨.int .i64, 1, 8, [.v (.int .i64 0)]⟩ .leaf)) 36 ⟨.other, 1, 8, [.v .nilFunc]⟩ (.node (.node (.node .leaf 38 ⟨.other, 1, 8, [.v .nilFunc]⟩ .leaf) 39 ⟨.other, 1, 8, [.v .nilFunc]⟩ .leaf) 40 ⟨.other, 1, 8, [.v .nilFunc]⟩ (.node .leaf 41 ⟨.other, 1, 8, [.v .nilFunc]⟩ .leaf))) 42 ⟨.other, 1, 8, [.v .nilFunc]⟩ (.node (.node (.node (.node .leaf 43 ⟨.other, 1, 8, [.v .nilFunc]⟩ .leaf) 44 ⟨.arr 3 3, 3, 24, [.v (.int .i64 0), .v (.int .i64 0), .v (.int .i64 0)]⟩ .leaf) 45 ⟨.slice 63, 1, 24, [.ds true 0 []]⟩ (.node .leaf 46 ⟨.struct [(0, 44), (3, 44), (6, 3), (7, 45), (8, 45)], 9, 104, [.v (.int .i64 0), .v (.int .i64 0), .v (.int .i64 0), .v (.int .i64 0), .v (.int .i64 0), .v (.int .i64 0), .v (.int .i64 0), .ds true 0 [], .ds true 0 []]⟩ .leaf)) 47 ⟨.struct [(0, 44), (3, 44), (6, 3), (7, 45), (8, 45)], 9, 104, [.v (.int .i64 0), .v (.int .i64 0), .v (.int .i64 0), .v (.int .i64 0), .v (.int .i64 0), .v (.int .i64 0), .v (.int .i64 0), .ds true 0 [], .ds true 0 []]⟩ (.node (.node .leaf 48 ⟨.other, 1, 8, [.v .nilFunc]⟩ .leaf) 49 ⟨.slice 53, 1, 24, [.ds true 0 []]⟩ (.node .leaf 51 ⟨.other, 1, 8, [.v .nilFunc]⟩ .leaf))))) 52 ⟨.struct [(0, 3), (1, 3), (2, 3), (3, 3), (4, 4)], 5, 40, [.v (.int .i64 0), .v (.int .i64 0), .v (.int .i64 0), .v (.int .i64 0), .v (.bool false)]⟩ (.node (.node (.node (.node (.node (.node .leaf 53 ⟨.struct [(0, 3), (1, 3), (2, 3), (3, 3), (4, 4)], 5, 40, [.v (.int .i64 0), .v (.int .i64 0), .v (.int .i64 0), .v (.int .i64 0), .v (.bool false)]⟩ .leaf) 54 ⟨.other, 1, 8, [.v .nilFunc]⟩ .leaf) 55 ⟨.other, 1, 8, [.v .nilFunc]⟩ (.node .leaf 56 ⟨.other, 1, 8, [.v .nilFunc]⟩ .leaf)) 57 ⟨.slice 3, 1, 24, [.ds true 0 []]⟩ (.node (.node (.node .leaf 59 ⟨.other, 1, 8, [.v .nilFunc]⟩ .leaf) 60 ⟨.other, 1, 8, [.v (.map none)]⟩ .leaf) 61 ⟨.other, 1, 8, [.v .nilFunc]⟩ (.node .leaf 62 ⟨.struct [(0, 3), (1, 3), (2, 3), (3, 3)], 4, 32, [.v (.int .i64 0), .v (.int .i64 0), .v (.int .i64 0), .v (.int .i64 0)]⟩ .leaf))) 63 ⟨.struct [(0, 3), (1, 3), (2, 3), (3, 3)], 4, 32, [.v (.int .i64 0), .v (.int .i64 0), .v (.int .i64 0), .v (.int .i64 0)]⟩ (.node (.node (.node (.node .leaf 65 ⟨.other, 1, 8, [.v .nilFunc]⟩ .leaf) 66 ⟨.other, 1, 8, [.v .nilFunc]⟩ .leaf) 67 ⟨.struct [(0, 29), (1, 29)], 2, 48, [.ds true 0 [], .ds true 0 []]⟩ (.node .leaf 68 ⟨.struct [(0, 29), (1, 29)], 2, 48, [.ds true 0 [], .ds true 0 []]⟩ .leaf)) 69 ⟨.slice 80, 1, 24, [.ds true 0 []]⟩ (.node (.node .leaf 70 ⟨.struct [(0, 27), (4, 47), (13, 47), (22, 68), (24, 69), (25, 69)], 26, 336, [.v (.int .u64 0), .v (.int .u64 0), .v (.int .u64 0), .v (.int .u64 0), .v (.int .i64 0), .v (.int .i64 0), .v (.int .i64 0), .v (.int .i64 0), .v (.int .i64 0), .v (.int .i64 0), .v (.int .i64 0), .ds true 0 [], .ds true 0 [], .v (.int .i64 0), .v (.int .i64 0), .v (.int .i64 0), .v (.int .i64 0), .v (.int .i64 0), .v (.int .i64 0), .v (.int .i64 0), .ds true 0 [], .ds true 0 [], .ds true 0 [], .ds true 0 [], .ds true 0 [], .ds true 0 []]⟩ .leaf) 71 ⟨.struct [(0, 27), (4, 47), (13, 47), (22, 68), (24, 69), (25, 69)], 26, 336, [.v (.int .u64 0), .v (.int .u64 0), .v (.int .u64 0), .v (.int .u64 0), .v (.int .i64 0), .v (.int .i64 0), .v (.int .i64 0), .v (.int .i64 0), .v (.int .i64 0), .v (.int .i64 0), .v (.int .i64 0), .ds true 0 [], .ds true 0 [], .v (.int .i64 0), .v (.int .i64 0), .v (.int .i64 0), .v (.int .i64 0), .v (.int .i64 0), .v (.int .i64 0), .v (.int .i64 0), .ds true 0 [], .ds true 0 [], .ds true 0 [], .ds true 0 [], .ds true 0 [], .ds true 0 []]⟩ (.node .leaf 73 ⟨.other, 1, 8, [.v .nilFunc]⟩ .leaf)))) 75 ⟨.other, 1, 8, [.v .nilFunc]⟩ (.node (.node (.node (.node (.node .leaf 76 ⟨.other, 1, 8, [.v .nilFunc]⟩ .leaf) 77 ⟨.other, 1, 8, [.v .nilFunc]⟩ .leaf) 78 ⟨.other, 1, 8, [.v .nilFunc]⟩ (.node .leaf 79 ⟨.struct [(0, 3), (1, 3), (2, 3), (3, 28), (35, 3), (36, 3), (37, 29)], 38, 96, [.v (.int .i64 0), .v (.int .i64 0), .v (.int .i64 0), .v (.int .u8 0), .v (.int .u8 0), .v (.int .u8 0), .v (.int .u8 0), .v (.int .u8 0), .v (.int .u8 0), .v (.int .u8 0), .v (.int .u8 0), .v (.int .u8 0), .v (.int .u8 0), .v (.int .u8 0), .v (.int .u8 0), .v (.int .u8 0), .v (.int .u8 0), .v (.int .u8 0), .v (.int .u8 0), .v (.int .u8 0), .v (.int .u8 0), .v (.int .u8 0), .v (.int .u8 0), .v (.int .u8 0), .v (.int .u8 0), .v (.int .u8 0), .v (.int .u8 0), .v (.int .u8 0), .v (.int .u8 0), .v (.int .u8 0), .v (.int .u8 0), .v (.int .u8 0), .v (.int .u8 0), .v (.int .u8 0), .v (.int .u8 0), .v (.int .i64 0), .v (.int .i64 0), .ds true 0 []]⟩ .leaf)) 80 ⟨.struct [(0, 3), (1, 3), (2, 3), (3, 28), (35, 3), (36, 3), (37, 29)], 38, 96, [.v (.int .i64 0), .v (.int .i64 0), .v (.int .i64 0), .v (.int .u8 0), .v (.int .u8 0), .v (.int .u8 0), .v (.int .u8 0), .v (.int .u8 0), .v (.int .u8 0), .v (.int .u8 0), .v (.int .u8 0), .v (.int .u8 0), .v (.int .u8 0), .v (.int .u8 0), .v (.int .u8 0), .v (.int .u8 0), .v (.int .u8 0), .v (.int .u8 0), .v (.int .u8 0), .v (.int .u8 0), .v (.int .u8 0), .v (.int .u8 0), .v (.int .u8 0), .v (.int .u8 0), .v (.int .u8 0), .v (.int .u8 0), .v (.int .u8 0), .v (.int .u8 0), .v (.int .u8 0), .v (.int .u8 0), .v (.int .u8 0), .v (.int .u8 0), .v (.int .u8 0), .v (.int .u8 0), .v (.int .u8 0), .v (.int .i64 0), .v (.int .i64 0), .ds true 0 []]⟩ (.node (.node .leaf 81 ⟨.other, 1, 8, [.v .nilFunc]⟩ .leaf) 83 ⟨.other, 1, 8, [.v .nilFunc]⟩ (.node .leaf 84 ⟨.other, 1, 8, [.v .nilFunc]⟩ .leaf))) 85 ⟨.other, 1, 8, [.v .nilFunc]⟩ (.node (.node (.node (.node .leaf 86 ⟨.other, 1, 8, [.v .nilFunc]⟩ .leaf) 87 ⟨.other, 1, 8, [.v .nilFunc]⟩ .leaf) 88 ⟨.other, 1, 8, [.v .nilFunc]⟩ (.node .leaf 89 ⟨.other, 1, 8, [.v .nilFunc]⟩ .leaf)) 90 ⟨.other, 1, 8, [.v .nilFunc]⟩ (.node (.node .leaf 94 ⟨.other, 1, 8, [.v .nilFunc]⟩ .leaf) 95 ⟨.other, 1, 8, [.v .nilFunc]⟩ (.node .leaf 96 ⟨.other, 1, 8, [.v .nilFunc]⟩ .leaf)))))) 97 ⟨.other, 1, 8, [.v .nilFunc]⟩ (.node (.node (.node (.node (.node (.node (.node .leaf 98 ⟨.arr 20 5, 20, 20, (List.replicate 20 (.v (.int .u8 0)))⟩ .leaf) 99 ⟨.arr 20 5, 20, 20, (List.replicate 20 (.v (.int .u8 0)))⟩ .leaf) 100 ⟨.other, 1, 8, [.v (.map none)]⟩ (.node .leaf 102 ⟨.other, 1, 8, [.v .nilFunc]⟩ .leaf)) 103 ⟨.other, 1, 8, [.v .nilFunc]⟩ (.node (.node (.node .leaf 104 ⟨.arr 2 45, 2, 48, [.ds true 0 [], .ds true 0 []]⟩ .leaf) 105 ⟨.other, 1, 8, [.v .nilFunc]⟩ .leaf) 106 ⟨.other, 1, 8, [.v .nilFunc]⟩ (.node .leaf 107 ⟨.other, 1, 8, [.v .nilFunc]⟩ .leaf))) 108 ⟨.other, 1, 8, [.v .nilFunc]⟩ (.node (.node (.node (.node .leaf 109 ⟨.other, 1, 8, [.v .nilFunc]⟩ .leaf) 111 ⟨.other, 1, 8, [.v .nilFunc]⟩ .leaf) 112 ⟨.slice 29, 1, 24, [.ds true 0 []]⟩ (.node .leaf 114 ⟨.other, 1, 8, [.v .nilFunc]⟩ .leaf)) 115 ⟨.int .u64, 1, 8, [.v (.int .u64 0)]⟩ (.node (.node .leaf 116 ⟨.slice 148, 1, 24, [.ds true 0 []]⟩ .leaf) 117 ⟨.struct [(0, 3), (1, 116), (2, 80)], 40, 128, [.v (.int .i64 0), .ds true 0 [], .v (.int .i64 0), .v (.int .i64 0), .v (.int .i64 0), .v (.int .u8 0), .v (.int .u8 0), .v (.int .u8 0), .v (.int .u8 0), .v (.int .u8 0), .v (.int .u8 0), .v (.int .u8 0), .v (.int .u8 0), .v (.int .u8 0), .v (.int .u8 0), .v (.int .u8 0), .v (.int .u8 0), .v (.int .u8 0), .v (.int .u8 0), .v (.int .u8 0), .v (.int .u8 0), .v (.int .u8 0), .v (.int .u8 0), .v (.int .u8 0), .v (.int .u8 0), .v (.int .u8 0), .v (.int .u8 0), .v (.int .u8 0), .v (.int .u8 0), .v (.int .u8 0), .v (.int .u8 0), .v (.int .u8 0), .v (.int .u8 0), .v (.int .u8 0), .v (.int .u8 0), .v (.int .u8 0), .v (.int .u8 0), .v (.int .i64 0), .v (.int .i64 0), .ds true 0 []]⟩ (.node .leaf 118 ⟨.struct [(0, 3), (1, 116), (2, 80)], 40, 128, [.v (.int .i64 0), .ds true 0 [], .v (.int .i64 0), .v (.int .i64 0), .v (.int .i64 0), .v (.int .u8 0), .v (.int .u8 0), .v (.int .u8 0), .v (.int .u8 0), .v (.int .u8 0), .v (.int .u8 0), .v (.int .u8 0), .v (.int .u8 0), .v (.int .u8 0), .v (.int .u8 0), .v (.int .u8 0), .v (.int .u8 0), .v (.int .u8 0), .v (.int .u8 0), .v (.int .u8 0), .v (.int .u8 0), .v (.int .u8 0), .v (.int .u8 0), .v (.int .u8 0), .v (.int .u8 0), .v (.int .u8 0), .v (.int .u8 0), .v (.int .u8 0), .v (.int .u8 0), .v (.int .u8 0), .v (.int .u8 0), .v (.int .u8 0), .v (.int .u8 0), .v (.int .u8 0), .v (.int .u8 0), .v (.int .u8 0), .v (.int .u8 0), .v (.int .i64 0), .v (.int .i64 0), .ds true 0 []]⟩ .leaf)))) 120 ⟨.other, 1, 8, [.v .nilFunc]⟩ (.node (.node (.node (.node (.node .leaf 121 ⟨.other, 1, 8, [.v .nilFunc]⟩ .leaf) 122 ⟨.other, 1, 8, [.v .nilFunc]⟩ .leaf) 123 ⟨.other, 1, 8, [.v .nilFunc]⟩ (.node .leaf 124 ⟨.other, 1, 8, [.v .nilFunc]⟩ .leaf)) 125 ⟨.other, 1, 8, [.v .nilFunc]⟩ (.node (.node (.node .leaf 126 ⟨.other, 1, 8, [.v .nilFunc]⟩ .leaf) 127 ⟨.other, 1, 8, [.v .nilFunc]⟩ .leaf) 128 ⟨.other, 1, 8, [.v .nilFunc]⟩ (.node .leaf 129 ⟨.other, 1, 8, [.v .nilFunc]⟩ .leaf))) 130 ⟨.other, 1, 8, [.v .nilFunc]⟩ (.node (.node (.node (.node .leaf 131 ⟨.struct [(0, 4)], 1, 1, [.v (.bool false)]⟩ .leaf) 132 ⟨.struct [(0, 4)], 1, 1, [.v (.bool false)]⟩ .leaf) 133 ⟨.struct [], 0, 0, []⟩ (.node .leaf 134 ⟨.struct [], 0, 0, []⟩ .leaf)) 135 ⟨.struct [], 0, 0, []⟩ (.node (.node .leaf 136 ⟨.other, 1, 8, [.v .nilFunc]⟩ .leaf) 137 ⟨.other, 1, 8, [.v .nilFunc]⟩ (.node .leaf 138 ⟨.other, 1, 8, [.v .nilFunc]⟩ .leaf))))) 139 ⟨.other, 1, 8, [.v .nilFunc]⟩ (.node (.node (.node (.node (.node (.node .leaf 140 ⟨.other, 1, 8, [.v .nilFunc]⟩ .leaf) 141 ⟨.ptr, 1, 8, [.v (.pointer none)]⟩ .leaf) 142 ⟨.struct [(0, 29), (1, 4)], 2, 32, [.ds true 0 [], .v (.bool false)]⟩ (.node .leaf 143 ⟨.struct [(0, 29), (1, 4)], 2, 32, [.ds true 0 [], .v (.bool false)]⟩ .leaf)) 144 ⟨.other, 1, 8, [.v .nilFunc]⟩ (.node (.node (.node .leaf 145 ⟨.struct [(0, 27), (4, 27), (8, 3)], 9, 72, [.v (.int .u64 0), .v (.int .u64 0), .v (.int .u64 0), .v (.int .u64 0), .v (.int .u64 0), .v (.int .u64 0), .v (.int .u64 0), .v (.int .u64 0), .v (.int .i64 0)]⟩ .leaf) 146 ⟨.struct [(0, 27), (4, 27), (8, 3)], 9, 72, [.v (.int .u64 0), .v (.int .u64 0), .v (.int .u64 0), .v (.int .u64 0), .v (.int .u64 0), .v (.int .u64 0), .v (.int .u64 0), .v (.int .u64 0), .v (.int .i64 0)]⟩ .leaf) 147 ⟨.struct [(0, 3), (1, 146)], 10, 80, [.v (.int .i64 0), .v (.int .u64 0), .v (.int .u64 0), .v (.int .u64 0), .v (.int .u64 0), .v (.int .u64 0), .v (.int .u64 0), .v (.int .u64 0), .v (.int .u64 0), .v (.int .i64 0)]⟩ (.node .leaf 148 ⟨.struct [(0, 3), (1, 146)], 10, 80, [.v (.int .i64 0), .v (.int .u64 0), .v (.int .u64 0), .v (.int .u64 0), .v (.int .u64 0), .v (.int .u64 0), .v (.int .u64 0), .v (.int .u64 0), .v (.int .u64 0), .v (.int .i64 0)]⟩ .leaf))) 149 ⟨.other, 1, 8, [.v .nilFunc]⟩ (.node (.node (.node (.node .leaf 150 ⟨.other, 1, 8, [.v .nilFunc]⟩ .leaf) 151 ⟨.other, 1, 8, [.v .nilFunc]⟩ .leaf) 152 ⟨.other, 1, 8, [.v .nilFunc]⟩ (.node .leaf 153 ⟨.arr 2 69, 2, 48, [.ds true 0 [], .ds true 0 []]⟩ .leaf)) 154 ⟨.other, 1, 8, [.v .nilFunc]⟩ (.node (.node .leaf 155 ⟨.other, 1, 8, [.v .nilFunc]⟩ .leaf) 156 ⟨.other, 1, 8, [.v .nilFunc]⟩ (.node .leaf 157 ⟨.ptr, 1, 8, [.v (.pointer none)]⟩ .leaf)))) 158 ⟨.struct [(0, 29)], 1, 24, [.ds true 0 []]⟩ (.node (.node (.node (.node (.node .leaf 159 ⟨.struct [(0, 29)], 1, 24, [.ds true 0 []]⟩ .leaf) 160 ⟨.other, 1, 8, [.v .nilFunc]⟩ .leaf) 161 ⟨.other, 1, 8, [.v .nilFunc]⟩ (.node .leaf 162 ⟨.other, 1, 8, [.v .nilFunc]⟩ .leaf)) 163 ⟨.other, 1, 8, [.v .nilFunc]⟩ (.node (.node .leaf 164 ⟨.other, 1, 8, [.v .nilFunc]⟩ .leaf) 165 ⟨.struct [(0, 17), (1, 17), (2, 17), (3, 9)], 4, 40, [.v (.pointer none), .v (.pointer none), .v (.pointer none), .v (.string ByteArray.empty)]⟩ (.node .leaf 167 ⟨.arr 0 16, 0, 0, []⟩ .leaf))) 168 ⟨.struct [(0, 167)], 0, 0, []⟩ (.node (.node (.node (.node .leaf 170 ⟨.other, 1, 8, [.v .nilFunc]⟩ .leaf) 171 ⟨.int .u32, 1, 4, [.v (.int .u32 0)]⟩ .leaf) 174 ⟨.other, 1, 8, [.v .nilFunc]⟩ (.node .leaf 175 ⟨.ptr, 1, 8, [.v (.pointer none)]⟩ .leaf)) 178 ⟨.struct [(0, 12), (1, 12), (2, 171), (3, 172), (4, 5), (5, 5), (6, 173), (7, 174), (8, 175), (9, 176), (10, 177)], 11, 48, [.v (.int .u64 0), .v (.int .u64 0), .v (.int .u32 0), .v (.int .u8 0), .v (.int .u8 0), .v (.int .u8 0), .v (.int .u8 0), .v .nilFunc, .v (.pointer none), .v (.int .i32 0), .v (.int .i32 0)]⟩ (.node (.node .leaf 180 ⟨.other, 1, 8, [.v .nilFunc]⟩ .leaf) 181 ⟨.other, 1, 8, [.v .nilFunc]⟩ (.node .leaf 182 ⟨.other, 1, 8, [.v .nilFunc]⟩ .leaf)))))))
noncomputable def Γ : Tab := Γl.get
theorem Γ1 : Γ 1 = some ⟨.other, 1, 8, [.v .nilFunc]⟩ := rfl
theorem td1 : tdOf Γ 1 = some (.other) := rfl
theorem Γ2 : Γ 2 = some ⟨.int .i64, 1, 8, [.v (.int .i64 0)]⟩ := rfl
theorem td2 : tdOf Γ 2 = some (.int .i64) := rfl
theorem Γ3 : Γ 3 = some ⟨.int .i64, 1, 8, [.v (.int .i64 0)]⟩ := rfl
theorem td3 : tdOf Γ 3 = some (.int .i64) := rfl
theorem Γ4 : Γ 4 = some ⟨.bool, 1, 1, [.v (.bool false)]⟩ := rfl
theorem td4 : tdOf Γ 4 = some (.bool) := rfl
theorem Γ5 : Γ 5 = some ⟨.int .u8, 1, 1, [.v (.int .u8 0)]⟩ := rfl
theorem td5 : tdOf Γ 5 = some (.int .u8) := rfl
theorem Γ7 : Γ 7 = some ⟨.struct [(0, 2), (1, 3), (2, 4), (3, 6)], 4, 24, [.v (.int .i64 0), .v (.int .i64 0), .v (.bool false), .v (.int .u8 0)]⟩ := rfl
theorem td7 : tdOf Γ 7 = some (.struct [(0, 2), (1, 3), (2, 4), (3, 6)]) := rfl
theorem fo7_0 : fieldOff Γ 7 0 = some (0, 2) := rfl
theorem fo7_1 : fieldOff Γ 7 1 = some (1, 3) := rfl
theorem fo7_2 : fieldOff Γ 7 2 = some (2, 4) := rfl
theorem fo7_3 : fieldOff Γ 7 3 = some (3, 6) := rfl
theorem Γ9 : Γ 9 = some ⟨.str, 1, 16, [.v (.string ByteArray.empty)]⟩ := rfl
theorem td9 : tdOf Γ 9 = some (.str) := rfl
theorem Γ12 : Γ 12 = some ⟨.int .u64, 1, 8, [.v (.int .u64 0)]⟩ := rfl
theorem td12 : tdOf Γ 12 = some (.int .u64) := rfl
theorem Γ13 : Γ 13 = some ⟨.struct [(0, 9), (1, 12)], 2, 24, [.v (.string ByteArray.empty), .v (.int .u64 0)]⟩ := rfl
theorem td13 : tdOf Γ 13 = some (.struct [(0, 9), (1, 12)]) := rfl
theorem fo13_0 : fieldOff Γ 13 0 = some (0, 9) := rfl
theorem fo13_1 : fieldOff Γ 13 1 = some (1, 12) := rfl
theorem Γ21 : Γ 21 = some ⟨.int .i32, 1, 4, [.v (.int .i32 0)]⟩ := rfl
theorem td21 : tdOf Γ 21 = some (.int .i32) := rfl
theorem Γ22 : Γ 22 = some ⟨.struct [(0, 3), (1, 3), (2, 3), (3, 9)], 4, 40, [.v (.int .i64 0), .v (.int .i64 0), .v (.int .i64 0), .v (.string ByteArray.empty)]⟩ := rfl
theorem td22 : tdOf Γ 22 = some (.struct [(0, 3), (1, 3), (2, 3), (3, 9)]) := rfl
theorem fo22_0 : fieldOff Γ 22 0 = some (0, 3) := rfl
theorem fo22_1 : fieldOff Γ 22 1 = some (1, 3) := rfl
theorem fo22_2 : fieldOff Γ 22 2 = some (2, 3) := rfl
theorem fo22_3 : fieldOff Γ 22 3 = some (3, 9) := rfl
theorem Γ23 : Γ 23 = some ⟨.struct [(0, 3), (1, 3), (2, 3), (3, 9)], 4, 40, [.v (.int .i64 0), .v (.int .i64 0), .v (.int .i64 0), .v (.string ByteArray.empty)]⟩ := rfl
theorem td23 : tdOf Γ 23 = some (.struct [(0, 3), (1, 3), (2, 3), (3, 9)]) := rfl
theorem fo23_0 : fieldOff Γ 23 0 = some (0, 3) := rfl
theorem fo23_1 : fieldOff Γ 23 1 = some (1, 3) := rfl
theorem fo23_2 : fieldOff Γ 23 2 = some (2, 3) := rfl
theorem fo23_3 : fieldOff Γ 23 3 = some (3, 9) := rfl
theorem Γ24 : Γ 24 = some ⟨.slice 23, 1, 24, [.ds true 0 []]⟩ := rfl
theorem td24 : tdOf Γ 24 = some (.slice 23) := rfl
theorem sl24 : sliceOf Γ 24 = some (23, ⟨.struct [(0, 3), (1, 3), (2, 3), (3, 9)], 4, 40, [.v (.int .i64 0), .v (.int .i64 0), .v (.int .i64 0), .v (.string ByteArray.empty)]⟩) := rfl
theorem Γ25 : Γ 25 = some ⟨.int .u64, 1, 8, [.v (.int .u64 0)]⟩ := rfl
theorem td25 : tdOf Γ 25 = some (.int .u64) := rfl
theorem Γ26 : Γ 26 = some ⟨.arr 4 25, 4, 32, [.v (.int .u64 0), .v (.int .u64 0), .v (.int .u64 0), .v (.int .u64 0)]⟩ := rfl
theorem td26 : tdOf Γ 26 = some (.arr 4 25) := rfl
theorem ar26 : arrOf Γ 26 = some (4, 25, 1) := rfl
theorem Γ27 : Γ 27 = some ⟨.arr 4 25, 4, 32, [.v (.int .u64 0), .v (.int .u64 0), .v (.int .u64 0), .v (.int .u64 0)]⟩ := rfl
theorem td27 : tdOf Γ 27 = some (.arr 4 25) := rfl
theorem ar27 : arrOf Γ 27 = some (4, 25, 1) := rfl
theorem Γ28 : Γ 28 = some ⟨.arr 32 5, 32, 32, (List.replicate 32 (.v (.int .u8 0)))⟩ := rfl
theorem td28 : tdOf Γ 28 = some (.arr 32 5) := rfl
theorem ar28 : arrOf Γ 28 = some (32, 5, 1) := rfl
theorem Γ29 : Γ 29 = some ⟨.slice 5, 1, 24, [.ds true 0 []]⟩ := rfl
theorem td29 : tdOf Γ 29 = some (.slice 5) := rfl
theorem sl29 : sliceOf Γ 29 = some (5, ⟨.int .u8, 1, 1, [.v (.int .u8 0)]⟩) := rfl
theorem Γ30 : Γ 30 = some ⟨.slice 99, 1, 24, [.ds true 0 []]⟩ := rfl
theorem td30 : tdOf Γ 30 = some (.slice 99) := rfl
theorem sl30 : sliceOf Γ 30 = some (99, ⟨.arr 20 5, 20, 20, (List.replicate 20 (.v (.int .u8 0)))⟩) := rfl
theorem Γ31 : Γ 31 = some ⟨.struct [(0, 3), (1, 27), (5, 27), (9, 28), (41, 3), (42, 28), (74, 3), (75, 3), (76, 9), (77, 29), (78, 3), (79, 30)], 80, 232, [.v (.int .i64 0), .v (.int .u64 0), .v (.int .u64 0), .v (.int .u64 0), .v (.int .u64 0), .v (.int .u64 0), .v (.int .u64 0), .v (.int .u64 0), .v (.int .u64 0), .v (.int .u8 0), .v (.int .u8 0), .v (.int .u8 0), .v (.int .u8 0), .v (.int .u8 0), .v (.int .u8 0), .v (.int .u8 0), .v (.int .u8 0), .v (.int .u8 0), .v (.int .u8 0), .v (.int .u8 0), .v (.int .u8 0), .v (.int .u8 0), .v (.int .u8 0), .v (.int .u8 0), .v (.int .u8 0), .v (.int .u8 0), .v (.int .u8 0), .v (.int .u8 0), .v (.int .u8 0), .v (.int .u8 0), .v (.int .u8 0), .v (.int .u8 0), .v (.int .u8 0), .v (.int .u8 0), .v (.int .u8 0), .v (.int .u8 0), .v (.int .u8 0), .v (.int .u8 0), .v (.int .u8 0), .v (.int .u8 0), .v (.int .u8 0), .v (.int .i64 0), .v (.int .u8 0), .v (.int .u8 0), .v (.int .u8 0), .v (.int .u8 0), .v (.int .u8 0), .v (.int .u8 0), .v (.int .u8 0), .v (.int .u8 0), .v (.int .u8 0), .v (.int .u8 0), .v (.int .u8 0), .v (.int .u8 0), .v (.int .u8 0), .v (.int .u8 0), .v (.int .u8 0), .v (.int .u8 0), .v (.int .u8 0), .v (.int .u8 0), .v (.int .u8 0), .v (.int .u8 0), .v (.int .u8 0), .v (.int .u8 0), .v (.int .u8 0), .v (.int .u8 0), .v (.int .u8 0), .v (.int .u8 0), .v (.int .u8 0), .v (.int .u8 0), .v (.int .u8 0), .v (.int .u8 0), .v (.int .u8 0), .v (.int .u8 0), .v (.int .i64 0), .v (.int .i64 0), .v (.string ByteArray.empty), .ds true 0 [], .v (.int .i64 0), .ds true 0 []]⟩ := rfl
theorem td31 : tdOf Γ 31 = some (.struct [(0, 3), (1, 27), (5, 27), (9, 28), (41, 3), (42, 28), (74, 3), (75, 3), (76, 9), (77, 29), (78, 3), (79, 30)]) := rfl
theorem fo31_0 : fieldOff Γ 31 0 = some (0, 3) := rfl
theorem fo31_1 : fieldOff Γ 31 1 = some (1, 27) := rfl
theorem fo31_2 : fieldOff Γ 31 2 = some (5, 27) := rfl
theorem fo31_3 : fieldOff Γ 31 3 = some (9, 28) := rfl
theorem fo31_4 : fieldOff Γ 31 4 = some (41, 3) := rfl
theorem fo31_5 : fieldOff Γ 31 5 = some (42, 28) := rfl
theorem fo31_6 : fieldOff Γ 31 6 = some (74, 3) := rfl
theorem fo31_7 : fieldOff Γ 31 7 = some (75, 3) := rfl
theorem fo31_8 : fieldOff Γ 31 8 = some (76, 9) := rfl
theorem fo31_9 : fieldOff Γ 31 9 = some (77, 29) := rfl
theorem fo31_10 : fieldOff Γ 31 10 = some (78, 3) := rfl
theorem fo31_11 : fieldOff Γ 31 11 = some (79, 30) := rfl
theorem Γ32 : Γ 32 = some ⟨.struct [(0, 3), (1, 27), (5, 27), (9, 28), (41, 3), (42, 28), (74, 3), (75, 3), (76, 9), (77, 29), (78, 3), (79, 30)], 80, 232, [.v (.int .i64 0), .v (.int .u64 0), .v (.int .u64 0), .v (.int .u64 0), .v (.int .u64 0), .v (.int .u64 0), .v (.int .u64 0), .v (.int .u64 0), .v (.int .u64 0), .v (.int .u8 0), .v (.int .u8 0), .v (.int .u8 0), .v (.int .u8 0), .v (.int .u8 0), .v (.int .u8 0), .v (.int .u8 0), .v (.int .u8 0), .v (.int .u8 0), .v (.int .u8 0), .v (.int .u8 0), .v (.int .u8 0), .v (.int .u8 0), .v (.int .u8 0), .v (.int .u8 0), .v (.int .u8 0), .v (.int .u8 0), .v (.int .u8 0), .v (.int .u8 0), .v (.int .u8 0), .v (.int .u8 0), .v (.int .u8 0), .v (.int .u8 0), .v (.int .u8 0), .v (.int .u8 0), .v (.int .u8 0), .v (.int .u8 0), .v (.int .u8 0), .v (.int .u8 0), .v (.int .u8 0), .v (.int .u8 0), .v (.int .u8 0), .v (.int .i64 0), .v (.int .u8 0), .v (.int .u8 0), .v (.int .u8 0), .v (.int .u8 0), .v (.int .u8 0), .v (.int .u8 0), .v (.int .u8 0), .v (.int .u8 0), .v (.int .u8 0), .v (.int .u8 0), .v (.int .u8 0), .v (.int .u8 0), .v (.int .u8 0), .v (.int .u8 0), .v (.int .u8 0), .v (.int .u8 0), .v (.int .u8 0), .v (.int .u8 0), .v (.int .u8 0), .v (.int .u8 0), .v (.int .u8 0), .v (.int .u8 0), .v (.int .u8 0), .v (.int .u8 0), .v (.int .u8 0), .v (.int .u8 0), .v (.int .u8 0), .v (.int .u8 0), .v (.int .u8 0), .v (.int .u8 0), .v (.int .u8 0), .v (.int .u8 0), .v (.int .i64 0), .v (.int .i64 0), .v (.string ByteArray.empty), .ds true 0 [], .v (.int .i64 0), .ds true 0 []]⟩ := rfl
theorem td32 : tdOf Γ 32 = some (.struct [(0, 3), (1, 27), (5, 27), (9, 28), (41, 3), (42, 28), (74, 3), (75, 3), (76, 9), (77, 29), (78, 3), (79, 30)]) := rfl
theorem fo32_0 : fieldOff Γ 32 0 = some (0, 3) := rfl
theorem fo32_1 : fieldOff Γ 32 1 = some (1, 27) := rfl
theorem fo32_2 : fieldOff Γ 32 2 = some (5, 27) := rfl
theorem fo32_3 : fieldOff Γ 32 3 = some (9, 28) := rfl
theorem fo32_4 : fieldOff Γ 32 4 = some (41, 3) := rfl
theorem fo32_5 : fieldOff Γ 32 5 = some (42, 28) := rfl
theorem fo32_6 : fieldOff Γ 32 6 = some (74, 3) := rfl
theorem fo32_7 : fieldOff Γ 32 7 = some (75, 3) := rfl
theorem fo32_8 : fieldOff Γ 32 8 = some (76, 9) := rfl
theorem fo32_9 : fieldOff Γ 32 9 = some (77, 29) := rfl
theorem fo32_10 : fieldOff Γ 32 10 = some (78, 3) := rfl
theorem fo32_11 : fieldOff Γ 32 11 = some (79, 30) := rfl
theorem Γ33 : Γ 33 = some ⟨.other, 1, 8, [.v .nilFunc]⟩ := rfl
theorem td33 : tdOf Γ 33 = some (.other) := rfl
theorem Γ34 : Γ 34 = some ⟨.int .i64, 1, 8, [.v (.int .i64 0)]⟩ := rfl
theorem td34 : tdOf Γ 34 = some (.int .i64) := rfl
theorem Γ36 : Γ 36 = some ⟨.other, 1, 8, [.v .nilFunc]⟩ := rfl
theorem td36 : tdOf Γ 36 = some (.other) := rfl
theorem Γ38 : Γ 38 = some ⟨.other, 1, 8, [.v .nilFunc]⟩ := rfl
theorem td38 : tdOf Γ 38 = some (.other) := rfl
theorem Γ39 : Γ 39 = some ⟨.other, 1, 8, [.v .nilFunc]⟩ := rfl
theorem td39 : tdOf Γ 39 = some (.other) := rfl
theorem Γ40 : Γ 40 = some ⟨.other, 1, 8, [.v .nilFunc]⟩ := rfl
theorem td40 : tdOf Γ 40 = some (.other) := rfl
theorem Γ41 : Γ 41 = some ⟨.other, 1, 8, [.v .nilFunc]⟩ := rfl
theorem td41 : tdOf Γ 41 = some (.other) := rfl
theorem Γ42 : Γ 42 = some ⟨.other, 1, 8, [.v .nilFunc]⟩ := rfl
theorem td42 : tdOf Γ 42 = some (.other) := rfl
theorem Γ43 : Γ 43 = some ⟨.other, 1, 8, [.v .nilFunc]⟩ := rfl
theorem td43 : tdOf Γ 43 = some (.other) := rfl
theorem Γ44 : Γ 44 = some ⟨.arr 3 3, 3, 24, [.v (.int .i64 0), .v (.int .i64 0), .v (.int .i64 0)]⟩ := rfl
theorem td44 : tdOf Γ 44 = some (.arr 3 3) := rfl
theorem ar44 : arrOf Γ 44 = some (3, 3, 1) := rfl
theorem Γ45 : Γ 45 = some ⟨.slice 63, 1, 24, [.ds true 0 []]⟩ := rfl
theorem td45 : tdOf Γ 45 = some (.slice 63) := rfl
theorem sl45 : sliceOf Γ 45 = some (63, ⟨.struct [(0, 3), (1, 3), (2, 3), (3, 3)], 4, 32, [.v (.int .i64 0), .v (.int .i64 0), .v (.int .i64 0), .v (.int .i64 0)]⟩) := rfl
theorem Γ46 : Γ 46 = some ⟨.struct [(0, 44), (3, 44), (6, 3), (7, 45), (8, 45)], 9, 104, [.v (.int .i64 0), .v (.int .i64 0), .v (.int .i64 0), .v (.int .i64 0), .v (.int .i64 0), .v (.int .i64 0), .v (.int .i64 0), .ds true 0 [], .ds true 0 []]⟩ := rfl
theorem td46 : tdOf Γ 46 = some (.struct [(0, 44), (3, 44), (6, 3), (7, 45), (8, 45)]) := rfl
theorem fo46_0 : fieldOff Γ 46 0 = some (0, 44) := rfl
theorem fo46_1 : fieldOff Γ 46 1 = some (3, 44) := rfl
theorem fo46_2 : fieldOff Γ 46 2 = some (6, 3) := rfl
theorem fo46_3 : fieldOff Γ 46 3 = some (7, 45) := rfl
theorem fo46_4 : fieldOff Γ 46 4 = some (8, 45) := rfl
theorem Γ47 : Γ 47 = some ⟨.struct [(0, 44), (3, 44), (6, 3), (7, 45), (8, 45)], 9, 104, [.v (.int .i64 0), .v (.int .i64 0), .v (.int .i64 0), .v (.int .i64 0), .v (.int .i64 0), .v (.int .i64 0), .v (.int .i64 0), .ds true 0 [], .ds true 0 []]⟩ := rfl
theorem td47 : tdOf Γ 47 = some (.struct [(0, 44), (3, 44), (6, 3), (7, 45), (8, 45)]) := rfl
theorem fo47_0 : fieldOff Γ 47 0 = some (0, 44) := rfl
theorem fo47_1 : fieldOff Γ 47 1 = some (3, 44) := rfl
theorem fo47_2 : fieldOff Γ 47 2 = some (6, 3) := rfl
theorem fo47_3 : fieldOff Γ 47 3 = some (7, 45) := rfl
theorem fo47_4 : fieldOff Γ 47 4 = some (8, 45) := rfl
theorem Γ48 : Γ 48 = some ⟨.other, 1, 8, [.v .nilFunc]⟩ := rfl
theorem td48 : tdOf Γ 48 = some (.other) := rfl
theorem Γ49 : Γ 49 = some ⟨.slice 53, 1, 24, [.ds true 0 []]⟩ := rfl
theorem td49 : tdOf Γ 49 = some (.slice 53) := rfl
theorem sl49 : sliceOf Γ 49 = some (53, ⟨.struct [(0, 3), (1, 3), (2, 3), (3, 3), (4, 4)], 5, 40, [.v (.int .i64 0), .v (.int .i64 0), .v (.int .i64 0), .v (.int .i64 0), .v (.bool false)]⟩) := rfl
theorem Γ51 : Γ 51 = some ⟨.other, 1, 8, [.v .nilFunc]⟩ := rfl
theorem td51 : tdOf Γ 51 = some (.other) := rfl
theorem Γ52 : Γ 52 = some ⟨.struct [(0, 3), (1, 3), (2, 3), (3, 3), (4, 4)], 5, 40, [.v (.int .i64 0), .v (.int .i64 0), .v (.int .i64 0), .v (.int .i64 0), .v (.bool false)]⟩ := rfl
theorem td52 : tdOf Γ 52 = some (.struct [(0, 3), (1, 3), (2, 3), (3, 3), (4, 4)]) := rfl
theorem fo52_0 : fieldOff Γ 52 0 = some (0, 3) := rfl
theorem fo52_1 : fieldOff Γ 52 1 = some (1, 3) := rfl
theorem fo52_2 : fieldOff Γ 52 2 = some (2, 3) := rfl
theorem fo52_3 : fieldOff Γ 52 3 = some (3, 3) := rfl
theorem fo52_4 : fieldOff Γ 52 4 = some (4, 4) := rfl
theorem Γ53 : Γ 53 = some ⟨.struct [(0, 3), (1, 3), (2, 3), (3, 3), (4, 4)], 5, 40, [.v (.int .i64 0), .v (.int .i64 0), .v (.int .i64 0), .v (.int .i64 0), .v (.bool false)]⟩ := rfl
theorem td53 : tdOf Γ 53 = some (.struct [(0, 3), (1, 3), (2, 3), (3, 3), (4, 4)]) := rfl
theorem fo53_0 : fieldOff Γ 53 0 = some (0, 3) := rfl
theorem fo53_1 : fieldOff Γ 53 1 = some (1, 3) := rfl
theorem fo53_2 : fieldOff Γ 53 2 = some (2, 3) := rfl
theorem fo53_3 : fieldOff Γ 53 3 = some (3, 3) := rfl
theorem fo53_4 : fieldOff Γ 53 4 = some (4, 4) := rfl
theorem Γ54 : Γ 54 = some ⟨.other, 1, 8, [.v .nilFunc]⟩ := rfl
theorem td54 : tdOf Γ 54 = some (.other) := rfl
theorem Γ55 : Γ 55 = some ⟨.other, 1, 8, [.v .nilFunc]⟩ := rfl
theorem td55 : tdOf Γ 55 = some (.other) := rfl
theorem Γ56 : Γ 56 = some ⟨.other, 1, 8, [.v .nilFunc]⟩ := rfl
theorem td56 : tdOf Γ 56 = some (.other) := rfl
theorem Γ57 : Γ 57 = some ⟨.slice 3, 1, 24, [.ds true 0 []]⟩ := rfl
theorem td57 : tdOf Γ 57 = some (.slice 3) := rfl
theorem sl57 : sliceOf Γ 57 = some (3, ⟨.int .i64, 1, 8, [.v (.int .i64 0)]⟩) := rfl
theorem Γ59 : Γ 59 = some ⟨.other, 1, 8, [.v .nilFunc]⟩ := rfl
theorem td59 : tdOf Γ 59 = some (.other) := rfl
theorem Γ60 : Γ 60 = some ⟨.other, 1, 8, [.v (.map none)]⟩ := rfl
theorem td60 : tdOf Γ 60 = some (.other) := rfl
theorem Γ61 : Γ 61 = some ⟨.other, 1, 8, [.v .nilFunc]⟩ := rfl
theorem td61 : tdOf Γ 61 = some (.other) := rfl
theorem Γ62 : Γ 62 = some ⟨.struct [(0, 3), (1, 3), (2, 3), (3, 3)], 4, 32, [.v (.int .i64 0), .v (.int .i64 0), .v (.int .i64 0), .v (.int .i64 0)]⟩ := rfl
theorem td62 : tdOf Γ 62 = some (.struct [(0, 3), (1, 3), (2, 3), (3, 3)]) := rfl
theorem fo62_0 : fieldOff Γ 62 0 = some (0, 3) := rfl
theorem fo62_1 : fieldOff Γ 62 1 = some (1, 3) := rfl
theorem fo62_2 : fieldOff Γ 62 2 = some (2, 3) := rfl
theorem fo62_3 : fieldOff Γ 62 3 = some (3, 3) := rfl
theorem Γ63 : Γ 63 = some ⟨.struct [(0, 3), (1, 3), (2, 3), (3, 3)], 4, 32, [.v (.int .i64 0), .v (.int .i64 0), .v (.int .i64 0), .v (.int .i64 0)]⟩ := rfl
theorem td63 : tdOf Γ 63 = some (.struct [(0, 3), (1, 3), (2, 3), (3, 3)]) := rfl
theorem fo63_0 : fieldOff Γ 63 0 = some (0, 3) := rfl
theorem fo63_1 : fieldOff Γ 63 1 = some (1, 3) := rfl
theorem fo63_2 : fieldOff Γ 63 2 = some (2, 3) := rfl
theorem fo63_3 : fieldOff Γ 63 3 = some (3, 3) := rfl
theorem Γ65 : Γ 65 = some ⟨.other, 1, 8, [.v .nilFunc]⟩ := rfl
theorem td65 : tdOf Γ 65 = some (.other) := rfl
theorem Γ66 : Γ 66 = some ⟨.other, 1, 8, [.v .nilFunc]⟩ := rfl
theorem td66 : tdOf Γ 66 = some (.other) := rfl
theorem Γ67 : Γ 67 = some ⟨.struct [(0, 29), (1, 29)], 2, 48, [.ds true 0 [], .ds true 0 []]⟩ := rfl
theorem td67 : tdOf Γ 67 = some (.struct [(0, 29), (1, 29)]) := rfl
theorem fo67_0 : fieldOff Γ 67 0 = some (0, 29) := rfl
theorem fo67_1 : fieldOff Γ 67 1 = some (1, 29) := rfl
theorem Γ68 : Γ 68 = some ⟨.struct [(0, 29), (1, 29)], 2, 48, [.ds true 0 [], .ds true 0 []]⟩ := rfl
theorem td68 : tdOf Γ 68 = some (.struct [(0, 29), (1, 29)]) := rfl
theorem fo68_0 : fieldOff Γ 68 0 = some (0, 29) := rfl
theorem fo68_1 : fieldOff Γ 68 1 = some (1, 29) := rfl
theorem Γ69 : Γ 69 = some ⟨.slice 80, 1, 24, [.ds true 0 []]⟩ := rfl
theorem td69 : tdOf Γ 69 = some (.slice 80) := rfl
theorem sl69 : sliceOf Γ 69 = some (80, ⟨.struct [(0, 3), (1, 3), (2, 3), (3, 28), (35, 3), (36, 3), (37, 29)], 38, 96, [.v (.int .i64 0), .v (.int .i64 0), .v (.int .i64 0), .v (.int .u8 0), .v (.int .u8 0), .v (.int .u8 0), .v (.int .u8 0), .v (.int .u8 0), .v (.int .u8 0), .v (.int .u8 0), .v (.int .u8 0), .v (.int .u8 0), .v (.int .u8 0), .v (.int .u8 0), .v (.int .u8 0), .v (.int .u8 0), .v (.int .u8 0), .v (.int .u8 0), .v (.int .u8 0), .v (.int .u8 0), .v (.int .u8 0), .v (.int .u8 0), .v (.int .u8 0), .v (.int .u8 0), .v (.int .u8 0), .v (.int .u8 0), .v (.int .u8 0), .v (.int .u8 0), .v (.int .u8 0), .v (.int .u8 0), .v (.int .u8 0), .v (.int .u8 0), .v (.int .u8 0), .v (.int .u8 0), .v (.int .u8 0), .v (.int .i64 0), .v (.int .i64 0), .ds true 0 []]⟩) := rfl
theorem Γ70 : Γ 70 = some ⟨.struct [(0, 27), (4, 47), (13, 47), (22, 68), (24, 69), (25, 69)], 26, 336, [.v (.int .u64 0), .v (.int .u64 0), .v (.int .u64 0), .v (.int .u64 0), .v (.int .i64 0), .v (.int .i64 0), .v (.int .i64 0), .v (.int .i64 0), .v (.int .i64 0), .v (.int .i64 0), .v (.int .i64 0), .ds true 0 [], .ds true 0 [], .v (.int .i64 0), .v (.int .i64 0), .v (.int .i64 0), .v (.int .i64 0), .v (.int .i64 0), .v (.int .i64 0), .v (.int .i64 0), .ds true 0 [], .ds true 0 [], .ds true 0 [], .ds true 0 [], .ds true 0 [], .ds true 0 []]⟩ := rfl
theorem td70 : tdOf Γ 70 = some (.struct [(0, 27), (4, 47), (13, 47), (22, 68), (24, 69), (25, 69)]) := rfl
theorem fo70_0 : fieldOff Γ 70 0 = some (0, 27) := rfl
theorem fo70_1 : fieldOff Γ 70 1 = some (4, 47) := rfl
theorem fo70_2 : fieldOff Γ 70 2 = some (13, 47) := rfl
theorem fo70_3 : fieldOff Γ 70 3 = some (22, 68) := rfl
theorem fo70_4 : fieldOff Γ 70 4 = some (24, 69) := rfl
theorem fo70_5 : fieldOff Γ 70 5 = some (25, 69) := rfl
theorem Γ71 : Γ 71 = some ⟨.struct [(0, 27), (4, 47), (13, 47), (22, 68), (24, 69), (25, 69)], 26, 336, [.v (.int .u64 0), .v (.int .u64 0), .v (.int .u64 0), .v (.int .u64 0), .v (.int .i64 0), .v (.int .i64 0), .v (.int .i64 0), .v (.int .i64 0), .v (.int .i64 0), .v (.int .i64 0), .v (.int .i64 0), .ds true 0 [], .ds true 0 [], .v (.int .i64 0), .v (.int .i64 0), .v (.int .i64 0), .v (.int .i64 0), .v (.int .i64 0), .v (.int .i64 0), .v (.int .i64 0), .ds true 0 [], .ds true 0 [], .ds true 0 [], .ds true 0 [], .ds true 0 [], .ds true 0 []]⟩ := rfl
theorem td71 : tdOf Γ 71 = some (.struct [(0, 27), (4, 47), (13, 47), (22, 68), (24, 69), (25, 69)]) := rfl
theorem fo71_0 : fieldOff Γ 71 0 = some (0, 27) := rfl
theorem fo71_1 : fieldOff Γ 71 1 = some (4, 47) := rfl
theorem fo71_2 : fieldOff Γ 71 2 = some (13, 47) := rfl
theorem fo71_3 : fieldOff Γ 71 3 = some (22, 68) := rfl
theorem fo71_4 : fieldOff Γ 71 4 = some (24, 69) := rfl
theorem fo71_5 : fieldOff Γ 71 5 = some (25, 69) := rfl
theorem Γ73 : Γ 73 = some ⟨.other, 1, 8, [.v .nilFunc]⟩ := rfl
theorem td73 : tdOf Γ 73 = some (.other) := rfl
theorem Γ75 : Γ 75 = some ⟨.other, 1, 8, [.v .nilFunc]⟩ := rfl
theorem td75 : tdOf Γ 75 = some (.other) := rfl
theorem Γ76 : Γ 76 = some ⟨.other, 1, 8, [.v .nilFunc]⟩ := rfl
theorem td76 : tdOf Γ 76 = some (.other) := rfl
theorem Γ77 : Γ 77 = some ⟨.other, 1, 8, [.v .nilFunc]⟩ := rfl
theorem td77 : tdOf Γ 77 = some (.other) := rfl
theorem Γ78 : Γ 78 = some ⟨.other, 1, 8, [.v .nilFunc]⟩ := rfl
theorem td78 : tdOf Γ 78 = some (.other) := rfl
theorem Γ79 : Γ 79 = some ⟨.struct [(0, 3), (1, 3), (2, 3), (3, 28), (35, 3), (36, 3), (37, 29)], 38, 96, [.v (.int .i64 0), .v (.int .i64 0), .v (.int .i64 0), .v (.int .u8 0), .v (.int .u8 0), .v (.int .u8 0), .v (.int .u8 0), .v (.int .u8 0), .v (.int .u8 0), .v (.int .u8 0), .v (.int .u8 0), .v (.int .u8 0), .v (.int .u8 0), .v (.int .u8 0), .v (.int .u8 0), .v (.int .u8 0), .v (.int .u8 0), .v (.int .u8 0), .v (.int .u8 0), .v (.int .u8 0), .v (.int .u8 0), .v (.int .u8 0), .v (.int .u8 0), .v (.int .u8 0), .v (.int .u8 0), .v (.int .u8 0), .v (.int .u8 0), .v (.int .u8 0), .v (.int .u8 0), .v (.int .u8 0), .v (.int .u8 0), .v (.int .u8 0), .v (.int .u8 0), .v (.int .u8 0), .v (.int .u8 0), .v (.int .i64 0), .v (.int .i64 0), .ds true 0 []]⟩ := rfl
theorem td79 : tdOf Γ 79 = some (.struct [(0, 3), (1, 3), (2, 3), (3, 28), (35, 3), (36, 3), (37, 29)]) := rfl
theorem fo79_0 : fieldOff Γ 79 0 = some (0, 3) := rfl
theorem fo79_1 : fieldOff Γ 79 1 = some (1, 3) := rfl
theorem fo79_2 : fieldOff Γ 79 2 = some (2, 3) := rfl
theorem fo79_3 : fieldOff Γ 79 3 = some (3, 28) := rfl
theorem fo79_4 : fieldOff Γ 79 4 = some (35, 3) := rfl
theorem fo79_5 : fieldOff Γ 79 5 = some (36, 3) := rfl
theorem fo79_6 : fieldOff Γ 79 6 = some (37, 29) := rfl
theorem Γ80 : Γ 80 = some ⟨.struct [(0, 3), (1, 3), (2, 3), (3, 28), (35, 3), (36, 3), (37, 29)], 38, 96, [.v (.int .i64 0), .v (.int .i64 0), .v (.int .i64 0), .v (.int .u8 0), .v (.int .u8 0), .v (.int .u8 0), .v (.int .u8 0), .v (.int .u8 0), .v (.int .u8 0), .v (.int .u8 0), .v (.int .u8 0), .v (.int .u8 0), .v (.int .u8 0), .v (.int .u8 0), .v (.int .u8 0), .v (.int .u8 0), .v (.int .u8 0), .v (.int .u8 0), .v (.int .u8 0), .v (.int .u8 0), .v (.int .u8 0), .v (.int .u8 0), .v (.int .u8 0), .v (.int .u8 0), .v (.int .u8 0), .v (.int .u8 0), .v (.int .u8 0), .v (.int .u8 0), .v (.int .u8 0), .v (.int .u8 0), .v (.int .u8 0), .v (.int .u8 0), .v (.int .u8 0), .v (.int .u8 0), .v (.int .u8 0), .v (.int .i64 0), .v (.int .i64 0), .ds true 0 []]⟩ := rfl
theorem td80 : tdOf Γ 80 = some (.struct [(0, 3), (1, 3), (2, 3), (3, 28), (35, 3), (36, 3), (37, 29)]) := rfl
theorem fo80_0 : fieldOff Γ 80 0 = some (0, 3) := rfl
theorem fo80_1 : fieldOff Γ 80 1 = some (1, 3) := rfl
theorem fo80_2 : fieldOff Γ 80 2 = some (2, 3) := rfl
theorem fo80_3 : fieldOff Γ 80 3 = some (3, 28) := rfl
theorem fo80_4 : fieldOff Γ 80 4 = some (35, 3) := rfl
theorem fo80_5 : fieldOff Γ 80 5 = some (36, 3) := rfl
theorem fo80_6 : fieldOff Γ 80 6 = some (37, 29) := rfl
theorem Γ81 : Γ 81 = some ⟨.other, 1, 8, [.v .nilFunc]⟩ := rfl
theorem td81 : tdOf Γ 81 = some (.other) := rfl
theorem Γ83 : Γ 83 = some ⟨.other, 1, 8, [.v .nilFunc]⟩ := rfl
theorem td83 : tdOf Γ 83 = some (.other) := rfl
theorem Γ84 : Γ 84 = some ⟨.other, 1, 8, [.v .nilFunc]⟩ := rfl
theorem td84 : tdOf Γ 84 = some (.other) := rfl
theorem Γ85 : Γ 85 = some ⟨.other, 1, 8, [.v .nilFunc]⟩ := rfl
theorem td85 : tdOf Γ 85 = some (.other) := rfl
theorem Γ86 : Γ 86 = some ⟨.other, 1, 8, [.v .nilFunc]⟩ := rfl
theorem td86 : tdOf Γ 86 = some (.other) := rfl
theorem Γ87 : Γ 87 = some ⟨.other, 1, 8, [.v .nilFunc]⟩ := rfl
theorem td87 : tdOf Γ 87 = some (.other) := rfl
theorem Γ88 : Γ 88 = some ⟨.other, 1, 8, [.v .nilFunc]⟩ := rfl
theorem td88 : tdOf Γ 88 = some (.other) := rfl
theorem Γ89 : Γ 89 = some ⟨.other, 1, 8, [.v .nilFunc]⟩ := rfl
theorem td89 : tdOf Γ 89 = some (.other) := rfl
theorem Γ90 : Γ 90 = some ⟨.other, 1, 8, [.v .nilFunc]⟩ := rfl
theorem td90 : tdOf Γ 90 = some (.other) := rfl
theorem Γ94 : Γ 94 = some ⟨.other, 1, 8, [.v .nilFunc]⟩ := rfl
theorem td94 : tdOf Γ 94 = some (.other) := rfl
theorem Γ95 : Γ 95 = some ⟨.other, 1, 8, [.v .nilFunc]⟩ := rfl
theorem td95 : tdOf Γ 95 = some (.other) := rfl
theorem Γ96 : Γ 96 = some ⟨.other, 1, 8, [.v .nilFunc]⟩ := rfl
theorem td96 : tdOf Γ 96 = some (.other) := rfl
theorem Γ97 : Γ 97 = some ⟨.other, 1, 8, [.v .nilFunc]⟩ := rfl
theorem td97 : tdOf Γ 97 = some (.other) := rfl
theorem Γ98 : Γ 98 = some ⟨.arr 20 5, 20, 20, (List.replicate 20 (.v (.int .u8 0)))⟩ := rfl
theorem td98 : tdOf Γ 98 = some (.arr 20 5) := rfl
theorem ar98 : arrOf Γ 98 = some (20, 5, 1) := rfl
theorem Γ99 : Γ 99 = some ⟨.arr 20 5, 20, 20, (List.replicate 20 (.v (.int .u8 0)))⟩ := rfl
theorem td99 : tdOf Γ 99 = some (.arr 20 5) := rfl
theorem ar99 : arrOf Γ 99 = some (20, 5, 1) := rfl
theorem Γ100 : Γ 100 = some ⟨.other, 1, 8, [.v (.map none)]⟩ := rfl
theorem td100 : tdOf Γ 100 = some (.other) := rfl
theorem Γ102 : Γ 102 = some ⟨.other, 1, 8, [.v .nilFunc]⟩ := rfl
theorem td102 : tdOf Γ 102 = some (.other) := rfl
theorem Γ103 : Γ 103 = some ⟨.other, 1, 8, [.v .nilFunc]⟩ := rfl
theorem td103 : tdOf Γ 103 = some (.other) := rfl
theorem Γ104 : Γ 104 = some ⟨.arr 2 45, 2, 48, [.ds true 0 [], .ds true 0 []]⟩ := rfl
theorem td104 : tdOf Γ 104 = some (.arr 2 45) := rfl
theorem ar104 : arrOf Γ 104 = some (2, 45, 1) := rfl
theorem Γ105 : Γ 105 = some ⟨.other, 1, 8, [.v .nilFunc]⟩ := rfl
theorem td105 : tdOf Γ 105 = some (.other) := rfl
theorem Γ106 : Γ 106 = some ⟨.other, 1, 8, [.v .nilFunc]⟩ := rfl
theorem td106 : tdOf Γ 106 = some (.other) := rfl
theorem Γ107 : Γ 107 = some ⟨.other, 1, 8, [.v .nilFunc]⟩ := rfl
theorem td107 : tdOf Γ 107 = some (.other) := rfl
theorem Γ108 : Γ 108 = some ⟨.other, 1, 8, [.v .nilFunc]⟩ := rfl
theorem td108 : tdOf Γ 108 = some (.other) := rfl
theorem Γ109 : Γ 109 = some ⟨.other, 1, 8, [.v .nilFunc]⟩ := rfl
theorem td109 : tdOf Γ 109 = some (.other) := rfl
theorem Γ111 : Γ 111 = some ⟨.other, 1, 8, [.v .nilFunc]⟩ := rfl
theorem td111 : tdOf Γ 111 = some (.other) := rfl
theorem Γ112 : Γ 112 = some ⟨.slice 29, 1, 24, [.ds true 0 []]⟩ := rfl
theorem td112 : tdOf Γ 112 = some (.slice 29) := rfl
theorem sl112 : sliceOf Γ 112 = some (29, ⟨.slice 5, 1, 24, [.ds true 0 []]⟩) := rfl
theorem Γ114 : Γ 114 = some ⟨.other, 1, 8, [.v .nilFunc]⟩ := rfl
theorem td114 : tdOf Γ 114 = some (.other) := rfl
theorem Γ115 : Γ 115 = some ⟨.int .u64, 1, 8, [.v (.int .u64 0)]⟩ := rfl
theorem td115 : tdOf Γ 115 = some (.int .u64) := rfl
theorem Γ116 : Γ 116 = some ⟨.slice 148, 1, 24, [.ds true 0 []]⟩ := rfl
theorem td116 : tdOf Γ 116 = some (.slice 148) := rfl
theorem sl116 : sliceOf Γ 116 = some (148, ⟨.struct [(0, 3), (1, 146)], 10, 80, [.v (.int .i64 0), .v (.int .u64 0), .v (.int .u64 0), .v (.int .u64 0), .v (.int .u64 0), .v (.int .u64 0), .v (.int .u64 0), .v (.int .u64 0), .v (.int .u64 0), .v (.int .i64 0)]⟩) := rfl
theorem Γ117 : Γ 117 = some ⟨.struct [(0, 3), (1, 116), (2, 80)], 40, 128, [.v (.int .i64 0), .ds true 0 [], .v (.int .i64 0), .v (.int .i64 0), .v (.int .i64 0), .v (.int .u8 0), .v (.int .u8 0), .v (.int .u8 0), .v (.int .u8 0), .v (.int .u8 0), .v (.int .u8 0), .v (.int .u8 0), .v (.int .u8 0), .v (.int .u8 0), .v (.int .u8 0), .v (.int .u8 0), .v (.int .u8 0), .v (.int .u8 0), .v (.int .u8 0), .v (.int .u8 0), .v (.int .u8 0), .v (.int .u8 0), .v (.int .u8 0), .v (.int .u8 0), .v (.int .u8 0), .v (.int .u8 0), .v (.int .u8 0), .v (.int .u8 0), .v (.int .u8 0), .v (.int .u8 0), .v (.int .u8 0), .v (.int .u8 0), .v (.int .u8 0), .v (.int .u8 0), .v (.int .u8 0), .v (.int .u8 0), .v (.int .u8 0), .v (.int .i64 0), .v (.int .i64 0), .ds true 0 []]⟩ := rfl
theorem td117 : tdOf Γ 117 = some (.struct [(0, 3), (1, 116), (2, 80)]) := rfl
theorem fo117_0 : fieldOff Γ 117 0 = some (0, 3) := rfl
theorem fo117_1 : fieldOff Γ 117 1 = some (1, 116) := rfl
theorem fo117_2 : fieldOff Γ 117 2 = some (2, 80) := rfl
theorem Γ118 : Γ 118 = some ⟨.struct [(0, 3), (1, 116), (2, 80)], 40, 128, [.v (.int .i64 0), .ds true 0 [], .v (.int .i64 0), .v (.int .i64 0), .v (.int .i64 0), .v (.int .u8 0), .v (.int .u8 0), .v (.int .u8 0), .v (.int .u8 0), .v (.int .u8 0), .v (.int .u8 0), .v (.int .u8 0), .v (.int .u8 0), .v (.int .u8 0), .v (.int .u8 0), .v (.int .u8 0), .v (.int .u8 0), .v (.int .u8 0), .v (.int .u8 0), .v (.int .u8 0), .v (.int .u8 0), .v (.int .u8 0), .v (.int .u8 0), .v (.int .u8 0), .v (.int .u8 0), .v (.int .u8 0), .v (.int .u8 0), .v (.int .u8 0), .v (.int .u8 0), .v (.int .u8 0), .v (.int .u8 0), .v (.int .u8 0), .v (.int .u8 0), .v (.int .u8 0), .v (.int .u8 0), .v (.int .u8 0), .v (.int .u8 0), .v (.int .i64 0), .v (.int .i64 0), .ds true 0 []]⟩ := rfl
theorem td118 : tdOf Γ 118 = some (.struct [(0, 3), (1, 116), (2, 80)]) := rfl
theorem fo118_0 : fieldOff Γ 118 0 = some (0, 3) := rfl
theorem fo118_1 : fieldOff Γ 118 1 = some (1, 116) := rfl
theorem fo118_2 : fieldOff Γ 118 2 = some (2, 80) := rfl
theorem Γ120 : Γ 120 = some ⟨.other, 1, 8, [.v .nilFunc]⟩ := rfl
theorem td120 : tdOf Γ 120 = some (.other) := rfl
theorem Γ121 : Γ 121 = some ⟨.other, 1, 8, [.v .nilFunc]⟩ := rfl
theorem td121 : tdOf Γ 121 = some (.other) := rfl
theorem Γ122 : Γ 122 = some ⟨.other, 1, 8, [.v .nilFunc]⟩ := rfl
theorem td122 : tdOf Γ 122 = some (.other) := rfl
theorem Γ123 : Γ 123 = some ⟨.other, 1, 8, [.v .nilFunc]⟩ := rfl
theorem td123 : tdOf Γ 123 = some (.other) := rfl
theorem Γ124 : Γ 124 = some ⟨.other, 1, 8, [.v .nilFunc]⟩ := rfl
theorem td124 : tdOf Γ 124 = some (.other) := rfl
theorem Γ125 : Γ 125 = some ⟨.other, 1, 8, [.v .nilFunc]⟩ := rfl
theorem td125 : tdOf Γ 125 = some (.other) := rfl
theorem Γ126 : Γ 126 = some ⟨.other, 1, 8, [.v .nilFunc]⟩ := rfl
theorem td126 : tdOf Γ 126 = some (.other) := rfl
theorem Γ127 : Γ 127 = some ⟨.other, 1, 8, [.v .nilFunc]⟩ := rfl
theorem td127 : tdOf Γ 127 = some (.other) := rfl
theorem Γ128 : Γ 128 = some ⟨.other, 1, 8, [.v .nilFunc]⟩ := rfl
theorem td128 : tdOf Γ 128 = some (.other) := rfl
theorem Γ129 : Γ 129 = some ⟨.other, 1, 8, [.v .nilFunc]⟩ := rfl
theorem td129 : tdOf Γ 129 = some (.other) := rfl
theorem Γ130 : Γ 130 = some ⟨.other, 1, 8, [.v .nilFunc]⟩ := rfl
theorem td130 : tdOf Γ 130 = some (.other) := rfl
theorem Γ131 : Γ 131 = some ⟨.struct [(0, 4)], 1, 1, [.v (.bool false)]⟩ := rfl
theorem td131 : tdOf Γ 131 = some (.struct [(0, 4)]) := rfl
theorem fo131_0 : fieldOff Γ 131 0 = some (0, 4) := rfl
theorem Γ132 : Γ 132 = some ⟨.struct [(0, 4)], 1, 1, [.v (.bool false)]⟩ := rfl
theorem td132 : tdOf Γ 132 = some (.struct [(0, 4)]) := rfl
theorem fo132_0 : fieldOff Γ 132 0 = some (0, 4) := rfl
theorem Γ133 : Γ 133 = some ⟨.struct [], 0, 0, []⟩ := rfl
theorem td133 : tdOf Γ 133 = some (.struct []) := rfl
theorem Γ134 : Γ 134 = some ⟨.struct [], 0, 0, []⟩ := rfl
theorem td134 : tdOf Γ 134 = some (.struct []) := rfl
theorem Γ135 : Γ 135 = some ⟨.struct [], 0, 0, []⟩ := rfl
theorem td135 : tdOf Γ 135 = some (.struct []) := rfl
theorem Γ136 : Γ 136 = some ⟨.other, 1, 8, [.v .nilFunc]⟩ := rfl
theorem td136 : tdOf Γ 136 = some (.other) := rfl
theorem Γ137 : Γ 137 = some ⟨.other, 1, 8, [.v .nilFunc]⟩ := rfl
theorem td137 : tdOf Γ 137 = some (.other) := rfl
theorem Γ138 : Γ 138 = some ⟨.other, 1, 8, [.v .nilFunc]⟩ := rfl
theorem td138 : tdOf Γ 138 = some (.other) := rfl
theorem Γ139 : Γ 139 = some ⟨.other, 1, 8, [.v .nilFunc]⟩ := rfl
theorem td139 : tdOf Γ 139 = some (.other) := rfl
theorem Γ140 : Γ 140 = some ⟨.other, 1, 8, [.v .nilFunc]⟩ := rfl
theorem td140 : tdOf Γ 140 = some (.other) := rfl
theorem Γ141 : Γ 141 = some ⟨.ptr, 1, 8, [.v (.pointer none)]⟩ := rfl
theorem td141 : tdOf Γ 141 = some (.ptr) := rfl
theorem Γ142 : Γ 142 = some ⟨.struct [(0, 29), (1, 4)], 2, 32, [.ds true 0 [], .v (.bool false)]⟩ := rfl
theorem td142 : tdOf Γ 142 = some (.struct [(0, 29), (1, 4)]) := rfl
theorem fo142_0 : fieldOff Γ 142 0 = some (0, 29) := rfl
theorem fo142_1 : fieldOff Γ 142 1 = some (1, 4) := rfl
theorem Γ143 : Γ 143 = some ⟨.struct [(0, 29), (1, 4)], 2, 32, [.ds true 0 [], .v (.bool false)]⟩ := rfl
theorem td143 : tdOf Γ 143 = some (.struct [(0, 29), (1, 4)]) := rfl
theorem fo143_0 : fieldOff Γ 143 0 = some (0, 29) := rfl
theorem fo143_1 : fieldOff Γ 143 1 = some (1, 4) := rfl
theorem Γ144 : Γ 144 = some ⟨.other, 1, 8, [.v .nilFunc]⟩ := rfl
theorem td144 : tdOf Γ 144 = some (.other) := rfl
theorem Γ145 : Γ 145 = some ⟨.struct [(0, 27), (4, 27), (8, 3)], 9, 72, [.v (.int .u64 0), .v (.int .u64 0), .v (.int .u64 0), .v (.int .u64 0), .v (.int .u64 0), .v (.int .u64 0), .v (.int .u64 0), .v (.int .u64 0), .v (.int .i64 0)]⟩ := rfl
theorem td145 : tdOf Γ 145 = some (.struct [(0, 27), (4, 27), (8, 3)]) := rfl
theorem fo145_0 : fieldOff Γ 145 0 = some (0, 27) := rfl
theorem fo145_1 : fieldOff Γ 145 1 = some (4, 27) := rfl
theorem fo145_2 : fieldOff Γ 145 2 = some (8, 3) := rfl
theorem Γ146 : Γ 146 = some ⟨.struct [(0, 27), (4, 27), (8, 3)], 9, 72, [.v (.int .u64 0), .v (.int .u64 0), .v (.int .u64 0), .v (.int .u64 0), .v (.int .u64 0), .v (.int .u64 0), .v (.int .u64 0), .v (.int .u64 0), .v (.int .i64 0)]⟩ := rfl
theorem td146 : tdOf Γ 146 = some (.struct [(0, 27), (4, 27), (8, 3)]) := rfl
theorem fo146_0 : fieldOff Γ 146 0 = some (0, 27) := rfl
theorem fo146_1 : fieldOff Γ 146 1 = some (4, 27) := rfl
theorem fo146_2 : fieldOff Γ 146 2 = some (8, 3) := rfl
theorem Γ147 : Γ 147 = some ⟨.struct [(0, 3), (1, 146)], 10, 80, [.v (.int .i64 0), .v (.int .u64 0), .v (.int .u64 0), .v (.int .u64 0), .v (.int .u64 0), .v (.int .u64 0), .v (.int .u64 0), .v (.int .u64 0), .v (.int .u64 0), .v (.int .i64 0)]⟩ := rfl
theorem td147 : tdOf Γ 147 = some (.struct [(0, 3), (1, 146)]) := rfl
theorem fo147_0 : fieldOff Γ 147 0 = some (0, 3) := rfl
theorem fo147_1 : fieldOff Γ 147 1 = some (1, 146) := rfl
theorem Γ148 : Γ 148 = some ⟨.struct [(0, 3), (1, 146)], 10, 80, [.v (.int .i64 0), .v (.int .u64 0), .v (.int .u64 0), .v (.int .u64 0), .v (.int .u64 0), .v (.int .u64 0), .v (.int .u64 0), .v (.int .u64 0), .v (.int .u64 0), .v (.int .i64 0)]⟩ := rfl
theorem td148 : tdOf Γ 148 = some (.struct [(0, 3), (1, 146)]) := rfl
theorem fo148_0 : fieldOff Γ 148 0 = some (0, 3) := rfl
theorem fo148_1 : fieldOff Γ 148 1 = some (1, 146) := rfl
theorem Γ149 : Γ 149 = some ⟨.other, 1, 8, [.v .nilFunc]⟩ := rfl
theorem td149 : tdOf Γ 149 = some (.other) := rfl
theorem Γ150 : Γ 150 = some ⟨.other, 1, 8, [.v .nilFunc]⟩ := rfl
theorem td150 : tdOf Γ 150 = some (.other) := rfl
theorem Γ151 : Γ 151 = some ⟨.other, 1, 8, [.v .nilFunc]⟩ := rfl
theorem td151 : tdOf Γ 151 = some (.other) := rfl
theorem Γ152 : Γ 152 = some ⟨.other, 1, 8, [.v .nilFunc]⟩ := rfl
theorem td152 : tdOf Γ 152 = some (.other) := rfl
theorem Γ153 : Γ 153 = some ⟨.arr 2 69, 2, 48, [.ds true 0 [], .ds true 0 []]⟩ := rfl
theorem td153 : tdOf Γ 153 = some (.arr 2 69) := rfl
theorem ar153 : arrOf Γ 153 = some (2, 69, 1) := rfl
theorem Γ154 : Γ 154 = some ⟨.other, 1, 8, [.v .nilFunc]⟩ := rfl
theorem td154 : tdOf Γ 154 = some (.other) := rfl
theorem Γ155 : Γ 155 = some ⟨.other, 1, 8, [.v .nilFunc]⟩ := rfl
theorem td155 : tdOf Γ 155 = some (.other) := rfl
theorem Γ156 : Γ 156 = some ⟨.other, 1, 8, [.v .nilFunc]⟩ := rfl
theorem td156 : tdOf Γ 156 = some (.other) := rfl
theorem Γ157 : Γ 157 = some ⟨.ptr, 1, 8, [.v (.pointer none)]⟩ := rfl
theorem td157 : tdOf Γ 157 = some (.ptr) := rfl
theorem Γ158 : Γ 158 = some ⟨.struct [(0, 29)], 1, 24, [.ds true 0 []]⟩ := rfl
theorem td158 : tdOf Γ 158 = some (.struct [(0, 29)]) := rfl
theorem fo158_0 : fieldOff Γ 158 0 = some (0, 29) := rfl
theorem Γ159 : Γ 159 = some ⟨.struct [(0, 29)], 1, 24, [.ds true 0 []]⟩ := rfl
theorem td159 : tdOf Γ 159 = some (.struct [(0, 29)]) := rfl
theorem fo159_0 : fieldOff Γ 159 0 = some (0, 29) := rfl
theorem Γ160 : Γ 160 = some ⟨.other, 1, 8, [.v .nilFunc]⟩ := rfl
theorem td160 : tdOf Γ 160 = some (.other) := rfl
theorem Γ161 : Γ 161 = some ⟨.other, 1, 8, [.v .nilFunc]⟩ := rfl
theorem td161 : tdOf Γ 161 = some (.other) := rfl
theorem Γ162 : Γ 162 = some ⟨.other, 1, 8, [.v .nilFunc]⟩ := rfl
theorem td162 : tdOf Γ 162 = some (.other) := rfl
theorem Γ163 : Γ 163 = some ⟨.other, 1, 8, [.v .nilFunc]⟩ := rfl
theorem td163 : tdOf Γ 163 = some (.other) := rfl
theorem Γ164 : Γ 164 = some ⟨.other, 1, 8, [.v .nilFunc]⟩ := rfl
theorem td164 : tdOf Γ 164 = some (.other) := rfl
theorem Γ165 : Γ 165 = some ⟨.struct [(0, 17), (1, 17), (2, 17), (3, 9)], 4, 40, [.v (.pointer none), .v (.pointer none), .v (.pointer none), .v (.string ByteArray.empty)]⟩ := rfl
theorem td165 : tdOf Γ 165 = some (.struct [(0, 17), (1, 17), (2, 17), (3, 9)]) := rfl
theorem fo165_0 : fieldOff Γ 165 0 = some (0, 17) := rfl
theorem fo165_1 : fieldOff Γ 165 1 = some (1, 17) := rfl
theorem fo165_2 : fieldOff Γ 165 2 = some (2, 17) := rfl
theorem fo165_3 : fieldOff Γ 165 3 = some (3, 9) := rfl
theorem Γ167 : Γ 167 = some ⟨.arr 0 16, 0, 0, []⟩ := rfl
theorem td167 : tdOf Γ 167 = some (.arr 0 16) := rfl
theorem Γ168 : Γ 168 = some ⟨.struct [(0, 167)], 0, 0, []⟩ := rfl
theorem td168 : tdOf Γ 168 = some (.struct [(0, 167)]) := rfl
theorem fo168_0 : fieldOff Γ 168 0 = some (0, 167) := rfl
theorem Γ170 : Γ 170 = some ⟨.other, 1, 8, [.v .nilFunc]⟩ := rfl
theorem td170 : tdOf Γ 170 = some (.other) := rfl
theorem Γ171 : Γ 171 = some ⟨.int .u32, 1, 4, [.v (.int .u32 0)]⟩ := rfl
theorem td171 : tdOf Γ 171 = some (.int .u32) := rfl
theorem Γ174 : Γ 174 = some ⟨.other, 1, 8, [.v .nilFunc]⟩ := rfl
theorem td174 : tdOf Γ 174 = some (.other) := rfl
theorem Γ175 : Γ 175 = some ⟨.ptr, 1, 8, [.v (.pointer none)]⟩ := rfl
theorem td175 : tdOf Γ 175 = some (.ptr) := rfl
theorem Γ178 : Γ 178 = some ⟨.struct [(0, 12), (1, 12), (2, 171), (3, 172), (4, 5), (5, 5), (6, 173), (7, 174), (8, 175), (9, 176), (10, 177)], 11, 48, [.v (.int .u64 0), .v (.int .u64 0), .v (.int .u32 0), .v (.int .u8 0), .v (.int .u8 0), .v (.int .u8 0), .v (.int .u8 0), .v .nilFunc, .v (.pointer none), .v (.int .i32 0), .v (.int .i32 0)]⟩ := rfl
theorem td178 : tdOf Γ 178 = some (.struct [(0, 12), (1, 12), (2, 171), (3, 172), (4, 5), (5, 5), (6, 173), (7, 174), (8, 175), (9, 176), (10, 177)]) := rfl
theorem fo178_0 : fieldOff Γ 178 0 = some (0, 12) := rfl
theorem fo178_1 : fieldOff Γ 178 1 = some (1, 12) := rfl
theorem fo178_2 : fieldOff Γ 178 2 = some (2, 171) := rfl
theorem fo178_3 : fieldOff Γ 178 3 = some (3, 172) := rfl
theorem fo178_4 : fieldOff Γ 178 4 = some (4, 5) := rfl
theorem fo178_5 : fieldOff Γ 178 5 = some (5, 5) := rfl
theorem fo178_6 : fieldOff Γ 178 6 = some (6, 173) := rfl
theorem fo178_7 : fieldOff Γ 178 7 = some (7, 174) := rfl
theorem fo178_8 : fieldOff Γ 178 8 = some (8, 175) := rfl
theorem fo178_9 : fieldOff Γ 178 9 = some (9, 176) := rfl
theorem fo178_10 : fieldOff Γ 178 10 = some (10, 177) := rfl
theorem Γ180 : Γ 180 = some ⟨.other, 1, 8, [.v .nilFunc]⟩ := rfl
theorem td180 : tdOf Γ 180 = some (.other) := rfl
theorem Γ181 : Γ 181 = some ⟨.other, 1, 8, [.v .nilFunc]⟩ := rfl
theorem td181 : tdOf Γ 181 = some (.other) := rfl
theorem Γ182 : Γ 182 = some ⟨.other, 1, 8, [.v .nilFunc]⟩ := rfl
theorem td182 : tdOf Γ 182 = some (.other) := rfl
theorem Γok : TabOk Try.prog Γ := tabOkT (by kernel_rfl)
def G0 : Globs := fun _ => none
theorem G0ok : GOk G0 := fun _ _ h => by cases h
theorem mixed : Try.prog.follows .mixedOrders = true := by kernel_rfl
end Go.Proofs.Ytilmfdlonpjjiaa
