/- The table of the program's types, for the engine. -/
import Derived.Test.YtdicmddedcfhaaaVTree
import Derived.Test.YtdicmddedcfhaaaRows
import Derived.ProofKit
namespace Go.Proofs.Ytdicmddedcfhaaa
open Go.RowKit
def Γl : TT := (.node (.node (.node (.node (.node (.node (.node (.node .leaf 1 ⟨.other, 1, 8, [.v .nilFunc]⟩ .leaf) 2 ⟨.int .i64, 1, 8, [.v (.int .i64 0)]⟩ .leaf) 3 ⟨.int .i64, 1, 8, [.v (.int .i64 0)]⟩ (.node .leaf 4 ⟨.bool, 1, 1, [.v (.bool false)]⟩ .leaf)) 5 ⟨.int .u8, 1, 1, [.v (.int .u8 0)]⟩ (.node (.node .leaf 7 ⟨.struct [(0, 2), (1, 3), (2, 4), (3, 6)], 4, 24, [.v (.int .i64 0), .v (.int .i64 0), .v (.bool false), .v (.int .u8 0)]⟩ .leaf) 9 ⟨.str, 1, 16, [.v (.string ByteArray.empty)]⟩ (.node .leaf 12 ⟨.int .u64, 1, 8, [.v (.int .u64 0)]⟩ .leaf))) 13 ⟨.struct [(0, 9), (1, 12)], 2, 24, [.v (.string ByteArray.empty), .v (.int .u64 0)]⟩ (.node (.node (.node (.node .leaf 21 ⟨.int .i32, 1, 4, [.v (.int .i32 0)]⟩ .leaf) 22 ⟨.slice 24, 1, 24, [.ds true 0 []]⟩ .leaf) 23 ⟨.struct [(0, 3), (1, 3), (2, 3), (3, 9)], 4, 40, [.v (.int .i64 0), .v (.int .i64 0), .v (.int .i64 0), .v (.string ByteArray.empty)]⟩ (.node .leaf 24 ⟨.struct [(0, 3), (1, 3), (2, 3), (3, 9)], 4, 40, [.v (.int .i64 0), .v (.int .i64 0), .v (.int .i64 0), .v (.string ByteArray.empty)]⟩ .leaf)) 25 ⟨.slice 46, 1, 24, [.ds true 0 []]⟩ (.node (.node .leaf 26 ⟨.arr 32 5, 32, 32, (List.replicate 32 (.v (.int .u8 0)))⟩ .leaf) 27 ⟨.slice 5, 1, 24, [.ds true 0 []]⟩ (.node .leaf 28 ⟨.struct [(0, 3), (1, 3), (2, 3), (3, 26), (35, 3), (36, 3), (37, 27)], 38, 96, [.v (.int .i64 0), .v (.int .i64 0), .v (.int .i64 0), .v (.int .u8 0), .v (.int .u8 0), .v (.int .u8 0), .v (.int .u8 0), .v (.int .u8 0), .v (.int .u8 0), .v (.int .u8 0), .v (.int .u8 0), .v (.int .u8 0), .v (.int .u8 0), .v (.int .u8 0), .v (.int .u8 0), .v (.int .u8 0), .v (.int .u8 0), .v (.int .u8 0), .v (.int .u8 0), .v (.int .u8 0), .v (.int .u8 0), .v (.int .u8 0), .v (.int .u8 0), .v (.int .u8 0), .v (.int .u8 0), .v (.int .u8 0), .v (.int .u8 0), .v (.int .u8 0), .v (.int .u8 0), .v (.int .u8 0), .v (.int .u8 0), .v (.int .u8 0), .v (.int .u8 0), .v (.int .u8 0), .v (.int .u8 0), .v (.int .i64 0), .v (.int .i64 0), .ds true 0 []]⟩ .leaf)))) 29 ⟨.struct [(0, 3), (1, 3), (2, 3), (3, 26), (35, 3), (36, 3), (37, 27)], 38, 96, [.v (.int .i64 0), .v (.int .i64 0), .v (.int .i64 0), .v (.int .u8 0), .v (.int .u8 0), .v (.int .u8 0), .v (.int .u8 0), .v (.int .u8 0), .v (.int .u8 0), .v (.int .u8 0), .v (.int .u8 0), .v (.int .u8 0), .v (.int .u8 0), .v (.int .u8 0), .v (.int .u8 0), .v (.int .u8 0), .v (.int .u8 0), .v (.int .u8 0), .v (.int .u8 0), .v (.int .u8 0), .v (.int .u8 0), .v (.int .u8 0), .v (.int .u8 0), .v (.int .u8 0), .v (.int .u8 0), .v (.int .u8 0), .v (.int .u8 0), .v (.int .u8 0), .v (.int .u8 0), .v (.int .u8 0), .v (.int .u8 0), .v (.int .u8 0), .v (.int .u8 0), .v (.int .u8 0), .v (.int .u8 0), .v (.int .i64 0), .v (.int .i64 0), .ds true 0 []]⟩ (.node (.node (.node (.node (.node .leaf 30 ⟨.struct [(0, 3), (1, 25), (2, 29)], 40, 128, [.v (.int .i64 0), .ds true 0 [], .v (.int .i64 0), .v (.int .i64 0), .v (.int .i64 0), .v (.int .u8 0), .v (.int .u8 0), .v (.int .u8 0), .v (.int .u8 0), .v (.int .u8 0), .v (.int .u8 0), .v (.int .u8 0), .v (.int .u8 0), .v (.int .u8 0), .v (.int .u8 0), .v (.int .u8 0), .v (.int .u8 0), .v (.int .u8 0), .v (.int .u8 0), .v (.int .u8 0), .v (.int .u8 0), .v (.int .u8 0), .v (.int .u8 0), .v (.int .u8 0), .v (.int .u8 0), .v (.int .u8 0), .v (.int .u8 0), .v (.int .u8 0), .v (.int .u8 0), .v (.int .u8 0), .v (.int .u8 0), .v (.int .u8 0), .v (.int .u8 0), .v (.int .u8 0), .v (.int .u8 0), .v (.int .u8 0), .v (.int .u8 0), .v (.int .i64 0), .v (.int .i64 0), .ds true 0 []]⟩ .leaf) 31 ⟨.struct [(0, 3), (1, 25), (2, 29)], 40, 128, [.v (.int .i64 0), .ds true 0 [], .v (.int .i64 0), .v (.int .i64 0), .v (.int .i64 0), .v (.int .u8 0), .v (.int .u8 0), .v (.int .u8 0), .v (.int .u8 0), .v (.int .u8 0), .v (.int .u8 0), .v (.int .u8 0), .v (.int .u8 0), .v (.int .u8 0), .v (.int .u8 0), .v (.int .u8 0), .v (.int .u8 0), .v (.int .u8 0), .v (.int .u8 0), .v (.int .u8 0), .v (.int .u8 0), .v (.int .u8 0), .v (.int .u8 0), .v (.int .u8 0), .v (.int .u8 0), .v (.int .u8 0), .v (.int .u8 0), .v (.int .u8 0), .v (.int .u8 0), .v (.int .u8 0), .v (.int .u8 0), .v (.int .u8 0), .v (.int .u8 0), .v (.int .u8 0), .v (.int .u8 0), .v (.int .u8 0), .v (.int .u8 0), .v (.int .i64 0), .v (.int .i64 0), .ds true 0 []]⟩ .leaf) 32 ⟨.other, 1, 8, [.v .nilFunc]⟩ (.node .leaf 33 ⟨.int .i64, 1, 8, [.v (.int .i64 0)]⟩ .leaf)) 35 ⟨.other, 1, 8, [.v .nilFunc]⟩ (.node (.node .leaf 37 ⟨.other, 1, 8, [.v .nilFunc]⟩ .leaf) 38 ⟨.other, 1, 8, [.v .nilFunc]⟩ (.node .leaf 39 ⟨.other, 1, 8, [.v .nilFunc]⟩ .leaf))) 40 ⟨.int .u64, 1, 8, [.v (.int .u64 0)]⟩ (.node (.node (.node (.node .leaf 41 ⟨.arr 4 40, 4, 32, [.v (.int .u64 0), .v (.int .u64 0), .v (.int .u64 0), .v (.int .u64 0)]⟩ .leaf) 42 ⟨.arr 4 40, 4, 32, [.v (.int .u64 0), .v (.int .u64 0), .v (.int .u64 0), .v (.int .u64 0)]⟩ .leaf) 43 ⟨.struct [(0, 42), (4, 42), (8, 3)], 9, 72, [.v (.int .u64 0), .v (.int .u64 0), .v (.int .u64 0), .v (.int .u64 0), .v (.int .u64 0), .v (.int .u64 0), .v (.int .u64 0), .v (.int .u64 0), .v (.int .i64 0)]⟩ (.node .leaf 44 ⟨.struct [(0, 42), (4, 42), (8, 3)], 9, 72, [.v (.int .u64 0), .v (.int .u64 0), .v (.int .u64 0), .v (.int .u64 0), .v (.int .u64 0), .v (.int .u64 0), .v (.int .u64 0), .v (.int .u64 0), .v (.int .i64 0)]⟩ .leaf)) 45 ⟨.struct [(0, 3), (1, 44)], 10, 80, [.v (.int .i64 0), .v (.int .u64 0), .v (.int .u64 0), .v (.int .u64 0), .v (.int .u64 0), .v (.int .u64 0), .v (.int .u64 0), .v (.int .u64 0), .v (.int .u64 0), .v (.int .i64 0)]⟩ (.node (.node .leaf 46 ⟨.struct [(0, 3), (1, 44)], 10, 80, [.v (.int .i64 0), .v (.int .u64 0), .v (.int .u64 0), .v (.int .u64 0), .v (.int .u64 0), .v (.int .u64 0), .v (.int .u64 0), .v (.int .u64 0), .v (.int .u64 0), .v (.int .i64 0)]⟩ .leaf) 47 ⟨.other, 1, 8, [.v .nilFunc]⟩ (.node .leaf 48 ⟨.other, 1, 8, [.v .nilFunc]⟩ .leaf))))) 49 ⟨.slice 113, 1, 24, [.ds true 0 []]⟩ (.node (.node (.node (.node (.node (.node .leaf 50 ⟨.struct [(0, 3), (1, 42), (5, 42), (9, 26), (41, 3), (42, 26), (74, 3), (75, 3), (76, 9), (77, 27), (78, 3), (79, 49)], 80, 232, [.v (.int .i64 0), .v (.int .u64 0), .v (.int .u64 0), .v (.int .u64 0), .v (.int .u64 0), .v (.int .u64 0), .v (.int .u64 0), .v (.int .u64 0), .v (.int .u64 0), .v (.int .u8 0), .v (.int .u8 0), .v (.int .u8 0), .v (.int .u8 0), .v (.int .u8 0), .v (.int .u8 0), .v (.int .u8 0), .v (.int .u8 0), .v (.int .u8 0), .v (.int .u8 0), .v (.int .u8 0), .v (.int .u8 0), .v (.int .u8 0), .v (.int .u8 0), .v (.int .u8 0), .v (.int .u8 0), .v (.int .u8 0), .v (.int .u8 0), .v (.int .u8 0), .v (.int .u8 0), .v (.int .u8 0), .v (.int .u8 0), .v (.int .u8 0), .v (.int .u8 0), .v (.int .u8 0), .v (.int .u8 0), .v (.int .u8 0), .v (.int .u8 0), .v (.int .u8 0), .v (.int .u8 0), .v (.int .u8 0), .v (.int .u8 0), .v (.int .i64 0), .v (.int .u8 0), .v (.int .u8 0), .v (.int .u8 0), .v (.int .u8 0), .v (.int .u8 0), .v (.int .u8 0), .v (.int .u8 0), .v (.int .u8 0), .v (.int .u8 0), .v (.int .u8 0), .v (.int .u8 0), .v (.int .u8 0), .v (.int .u8 0), .v (.int .u8 0), .v (.int .u8 0), .v (.int .u8 0), .v (.int .u8 0), .v (.int .u8 0), .v (.int .u8 0), .v (.int .u8 0), .v (.int .u8 0), .v (.int .u8 0), .v (.int .u8 0), .v (.int .u8 0), .v (.int .u8 0), .v (.int .u8 0), .v (.int .u8 0), .v (.int .u8 0), .v (.int .u8 0), .v (.int .u8 0), .v (.int .u8 0), .v (.int .u8 0), .v (.int .i64 0), .v (.int .i64 0), .v (.string ByteArray.empty), .ds true 0 [], .v (.int .i64 0), .ds true 0 []]⟩ .leaf) 51 ⟨.struct [(0, 3), (1, 42), (5, 42), (9, 26), (41, 3), (42, 26), (74, 3), (75, 3), (76, 9), (77, 27), (78, 3), (79, 49)], 80, 232, [.v (.int .i64 0), .v (.int .u64 0), .v (.int .u64 0), .v (.int .u64 0), .v (.int .u64 0), .v (.int .u64 0), .v (.int .u64 0), .v (.int .u64 0), .v (.int .u64 0), .v (.int .u8 0), .v (.int .u8 0), .v (.int .u8 0), .v (.int .u8 0), .v (.int .u8 0), .v (.int .u8 0), .v (.int .u8 0), .v (.int .u8 0), .v (.int .u8 0), .v (.int .u8 0), .v (.int .u8 0), .v (.int .u8 0), .v (.int .u8 0), .v (.int .u8 0), .v (.int .u8 0), .v (.int .u8 0), .v (.int .u8 0), .v (.int .u8 0), .v (.int .u8 0), .v (.int .u8 0), .v (.int .u8 0), .v (.int .u8 0), .v (.int .u8 0), .v (.int .u8 0), .v (.int .u8 0), .v (.int .u8 0), .v (.int .u8 0), .v (.int .u8 0), .v (.int .u8 0), .v (.int .u8 0), .v (.int .u8 0), .v (.int .u8 0), .v (.int .i64 0), .v (.int .u8 0), .v (.int .u8 0), .v (.int .u8 0), .v (.int .u8 0), .v (.int .u8 0), .v (.int .u8 0), .v (.int .u8 0), .v (.int .u8 0), .v (.int .u8 0), .v (.int .u8 0), .v (.int .u8 0), .v (.int .u8 0), .v (.int .u8 0), .v (.int .u8 0), .v (.int .u8 0), .v (.int .u8 0), .v (.int .u8 0), .v (.int .u8 0), .v (.int .u8 0), .v (.int .u8 0), .v (.int .u8 0), .v (.int .u8 0), .v (.int .u8 0), .v (.int .u8 0), .v (.int .u8 0), .v (.int .u8 0), .v (.int .u8 0), .v (.int .u8 0), .v (.int .u8 0), .v (.int .u8 0), .v (.int .u8 0), .v (.int .u8 0), .v (.int .i64 0), .v (.int .i64 0), .v (.string ByteArray.empty), .ds true 0 [], .v (.int .i64 0), .ds true 0 []]⟩ .leaf) 52 ⟨.other, 1, 8, [.v .nilFunc]⟩ (.node .leaf 53 ⟨.other, 1, 8, [.v .nilFunc]⟩ .leaf)) 55 ⟨.other, 1, 8, [.v .nilFunc]⟩ (.node (.node .leaf 56 ⟨.other, 1, 8, [.v .nilFunc]⟩ .leaf) 57 ⟨.other, 1, 8, [.v .nilFunc]⟩ (.node .leaf 58 ⟨.other, 1, 8, [.v .nilFunc]⟩ .leaf))) 59 ⟨.struct [(0, 42), (4, 42), (8, 4)], 9, 72, [.v (.int .u64 0), .v (.int .u64 0), .v (.int .u64 0), .v (.int .u64 0), .v (.int .u64 0), .v (.int .u64 0), .v (.int .u64 0), .v (.int .u64 0), .v (.bool false)]⟩ (.node (.node (.node (.node .leaf 60 ⟨.struct [(0, 42), (4, 42), (8, 4)], 9, 72, [.v (.int .u64 0), .v (.int .u64 0), .v (.int .u64 0), .v (.int .u64 0), .v (.int .u64 0), .v (.int .u64 0), .v (.int .u64 0), .v (.int .u64 0), .v (.bool false)]⟩ .leaf) 61 ⟨.struct [(0, 42), (4, 42), (8, 42), (12, 42), (16, 60)], 25, 200, [.v (.int .u64 0), .v (.int .u64 0), .v (.int .u64 0), .v (.int .u64 0), .v (.int .u64 0), .v (.int .u64 0), .v (.int .u64 0), .v (.int .u64 0), .v (.int .u64 0), .v (.int .u64 0), .v (.int .u64 0), .v (.int .u64 0), .v (.int .u64 0), .v (.int .u64 0), .v (.int .u64 0), .v (.int .u64 0), .v (.int .u64 0), .v (.int .u64 0), .v (.int .u64 0), .v (.int .u64 0), .v (.int .u64 0), .v (.int .u64 0), .v (.int .u64 0), .v (.int .u64 0), .v (.bool false)]⟩ .leaf) 62 ⟨.struct [(0, 42), (4, 42), (8, 42), (12, 42), (16, 60)], 25, 200, [.v (.int .u64 0), .v (.int .u64 0), .v (.int .u64 0), .v (.int .u64 0), .v (.int .u64 0), .v (.int .u64 0), .v (.int .u64 0), .v (.int .u64 0), .v (.int .u64 0), .v (.int .u64 0), .v (.int .u64 0), .v (.int .u64 0), .v (.int .u64 0), .v (.int .u64 0), .v (.int .u64 0), .v (.int .u64 0), .v (.int .u64 0), .v (.int .u64 0), .v (.int .u64 0), .v (.int .u64 0), .v (.int .u64 0), .v (.int .u64 0), .v (.int .u64 0), .v (.int .u64 0), .v (.bool false)]⟩ (.node .leaf 63 ⟨.other, 1, 8, [.v .nilFunc]⟩ .leaf)) 64 ⟨.other, 1, 8, [.v .nilFunc]⟩ (.node (.node .leaf 66 ⟨.other, 1, 8, [.v .nilFunc]⟩ .leaf) 67 ⟨.other, 1, 8, [.v .nilFunc]⟩ (.node .leaf 68 ⟨.other, 1, 8, [.v .nilFunc]⟩ .leaf)))) 69 ⟨.other, 1, 8, [.v .nilFunc]⟩ (.node (.node (.node (.node (.node .leaf 70 ⟨.other, 1, 8, [.v .nilFunc]⟩ .leaf) 71 ⟨.slice 42, 1, 24, [.ds true 0 []]⟩ .leaf) 72 ⟨.other, 1, 8, [.v .nilFunc]⟩ (.node .leaf 73 ⟨.other, 1, 8, [.v .nilFunc]⟩ .leaf)) 74 ⟨.other, 1, 8, [.v .nilFunc]⟩ (.node (.node .leaf 75 ⟨.other, 1, 8, [.v .nilFunc]⟩ .leaf) 77 ⟨.other, 1, 8, [.v .nilFunc]⟩ (.node .leaf 78 ⟨.other, 1, 8, [.v .nilFunc]⟩ .leaf))) 80 ⟨.other, 1, 8, [.v .nilFunc]⟩ (.node (.node (.node .leaf 81 ⟨.other, 1, 8, [.v .nilFunc]⟩ .leaf) 82 ⟨.other, 1, 8, [.v .nilFunc]⟩ (.node .leaf 83 ⟨.other, 1, 8, [.v .nilFunc]⟩ .leaf)) 84 ⟨.other, 1, 8, [.v .nilFunc]⟩ (.node (.node .leaf 85 ⟨.other, 1, 8, [.v .nilFunc]⟩ .leaf) 86 ⟨.other, 1, 8, [.v .nilFunc]⟩ (.node .leaf 87 ⟨.ptr, 1, 8, [.v (.pointer none)]⟩ .leaf)))))) 88 ⟨.struct [(0, 27)], 1, 24, [.ds true 0 []]⟩ (.node (.node (.node (.node (.node (.node (.node .leaf 89 ⟨.struct [(0, 27)], 1, 24, [.ds true 0 []]⟩ .leaf) 90 ⟨.other, 1, 8, [.v .nilFunc]⟩ .leaf) 91 ⟨.other, 1, 8, [.v .nilFunc]⟩ (.node .leaf 92 ⟨.other, 1, 8, [.v .nilFunc]⟩ .leaf)) 93 ⟨.other, 1, 8, [.v .nilFunc]⟩ (.node (.node .leaf 94 ⟨.ptr, 1, 8, [.v (.pointer none)]⟩ .leaf) 95 ⟨.struct [(0, 27), (1, 4)], 2, 32, [.ds true 0 [], .v (.bool false)]⟩ (.node .leaf 96 ⟨.struct [(0, 27), (1, 4)], 2, 32, [.ds true 0 [], .v (.bool false)]⟩ .leaf))) 97 ⟨.other, 1, 8, [.v .nilFunc]⟩ (.node (.node (.node (.node .leaf 98 ⟨.other, 1, 8, [.v .nilFunc]⟩ .leaf) 99 ⟨.other, 1, 8, [.v .nilFunc]⟩ .leaf) 100 ⟨.other, 1, 8, [.v .nilFunc]⟩ (.node .leaf 101 ⟨.other, 1, 8, [.v .nilFunc]⟩ .leaf)) 102 ⟨.other, 1, 8, [.v .nilFunc]⟩ (.node (.node .leaf 103 ⟨.other, 1, 8, [.v .nilFunc]⟩ .leaf) 104 ⟨.other, 1, 8, [.v .nilFunc]⟩ (.node .leaf 108 ⟨.other, 1, 8, [.v .nilFunc]⟩ .leaf)))) 109 ⟨.other, 1, 8, [.v .nilFunc]⟩ (.node (.node (.node (.node (.node .leaf 110 ⟨.other, 1, 8, [.v .nilFunc]⟩ .leaf) 111 ⟨.other, 1, 8, [.v .nilFunc]⟩ .leaf) 112 ⟨.arr 20 5, 20, 20, (List.replicate 20 (.v (.int .u8 0)))⟩ (.node .leaf 113 ⟨.arr 20 5, 20, 20, (List.replicate 20 (.v (.int .u8 0)))⟩ .leaf)) 114 ⟨.other, 1, 8, [.v .nilFunc]⟩ (.node (.node .leaf 115 ⟨.arr 8 62, 200, 1600, [.v (.int .u64 0), .v (.int .u64 0), .v (.int .u64 0), .v (.int .u64 0), .v (.int .u64 0), .v (.int .u64 0), .v (.int .u64 0), .v (.int .u64 0), .v (.int .u64 0), .v (.int .u64 0), .v (.int .u64 0), .v (.int .u64 0), .v (.int .u64 0), .v (.int .u64 0), .v (.int .u64 0), .v (.int .u64 0), .v (.int .u64 0), .v (.int .u64 0), .v (.int .u64 0), .v (.int .u64 0), .v (.int .u64 0), .v (.int .u64 0), .v (.int .u64 0), .v (.int .u64 0), .v (.bool false), .v (.int .u64 0), .v (.int .u64 0), .v (.int .u64 0), .v (.int .u64 0), .v (.int .u64 0), .v (.int .u64 0), .v (.int .u64 0), .v (.int .u64 0), .v (.int .u64 0), .v (.int .u64 0), .v (.int .u64 0), .v (.int .u64 0), .v (.int .u64 0), .v (.int .u64 0), .v (.int .u64 0), .v (.int .u64 0), .v (.int .u64 0), .v (.int .u64 0), .v (.int .u64 0), .v (.int .u64 0), .v (.int .u64 0), .v (.int .u64 0), .v (.int .u64 0), .v (.int .u64 0), .v (.bool false), .v (.int .u64 0), .v (.int .u64 0), .v (.int .u64 0), .v (.int .u64 0), .v (.int .u64 0), .v (.int .u64 0), .v (.int .u64 0), .v (.int .u64 0), .v (.int .u64 0), .v (.int .u64 0), .v (.int .u64 0), .v (.int .u64 0), .v (.int .u64 0), .v (.int .u64 0), .v (.int .u64 0), .v (.int .u64 0), .v (.int .u64 0), .v (.int .u64 0), .v (.int .u64 0), .v (.int .u64 0), .v (.int .u64 0), .v (.int .u64 0), .v (.int .u64 0), .v (.int .u64 0), .v (.bool false), .v (.int .u64 0), .v (.int .u64 0), .v (.int .u64 0), .v (.int .u64 0), .v (.int .u64 0), .v (.int .u64 0), .v (.int .u64 0), .v (.int .u64 0), .v (.int .u64 0), .v (.int .u64 0), .v (.int .u64 0), .v (.int .u64 0), .v (.int .u64 0), .v (.int .u64 0), .v (.int .u64 0), .v (.int .u64 0), .v (.int .u64 0), .v (.int .u64 0), .v (.int .u64 0), .v (.int .u64 0), .v (.int .u64 0), .v (.int .u64 0), .v (.int .u64 0), .v (.int .u64 0), .v (.bool false), .v (.int .u64 0), .v (.int .u64 0), .v (.int .u64 0), .v (.int .u64 0), .v (.int .u64 0), .v (.int .u64 0), .v (.int .u64 0), .v (.int .u64 0), .v (.int .u64 0), .v (.int .u64 0), .v (.int .u64 0), .v (.int .u64 0), .v (.int .u64 0), .v (.int .u64 0), .v (.int .u64 0), .v (.int .u64 0), .v (.int .u64 0), .v (.int .u64 0), .v (.int .u64 0), .v (.int .u64 0), .v (.int .u64 0), .v (.int .u64 0), .v (.int .u64 0), .v (.int .u64 0), .v (.bool false), .v (.int .u64 0), .v (.int .u64 0), .v (.int .u64 0), .v (.int .u64 0), .v (.int .u64 0), .v (.int .u64 0), .v (.int .u64 0), .v (.int .u64 0), .v (.int .u64 0), .v (.int .u64 0), .v (.int .u64 0), .v (.int .u64 0), .v (.int .u64 0), .v (.int .u64 0), .v (.int .u64 0), .v (.int .u64 0), .v (.int .u64 0), .v (.int .u64 0), .v (.int .u64 0), .v (.int .u64 0), .v (.int .u64 0), .v (.int .u64 0), .v (.int .u64 0), .v (.int .u64 0), .v (.bool false), .v (.int .u64 0), .v (.int .u64 0), .v (.int .u64 0), .v (.int .u64 0), .v (.int .u64 0), .v (.int .u64 0), .v (.int .u64 0), .v (.int .u64 0), .v (.int .u64 0), .v (.int .u64 0), .v (.int .u64 0), .v (.int .u64 0), .v (.int .u64 0), .v (.int .u64 0), .v (.int .u64 0), .v (.int .u64 0), .v (.int .u64 0), .v (.int .u64 0), .v (.int .u64 0), .v (.int .u64 0), .v (.int .u64 0), .v (.int .u64 0), .v (.int .u64 0), .v (.int .u64 0), .v (.bool false), .v (.int .u64 0), .v (.int .u64 0), .v (.int .u64 0), .v (.int .u64 0), .v (.int .u64 0), .v (.int .u64 0), .v (.int .u64 0), .v (.int .u64 0), .v (.int .u64 0), .v (.int .u64 0), .v (.int .u64 0), .v (.int .u64 0), .v (.int .u64 0), .v (.int .u64 0), .v (.int .u64 0), .v (.int .u64 0), .v (.int .u64 0), .v (.int .u64 0), .v (.int .u64 0), .v (.int .u64 0), .v (.int .u64 0), .v (.int .u64 0), .v (.int .u64 0), .v (.int .u64 0), .v (.bool false)]⟩ .leaf) 116 ⟨.other, 1, 8, [.v .nilFunc]⟩ (.node .leaf 118 ⟨.other, 1, 8, [.v .nilFunc]⟩ .leaf))) 119 ⟨.other, 1, 8, [.v .nilFunc]⟩ (.node (.node (.node .leaf 120 ⟨.other, 1, 8, [.v .nilFunc]⟩ .leaf) 121 ⟨.other, 1, 8, [.v .nilFunc]⟩ (.node .leaf 122 ⟨.other, 1, 8, [.v .nilFunc]⟩ .leaf)) 123 ⟨.other, 1, 8, [.v .nilFunc]⟩ (.node (.node .leaf 125 ⟨.other, 1, 8, [.v .nilFunc]⟩ .leaf) 126 ⟨.other, 1, 8, [.v .nilFunc]⟩ (.node .leaf 127 ⟨.ptr, 1, 8, [.v (.pointer none)]⟩ .leaf))))) 128 ⟨.struct [(0, 42), (4, 127)], 5, 40, [.v (.int .u64 0), .v (.int .u64 0), .v (.int .u64 0), .v (.int .u64 0), .v (.pointer none)]⟩ (.node (.node (.node (.node (.node (.node .leaf 129 ⟨.struct [(0, 42), (4, 127)], 5, 40, [.v (.int .u64 0), .v (.int .u64 0), .v (.int .u64 0), .v (.int .u64 0), .v (.pointer none)]⟩ .leaf) 130 ⟨.other, 1, 8, [.v .nilFunc]⟩ .leaf) 131 ⟨.other, 1, 8, [.v .nilFunc]⟩ (.node .leaf 132 ⟨.other, 1, 8, [.v .nilFunc]⟩ .leaf)) 133 ⟨.other, 1, 8, [.v .nilFunc]⟩ (.node (.node .leaf 134 ⟨.other, 1, 8, [.v .nilFunc]⟩ .leaf) 135 ⟨.int .u64, 1, 8, [.v (.int .u64 0)]⟩ (.node .leaf 136 ⟨.struct [(0, 4)], 1, 1, [.v (.bool false)]⟩ .leaf))) 137 ⟨.struct [(0, 4)], 1, 1, [.v (.bool false)]⟩ (.node (.node (.node (.node .leaf 138 ⟨.struct [], 0, 0, []⟩ .leaf) 139 ⟨.struct [], 0, 0, []⟩ .leaf) 140 ⟨.struct [], 0, 0, []⟩ (.node .leaf 141 ⟨.slice 60, 1, 24, [.ds true 0 []]⟩ .leaf)) 142 ⟨.other, 1, 8, [.v .nilFunc]⟩ (.node (.node .leaf 143 ⟨.other, 1, 8, [.v .nilFunc]⟩ .leaf) 144 ⟨.other, 1, 8, [.v .nilFunc]⟩ (.node .leaf 145 ⟨.other, 1, 8, [.v .nilFunc]⟩ .leaf)))) 146 ⟨.other, 1, 8, [.v .nilFunc]⟩ (.node (.node (.node (.node (.node .leaf 148 ⟨.other, 1, 8, [.v .nilFunc]⟩ .leaf) 149 ⟨.other, 1, 8, [.v .nilFunc]⟩ .leaf) 150 ⟨.other, 1, 8, [.v .nilFunc]⟩ (.node .leaf 151 ⟨.other, 1, 8, [.v .nilFunc]⟩ .leaf)) 152 ⟨.other, 1, 8, [.v .nilFunc]⟩ (.node (.node .leaf 153 ⟨.struct [(0, 17), (1, 17), (2, 17), (3, 9)], 4, 40, [.v (.pointer none), .v (.pointer none), .v (.pointer none), .v (.string ByteArray.empty)]⟩ .leaf) 155 ⟨.arr 0 16, 0, 0, []⟩ (.node .leaf 156 ⟨.struct [(0, 155)], 0, 0, []⟩ .leaf))) 158 ⟨.other, 1, 8, [.v .nilFunc]⟩ (.node (.node (.node .leaf 159 ⟨.int .u32, 1, 4, [.v (.int .u32 0)]⟩ .leaf) 162 ⟨.other, 1, 8, [.v .nilFunc]⟩ (.node .leaf 163 ⟨.ptr, 1, 8, [.v (.pointer none)]⟩ .leaf)) 166 ⟨.struct [(0, 12), (1, 12), (2, 159), (3, 160), (4, 5), (5, 5), (6, 161), (7, 162), (8, 163), (9, 164), (10, 165)], 11, 48, [.v (.int .u64 0), .v (.int .u64 0), .v (.int .u32 0), .v (.int .u8 0), .v (.int .u8 0), .v (.int .u8 0), .v (.int .u8 0), .v .nilFunc, .v (.pointer none), .v (.int .i32 0), .v (.int .i32 0)]⟩ (.node (.node .leaf 168 ⟨.other, 1, 8, [.v .nilFunc]⟩ .leaf) 169 ⟨.other, 1, 8, [.v .nilFunc]⟩ (.node .leaf 170 ⟨.slice 27, 1, 24, [.ds true 0 []]⟩ .leaf)))))))
noncomputable def Γ : Tab := Γl.get
theorem Γ1 : Γ 1 = some ⟨.other, 1, 8, [.v .nilFunc]⟩ := rfl
theorem td1 : tdOf Γ 1 = some (.other) := rfl
theorem Γ2 : Γ 2 = some ⟨.int .i64, 1, 8, [.v (.int .i64 0)]⟩ := rfl
theorem td2 : tdOf Γ 2 = some (.int .i64) := rfl
theorem Γ3 : Γ 3 = some ⟨.int .i64, 1, 8, [.v (.int .i64 0)]⟩ := rfl
theorem td3 : tdOf Γ 3 = some (.int .i64) := rfl
theorem Γ4 : Γ 4 = some ⟨.bool, 1, 1, [.v (.bool false)]⟩ := rfl
theorem td4 : tdOf Γ 4 = some (.bool) := rfl
theorem Γ5 : Γ 5 = some ⟨.int .u8, 1, 1, [.v (.int .u8 0)]⟩ := rfl
theorem td5 : tdOf Γ 5 = some (.int .u8) := rfl
theorem Γ7 : Γ 7 = some ⟨.struct [(0, 2), (1, 3), (2, 4), (3, 6)], 4, 24, [.v (.int .i64 0), .v (.int .i64 0), .v (.bool false), .v (.int .u8 0)]⟩ := rfl
theorem td7 : tdOf Γ 7 = some (.struct [(0, 2), (1, 3), (2, 4), (3, 6)]) := rfl
theorem fo7_0 : fieldOff Γ 7 0 = some (0, 2) := rfl
theorem fo7_1 : fieldOff Γ 7 1 = some (1, 3) := rfl
theorem fo7_2 : fieldOff Γ 7 2 = some (2, 4) := rfl
theorem fo7_3 : fieldOff Γ 7 3 = some (3, 6) := rfl
theorem Γ9 : Γ 9 = some ⟨.str, 1, 16, [.v (.string ByteArray.empty)]⟩ := rfl
theorem td9 : tdOf Γ 9 = some (.str) := rfl
theorem Γ12 : Γ 12 = some ⟨.int .u64, 1, 8, [.v (.int .u64 0)]⟩ := rfl
theorem td12 : tdOf Γ 12 = some (.int .u64) := rfl
theorem Γ13 : Γ 13 = some ⟨.struct [(0, 9), (1, 12)], 2, 24, [.v (.string ByteArray.empty), .v (.int .u64 0)]⟩ := rfl
theorem td13 : tdOf Γ 13 = some (.struct [(0, 9), (1, 12)]) := rfl
theorem fo13_0 : fieldOff Γ 13 0 = some (0, 9) := rfl
theorem fo13_1 : fieldOff Γ 13 1 = some (1, 12) := rfl
theorem Γ21 : Γ 21 = some ⟨.int .i32, 1, 4, [.v (.int .i32 0)]⟩ := rfl
theorem td21 : tdOf Γ 21 = some (.int .i32) := rfl
theorem Γ22 : Γ 22 = some ⟨.slice 24, 1, 24, [.ds true 0 []]⟩ := rfl
theorem td22 : tdOf Γ 22 = some (.slice 24) := rfl
theorem sl22 : sliceOf Γ 22 = some (24, ⟨.struct [(0, 3), (1, 3), (2, 3), (3, 9)], 4, 40, [.v (.int .i64 0), .v (.int .i64 0), .v (.int .i64 0), .v (.string ByteArray.empty)]⟩) := rfl
theorem Γ23 : Γ 23 = some ⟨.struct [(0, 3), (1, 3), (2, 3), (3, 9)], 4, 40, [.v (.int .i64 0), .v (.int .i64 0), .v (.int .i64 0), .v (.string ByteArray.empty)]⟩ := rfl
theorem td23 : tdOf Γ 23 = some (.struct [(0, 3), (1, 3), (2, 3), (3, 9)]) := rfl
theorem fo23_0 : fieldOff Γ 23 0 = some (0, 3) := rfl
theorem fo23_1 : fieldOff Γ 23 1 = some (1, 3) := rfl
theorem fo23_2 : fieldOff Γ 23 2 = some (2, 3) := rfl
theorem fo23_3 : fieldOff Γ 23 3 = some (3, 9) := rfl
theorem Γ24 : Γ 24 = some ⟨.struct [(0, 3), (1, 3), (2, 3), (3, 9)], 4, 40, [.v (.int .i64 0), .v (.int .i64 0), .v (.int .i64 0), .v (.string ByteArray.empty)]⟩ := rfl
theorem td24 : tdOf Γ 24 = some (.struct [(0, 3), (1, 3), (2, 3), (3, 9)]) := rfl
theorem fo24_0 : fieldOff Γ 24 0 = some (0, 3) := rfl
theorem fo24_1 : fieldOff Γ 24 1 = some (1, 3) := rfl
theorem fo24_2 : fieldOff Γ 24 2 = some (2, 3) := rfl
theorem fo24_3 : fieldOff Γ 24 3 = some (3, 9) := rfl
theorem Γ25 : Γ 25 = some ⟨.slice 46, 1, 24, [.ds true 0 []]⟩ := rfl
theorem td25 : tdOf Γ 25 = some (.slice 46) := rfl
theorem sl25 : sliceOf Γ 25 = some (46, ⟨.struct [(0, 3), (1, 44)], 10, 80, [.v (.int .i64 0), .v (.int .u64 0), .v (.int .u64 0), .v (.int .u64 0), .v (.int .u64 0), .v (.int .u64 0), .v (.int .u64 0), .v (.int .u64 0), .v (.int .u64 0), .v (.int .i64 0)]⟩) := rfl
theorem Γ26 : Γ 26 = some ⟨.arr 32 5, 32, 32, (List.replicate 32 (.v (.int .u8 0)))⟩ := rfl
theorem td26 : tdOf Γ 26 = some (.arr 32 5) := rfl
theorem ar26 : arrOf Γ 26 = some (32, 5, 1) := rfl
theorem Γ27 : Γ 27 = some ⟨.slice 5, 1, 24, [.ds true 0 []]⟩ := rfl
theorem td27 : tdOf Γ 27 = some (.slice 5) := rfl
theorem sl27 : sliceOf Γ 27 = some (5, ⟨.int .u8, 1, 1, [.v (.int .u8 0)]⟩) := rfl
theorem Γ28 : Γ 28 = some ⟨.struct [(0, 3), (1, 3), (2, 3), (3, 26), (35, 3), (36, 3), (37, 27)], 38, 96, [.v (.int .i64 0), .v (.int .i64 0), .v (.int .i64 0), .v (.int .u8 0), .v (.int .u8 0), .v (.int .u8 0), .v (.int .u8 0), .v (.int .u8 0), .v (.int .u8 0), .v (.int .u8 0), .v (.int .u8 0), .v (.int .u8 0), .v (.int .u8 0), .v (.int .u8 0), .v (.int .u8 0), .v (.int .u8 0), .v (.int .u8 0), .v (.int .u8 0), .v (.int .u8 0), .v (.int .u8 0), .v (.int .u8 0), .v (.int .u8 0), .v (.int .u8 0), .v (.int .u8 0), .v (.int .u8 0), .v (.int .u8 0), .v (.int .u8 0), .v (.int .u8 0), .v (.int .u8 0), .v (.int .u8 0), .v (.int .u8 0), .v (.int .u8 0), .v (.int .u8 0), .v (.int .u8 0), .v (.int .u8 0), .v (.int .i64 0), .v (.int .i64 0), .ds true 0 []]⟩ := rfl
theorem td28 : tdOf Γ 28 = some (.struct [(0, 3), (1, 3), (2, 3), (3, 26), (35, 3), (36, 3), (37, 27)]) := rfl
theorem fo28_0 : fieldOff Γ 28 0 = some (0, 3) := rfl
theorem fo28_1 : fieldOff Γ 28 1 = some (1, 3) := rfl
theorem fo28_2 : fieldOff Γ 28 2 = some (2, 3) := rfl
theorem fo28_3 : fieldOff Γ 28 3 = some (3, 26) := rfl
theorem fo28_4 : fieldOff Γ 28 4 = some (35, 3) := rfl
theorem fo28_5 : fieldOff Γ 28 5 = some (36, 3) := rfl
theorem fo28_6 : fieldOff Γ 28 6 = some (37, 27) := rfl
theorem Γ29 : Γ 29 = some ⟨.struct [(0, 3), (1, 3), (2, 3), (3, 26), (35, 3), (36, 3), (37, 27)], 38, 96, [.v (.int .i64 0), .v (.int .i64 0), .v (.int .i64 0), .v (.int .u8 0), .v (.int .u8 0), .v (.int .u8 0), .v (.int .u8 0), .v (.int .u8 0), .v (.int .u8 0), .v (.int .u8 0), .v (.int .u8 0), .v (.int .u8 0), .v (.int .u8 0), .v (.int .u8 0), .v (.int .u8 0), .v (.int .u8 0), .v (.int .u8 0), .v (.int .u8 0), .v (.int .u8 0), .v (.int .u8 0), .v (.int .u8 0), .v (.int .u8 0), .v (.int .u8 0), .v (.int .u8 0), .v (.int .u8 0), .v (.int .u8 0), .v (.int .u8 0), .v (.int .u8 0), .v (.int .u8 0), .v (.int .u8 0), .v (.int .u8 0), .v (.int .u8 0), .v (.int .u8 0), .v (.int .u8 0), .v (.int .u8 0), .v (.int .i64 0), .v (.int .i64 0), .ds true 0 []]⟩ := rfl
theorem td29 : tdOf Γ 29 = some (.struct [(0, 3), (1, 3), (2, 3), (3, 26), (35, 3), (36, 3), (37, 27)]) := rfl
theorem fo29_0 : fieldOff Γ 29 0 = some (0, 3) := rfl
theorem fo29_1 : fieldOff Γ 29 1 = some (1, 3) := rfl
theorem fo29_2 : fieldOff Γ 29 2 = some (2, 3) := rfl
theorem fo29_3 : fieldOff Γ 29 3 = some (3, 26) := rfl
theorem fo29_4 : fieldOff Γ 29 4 = some (35, 3) := rfl
theorem fo29_5 : fieldOff Γ 29 5 = some (36, 3) := rfl
theorem fo29_6 : fieldOff Γ 29 6 = some (37, 27) := rfl
theorem Γ30 : Γ 30 = some ⟨.struct [(0, 3), (1, 25), (2, 29)], 40, 128, [.v (.int .i64 0), .ds true 0 [], .v (.int .i64 0), .v (.int .i64 0), .v (.int .i64 0), .v (.int .u8 0), .v (.int .u8 0), .v (.int .u8 0), .v (.int .u8 0), .v (.int .u8 0), .v (.int .u8 0), .v (.int .u8 0), .v (.int .u8 0), .v (.int .u8 0), .v (.int .u8 0), .v (.int .u8 0), .v (.int .u8 0), .v (.int .u8 0), .v (.int .u8 0), .v (.int .u8 0), .v (.int .u8 0), .v (.int .u8 0), .v (.int .u8 0), .v (.int .u8 0), .v (.int .u8 0), .v (.int .u8 0), .v (.int .u8 0), .v (.int .u8 0), .v (.int .u8 0), .v (.int .u8 0), .v (.int .u8 0), .v (.int .u8 0), .v (.int .u8 0), .v (.int .u8 0), .v (.int .u8 0), .v (.int .u8 0), .v (.int .u8 0), .v (.int .i64 0), .v (.int .i64 0), .ds true 0 []]⟩ := rfl
theorem td30 : tdOf Γ 30 = some (.struct [(0, 3), (1, 25), (2, 29)]) := rfl
theorem fo30_0 : fieldOff Γ 30 0 = some (0, 3) := rfl
theorem fo30_1 : fieldOff Γ 30 1 = some (1, 25) := rfl
theorem fo30_2 : fieldOff Γ 30 2 = some (2, 29) := rfl
theorem Γ31 : Γ 31 = some ⟨.struct [(0, 3), (1, 25), (2, 29)], 40, 128, [.v (.int .i64 0), .ds true 0 [], .v (.int .i64 0), .v (.int .i64 0), .v (.int .i64 0), .v (.int .u8 0), .v (.int .u8 0), .v (.int .u8 0), .v (.int .u8 0), .v (.int .u8 0), .v (.int .u8 0), .v (.int .u8 0), .v (.int .u8 0), .v (.int .u8 0), .v (.int .u8 0), .v (.int .u8 0), .v (.int .u8 0), .v (.int .u8 0), .v (.int .u8 0), .v (.int .u8 0), .v (.int .u8 0), .v (.int .u8 0), .v (.int .u8 0), .v (.int .u8 0), .v (.int .u8 0), .v (.int .u8 0), .v (.int .u8 0), .v (.int .u8 0), .v (.int .u8 0), .v (.int .u8 0), .v (.int .u8 0), .v (.int .u8 0), .v (.int .u8 0), .v (.int .u8 0), .v (.int .u8 0), .v (.int .u8 0), .v (.int .u8 0), .v (.int .i64 0), .v (.int .i64 0), .ds true 0 []]⟩ := rfl
theorem td31 : tdOf Γ 31 = some (.struct [(0, 3), (1, 25), (2, 29)]) := rfl
theorem fo31_0 : fieldOff Γ 31 0 = some (0, 3) := rfl
theorem fo31_1 : fieldOff Γ 31 1 = some (1, 25) := rfl
theorem fo31_2 : fieldOff Γ 31 2 = some (2, 29) := rfl
theorem Γ32 : Γ 32 = some ⟨.other, 1, 8, [.v .nilFunc]⟩ := rfl
theorem td32 : tdOf Γ 32 = some (.other) := rfl
theorem Γ33 : Γ 33 = some ⟨.int .i64, 1, 8, [.v (.int .i64 0)]⟩ := rfl
theorem td33 : tdOf Γ 33 = some (.int .i64) := rfl
theorem Γ35 : Γ 35 = some ⟨.other, 1, 8, [.v .nilFunc]⟩ := rfl
theorem td35 : tdOf Γ 35 = some (.other) := rfl
theorem Γ37 : Γ 37 = some ⟨.other, 1, 8, [.v .nilFunc]⟩ := rfl
theorem td37 : tdOf Γ 37 = some (.other) := rfl
theorem Γ38 : Γ 38 = some ⟨.other, 1, 8, [.v .nilFunc]⟩ := rfl
theorem td38 : tdOf Γ 38 = some (.other) := rfl
theorem Γ39 : Γ 39 = some ⟨.other, 1, 8, [.v .nilFunc]⟩ := rfl
theorem td39 : tdOf Γ 39 = some (.other) := rfl
theorem Γ40 : Γ 40 = some ⟨.int .u64, 1, 8, [.v (.int .u64 0)]⟩ := rfl
theorem td40 : tdOf Γ 40 = some (.int .u64) := rfl
theorem Γ41 : Γ 41 = some ⟨.arr 4 40, 4, 32, [.v (.int .u64 0), .v (.int .u64 0), .v (.int .u64 0), .v (.int .u64 0)]⟩ := rfl
theorem td41 : tdOf Γ 41 = some (.arr 4 40) := rfl
theorem ar41 : arrOf Γ 41 = some (4, 40, 1) := rfl
theorem Γ42 : Γ 42 = some ⟨.arr 4 40, 4, 32, [.v (.int .u64 0), .v (.int .u64 0), .v (.int .u64 0), .v (.int .u64 0)]⟩ := rfl
theorem td42 : tdOf Γ 42 = some (.arr 4 40) := rfl
theorem ar42 : arrOf Γ 42 = some (4, 40, 1) := rfl
theorem Γ43 : Γ 43 = some ⟨.struct [(0, 42), (4, 42), (8, 3)], 9, 72, [.v (.int .u64 0), .v (.int .u64 0), .v (.int .u64 0), .v (.int .u64 0), .v (.int .u64 0), .v (.int .u64 0), .v (.int .u64 0), .v (.int .u64 0), .v (.int .i64 0)]⟩ := rfl
theorem td43 : tdOf Γ 43 = some (.struct [(0, 42), (4, 42), (8, 3)]) := rfl
theorem fo43_0 : fieldOff Γ 43 0 = some (0, 42) := rfl
theorem fo43_1 : fieldOff Γ 43 1 = some (4, 42) := rfl
theorem fo43_2 : fieldOff Γ 43 2 = some (8, 3) := rfl
theorem Γ44 : Γ 44 = some ⟨.struct [(0, 42), (4, 42), (8, 3)], 9, 72, [.v (.int .u64 0), .v (.int .u64 0), .v (.int .u64 0), .v (.int .u64 0), .v (.int .u64 0), .v (.int .u64 0), .v (.int .u64 0), .v (.int .u64 0), .v (.int .i64 0)]⟩ := rfl
theorem td44 : tdOf Γ 44 = some (.struct [(0, 42), (4, 42), (8, 3)]) := rfl
theorem fo44_0 : fieldOff Γ 44 0 = some (0, 42) := rfl
theorem fo44_1 : fieldOff Γ 44 1 = some (4, 42) := rfl
theorem fo44_2 : fieldOff Γ 44 2 = some (8, 3) := rfl
theorem Γ45 : Γ 45 = some ⟨.struct [(0, 3), (1, 44)], 10, 80, [.v (.int .i64 0), .v (.int .u64 0), .v (.int .u64 0), .v (.int .u64 0), .v (.int .u64 0), .v (.int .u64 0), .v (.int .u64 0), .v (.int .u64 0), .v (.int .u64 0), .v (.int .i64 0)]⟩ := rfl
theorem td45 : tdOf Γ 45 = some (.struct [(0, 3), (1, 44)]) := rfl
theorem fo45_0 : fieldOff Γ 45 0 = some (0, 3) := rfl
theorem fo45_1 : fieldOff Γ 45 1 = some (1, 44) := rfl
theorem Γ46 : Γ 46 = some ⟨.struct [(0, 3), (1, 44)], 10, 80, [.v (.int .i64 0), .v (.int .u64 0), .v (.int .u64 0), .v (.int .u64 0), .v (.int .u64 0), .v (.int .u64 0), .v (.int .u64 0), .v (.int .u64 0), .v (.int .u64 0), .v (.int .i64 0)]⟩ := rfl
theorem td46 : tdOf Γ 46 = some (.struct [(0, 3), (1, 44)]) := rfl
theorem fo46_0 : fieldOff Γ 46 0 = some (0, 3) := rfl
theorem fo46_1 : fieldOff Γ 46 1 = some (1, 44) := rfl
theorem Γ47 : Γ 47 = some ⟨.other, 1, 8, [.v .nilFunc]⟩ := rfl
theorem td47 : tdOf Γ 47 = some (.other) := rfl
theorem Γ48 : Γ 48 = some ⟨.other, 1, 8, [.v .nilFunc]⟩ := rfl
theorem td48 : tdOf Γ 48 = some (.other) := rfl
theorem Γ49 : Γ 49 = some ⟨.slice 113, 1, 24, [.ds true 0 []]⟩ := rfl
theorem td49 : tdOf Γ 49 = some (.slice 113) := rfl
theorem sl49 : sliceOf Γ 49 = some (113, ⟨.arr 20 5, 20, 20, (List.replicate 20 (.v (.int .u8 0)))⟩) := rfl
theorem Γ50 : Γ 50 = some ⟨.struct [(0, 3), (1, 42), (5, 42), (9, 26), (41, 3), (42, 26), (74, 3), (75, 3), (76, 9), (77, 27), (78, 3), (79, 49)], 80, 232, [.v (.int .i64 0), .v (.int .u64 0), .v (.int .u64 0), .v (.int .u64 0), .v (.int .u64 0), .v (.int .u64 0), .v (.int .u64 0), .v (.int .u64 0), .v (.int .u64 0), .v (.int .u8 0), .v (.int .u8 0), .v (.int .u8 0), .v (.int .u8 0), .v (.int .u8 0), .v (.int .u8 0), .v (.int .u8 0), .v (.int .u8 0), .v (.int .u8 0), .v (.int .u8 0), .v (.int .u8 0), .v (.int .u8 0), .v (.int .u8 0), .v (.int .u8 0), .v (.int .u8 0), .v (.int .u8 0), .v (.int .u8 0), .v (.int .u8 0), .v (.int .u8 0), .v (.int .u8 0), .v (.int .u8 0), .v (.int .u8 0), .v (.int .u8 0), .v (.int .u8 0), .v (.int .u8 0), .v (.int .u8 0), .v (.int .u8 0), .v (.int .u8 0), .v (.int .u8 0), .v (.int .u8 0), .v (.int .u8 0), .v (.int .u8 0), .v (.int .i64 0), .v (.int .u8 0), .v (.int .u8 0), .v (.int .u8 0), .v (.int .u8 0), .v (.int .u8 0), .v (.int .u8 0), .v (.int .u8 0), .v (.int .u8 0), .v (.int .u8 0), .v (.int .u8 0), .v (.int .u8 0), .v (.int .u8 0), .v (.int .u8 0), .v (.int .u8 0), .v (.int .u8 0), .v (.int .u8 0), .v (.int .u8 0), .v (.int .u8 0), .v (.int .u8 0), .v (.int .u8 0), .v (.int .u8 0), .v (.int .u8 0), .v (.int .u8 0), .v (.int .u8 0), .v (.int .u8 0), .v (.int .u8 0), .v (.int .u8 0), .v (.int .u8 0), .v (.int .u8 0), .v (.int .u8 0), .v (.int .u8 0), .v (.int .u8 0), .v (.int .i64 0), .v (.int .i64 0), .v (.string ByteArray.empty), .ds true 0 [], .v (.int .i64 0), .ds true 0 []]⟩ := rfl
theorem td50 : tdOf Γ 50 = some (.struct [(0, 3), (1, 42), (5, 42), (9, 26), (41, 3), (42, 26), (74, 3), (75, 3), (76, 9), (77, 27), (78, 3), (79, 49)]) := rfl
theorem fo50_0 : fieldOff Γ 50 0 = some (0, 3) := rfl
theorem fo50_1 : fieldOff Γ 50 1 = some (1, 42) := rfl
theorem fo50_2 : fieldOff Γ 50 2 = some (5, 42) := rfl
theorem fo50_3 : fieldOff Γ 50 3 = some (9, 26) := rfl
theorem fo50_4 : fieldOff Γ 50 4 = some (41, 3) := rfl
theorem fo50_5 : fieldOff Γ 50 5 = some (42, 26) := rfl
theorem fo50_6 : fieldOff Γ 50 6 = some (74, 3) := rfl
theorem fo50_7 : fieldOff Γ 50 7 = some (75, 3) := rfl
theorem fo50_8 : fieldOff Γ 50 8 = some (76, 9) := rfl
theorem fo50_9 : fieldOff Γ 50 9 = some (77, 27) := rfl
theorem fo50_10 : fieldOff Γ 50 10 = some (78, 3) := rfl
theorem fo50_11 : fieldOff Γ 50 11 = some (79, 49) := rfl
theorem Γ51 : Γ 51 = some ⟨.struct [(0, 3), (1, 42), (5, 42), (9, 26), (41, 3), (42, 26), (74, 3), (75, 3), (76, 9), (77, 27), (78, 3), (79, 49)], 80, 232, [.v (.int .i64 0), .v (.int .u64 0), .v (.int .u64 0), .v (.int .u64 0), .v (.int .u64 0), .v (.int .u64 0), .v (.int .u64 0), .v (.int .u64 0), .v (.int .u64 0), .v (.int .u8 0), .v (.int .u8 0), .v (.int .u8 0), .v (.int .u8 0), .v (.int .u8 0), .v (.int .u8 0), .v (.int .u8 0), .v (.int .u8 0), .v (.int .u8 0), .v (.int .u8 0), .v (.int .u8 0), .v (.int .u8 0), .v (.int .u8 0), .v (.int .u8 0), .v (.int .u8 0), .v (.int .u8 0), .v (.int .u8 0), .v (.int .u8 0), .v (.int .u8 0), .v (.int .u8 0), .v (.int .u8 0), .v (.int .u8 0), .v (.int .u8 0), .v (.int .u8 0), .v (.int .u8 0), .v (.int .u8 0), .v (.int .u8 0), .v (.int .u8 0), .v (.int .u8 0), .v (.int .u8 0), .v (.int .u8 0), .v (.int .u8 0), .v (.int .i64 0), .v (.int .u8 0), .v (.int .u8 0), .v (.int .u8 0), .v (.int .u8 0), .v (.int .u8 0), .v (.int .u8 0), .v (.int .u8 0), .v (.int .u8 0), .v (.int .u8 0), .v (.int .u8 0), .v (.int .u8 0), .v (.int .u8 0), .v (.int .u8 0), .v (.int .u8 0), .v (.int .u8 0), .v (.int .u8 0), .v (.int .u8 0), .v (.int .u8 0), .v (.int .u8 0), .v (.int .u8 0), .v (.int .u8 0), .v (.int .u8 0), .v (.int .u8 0), .v (.int .u8 0), .v (.int .u8 0), .v (.int .u8 0), .v (.int .u8 0), .v (.int .u8 0), .v (.int .u8 0), .v (.int .u8 0), .v (.int .u8 0), .v (.int .u8 0), .v (.int .i64 0), .v (.int .i64 0), .v (.string ByteArray.empty), .ds true 0 [], .v (.int .i64 0), .ds true 0 []]⟩ := rfl
theorem td51 : tdOf Γ 51 = some (.struct [(0, 3), (1, 42), (5, 42), (9, 26), (41, 3), (42, 26), (74, 3), (75, 3), (76, 9), (77, 27), (78, 3), (79, 49)]) := rfl
theorem fo51_0 : fieldOff Γ 51 0 = some (0, 3) := rfl
theorem fo51_1 : fieldOff Γ 51 1 = some (1, 42) := rfl
theorem fo51_2 : fieldOff Γ 51 2 = some (5, 42) := rfl
theorem fo51_3 : fieldOff Γ 51 3 = some (9, 26) := rfl
theorem fo51_4 : fieldOff Γ 51 4 = some (41, 3) := rfl
theorem fo51_5 : fieldOff Γ 51 5 = some (42, 26) := rfl
theorem fo51_6 : fieldOff Γ 51 6 = some (74, 3) := rfl
theorem fo51_7 : fieldOff Γ 51 7 = some (75, 3) := rfl
theorem fo51_8 : fieldOff Γ 51 8 = some (76, 9) := rfl
theorem fo51_9 : fieldOff Γ 51 9 = some (77, 27) := rfl
theorem fo51_10 : fieldOff Γ 51 10 = some (78, 3) := rfl
theorem fo51_11 : fieldOff Γ 51 11 = some (79, 49) := rfl
theorem Γ52 : Γ 52 = some ⟨.other, 1, 8, [.v .nilFunc]⟩ := rfl
theorem td52 : tdOf Γ 52 = some (.other) := rfl
theorem Γ53 : Γ 53 = some ⟨.other, 1, 8, [.v .nilFunc]⟩ := rfl
theorem td53 : tdOf Γ 53 = some (.other) := rfl
theorem Γ55 : Γ 55 = some ⟨.other, 1, 8, [.v .nilFunc]⟩ := rfl
theorem td55 : tdOf Γ 55 = some (.other) := rfl
theorem Γ56 : Γ 56 = some ⟨.other, 1, 8, [.v .nilFunc]⟩ := rfl
theorem td56 : tdOf Γ 56 = some (.other) := rfl
theorem Γ57 : Γ 57 = some ⟨.other, 1, 8, [.v .nilFunc]⟩ := rfl
theorem td57 : tdOf Γ 57 = some (.other) := rfl
theorem Γ58 : Γ 58 = some ⟨.other, 1, 8, [.v .nilFunc]⟩ := rfl
theorem td58 : tdOf Γ 58 = some (.other) := rfl
theorem Γ59 : Γ 59 = some ⟨.struct [(0, 42), (4, 42), (8, 4)], 9, 72, [.v (.int .u64 0), .v (.int .u64 0), .v (.int .u64 0), .v (.int .u64 0), .v (.int .u64 0), .v (.int .u64 0), .v (.int .u64 0), .v (.int .u64 0), .v (.bool false)]⟩ := rfl
theorem td59 : tdOf Γ 59 = some (.struct [(0, 42), (4, 42), (8, 4)]) := rfl
theorem fo59_0 : fieldOff Γ 59 0 = some (0, 42) := rfl
theorem fo59_1 : fieldOff Γ 59 1 = some (4, 42) := rfl
theorem fo59_2 : fieldOff Γ 59 2 = some (8, 4) := rfl
theorem Γ60 : Γ 60 = some ⟨.struct [(0, 42), (4, 42), (8, 4)], 9, 72, [.v (.int .u64 0), .v (.int .u64 0), .v (.int .u64 0), .v (.int .u64 0), .v (.int .u64 0), .v (.int .u64 0), .v (.int .u64 0), .v (.int .u64 0), .v (.bool false)]⟩ := rfl
theorem td60 : tdOf Γ 60 = some (.struct [(0, 42), (4, 42), (8, 4)]) := rfl
theorem fo60_0 : fieldOff Γ 60 0 = some (0, 42) := rfl
theorem fo60_1 : fieldOff Γ 60 1 = some (4, 42) := rfl
theorem fo60_2 : fieldOff Γ 60 2 = some (8, 4) := rfl
theorem Γ61 : Γ 61 = some ⟨.struct [(0, 42), (4, 42), (8, 42), (12, 42), (16, 60)], 25, 200, [.v (.int .u64 0), .v (.int .u64 0), .v (.int .u64 0), .v (.int .u64 0), .v (.int .u64 0), .v (.int .u64 0), .v (.int .u64 0), .v (.int .u64 0), .v (.int .u64 0), .v (.int .u64 0), .v (.int .u64 0), .v (.int .u64 0), .v (.int .u64 0), .v (.int .u64 0), .v (.int .u64 0), .v (.int .u64 0), .v (.int .u64 0), .v (.int .u64 0), .v (.int .u64 0), .v (.int .u64 0), .v (.int .u64 0), .v (.int .u64 0), .v (.int .u64 0), .v (.int .u64 0), .v (.bool false)]⟩ := rfl
theorem td61 : tdOf Γ 61 = some (.struct [(0, 42), (4, 42), (8, 42), (12, 42), (16, 60)]) := rfl
theorem fo61_0 : fieldOff Γ 61 0 = some (0, 42) := rfl
theorem fo61_1 : fieldOff Γ 61 1 = some (4, 42) := rfl
theorem fo61_2 : fieldOff Γ 61 2 = some (8, 42) := rfl
theorem fo61_3 : fieldOff Γ 61 3 = some (12, 42) := rfl
theorem fo61_4 : fieldOff Γ 61 4 = some (16, 60) := rfl
theorem Γ62 : Γ 62 = some ⟨.struct [(0, 42), (4, 42), (8, 42), (12, 42), (16, 60)], 25, 200, [.v (.int .u64 0), .v (.int .u64 0), .v (.int .u64 0), .v (.int .u64 0), .v (.int .u64 0), .v (.int .u64 0), .v (.int .u64 0), .v (.int .u64 0), .v (.int .u64 0), .v (.int .u64 0), .v (.int .u64 0), .v (.int .u64 0), .v (.int .u64 0), .v (.int .u64 0), .v (.int .u64 0), .v (.int .u64 0), .v (.int .u64 0), .v (.int .u64 0), .v (.int .u64 0), .v (.int .u64 0), .v (.int .u64 0), .v (.int .u64 0), .v (.int .u64 0), .v (.int .u64 0), .v (.bool false)]⟩ := rfl
theorem td62 : tdOf Γ 62 = some (.struct [(0, 42), (4, 42), (8, 42), (12, 42), (16, 60)]) := rfl
theorem fo62_0 : fieldOff Γ 62 0 = some (0, 42) := rfl
theorem fo62_1 : fieldOff Γ 62 1 = some (4, 42) := rfl
theorem fo62_2 : fieldOff Γ 62 2 = some (8, 42) := rfl
theorem fo62_3 : fieldOff Γ 62 3 = some (12, 42) := rfl
theorem fo62_4 : fieldOff Γ 62 4 = some (16, 60) := rfl
theorem Γ63 : Γ 63 = some ⟨.other, 1, 8, [.v .nilFunc]⟩ := rfl
theorem td63 : tdOf Γ 63 = some (.other) := rfl
theorem Γ64 : Γ 64 = some ⟨.other, 1, 8, [.v .nilFunc]⟩ := rfl
theorem td64 : tdOf Γ 64 = some (.other) := rfl
theorem Γ66 : Γ 66 = some ⟨.other, 1, 8, [.v .nilFunc]⟩ := rfl
theorem td66 : tdOf Γ 66 = some (.other) := rfl
theorem Γ67 : Γ 67 = some ⟨.other, 1, 8, [.v .nilFunc]⟩ := rfl
theorem td67 : tdOf Γ 67 = some (.other) := rfl
theorem Γ68 : Γ 68 = some ⟨.other, 1, 8, [.v .nilFunc]⟩ := rfl
theorem td68 : tdOf Γ 68 = some (.other) := rfl
theorem Γ69 : Γ 69 = some ⟨.other, 1, 8, [.v .nilFunc]⟩ := rfl
theorem td69 : tdOf Γ 69 = some (.other) := rfl
theorem Γ70 : Γ 70 = some ⟨.other, 1, 8, [.v .nilFunc]⟩ := rfl
theorem td70 : tdOf Γ 70 = some (.other) := rfl
theorem Γ71 : Γ 71 = some ⟨.slice 42, 1, 24, [.ds true 0 []]⟩ := rfl
theorem td71 : tdOf Γ 71 = some (.slice 42) := rfl
theorem sl71 : sliceOf Γ 71 = some (42, ⟨.arr 4 40, 4, 32, [.v (.int .u64 0), .v (.int .u64 0), .v (.int .u64 0), .v (.int .u64 0)]⟩) := rfl
theorem Γ72 : Γ 72 = some ⟨.other, 1, 8, [.v .nilFunc]⟩ := rfl
theorem td72 : tdOf Γ 72 = some (.other) := rfl
theorem Γ73 : Γ 73 = some ⟨.other, 1, 8, [.v .nilFunc]⟩ := rfl
theorem td73 : tdOf Γ 73 = some (.other) := rfl
theorem Γ74 : Γ 74 = some ⟨.other, 1, 8, [.v .nilFunc]⟩ := rfl
theorem td74 : tdOf Γ 74 = some (.other) := rfl
theorem Γ75 : Γ 75 = some ⟨.other, 1, 8, [.v .nilFunc]⟩ := rfl
theorem td75 : tdOf Γ 75 = some (.other) := rfl
theorem Γ77 : Γ 77 = some ⟨.other, 1, 8, [.v .nilFunc]⟩ := rfl
theorem td77 : tdOf Γ 77 = some (.other) := rfl
theorem Γ78 : Γ 78 = some ⟨.other, 1, 8, [.v .nilFunc]⟩ := rfl
theorem td78 : tdOf Γ 78 = some (.other) := rfl
theorem Γ80 : Γ 80 = some ⟨.other, 1, 8, [.v .nilFunc]⟩ := rfl
theorem td80 : tdOf Γ 80 = some (.other) := rfl
theorem Γ81 : Γ 81 = some ⟨.other, 1, 8, [.v .nilFunc]⟩ := rfl
theorem td81 : tdOf Γ 81 = some (.other) := rfl
theorem Γ82 : Γ 82 = some ⟨.other, 1, 8, [.v .nilFunc]⟩ := rfl
theorem td82 : tdOf Γ 82 = some (.other) := rfl
theorem Γ83 : Γ 83 = some ⟨.other, 1, 8, [.v .nilFunc]⟩ := rfl
theorem td83 : tdOf Γ 83 = some (.other) := rfl
theorem Γ84 : Γ 84 = some ⟨.other, 1, 8, [.v .nilFunc]⟩ := rfl
theorem td84 : tdOf Γ 84 = some (.other) := rfl
theorem Γ85 : Γ 85 = some ⟨.other, 1, 8, [.v .nilFunc]⟩ := rfl
theorem td85 : tdOf Γ 85 = some (.other) := rfl
theorem Γ86 : Γ 86 = some ⟨.other, 1, 8, [.v .nilFunc]⟩ := rfl
theorem td86 : tdOf Γ 86 = some (.other) := rfl
theorem Γ87 : Γ 87 = some ⟨.ptr, 1, 8, [.v (.pointer none)]⟩ := rfl
theorem td87 : tdOf Γ 87 = some (.ptr) := rfl
theorem Γ88 : Γ 88 = some ⟨.struct [(0, 27)], 1, 24, [.ds true 0 []]⟩ := rfl
theorem td88 : tdOf Γ 88 = some (.struct [(0, 27)]) := rfl
theorem fo88_0 : fieldOff Γ 88 0 = some (0, 27) := rfl
theorem Γ89 : Γ 89 = some ⟨.struct [(0, 27)], 1, 24, [.ds true 0 []]⟩ := rfl
theorem td89 : tdOf Γ 89 = some (.struct [(0, 27)]) := rfl
theorem fo89_0 : fieldOff Γ 89 0 = some (0, 27) := rfl
theorem Γ90 : Γ 90 = some ⟨.other, 1, 8, [.v .nilFunc]⟩ := rfl
theorem td90 : tdOf Γ 90 = some (.other) := rfl
theorem Γ91 : Γ 91 = some ⟨.other, 1, 8, [.v .nilFunc]⟩ := rfl
theorem td91 : tdOf Γ 91 = some (.other) := rfl
theorem Γ92 : Γ 92 = some ⟨.other, 1, 8, [.v .nilFunc]⟩ := rfl
theorem td92 : tdOf Γ 92 = some (.other) := rfl
theorem Γ93 : Γ 93 = some ⟨.other, 1, 8, [.v .nilFunc]⟩ := rfl
theorem td93 : tdOf Γ 93 = some (.other) := rfl
theorem Γ94 : Γ 94 = some ⟨.ptr, 1, 8, [.v (.pointer none)]⟩ := rfl
theorem td94 : tdOf Γ 94 = some (.ptr) := rfl
theorem Γ95 : Γ 95 = some ⟨.struct [(0, 27), (1, 4)], 2, 32, [.ds true 0 [], .v (.bool false)]⟩ := rfl
theorem td95 : tdOf Γ 95 = some (.struct [(0, 27), (1, 4)]) := rfl
theorem fo95_0 : fieldOff Γ 95 0 = some (0, 27) := rfl
theorem fo95_1 : fieldOff Γ 95 1 = some (1, 4) := rfl
theorem Γ96 : Γ 96 = some ⟨.struct [(0, 27), (1, 4)], 2, 32, [.ds true 0 [], .v (.bool false)]⟩ := rfl
theorem td96 : tdOf Γ 96 = some (.struct [(0, 27), (1, 4)]) := rfl
theorem fo96_0 : fieldOff Γ 96 0 = some (0, 27) := rfl
theorem fo96_1 : fieldOff Γ 96 1 = some (1, 4) := rfl
theorem Γ97 : Γ 97 = some ⟨.other, 1, 8, [.v .nilFunc]⟩ := rfl
theorem td97 : tdOf Γ 97 = some (.other) := rfl
theorem Γ98 : Γ 98 = some ⟨.other, 1, 8, [.v .nilFunc]⟩ := rfl
theorem td98 : tdOf Γ 98 = some (.other) := rfl
theorem Γ99 : Γ 99 = some ⟨.other, 1, 8, [.v .nilFunc]⟩ := rfl
theorem td99 : tdOf Γ 99 = some (.other) := rfl
theorem Γ100 : Γ 100 = some ⟨.other, 1, 8, [.v .nilFunc]⟩ := rfl
theorem td100 : tdOf Γ 100 = some (.other) := rfl
theorem Γ101 : Γ 101 = some ⟨.other, 1, 8, [.v .nilFunc]⟩ := rfl
theorem td101 : tdOf Γ 101 = some (.other) := rfl
theorem Γ102 : Γ 102 = some ⟨.other, 1, 8, [.v .nilFunc]⟩ := rfl
theorem td102 : tdOf Γ 102 = some (.other) := rfl
theorem Γ103 : Γ 103 = some ⟨.other, 1, 8, [.v .nilFunc]⟩ := rfl
theorem td103 : tdOf Γ 103 = some (.other) := rfl
theorem Γ104 : Γ 104 = some ⟨.other, 1, 8, [.v .nilFunc]⟩ := rfl
theorem td104 : tdOf Γ 104 = some (.other) := rfl
theorem Γ108 : Γ 108 = some ⟨.other, 1, 8, [.v .nilFunc]⟩ := rfl
theorem td108 : tdOf Γ 108 = some (.other) := rfl
theorem Γ109 : Γ 109 = some ⟨.other, 1, 8, [.v .nilFunc]⟩ := rfl
theorem td109 : tdOf Γ 109 = some (.other) := rfl
theorem Γ110 : Γ 110 = some ⟨.other, 1, 8, [.v .nilFunc]⟩ := rfl
theorem td110 : tdOf Γ 110 = some (.other) := rfl
theorem Γ111 : Γ 111 = some ⟨.other, 1, 8, [.v .nilFunc]⟩ := rfl
theorem td111 : tdOf Γ 111 = some (.other) := rfl
theorem Γ112 : Γ 112 = some ⟨.arr 20 5, 20, 20, (List.replicate 20 (.v (.int .u8 0)))⟩ := rfl
theorem td112 : tdOf Γ 112 = some (.arr 20 5) := rfl
theorem ar112 : arrOf Γ 112 = some (20, 5, 1) := rfl
theorem Γ113 : Γ 113 = some ⟨.arr 20 5, 20, 20, (List.replicate 20 (.v (.int .u8 0)))⟩ := rfl
theorem td113 : tdOf Γ 113 = some (.arr 20 5) := rfl
theorem ar113 : arrOf Γ 113 = some (20, 5, 1) := rfl
theorem Γ114 : Γ 114 = some ⟨.other, 1, 8, [.v .nilFunc]⟩ := rfl
theorem td114 : tdOf Γ 114 = some (.other) := rfl
theorem Γ115 : Γ 115 = some ⟨.arr 8 62, 200, 1600, [.v (.int .u64 0), .v (.int .u64 0), .v (.int .u64 0), .v (.int .u64 0), .v (.int .u64 0), .v (.int .u64 0), .v (.int .u64 0), .v (.int .u64 0), .v (.int .u64 0), .v (.int .u64 0), .v (.int .u64 0), .v (.int .u64 0), .v (.int .u64 0), .v (.int .u64 0), .v (.int .u64 0), .v (.int .u64 0), .v (.int .u64 0), .v (.int .u64 0), .v (.int .u64 0), .v (.int .u64 0), .v (.int .u64 0), .v (.int .u64 0), .v (.int .u64 0), .v (.int .u64 0), .v (.bool false), .v (.int .u64 0), .v (.int .u64 0), .v (.int .u64 0), .v (.int .u64 0), .v (.int .u64 0), .v (.int .u64 0), .v (.int .u64 0), .v (.int .u64 0), .v (.int .u64 0), .v (.int .u64 0), .v (.int .u64 0), .v (.int .u64 0), .v (.int .u64 0), .v (.int .u64 0), .v (.int .u64 0), .v (.int .u64 0), .v (.int .u64 0), .v (.int .u64 0), .v (.int .u64 0), .v (.int .u64 0), .v (.int .u64 0), .v (.int .u64 0), .v (.int .u64 0), .v (.int .u64 0), .v (.bool false), .v (.int .u64 0), .v (.int .u64 0), .v (.int .u64 0), .v (.int .u64 0), .v (.int .u64 0), .v (.int .u64 0), .v (.int .u64 0), .v (.int .u64 0), .v (.int .u64 0), .v (.int .u64 0), .v (.int .u64 0), .v (.int .u64 0), .v (.int .u64 0), .v (.int .u64 0), .v (.int .u64 0), .v (.int .u64 0), .v (.int .u64 0), .v (.int .u64 0), .v (.int .u64 0), .v (.int .u64 0), .v (.int .u64 0), .v (.int .u64 0), .v (.int .u64 0), .v (.int .u64 0), .v (.bool false), .v (.int .u64 0), .v (.int .u64 0), .v (.int .u64 0), .v (.int .u64 0), .v (.int .u64 0), .v (.int .u64 0), .v (.int .u64 0), .v (.int .u64 0), .v (.int .u64 0), .v (.int .u64 0), .v (.int .u64 0), .v (.int .u64 0), .v (.int .u64 0), .v (.int .u64 0), .v (.int .u64 0), .v (.int .u64 0), .v (.int .u64 0), .v (.int .u64 0), .v (.int .u64 0), .v (.int .u64 0), .v (.int .u64 0), .v (.int .u64 0), .v (.int .u64 0), .v (.int .u64 0), .v (.bool false), .v (.int .u64 0), .v (.int .u64 0), .v (.int .u64 0), .v (.int .u64 0), .v (.int .u64 0), .v (.int .u64 0), .v (.int .u64 0), .v (.int .u64 0), .v (.int .u64 0), .v (.int .u64 0), .v (.int .u64 0), .v (.int .u64 0), .v (.int .u64 0), .v (.int .u64 0), .v (.int .u64 0), .v (.int .u64 0), .v (.int .u64 0), .v (.int .u64 0), .v (.int .u64 0), .v (.int .u64 0), .v (.int .u64 0), .v (.int .u64 0), .v (.int .u64 0), .v (.int .u64 0), .v (.bool false), .v (.int .u64 0), .v (.int .u64 0), .v (.int .u64 0), .v (.int .u64 0), .v (.int .u64 0), .v (.int .u64 0), .v (.int .u64 0), .v (.int .u64 0), .v (.int .u64 0), .v (.int .u64 0), .v (.int .u64 0), .v (.int .u64 0), .v (.int .u64 0), .v (.int .u64 0), .v (.int .u64 0), .v (.int .u64 0), .v (.int .u64 0), .v (.int .u64 0), .v (.int .u64 0), .v (.int .u64 0), .v (.int .u64 0), .v (.int .u64 0), .v (.int .u64 0), .v (.int .u64 0), .v (.bool false), .v (.int .u64 0), .v (.int .u64 0), .v (.int .u64 0), .v (.int .u64 0), .v (.int .u64 0), .v (.int .u64 0), .v (.int .u64 0), .v (.int .u64 0), .v (.int .u64 0), .v (.int .u64 0), .v (.int .u64 0), .v (.int .u64 0), .v (.int .u64 0), .v (.int .u64 0), .v (.int .u64 0), .v (.int .u64 0), .v (.int .u64 0), .v (.int .u64 0), .v (.int .u64 0), .v (.int .u64 0), .v (.int .u64 0), .v (.int .u64 0), .v (.int .u64 0), .v (.int .u64 0), .v (.bool false), .v (.int .u64 0), .v (.int .u64 0), .v (.int .u64 0), .v (.int .u64 0), .v (.int .u64 0), .v (.int .u64 0), .v (.int .u64 0), .v (.int .u64 0), .v (.int .u64 0), .v (.int .u64 0), .v (.int .u64 0), .v (.int .u64 0), .v (.int .u64 0), .v (.int .u64 0), .v (.int .u64 0), .v (.int .u64 0), .v (.int .u64 0), .v (.int .u64 0), .v (.int .u64 0), .v (.int .u64 0), .v (.int .u64 0), .v (.int .u64 0), .v (.int .u64 0), .v (.int .u64 0), .v (.bool false)]⟩ := rfl
theorem td115 : tdOf Γ 115 = some (.arr 8 62) := rfl
theorem ar115 : arrOf Γ 115 = some (8, 62, 25) := rfl
theorem Γ116 : Γ 116 = some ⟨.other, 1, 8, [.v .nilFunc]⟩ := rfl
theorem td116 : tdOf Γ 116 = some (.other) := rfl
theorem Γ118 : Γ 118 = some ⟨.other, 1, 8, [.v .nilFunc]⟩ := rfl
theorem td118 : tdOf Γ 118 = some (.other) := rfl
theorem Γ119 : Γ 119 = some ⟨.other, 1, 8, [.v .nilFunc]⟩ := rfl
theorem td119 : tdOf Γ 119 = some (.other) := rfl
theorem Γ120 : Γ 120 = some ⟨.other, 1, 8, [.v .nilFunc]⟩ := rfl
theorem td120 : tdOf Γ 120 = some (.other) := rfl
theorem Γ121 : Γ 121 = some ⟨.other, 1, 8, [.v .nilFunc]⟩ := rfl
theorem td121 : tdOf Γ 121 = some (.other) := rfl
theorem Γ122 : Γ 122 = some ⟨.other, 1, 8, [.v .nilFunc]⟩ := rfl
theorem td122 : tdOf Γ 122 = some (.other) := rfl
theorem Γ123 : Γ 123 = some ⟨.other, 1, 8, [.v .nilFunc]⟩ := rfl
theorem td123 : tdOf Γ 123 = some (.other) := rfl
theorem Γ125 : Γ 125 = some ⟨.other, 1, 8, [.v .nilFunc]⟩ := rfl
theorem td125 : tdOf Γ 125 = some (.other) := rfl
theorem Γ126 : Γ 126 = some ⟨.other, 1, 8, [.v .nilFunc]⟩ := rfl
theorem td126 : tdOf Γ 126 = some (.other) := rfl
theorem Γ127 : Γ 127 = some ⟨.ptr, 1, 8, [.v (.pointer none)]⟩ := rfl
theorem td127 : tdOf Γ 127 = some (.ptr) := rfl
theorem Γ128 : Γ 128 = some ⟨.struct [(0, 42), (4, 127)], 5, 40, [.v (.int .u64 0), .v (.int .u64 0), .v (.int .u64 0), .v (.int .u64 0), .v (.pointer none)]⟩ := rfl
theorem td128 : tdOf Γ 128 = some (.struct [(0, 42), (4, 127)]) := rfl
theorem fo128_0 : fieldOff Γ 128 0 = some (0, 42) := rfl
theorem fo128_1 : fieldOff Γ 128 1 = some (4, 127) := rfl
theorem Γ129 : Γ 129 = some ⟨.struct [(0, 42), (4, 127)], 5, 40, [.v (.int .u64 0), .v (.int .u64 0), .v (.int .u64 0), .v (.int .u64 0), .v (.pointer none)]⟩ := rfl
theorem td129 : tdOf Γ 129 = some (.struct [(0, 42), (4, 127)]) := rfl
theorem fo129_0 : fieldOff Γ 129 0 = some (0, 42) := rfl
theorem fo129_1 : fieldOff Γ 129 1 = some (4, 127) := rfl
theorem Γ130 : Γ 130 = some ⟨.other, 1, 8, [.v .nilFunc]⟩ := rfl
theorem td130 : tdOf Γ 130 = some (.other) := rfl
theorem Γ131 : Γ 131 = some ⟨.other, 1, 8, [.v .nilFunc]⟩ := rfl
theorem td131 : tdOf Γ 131 = some (.other) := rfl
theorem Γ132 : Γ 132 = some ⟨.other, 1, 8, [.v .nilFunc]⟩ := rfl
theorem td132 : tdOf Γ 132 = some (.other) := rfl
theorem Γ133 : Γ 133 = some ⟨.other, 1, 8, [.v .nilFunc]⟩ := rfl
theorem td133 : tdOf Γ 133 = some (.other) := rfl
theorem Γ134 : Γ 134 = some ⟨.other, 1, 8, [.v .nilFunc]⟩ := rfl
theorem td134 : tdOf Γ 134 = some (.other) := rfl
theorem Γ135 : Γ 135 = some ⟨.int .u64, 1, 8, [.v (.int .u64 0)]⟩ := rfl
theorem td135 : tdOf Γ 135 = some (.int .u64) := rfl
theorem Γ136 : Γ 136 = some ⟨.struct [(0, 4)], 1, 1, [.v (.bool false)]⟩ := rfl
theorem td136 : tdOf Γ 136 = some (.struct [(0, 4)]) := rfl
theorem fo136_0 : fieldOff Γ 136 0 = some (0, 4) := rfl
theorem Γ137 : Γ 137 = some ⟨.struct [(0, 4)], 1, 1, [.v (.bool false)]⟩ := rfl
theorem td137 : tdOf Γ 137 = some (.struct [(0, 4)]) := rfl
theorem fo137_0 : fieldOff Γ 137 0 = some (0, 4) := rfl
theorem Γ138 : Γ 138 = some ⟨.struct [], 0, 0, []⟩ := rfl
theorem td138 : tdOf Γ 138 = some (.struct []) := rfl
theorem Γ139 : Γ 139 = some ⟨.struct [], 0, 0, []⟩ := rfl
theorem td139 : tdOf Γ 139 = some (.struct []) := rfl
theorem Γ140 : Γ 140 = some ⟨.struct [], 0, 0, []⟩ := rfl
theorem td140 : tdOf Γ 140 = some (.struct []) := rfl
theorem Γ141 : Γ 141 = some ⟨.slice 60, 1, 24, [.ds true 0 []]⟩ := rfl
theorem td141 : tdOf Γ 141 = some (.slice 60) := rfl
theorem sl141 : sliceOf Γ 141 = some (60, ⟨.struct [(0, 42), (4, 42), (8, 4)], 9, 72, [.v (.int .u64 0), .v (.int .u64 0), .v (.int .u64 0), .v (.int .u64 0), .v (.int .u64 0), .v (.int .u64 0), .v (.int .u64 0), .v (.int .u64 0), .v (.bool false)]⟩) := rfl
theorem Γ142 : Γ 142 = some ⟨.other, 1, 8, [.v .nilFunc]⟩ := rfl
theorem td142 : tdOf Γ 142 = some (.other) := rfl
theorem Γ143 : Γ 143 = some ⟨.other, 1, 8, [.v .nilFunc]⟩ := rfl
theorem td143 : tdOf Γ 143 = some (.other) := rfl
theorem Γ144 : Γ 144 = some ⟨.other, 1, 8, [.v .nilFunc]⟩ := rfl
theorem td144 : tdOf Γ 144 = some (.other) := rfl
theorem Γ145 : Γ 145 = some ⟨.other, 1, 8, [.v .nilFunc]⟩ := rfl
theorem td145 : tdOf Γ 145 = some (.other) := rfl
theorem Γ146 : Γ 146 = some ⟨.other, 1, 8, [.v .nilFunc]⟩ := rfl
theorem td146 : tdOf Γ 146 = some (.other) := rfl
theorem Γ148 : Γ 148 = some ⟨.other, 1, 8, [.v .nilFunc]⟩ := rfl
theorem td148 : tdOf Γ 148 = some (.other) := rfl
theorem Γ149 : Γ 149 = some ⟨.other, 1, 8, [.v .nilFunc]⟩ := rfl
theorem td149 : tdOf Γ 149 = some (.other) := rfl
theorem Γ150 : Γ 150 = some ⟨.other, 1, 8, [.v .nilFunc]⟩ := rfl
theorem td150 : tdOf Γ 150 = some (.other) := rfl
theorem Γ151 : Γ 151 = some ⟨.other, 1, 8, [.v .nilFunc]⟩ := rfl
theorem td151 : tdOf Γ 151 = some (.other) := rfl
theorem Γ152 : Γ 152 = some ⟨.other, 1, 8, [.v .nilFunc]⟩ := rfl
theorem td152 : tdOf Γ 152 = some (.other) := rfl
theorem Γ153 : Γ 153 = some ⟨.struct [(0, 17), (1, 17), (2, 17), (3, 9)], 4, 40, [.v (.pointer none), .v (.pointer none), .v (.pointer none), .v (.string ByteArray.empty)]⟩ := rfl
theorem td153 : tdOf Γ 153 = some (.struct [(0, 17), (1, 17), (2, 17), (3, 9)]) := rfl
theorem fo153_0 : fieldOff Γ 153 0 = some (0, 17) := rfl
theorem fo153_1 : fieldOff Γ 153 1 = some (1, 17) := rfl
theorem fo153_2 : fieldOff Γ 153 2 = some (2, 17) := rfl
theorem fo153_3 : fieldOff Γ 153 3 = some (3, 9) := rfl
theorem Γ155 : Γ 155 = some ⟨.arr 0 16, 0, 0, []⟩ := rfl
theorem td155 : tdOf Γ 155 = some (.arr 0 16) := rfl
theorem Γ156 : Γ 156 = some ⟨.struct [(0, 155)], 0, 0, []⟩ := rfl
theorem td156 : tdOf Γ 156 = some (.struct [(0, 155)]) := rfl
theorem fo156_0 : fieldOff Γ 156 0 = some (0, 155) := rfl
theorem Γ158 : Γ 158 = some ⟨.other, 1, 8, [.v .nilFunc]⟩ := rfl
theorem td158 : tdOf Γ 158 = some (.other) := rfl
theorem Γ159 : Γ 159 = some ⟨.int .u32, 1, 4, [.v (.int .u32 0)]⟩ := rfl
theorem td159 : tdOf Γ 159 = some (.int .u32) := rfl
theorem Γ162 : Γ 162 = some ⟨.other, 1, 8, [.v .nilFunc]⟩ := rfl
theorem td162 : tdOf Γ 162 = some (.other) := rfl
theorem Γ163 : Γ 163 = some ⟨.ptr, 1, 8, [.v (.pointer none)]⟩ := rfl
theorem td163 : tdOf Γ 163 = some (.ptr) := rfl
theorem Γ166 : Γ 166 = some ⟨.struct [(0, 12), (1, 12), (2, 159), (3, 160), (4, 5), (5, 5), (6, 161), (7, 162), (8, 163), (9, 164), (10, 165)], 11, 48, [.v (.int .u64 0), .v (.int .u64 0), .v (.int .u32 0), .v (.int .u8 0), .v (.int .u8 0), .v (.int .u8 0), .v (.int .u8 0), .v .nilFunc, .v (.pointer none), .v (.int .i32 0), .v (.int .i32 0)]⟩ := rfl
theorem td166 : tdOf Γ 166 = some (.struct [(0, 12), (1, 12), (2, 159), (3, 160), (4, 5), (5, 5), (6, 161), (7, 162), (8, 163), (9, 164), (10, 165)]) := rfl
theorem fo166_0 : fieldOff Γ 166 0 = some (0, 12) := rfl
theorem fo166_1 : fieldOff Γ 166 1 = some (1, 12) := rfl
theorem fo166_2 : fieldOff Γ 166 2 = some (2, 159) := rfl
theorem fo166_3 : fieldOff Γ 166 3 = some (3, 160) := rfl
theorem fo166_4 : fieldOff Γ 166 4 = some (4, 5) := rfl
theorem fo166_5 : fieldOff Γ 166 5 = some (5, 5) := rfl
theorem fo166_6 : fieldOff Γ 166 6 = some (6, 161) := rfl
theorem fo166_7 : fieldOff Γ 166 7 = some (7, 162) := rfl
theorem fo166_8 : fieldOff Γ 166 8 = some (8, 163) := rfl
theorem fo166_9 : fieldOff Γ 166 9 = some (9, 164) := rfl
theorem fo166_10 : fieldOff Γ 166 10 = some (10, 165) := rfl
theorem Γ168 : Γ 168 = some ⟨.other, 1, 8, [.v .nilFunc]⟩ := rfl
theorem td168 : tdOf Γ 168 = some (.other) := rfl
theorem Γ169 : Γ 169 = some ⟨.other, 1, 8, [.v .nilFunc]⟩ := rfl
theorem td169 : tdOf Γ 169 = some (.other) := rfl
theorem Γ170 : Γ 170 = some ⟨.slice 27, 1, 24, [.ds true 0 []]⟩ := rfl
theorem td170 : tdOf Γ 170 = some (.slice 27) := rfl
theorem sl170 : sliceOf Γ 170 = some (27, ⟨.slice 5, 1, 24, [.ds true 0 []]⟩) := rfl
theorem Γok : TabOk Try.prog Γ := tabOkT (by kernel_rfl)
theorem mixed : Try.prog.follows .mixedOrders = true := by kernel_rfl
end Go.Proofs.Ytdicmddedcfhaaa
