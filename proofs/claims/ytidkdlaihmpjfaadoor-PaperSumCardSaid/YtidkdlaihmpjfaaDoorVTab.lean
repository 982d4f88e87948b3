/- The table of the program's types, for the engine. -/
import Derived.Test.YtidkdlaihmpjfaaDoorVTree
import Derived.Test.YtidkdlaihmpjfaaDoorRows
import Derived.ProofKit
namespace Go.Proofs.YtidkdlaihmpjfaaDoor
open Go.RowKit
def Γl : TT := (.node (.node (.node (.node (.node (.node (.node (.node .leaf 1 ⟨.other, 1, 8, [.v .nilFunc]⟩ .leaf) 2 ⟨.int .i64, 1, 8, [.v (.int .i64 0)]⟩ .leaf) 3 ⟨.int .i64, 1, 8, [.v (.int .i64 0)]⟩ (.node .leaf 4 ⟨.bool, 1, 1, [.v (.bool false)]⟩ .leaf)) 5 ⟨.int .u8, 1, 1, [.v (.int .u8 0)]⟩ (.node (.node .leaf 7 ⟨.struct [(0, 2), (1, 3), (2, 4), (3, 6)], 4, 24, [.v (.int .i64 0), .v (.int .i64 0), .v (.bool false), .v (.int .u8 0)]⟩ .leaf) 9 ⟨.str, 1, 16, [.v (.string ByteArray.empty)]⟩ (.node .leaf 12 ⟨.int .u64, 1, 8, [.v (.int .u64 0)]⟩ .leaf))) 13 ⟨.struct [(0, 9), (1, 12)], 2, 24, [.v (.string ByteArray.empty), .v (.int .u64 0)]⟩ (.node (.node (.node (.node .leaf 21 ⟨.int .i32, 1, 4, [.v (.int .i32 0)]⟩ .leaf) 22 ⟨.int .u64, 1, 8, [.v (.int .u64 0)]⟩ .leaf) 23 ⟨.arr 25 22, 25, 200, (List.replicate 25 (.v (.int .u64 0)))⟩ (.node .leaf 24 ⟨.other, 1, 8, [.v .nilFunc]⟩ .leaf)) 25 ⟨.other, 1, 8, [.v .nilFunc]⟩ (.node (.node .leaf 26 ⟨.other, 1, 8, [.v .nilFunc]⟩ .leaf) 27 ⟨.slice 5, 1, 24, [.ds true 0 []]⟩ (.node .leaf 28 ⟨.arr 136 5, 136, 136, (List.replicate 136 (.v (.int .u8 0)))⟩ .leaf)))) 29 ⟨.struct [(0, 23), (25, 28), (161, 3)], 162, 344, [.v (.int .u64 0), .v (.int .u64 0), .v (.int .u64 0), .v (.int .u64 0), .v (.int .u64 0), .v (.int .u64 0), .v (.int .u64 0), .v (.int .u64 0), .v (.int .u64 0), .v (.int .u64 0), .v (.int .u64 0), .v (.int .u64 0), .v (.int .u64 0), .v (.int .u64 0), .v (.int .u64 0), .v (.int .u64 0), .v (.int .u64 0), .v (.int .u64 0), .v (.int .u64 0), .v (.int .u64 0), .v (.int .u64 0), .v (.int .u64 0), .v (.int .u64 0), .v (.int .u64 0), .v (.int .u64 0), .v (.int .u8 0), .v (.int .u8 0), .v (.int .u8 0), .v (.int .u8 0), .v (.int .u8 0), .v (.int .u8 0), .v (.int .u8 0), .v (.int .u8 0), .v (.int .u8 0), .v (.int .u8 0), .v (.int .u8 0), .v (.int .u8 0), .v (.int .u8 0), .v (.int .u8 0), .v (.int .u8 0), .v (.int .u8 0), .v (.int .u8 0), .v (.int .u8 0), .v (.int .u8 0), .v (.int .u8 0), .v (.int .u8 0), .v (.int .u8 0), .v (.int .u8 0), .v (.int .u8 0), .v (.int .u8 0), .v (.int .u8 0), .v (.int .u8 0), .v (.int .u8 0), .v (.int .u8 0), .v (.int .u8 0), .v (.int .u8 0), .v (.int .u8 0), .v (.int .u8 0), .v (.int .u8 0), .v (.int .u8 0), .v (.int .u8 0), .v (.int .u8 0), .v (.int .u8 0), .v (.int .u8 0), .v (.int .u8 0), .v (.int .u8 0), .v (.int .u8 0), .v (.int .u8 0), .v (.int .u8 0), .v (.int .u8 0), .v (.int .u8 0), .v (.int .u8 0), .v (.int .u8 0), .v (.int .u8 0), .v (.int .u8 0), .v (.int .u8 0), .v (.int .u8 0), .v (.int .u8 0), .v (.int .u8 0), .v (.int .u8 0), .v (.int .u8 0), .v (.int .u8 0), .v (.int .u8 0), .v (.int .u8 0), .v (.int .u8 0), .v (.int .u8 0), .v (.int .u8 0), .v (.int .u8 0), .v (.int .u8 0), .v (.int .u8 0), .v (.int .u8 0), .v (.int .u8 0), .v (.int .u8 0), .v (.int .u8 0), .v (.int .u8 0), .v (.int .u8 0), .v (.int .u8 0), .v (.int .u8 0), .v (.int .u8 0), .v (.int .u8 0), .v (.int .u8 0), .v (.int .u8 0), .v (.int .u8 0), .v (.int .u8 0), .v (.int .u8 0), .v (.int .u8 0), .v (.int .u8 0), .v (.int .u8 0), .v (.int .u8 0), .v (.int .u8 0), .v (.int .u8 0), .v (.int .u8 0), .v (.int .u8 0), .v (.int .u8 0), .v (.int .u8 0), .v (.int .u8 0), .v (.int .u8 0), .v (.int .u8 0), .v (.int .u8 0), .v (.int .u8 0), .v (.int .u8 0), .v (.int .u8 0), .v (.int .u8 0), .v (.int .u8 0), .v (.int .u8 0), .v (.int .u8 0), .v (.int .u8 0), .v (.int .u8 0), .v (.int .u8 0), .v (.int .u8 0), .v (.int .u8 0), .v (.int .u8 0), .v (.int .u8 0), .v (.int .u8 0), .v (.int .u8 0), .v (.int .u8 0), .v (.int .u8 0), .v (.int .u8 0), .v (.int .u8 0), .v (.int .u8 0), .v (.int .u8 0), .v (.int .u8 0), .v (.int .u8 0), .v (.int .u8 0), .v (.int .u8 0), .v (.int .u8 0), .v (.int .u8 0), .v (.int .u8 0), .v (.int .u8 0), .v (.int .u8 0), .v (.int .u8 0), .v (.int .u8 0), .v (.int .u8 0), .v (.int .u8 0), .v (.int .u8 0), .v (.int .u8 0), .v (.int .u8 0), .v (.int .u8 0), .v (.int .u8 0), .v (.int .u8 0), .v (.int .u8 0), .v (.int .i64 0)]⟩ (.node (.node (.node (.node (.node .leaf 30 ⟨.struct [(0, 23), (25, 28), (161, 3)], 162, 344, [.v (.int .u64 0), .v (.int .u64 0), .v (.int .u64 0), .v (.int .u64 0), .v (.int .u64 0), .v (.int .u64 0), .v (.int .u64 0), .v (.int .u64 0), .v (.int .u64 0), .v (.int .u64 0), .v (.int .u64 0), .v (.int .u64 0), .v (.int .u64 0), .v (.int .u64 0), .v (.int .u64 0), .v (.int .u64 0), .v (.int .u64 0), .v (.int .u64 0), .v (.int .u64 0), .v (.int .u64 0), .v (.int .u64 0), .v (.int .u64 0), .v (.int .u64 0), .v (.int .u64 0), .v (.int .u64 0), .v (.int .u8 0), .v (.int .u8 0), .v (.int .u8 0), .v (.int .u8 0), .v (.int .u8 0), .v (.int .u8 0), .v (.int .u8 0), .v (.int .u8 0), .v (.int .u8 0), .v (.int .u8 0), .v (.int .u8 0), .v (.int .u8 0), .v (.int .u8 0), .v (.int .u8 0), .v (.int .u8 0), .v (.int .u8 0), .v (.int .u8 0), .v (.int .u8 0), .v (.int .u8 0), .v (.int .u8 0), .v (.int .u8 0), .v (.int .u8 0), .v (.int .u8 0), .v (.int .u8 0), .v (.int .u8 0), .v (.int .u8 0), .v (.int .u8 0), .v (.int .u8 0), .v (.int .u8 0), .v (.int .u8 0), .v (.int .u8 0), .v (.int .u8 0), .v (.int .u8 0), .v (.int .u8 0), .v (.int .u8 0), .v (.int .u8 0), .v (.int .u8 0), .v (.int .u8 0), .v (.int .u8 0), .v (.int .u8 0), .v (.int .u8 0), .v (.int .u8 0), .v (.int .u8 0), .v (.int .u8 0), .v (.int .u8 0), .v (.int .u8 0), .v (.int .u8 0), .v (.int .u8 0), .v (.int .u8 0), .v (.int .u8 0), .v (.int .u8 0), .v (.int .u8 0), .v (.int .u8 0), .v (.int .u8 0), .v (.int .u8 0), .v (.int .u8 0), .v (.int .u8 0), .v (.int .u8 0), .v (.int .u8 0), .v (.int .u8 0), .v (.int .u8 0), .v (.int .u8 0), .v (.int .u8 0), .v (.int .u8 0), .v (.int .u8 0), .v (.int .u8 0), .v (.int .u8 0), .v (.int .u8 0), .v (.int .u8 0), .v (.int .u8 0), .v (.int .u8 0), .v (.int .u8 0), .v (.int .u8 0), .v (.int .u8 0), .v (.int .u8 0), .v (.int .u8 0), .v (.int .u8 0), .v (.int .u8 0), .v (.int .u8 0), .v (.int .u8 0), .v (.int .u8 0), .v (.int .u8 0), .v (.int .u8 0), .v (.int .u8 0), .v (.int .u8 0), .v (.int .u8 0), .v (.int .u8 0), .v (.int .u8 0), .v (.int .u8 0), .v (.int .u8 0), .v (.int .u8 0), .v (.int .u8 0), .v (.int .u8 0), .v (.int .u8 0), .v (.int .u8 0), .v (.int .u8 0), .v (.int .u8 0), .v (.int .u8 0), .v (.int .u8 0), .v (.int .u8 0), .v (.int .u8 0), .v (.int .u8 0), .v (.int .u8 0), .v (.int .u8 0), .v (.int .u8 0), .v (.int .u8 0), .v (.int .u8 0), .v (.int .u8 0), .v (.int .u8 0), .v (.int .u8 0), .v (.int .u8 0), .v (.int .u8 0), .v (.int .u8 0), .v (.int .u8 0), .v (.int .u8 0), .v (.int .u8 0), .v (.int .u8 0), .v (.int .u8 0), .v (.int .u8 0), .v (.int .u8 0), .v (.int .u8 0), .v (.int .u8 0), .v (.int .u8 0), .v (.int .u8 0), .v (.int .u8 0), .v (.int .u8 0), .v (.int .u8 0), .v (.int .u8 0), .v (.int .u8 0), .v (.int .u8 0), .v (.int .u8 0), .v (.int .u8 0), .v (.int .u8 0), .v (.int .u8 0), .v (.int .u8 0), .v (.int .u8 0), .v (.int .i64 0)]⟩ .leaf) 31 ⟨.other, 1, 8, [.v .nilFunc]⟩ .leaf) 32 ⟨.slice 27, 1, 24, [.ds true 0 []]⟩ (.node .leaf 33 ⟨.int .i64, 1, 8, [.v (.int .i64 0)]⟩ .leaf)) 35 ⟨.other, 1, 8, [.v .nilFunc]⟩ (.node (.node .leaf 36 ⟨.arr 32 5, 32, 32, (List.replicate 32 (.v (.int .u8 0)))⟩ .leaf) 38 ⟨.other, 1, 8, [.v .nilFunc]⟩ (.node .leaf 39 ⟨.other, 1, 8, [.v .nilFunc]⟩ .leaf))) 40 ⟨.other, 1, 8, [.v .nilFunc]⟩ (.node (.node (.node .leaf 41 ⟨.other, 1, 8, [.v .nilFunc]⟩ .leaf) 42 ⟨.slice 9, 1, 24, [.ds true 0 []]⟩ (.node .leaf 43 ⟨.other, 1, 8, [.v .nilFunc]⟩ .leaf)) 44 ⟨.struct [(0, 3), (1, 3), (2, 3), (3, 9)], 4, 40, [.v (.int .i64 0), .v (.int .i64 0), .v (.int .i64 0), .v (.string ByteArray.empty)]⟩ (.node (.node .leaf 45 ⟨.struct [(0, 3), (1, 3), (2, 3), (3, 9)], 4, 40, [.v (.int .i64 0), .v (.int .i64 0), .v (.int .i64 0), .v (.string ByteArray.empty)]⟩ .leaf) 46 ⟨.struct [(0, 3), (1, 3), (2, 3), (3, 36), (35, 3), (36, 3), (37, 27)], 38, 96, [.v (.int .i64 0), .v (.int .i64 0), .v (.int .i64 0), .v (.int .u8 0), .v (.int .u8 0), .v (.int .u8 0), .v (.int .u8 0), .v (.int .u8 0), .v (.int .u8 0), .v (.int .u8 0), .v (.int .u8 0), .v (.int .u8 0), .v (.int .u8 0), .v (.int .u8 0), .v (.int .u8 0), .v (.int .u8 0), .v (.int .u8 0), .v (.int .u8 0), .v (.int .u8 0), .v (.int .u8 0), .v (.int .u8 0), .v (.int .u8 0), .v (.int .u8 0), .v (.int .u8 0), .v (.int .u8 0), .v (.int .u8 0), .v (.int .u8 0), .v (.int .u8 0), .v (.int .u8 0), .v (.int .u8 0), .v (.int .u8 0), .v (.int .u8 0), .v (.int .u8 0), .v (.int .u8 0), .v (.int .u8 0), .v (.int .i64 0), .v (.int .i64 0), .ds true 0 []]⟩ (.node .leaf 47 ⟨.struct [(0, 3), (1, 3), (2, 3), (3, 36), (35, 3), (36, 3), (37, 27)], 38, 96, [.v (.int .i64 0), .v (.int .i64 0), .v (.int .i64 0), .v (.int .u8 0), .v (.int .u8 0), .v (.int .u8 0), .v (.int .u8 0), .v (.int .u8 0), .v (.int .u8 0), .v (.int .u8 0), .v (.int .u8 0), .v (.int .u8 0), .v (.int .u8 0), .v (.int .u8 0), .v (.int .u8 0), .v (.int .u8 0), .v (.int .u8 0), .v (.int .u8 0), .v (.int .u8 0), .v (.int .u8 0), .v (.int .u8 0), .v (.int .u8 0), .v (.int .u8 0), .v (.int .u8 0), .v (.int .u8 0), .v (.int .u8 0), .v (.int .u8 0), .v (.int .u8 0), .v (.int .u8 0), .v (.int .u8 0), .v (.int .u8 0), .v (.int .u8 0), .v (.int .u8 0), .v (.int .u8 0), .v (.int .u8 0), .v (.int .i64 0), .v (.int .i64 0), .ds true 0 []]⟩ .leaf))))) 48 ⟨.other, 1, 8, [.v .nilFunc]⟩ (.node (.node (.node (.node (.node (.node .leaf 50 ⟨.other, 1, 8, [.v .nilFunc]⟩ .leaf) 51 ⟨.other, 1, 8, [.v .nilFunc]⟩ .leaf) 52 ⟨.other, 1, 8, [.v .nilFunc]⟩ (.node .leaf 53 ⟨.other, 1, 8, [.v .nilFunc]⟩ .leaf)) 54 ⟨.arr 4 22, 4, 32, [.v (.int .u64 0), .v (.int .u64 0), .v (.int .u64 0), .v (.int .u64 0)]⟩ (.node (.node .leaf 55 ⟨.arr 4 22, 4, 32, [.v (.int .u64 0), .v (.int .u64 0), .v (.int .u64 0), .v (.int .u64 0)]⟩ .leaf) 56 ⟨.struct [(0, 55), (4, 55), (8, 4)], 9, 72, [.v (.int .u64 0), .v (.int .u64 0), .v (.int .u64 0), .v (.int .u64 0), .v (.int .u64 0), .v (.int .u64 0), .v (.int .u64 0), .v (.int .u64 0), .v (.bool false)]⟩ (.node .leaf 57 ⟨.struct [(0, 55), (4, 55), (8, 4)], 9, 72, [.v (.int .u64 0), .v (.int .u64 0), .v (.int .u64 0), .v (.int .u64 0), .v (.int .u64 0), .v (.int .u64 0), .v (.int .u64 0), .v (.int .u64 0), .v (.bool false)]⟩ .leaf))) 58 ⟨.struct [(0, 55), (4, 55), (8, 55), (12, 55), (16, 57)], 25, 200, [.v (.int .u64 0), .v (.int .u64 0), .v (.int .u64 0), .v (.int .u64 0), .v (.int .u64 0), .v (.int .u64 0), .v (.int .u64 0), .v (.int .u64 0), .v (.int .u64 0), .v (.int .u64 0), .v (.int .u64 0), .v (.int .u64 0), .v (.int .u64 0), .v (.int .u64 0), .v (.int .u64 0), .v (.int .u64 0), .v (.int .u64 0), .v (.int .u64 0), .v (.int .u64 0), .v (.int .u64 0), .v (.int .u64 0), .v (.int .u64 0), .v (.int .u64 0), .v (.int .u64 0), .v (.bool false)]⟩ (.node (.node (.node (.node .leaf 59 ⟨.struct [(0, 55), (4, 55), (8, 55), (12, 55), (16, 57)], 25, 200, [.v (.int .u64 0), .v (.int .u64 0), .v (.int .u64 0), .v (.int .u64 0), .v (.int .u64 0), .v (.int .u64 0), .v (.int .u64 0), .v (.int .u64 0), .v (.int .u64 0), .v (.int .u64 0), .v (.int .u64 0), .v (.int .u64 0), .v (.int .u64 0), .v (.int .u64 0), .v (.int .u64 0), .v (.int .u64 0), .v (.int .u64 0), .v (.int .u64 0), .v (.int .u64 0), .v (.int .u64 0), .v (.int .u64 0), .v (.int .u64 0), .v (.int .u64 0), .v (.int .u64 0), .v (.bool false)]⟩ .leaf) 60 ⟨.other, 1, 8, [.v .nilFunc]⟩ .leaf) 62 ⟨.other, 1, 8, [.v .nilFunc]⟩ (.node .leaf 63 ⟨.arr 20 5, 20, 20, (List.replicate 20 (.v (.int .u8 0)))⟩ .leaf)) 64 ⟨.arr 20 5, 20, 20, (List.replicate 20 (.v (.int .u8 0)))⟩ (.node (.node .leaf 65 ⟨.other, 1, 8, [.v .nilFunc]⟩ .leaf) 66 ⟨.other, 1, 8, [.v .nilFunc]⟩ (.node .leaf 67 ⟨.other, 1, 8, [.v .nilFunc]⟩ .leaf)))) 68 ⟨.struct [(0, 55), (4, 55), (8, 3)], 9, 72, [.v (.int .u64 0), .v (.int .u64 0), .v (.int .u64 0), .v (.int .u64 0), .v (.int .u64 0), .v (.int .u64 0), .v (.int .u64 0), .v (.int .u64 0), .v (.int .i64 0)]⟩ (.node (.node (.node (.node (.node .leaf 69 ⟨.struct [(0, 55), (4, 55), (8, 3)], 9, 72, [.v (.int .u64 0), .v (.int .u64 0), .v (.int .u64 0), .v (.int .u64 0), .v (.int .u64 0), .v (.int .u64 0), .v (.int .u64 0), .v (.int .u64 0), .v (.int .i64 0)]⟩ .leaf) 71 ⟨.other, 1, 8, [.v .nilFunc]⟩ .leaf) 72 ⟨.other, 1, 8, [.v .nilFunc]⟩ (.node .leaf 74 ⟨.other, 1, 8, [.v .nilFunc]⟩ .leaf)) 75 ⟨.other, 1, 8, [.v .nilFunc]⟩ (.node (.node .leaf 76 ⟨.other, 1, 8, [.v .nilFunc]⟩ .leaf) 77 ⟨.other, 1, 8, [.v .nilFunc]⟩ (.node .leaf 78 ⟨.other, 1, 8, [.v .nilFunc]⟩ .leaf))) 79 ⟨.other, 1, 8, [.v .nilFunc]⟩ (.node (.node (.node .leaf 81 ⟨.other, 1, 8, [.v .nilFunc]⟩ .leaf) 82 ⟨.other, 1, 8, [.v .nilFunc]⟩ (.node .leaf 83 ⟨.slice 64, 1, 24, [.ds true 0 []]⟩ .leaf)) 84 ⟨.struct [(0, 3), (1, 83), (2, 3)], 3, 40, [.v (.int .i64 0), .ds true 0 [], .v (.int .i64 0)]⟩ (.node (.node .leaf 85 ⟨.struct [(0, 3), (1, 83), (2, 3)], 3, 40, [.v (.int .i64 0), .ds true 0 [], .v (.int .i64 0)]⟩ .leaf) 86 ⟨.slice 55, 1, 24, [.ds true 0 []]⟩ (.node .leaf 88 ⟨.other, 1, 8, [.v .nilFunc]⟩ .leaf)))))) 89 ⟨.slice 95, 1, 24, [.ds true 0 []]⟩ (.node (.node (.node (.node (.node (.node (.node .leaf 90 ⟨.other, 1, 8, [.v .nilFunc]⟩ .leaf) 92 ⟨.other, 1, 8, [.v .nilFunc]⟩ .leaf) 93 ⟨.other, 1, 8, [.v .nilFunc]⟩ (.node .leaf 94 ⟨.struct [(0, 3), (1, 69)], 10, 80, [.v (.int .i64 0), .v (.int .u64 0), .v (.int .u64 0), .v (.int .u64 0), .v (.int .u64 0), .v (.int .u64 0), .v (.int .u64 0), .v (.int .u64 0), .v (.int .u64 0), .v (.int .i64 0)]⟩ .leaf)) 95 ⟨.struct [(0, 3), (1, 69)], 10, 80, [.v (.int .i64 0), .v (.int .u64 0), .v (.int .u64 0), .v (.int .u64 0), .v (.int .u64 0), .v (.int .u64 0), .v (.int .u64 0), .v (.int .u64 0), .v (.int .u64 0), .v (.int .i64 0)]⟩ (.node (.node .leaf 96 ⟨.other, 1, 8, [.v .nilFunc]⟩ .leaf) 97 ⟨.other, 1, 8, [.v .nilFunc]⟩ (.node .leaf 98 ⟨.arr 24 22, 24, 192, (List.replicate 24 (.v (.int .u64 0)))⟩ .leaf))) 99 ⟨.arr 5 22, 5, 40, [.v (.int .u64 0), .v (.int .u64 0), .v (.int .u64 0), .v (.int .u64 0), .v (.int .u64 0)]⟩ (.node (.node (.node (.node .leaf 100 ⟨.other, 1, 8, [.v .nilFunc]⟩ .leaf) 101 ⟨.arr 25 3, 25, 200, (List.replicate 25 (.v (.int .i64 0)))⟩ .leaf) 102 ⟨.other, 1, 8, [.v .nilFunc]⟩ (.node .leaf 103 ⟨.other, 1, 8, [.v .nilFunc]⟩ .leaf)) 104 ⟨.other, 1, 8, [.v .nilFunc]⟩ (.node (.node .leaf 105 ⟨.other, 1, 8, [.v .nilFunc]⟩ .leaf) 106 ⟨.ptr, 1, 8, [.v (.pointer none)]⟩ (.node .leaf 107 ⟨.struct [(0, 27)], 1, 24, [.ds true 0 []]⟩ .leaf)))) 108 ⟨.struct [(0, 27)], 1, 24, [.ds true 0 []]⟩ (.node (.node (.node (.node (.node .leaf 109 ⟨.other, 1, 8, [.v .nilFunc]⟩ .leaf) 110 ⟨.other, 1, 8, [.v .nilFunc]⟩ .leaf) 111 ⟨.other, 1, 8, [.v .nilFunc]⟩ (.node .leaf 112 ⟨.other, 1, 8, [.v .nilFunc]⟩ .leaf)) 113 ⟨.other, 1, 8, [.v .nilFunc]⟩ (.node (.node .leaf 114 ⟨.other, 1, 8, [.v .nilFunc]⟩ .leaf) 115 ⟨.arr 8 59, 200, 1600, [.v (.int .u64 0), .v (.int .u64 0), .v (.int .u64 0), .v (.int .u64 0), .v (.int .u64 0), .v (.int .u64 0), .v (.int .u64 0), .v (.int .u64 0), .v (.int .u64 0), .v (.int .u64 0), .v (.int .u64 0), .v (.int .u64 0), .v (.int .u64 0), .v (.int .u64 0), .v (.int .u64 0), .v (.int .u64 0), .v (.int .u64 0), .v (.int .u64 0), .v (.int .u64 0), .v (.int .u64 0), .v (.int .u64 0), .v (.int .u64 0), .v (.int .u64 0), .v (.int .u64 0), .v (.bool false), .v (.int .u64 0), .v (.int .u64 0), .v (.int .u64 0), .v (.int .u64 0), .v (.int .u64 0), .v (.int .u64 0), .v (.int .u64 0), .v (.int .u64 0), .v (.int .u64 0), .v (.int .u64 0), .v (.int .u64 0), .v (.int .u64 0), .v (.int .u64 0), .v (.int .u64 0), .v (.int .u64 0), .v (.int .u64 0), .v (.int .u64 0), .v (.int .u64 0), .v (.int .u64 0), .v (.int .u64 0), .v (.int .u64 0), .v (.int .u64 0), .v (.int .u64 0), .v (.int .u64 0), .v (.bool false), .v (.int .u64 0), .v (.int .u64 0), .v (.int .u64 0), .v (.int .u64 0), .v (.int .u64 0), .v (.int .u64 0), .v (.int .u64 0), .v (.int .u64 0), .v (.int .u64 0), .v (.int .u64 0), .v (.int .u64 0), .v (.int .u64 0), .v (.int .u64 0), .v (.int .u64 0), .v (.int .u64 0), .v (.int .u64 0), .v (.int .u64 0), .v (.int .u64 0), .v (.int .u64 0), .v (.int .u64 0), .v (.int .u64 0), .v (.int .u64 0), .v (.int .u64 0), .v (.int .u64 0), .v (.bool false), .v (.int .u64 0), .v (.int .u64 0), .v (.int .u64 0), .v (.int .u64 0), .v (.int .u64 0), .v (.int .u64 0), .v (.int .u64 0), .v (.int .u64 0), .v (.int .u64 0), .v (.int .u64 0), .v (.int .u64 0), .v (.int .u64 0), .v (.int .u64 0), .v (.int .u64 0), .v (.int .u64 0), .v (.int .u64 0), .v (.int .u64 0), .v (.int .u64 0), .v (.int .u64 0), .v (.int .u64 0), .v (.int .u64 0), .v (.int .u64 0), .v (.int .u64 0), .v (.int .u64 0), .v (.bool false), .v (.int .u64 0), .v (.int .u64 0), .v (.int .u64 0), .v (.int .u64 0), .v (.int .u64 0), .v (.int .u64 0), .v (.int .u64 0), .v (.int .u64 0), .v (.int .u64 0), .v (.int .u64 0), .v (.int .u64 0), .v (.int .u64 0), .v (.int .u64 0), .v (.int .u64 0), .v (.int .u64 0), .v (.int .u64 0), .v (.int .u64 0), .v (.int .u64 0), .v (.int .u64 0), .v (.int .u64 0), .v (.int .u64 0), .v (.int .u64 0), .v (.int .u64 0), .v (.int .u64 0), .v (.bool false), .v (.int .u64 0), .v (.int .u64 0), .v (.int .u64 0), .v (.int .u64 0), .v (.int .u64 0), .v (.int .u64 0), .v (.int .u64 0), .v (.int .u64 0), .v (.int .u64 0), .v (.int .u64 0), .v (.int .u64 0), .v (.int .u64 0), .v (.int .u64 0), .v (.int .u64 0), .v (.int .u64 0), .v (.int .u64 0), .v (.int .u64 0), .v (.int .u64 0), .v (.int .u64 0), .v (.int .u64 0), .v (.int .u64 0), .v (.int .u64 0), .v (.int .u64 0), .v (.int .u64 0), .v (.bool false), .v (.int .u64 0), .v (.int .u64 0), .v (.int .u64 0), .v (.int .u64 0), .v (.int .u64 0), .v (.int .u64 0), .v (.int .u64 0), .v (.int .u64 0), .v (.int .u64 0), .v (.int .u64 0), .v (.int .u64 0), .v (.int .u64 0), .v (.int .u64 0), .v (.int .u64 0), .v (.int .u64 0), .v (.int .u64 0), .v (.int .u64 0), .v (.int .u64 0), .v (.int .u64 0), .v (.int .u64 0), .v (.int .u64 0), .v (.int .u64 0), .v (.int .u64 0), .v (.int .u64 0), .v (.bool false), .v (.int .u64 0), .v (.int .u64 0), .v (.int .u64 0), .v (.int .u64 0), .v (.int .u64 0), .v (.int .u64 0), .v (.int .u64 0), .v (.int .u64 0), .v (.int .u64 0), .v (.int .u64 0), .v (.int .u64 0), .v (.int .u64 0), .v (.int .u64 0), .v (.int .u64 0), .v (.int .u64 0), .v (.int .u64 0), .v (.int .u64 0), .v (.int .u64 0), .v (.int .u64 0), .v (.int .u64 0), .v (.int .u64 0), .v (.int .u64 0), .v (.int .u64 0), .v (.int .u64 0), .v (.bool false)]⟩ (.node .leaf 116 ⟨.other, 1, 8, [.v .nilFunc]⟩ .leaf))) 118 ⟨.other, 1, 8, [.v .nilFunc]⟩ (.node (.node (.node .leaf 119 ⟨.other, 1, 8, [.v .nilFunc]⟩ .leaf) 120 ⟨.other, 1, 8, [.v .nilFunc]⟩ (.node .leaf 121 ⟨.other, 1, 8, [.v .nilFunc]⟩ .leaf)) 122 ⟨.other, 1, 8, [.v .nilFunc]⟩ (.node (.node .leaf 123 ⟨.other, 1, 8, [.v .nilFunc]⟩ .leaf) 125 ⟨.other, 1, 8, [.v .nilFunc]⟩ (.node .leaf 126 ⟨.other, 1, 8, [.v .nilFunc]⟩ .leaf))))) 127 ⟨.other, 1, 8, [.v .nilFunc]⟩ (.node (.node (.node (.node (.node (.node .leaf 128 ⟨.other, 1, 8, [.v .nilFunc]⟩ .leaf) 130 ⟨.other, 1, 8, [.v .nilFunc]⟩ .leaf) 131 ⟨.int .u64, 1, 8, [.v (.int .u64 0)]⟩ (.node .leaf 132 ⟨.other, 1, 8, [.v .nilFunc]⟩ .leaf)) 133 ⟨.other, 1, 8, [.v .nilFunc]⟩ (.node (.node .leaf 134 ⟨.other, 1, 8, [.v .nilFunc]⟩ .leaf) 135 ⟨.ptr, 1, 8, [.v (.pointer none)]⟩ (.node .leaf 136 ⟨.struct [(0, 55), (4, 135)], 5, 40, [.v (.int .u64 0), .v (.int .u64 0), .v (.int .u64 0), .v (.int .u64 0), .v (.pointer none)]⟩ .leaf))) 137 ⟨.struct [(0, 55), (4, 135)], 5, 40, [.v (.int .u64 0), .v (.int .u64 0), .v (.int .u64 0), .v (.int .u64 0), .v (.pointer none)]⟩ (.node (.node (.node (.node .leaf 138 ⟨.other, 1, 8, [.v .nilFunc]⟩ .leaf) 139 ⟨.other, 1, 8, [.v .nilFunc]⟩ .leaf) 140 ⟨.other, 1, 8, [.v .nilFunc]⟩ (.node .leaf 141 ⟨.other, 1, 8, [.v .nilFunc]⟩ .leaf)) 143 ⟨.other, 1, 8, [.v .nilFunc]⟩ (.node (.node .leaf 144 ⟨.other, 1, 8, [.v .nilFunc]⟩ .leaf) 145 ⟨.other, 1, 8, [.v .nilFunc]⟩ (.node .leaf 146 ⟨.other, 1, 8, [.v .nilFunc]⟩ .leaf)))) 147 ⟨.other, 1, 8, [.v .nilFunc]⟩ (.node (.node (.node (.node (.node .leaf 148 ⟨.other, 1, 8, [.v .nilFunc]⟩ .leaf) 149 ⟨.other, 1, 8, [.v .nilFunc]⟩ .leaf) 150 ⟨.other, 1, 8, [.v .nilFunc]⟩ (.node .leaf 151 ⟨.slice 57, 1, 24, [.ds true 0 []]⟩ .leaf)) 152 ⟨.other, 1, 8, [.v .nilFunc]⟩ (.node (.node .leaf 153 ⟨.other, 1, 8, [.v .nilFunc]⟩ .leaf) 154 ⟨.other, 1, 8, [.v .nilFunc]⟩ (.node .leaf 155 ⟨.other, 1, 8, [.v .nilFunc]⟩ .leaf))) 156 ⟨.struct [(0, 17), (1, 17), (2, 17), (3, 9)], 4, 40, [.v (.pointer none), .v (.pointer none), .v (.pointer none), .v (.string ByteArray.empty)]⟩ (.node (.node (.node .leaf 158 ⟨.arr 0 16, 0, 0, []⟩ .leaf) 159 ⟨.struct [(0, 158)], 0, 0, []⟩ (.node .leaf 161 ⟨.other, 1, 8, [.v .nilFunc]⟩ .leaf)) 162 ⟨.int .u32, 1, 4, [.v (.int .u32 0)]⟩ (.node (.node .leaf 165 ⟨.other, 1, 8, [.v .nilFunc]⟩ .leaf) 166 ⟨.ptr, 1, 8, [.v (.pointer none)]⟩ (.node .leaf 169 ⟨.struct [(0, 12), (1, 12), (2, 162), (3, 163), (4, 5), (5, 5), (6, 164), (7, 165), (8, 166), (9, 167), (10, 168)], 11, 48, [.v (.int .u64 0), .v (.int .u64 0), .v (.int .u32 0), .v (.int .u8 0), .v (.int .u8 0), .v (.int .u8 0), .v (.int .u8 0), .v .nilFunc, .v (.pointer none), .v (.int .i32 0), .v (.int .i32 0)]⟩ .leaf)))))))
noncomputable def Γ : Tab := Γl.get
theorem Γ1 : Γ 1 = some ⟨.other, 1, 8, [.v .nilFunc]⟩ := rfl
theorem td1 : tdOf Γ 1 = some (.other) := rfl
theorem Γ2 : Γ 2 = some ⟨.int .i64, 1, 8, [.v (.int .i64 0)]⟩ := rfl
theorem td2 : tdOf Γ 2 = some (.int .i64) := rfl
theorem Γ3 : Γ 3 = some ⟨.int .i64, 1, 8, [.v (.int .i64 0)]⟩ := rfl
theorem td3 : tdOf Γ 3 = some (.int .i64) := rfl
theorem Γ4 : Γ 4 = some ⟨.bool, 1, 1, [.v (.bool false)]⟩ := rfl
theorem td4 : tdOf Γ 4 = some (.bool) := rfl
theorem Γ5 : Γ 5 = some ⟨.int .u8, 1, 1, [.v (.int .u8 0)]⟩ := rfl
theorem td5 : tdOf Γ 5 = some (.int .u8) := rfl
theorem Γ7 : Γ 7 = some ⟨.struct [(0, 2), (1, 3), (2, 4), (3, 6)], 4, 24, [.v (.int .i64 0), .v (.int .i64 0), .v (.bool false), .v (.int .u8 0)]⟩ := rfl
theorem td7 : tdOf Γ 7 = some (.struct [(0, 2), (1, 3), (2, 4), (3, 6)]) := rfl
theorem fo7_0 : fieldOff Γ 7 0 = some (0, 2) := rfl
theorem fo7_1 : fieldOff Γ 7 1 = some (1, 3) := rfl
theorem fo7_2 : fieldOff Γ 7 2 = some (2, 4) := rfl
theorem fo7_3 : fieldOff Γ 7 3 = some (3, 6) := rfl
theorem Γ9 : Γ 9 = some ⟨.str, 1, 16, [.v (.string ByteArray.empty)]⟩ := rfl
theorem td9 : tdOf Γ 9 = some (.str) := rfl
theorem Γ12 : Γ 12 = some ⟨.int .u64, 1, 8, [.v (.int .u64 0)]⟩ := rfl
theorem td12 : tdOf Γ 12 = some (.int .u64) := rfl
theorem Γ13 : Γ 13 = some ⟨.struct [(0, 9), (1, 12)], 2, 24, [.v (.string ByteArray.empty), .v (.int .u64 0)]⟩ := rfl
theorem td13 : tdOf Γ 13 = some (.struct [(0, 9), (1, 12)]) := rfl
theorem fo13_0 : fieldOff Γ 13 0 = some (0, 9) := rfl
theorem fo13_1 : fieldOff Γ 13 1 = some (1, 12) := rfl
theorem Γ21 : Γ 21 = some ⟨.int .i32, 1, 4, [.v (.int .i32 0)]⟩ := rfl
theorem td21 : tdOf Γ 21 = some (.int .i32) := rfl
theorem Γ22 : Γ 22 = some ⟨.int .u64, 1, 8, [.v (.int .u64 0)]⟩ := rfl
theorem td22 : tdOf Γ 22 = some (.int .u64) := rfl
theorem Γ23 : Γ 23 = some ⟨.arr 25 22, 25, 200, (List.replicate 25 (.v (.int .u64 0)))⟩ := rfl
theorem td23 : tdOf Γ 23 = some (.arr 25 22) := rfl
theorem ar23 : arrOf Γ 23 = some (25, 22, 1) := rfl
theorem Γ24 : Γ 24 = some ⟨.other, 1, 8, [.v .nilFunc]⟩ := rfl
theorem td24 : tdOf Γ 24 = some (.other) := rfl
theorem Γ25 : Γ 25 = some ⟨.other, 1, 8, [.v .nilFunc]⟩ := rfl
theorem td25 : tdOf Γ 25 = some (.other) := rfl
theorem Γ26 : Γ 26 = some ⟨.other, 1, 8, [.v .nilFunc]⟩ := rfl
theorem td26 : tdOf Γ 26 = some (.other) := rfl
theorem Γ27 : Γ 27 = some ⟨.slice 5, 1, 24, [.ds true 0 []]⟩ := rfl
theorem td27 : tdOf Γ 27 = some (.slice 5) := rfl
theorem sl27 : sliceOf Γ 27 = some (5, ⟨.int .u8, 1, 1, [.v (.int .u8 0)]⟩) := rfl
theorem Γ28 : Γ 28 = some ⟨.arr 136 5, 136, 136, (List.replicate 136 (.v (.int .u8 0)))⟩ := rfl
theorem td28 : tdOf Γ 28 = some (.arr 136 5) := rfl
theorem ar28 : arrOf Γ 28 = some (136, 5, 1) := rfl
theorem Γ29 : Γ 29 = some ⟨.struct [(0, 23), (25, 28), (161, 3)], 162, 344, [.v (.int .u64 0), .v (.int .u64 0), .v (.int .u64 0), .v (.int .u64 0), .v (.int .u64 0), .v (.int .u64 0), .v (.int .u64 0), .v (.int .u64 0), .v (.int .u64 0), .v (.int .u64 0), .v (.int .u64 0), .v (.int .u64 0), .v (.int .u64 0), .v (.int .u64 0), .v (.int .u64 0), .v (.int .u64 0), .v (.int .u64 0), .v (.int .u64 0), .v (.int .u64 0), .v (.int .u64 0), .v (.int .u64 0), .v (.int .u64 0), .v (.int .u64 0), .v (.int .u64 0), .v (.int .u64 0), .v (.int .u8 0), .v (.int .u8 0), .v (.int .u8 0), .v (.int .u8 0), .v (.int .u8 0), .v (.int .u8 0), .v (.int .u8 0), .v (.int .u8 0), .v (.int .u8 0), .v (.int .u8 0), .v (.int .u8 0), .v (.int .u8 0), .v (.int .u8 0), .v (.int .u8 0), .v (.int .u8 0), .v (.int .u8 0), .v (.int .u8 0), .v (.int .u8 0), .v (.int .u8 0), .v (.int .u8 0), .v (.int .u8 0), .v (.int .u8 0), .v (.int .u8 0), .v (.int .u8 0), .v (.int .u8 0), .v (.int .u8 0), .v (.int .u8 0), .v (.int .u8 0), .v (.int .u8 0), .v (.int .u8 0), .v (.int .u8 0), .v (.int .u8 0), .v (.int .u8 0), .v (.int .u8 0), .v (.int .u8 0), .v (.int .u8 0), .v (.int .u8 0), .v (.int .u8 0), .v (.int .u8 0), .v (.int .u8 0), .v (.int .u8 0), .v (.int .u8 0), .v (.int .u8 0), .v (.int .u8 0), .v (.int .u8 0), .v (.int .u8 0), .v (.int .u8 0), .v (.int .u8 0), .v (.int .u8 0), .v (.int .u8 0), .v (.int .u8 0), .v (.int .u8 0), .v (.int .u8 0), .v (.int .u8 0), .v (.int .u8 0), .v (.int .u8 0), .v (.int .u8 0), .v (.int .u8 0), .v (.int .u8 0), .v (.int .u8 0), .v (.int .u8 0), .v (.int .u8 0), .v (.int .u8 0), .v (.int .u8 0), .v (.int .u8 0), .v (.int .u8 0), .v (.int .u8 0), .v (.int .u8 0), .v (.int .u8 0), .v (.int .u8 0), .v (.int .u8 0), .v (.int .u8 0), .v (.int .u8 0), .v (.int .u8 0), .v (.int .u8 0), .v (.int .u8 0), .v (.int .u8 0), .v (.int .u8 0), .v (.int .u8 0), .v (.int .u8 0), .v (.int .u8 0), .v (.int .u8 0), .v (.int .u8 0), .v (.int .u8 0), .v (.int .u8 0), .v (.int .u8 0), .v (.int .u8 0), .v (.int .u8 0), .v (.int .u8 0), .v (.int .u8 0), .v (.int .u8 0), .v (.int .u8 0), .v (.int .u8 0), .v (.int .u8 0), .v (.int .u8 0), .v (.int .u8 0), .v (.int .u8 0), .v (.int .u8 0), .v (.int .u8 0), .v (.int .u8 0), .v (.int .u8 0), .v (.int .u8 0), .v (.int .u8 0), .v (.int .u8 0), .v (.int .u8 0), .v (.int .u8 0), .v (.int .u8 0), .v (.int .u8 0), .v (.int .u8 0), .v (.int .u8 0), .v (.int .u8 0), .v (.int .u8 0), .v (.int .u8 0), .v (.int .u8 0), .v (.int .u8 0), .v (.int .u8 0), .v (.int .u8 0), .v (.int .u8 0), .v (.int .u8 0), .v (.int .u8 0), .v (.int .u8 0), .v (.int .u8 0), .v (.int .u8 0), .v (.int .u8 0), .v (.int .u8 0), .v (.int .u8 0), .v (.int .u8 0), .v (.int .u8 0), .v (.int .u8 0), .v (.int .u8 0), .v (.int .u8 0), .v (.int .u8 0), .v (.int .u8 0), .v (.int .u8 0), .v (.int .u8 0), .v (.int .u8 0), .v (.int .i64 0)]⟩ := rfl
theorem td29 : tdOf Γ 29 = some (.struct [(0, 23), (25, 28), (161, 3)]) := rfl
theorem fo29_0 : fieldOff Γ 29 0 = some (0, 23) := rfl
theorem fo29_1 : fieldOff Γ 29 1 = some (25, 28) := rfl
theorem fo29_2 : fieldOff Γ 29 2 = some (161, 3) := rfl
theorem Γ30 : Γ 30 = some ⟨.struct [(0, 23), (25, 28), (161, 3)], 162, 344, [.v (.int .u64 0), .v (.int .u64 0), .v (.int .u64 0), .v (.int .u64 0), .v (.int .u64 0), .v (.int .u64 0), .v (.int .u64 0), .v (.int .u64 0), .v (.int .u64 0), .v (.int .u64 0), .v (.int .u64 0), .v (.int .u64 0), .v (.int .u64 0), .v (.int .u64 0), .v (.int .u64 0), .v (.int .u64 0), .v (.int .u64 0), .v (.int .u64 0), .v (.int .u64 0), .v (.int .u64 0), .v (.int .u64 0), .v (.int .u64 0), .v (.int .u64 0), .v (.int .u64 0), .v (.int .u64 0), .v (.int .u8 0), .v (.int .u8 0), .v (.int .u8 0), .v (.int .u8 0), .v (.int .u8 0), .v (.int .u8 0), .v (.int .u8 0), .v (.int .u8 0), .v (.int .u8 0), .v (.int .u8 0), .v (.int .u8 0), .v (.int .u8 0), .v (.int .u8 0), .v (.int .u8 0), .v (.int .u8 0), .v (.int .u8 0), .v (.int .u8 0), .v (.int .u8 0), .v (.int .u8 0), .v (.int .u8 0), .v (.int .u8 0), .v (.int .u8 0), .v (.int .u8 0), .v (.int .u8 0), .v (.int .u8 0), .v (.int .u8 0), .v (.int .u8 0), .v (.int .u8 0), .v (.int .u8 0), .v (.int .u8 0), .v (.int .u8 0), .v (.int .u8 0), .v (.int .u8 0), .v (.int .u8 0), .v (.int .u8 0), .v (.int .u8 0), .v (.int .u8 0), .v (.int .u8 0), .v (.int .u8 0), .v (.int .u8 0), .v (.int .u8 0), .v (.int .u8 0), .v (.int .u8 0), .v (.int .u8 0), .v (.int .u8 0), .v (.int .u8 0), .v (.int .u8 0), .v (.int .u8 0), .v (.int .u8 0), .v (.int .u8 0), .v (.int .u8 0), .v (.int .u8 0), .v (.int .u8 0), .v (.int .u8 0), .v (.int .u8 0), .v (.int .u8 0), .v (.int .u8 0), .v (.int .u8 0), .v (.int .u8 0), .v (.int .u8 0), .v (.int .u8 0), .v (.int .u8 0), .v (.int .u8 0), .v (.int .u8 0), .v (.int .u8 0), .v (.int .u8 0), .v (.int .u8 0), .v (.int .u8 0), .v (.int .u8 0), .v (.int .u8 0), .v (.int .u8 0), .v (.int .u8 0), .v (.int .u8 0), .v (.int .u8 0), .v (.int .u8 0), .v (.int .u8 0), .v (.int .u8 0), .v (.int .u8 0), .v (.int .u8 0), .v (.int .u8 0), .v (.int .u8 0), .v (.int .u8 0), .v (.int .u8 0), .v (.int .u8 0), .v (.int .u8 0), .v (.int .u8 0), .v (.int .u8 0), .v (.int .u8 0), .v (.int .u8 0), .v (.int .u8 0), .v (.int .u8 0), .v (.int .u8 0), .v (.int .u8 0), .v (.int .u8 0), .v (.int .u8 0), .v (.int .u8 0), .v (.int .u8 0), .v (.int .u8 0), .v (.int .u8 0), .v (.int .u8 0), .v (.int .u8 0), .v (.int .u8 0), .v (.int .u8 0), .v (.int .u8 0), .v (.int .u8 0), .v (.int .u8 0), .v (.int .u8 0), .v (.int .u8 0), .v (.int .u8 0), .v (.int .u8 0), .v (.int .u8 0), .v (.int .u8 0), .v (.int .u8 0), .v (.int .u8 0), .v (.int .u8 0), .v (.int .u8 0), .v (.int .u8 0), .v (.int .u8 0), .v (.int .u8 0), .v (.int .u8 0), .v (.int .u8 0), .v (.int .u8 0), .v (.int .u8 0), .v (.int .u8 0), .v (.int .u8 0), .v (.int .u8 0), .v (.int .u8 0), .v (.int .u8 0), .v (.int .u8 0), .v (.int .u8 0), .v (.int .u8 0), .v (.int .u8 0), .v (.int .u8 0), .v (.int .u8 0), .v (.int .u8 0), .v (.int .u8 0), .v (.int .i64 0)]⟩ := rfl
theorem td30 : tdOf Γ 30 = some (.struct [(0, 23), (25, 28), (161, 3)]) := rfl
theorem fo30_0 : fieldOff Γ 30 0 = some (0, 23) := rfl
theorem fo30_1 : fieldOff Γ 30 1 = some (25, 28) := rfl
theorem fo30_2 : fieldOff Γ 30 2 = some (161, 3) := rfl
theorem Γ31 : Γ 31 = some ⟨.other, 1, 8, [.v .nilFunc]⟩ := rfl
theorem td31 : tdOf Γ 31 = some (.other) := rfl
theorem Γ32 : Γ 32 = some ⟨.slice 27, 1, 24, [.ds true 0 []]⟩ := rfl
theorem td32 : tdOf Γ 32 = some (.slice 27) := rfl
theorem sl32 : sliceOf Γ 32 = some (27, ⟨.slice 5, 1, 24, [.ds true 0 []]⟩) := rfl
theorem Γ33 : Γ 33 = some ⟨.int .i64, 1, 8, [.v (.int .i64 0)]⟩ := rfl
theorem td33 : tdOf Γ 33 = some (.int .i64) := rfl
theorem Γ35 : Γ 35 = some ⟨.other, 1, 8, [.v .nilFunc]⟩ := rfl
theorem td35 : tdOf Γ 35 = some (.other) := rfl
theorem Γ36 : Γ 36 = some ⟨.arr 32 5, 32, 32, (List.replicate 32 (.v (.int .u8 0)))⟩ := rfl
theorem td36 : tdOf Γ 36 = some (.arr 32 5) := rfl
theorem ar36 : arrOf Γ 36 = some (32, 5, 1) := rfl
theorem Γ38 : Γ 38 = some ⟨.other, 1, 8, [.v .nilFunc]⟩ := rfl
theorem td38 : tdOf Γ 38 = some (.other) := rfl
theorem Γ39 : Γ 39 = some ⟨.other, 1, 8, [.v .nilFunc]⟩ := rfl
theorem td39 : tdOf Γ 39 = some (.other) := rfl
theorem Γ40 : Γ 40 = some ⟨.other, 1, 8, [.v .nilFunc]⟩ := rfl
theorem td40 : tdOf Γ 40 = some (.other) := rfl
theorem Γ41 : Γ 41 = some ⟨.other, 1, 8, [.v .nilFunc]⟩ := rfl
theorem td41 : tdOf Γ 41 = some (.other) := rfl
theorem Γ42 : Γ 42 = some ⟨.slice 9, 1, 24, [.ds true 0 []]⟩ := rfl
theorem td42 : tdOf Γ 42 = some (.slice 9) := rfl
theorem sl42 : sliceOf Γ 42 = some (9, ⟨.str, 1, 16, [.v (.string ByteArray.empty)]⟩) := rfl
theorem Γ43 : Γ 43 = some ⟨.other, 1, 8, [.v .nilFunc]⟩ := rfl
theorem td43 : tdOf Γ 43 = some (.other) := rfl
theorem Γ44 : Γ 44 = some ⟨.struct [(0, 3), (1, 3), (2, 3), (3, 9)], 4, 40, [.v (.int .i64 0), .v (.int .i64 0), .v (.int .i64 0), .v (.string ByteArray.empty)]⟩ := rfl
theorem td44 : tdOf Γ 44 = some (.struct [(0, 3), (1, 3), (2, 3), (3, 9)]) := rfl
theorem fo44_0 : fieldOff Γ 44 0 = some (0, 3) := rfl
theorem fo44_1 : fieldOff Γ 44 1 = some (1, 3) := rfl
theorem fo44_2 : fieldOff Γ 44 2 = some (2, 3) := rfl
theorem fo44_3 : fieldOff Γ 44 3 = some (3, 9) := rfl
theorem Γ45 : Γ 45 = some ⟨.struct [(0, 3), (1, 3), (2, 3), (3, 9)], 4, 40, [.v (.int .i64 0), .v (.int .i64 0), .v (.int .i64 0), .v (.string ByteArray.empty)]⟩ := rfl
theorem td45 : tdOf Γ 45 = some (.struct [(0, 3), (1, 3), (2, 3), (3, 9)]) := rfl
theorem fo45_0 : fieldOff Γ 45 0 = some (0, 3) := rfl
theorem fo45_1 : fieldOff Γ 45 1 = some (1, 3) := rfl
theorem fo45_2 : fieldOff Γ 45 2 = some (2, 3) := rfl
theorem fo45_3 : fieldOff Γ 45 3 = some (3, 9) := rfl
theorem Γ46 : Γ 46 = some ⟨.struct [(0, 3), (1, 3), (2, 3), (3, 36), (35, 3), (36, 3), (37, 27)], 38, 96, [.v (.int .i64 0), .v (.int .i64 0), .v (.int .i64 0), .v (.int .u8 0), .v (.int .u8 0), .v (.int .u8 0), .v (.int .u8 0), .v (.int .u8 0), .v (.int .u8 0), .v (.int .u8 0), .v (.int .u8 0), .v (.int .u8 0), .v (.int .u8 0), .v (.int .u8 0), .v (.int .u8 0), .v (.int .u8 0), .v (.int .u8 0), .v (.int .u8 0), .v (.int .u8 0), .v (.int .u8 0), .v (.int .u8 0), .v (.int .u8 0), .v (.int .u8 0), .v (.int .u8 0), .v (.int .u8 0), .v (.int .u8 0), .v (.int .u8 0), .v (.int .u8 0), .v (.int .u8 0), .v (.int .u8 0), .v (.int .u8 0), .v (.int .u8 0), .v (.int .u8 0), .v (.int .u8 0), .v (.int .u8 0), .v (.int .i64 0), .v (.int .i64 0), .ds true 0 []]⟩ := rfl
theorem td46 : tdOf Γ 46 = some (.struct [(0, 3), (1, 3), (2, 3), (3, 36), (35, 3), (36, 3), (37, 27)]) := rfl
theorem fo46_0 : fieldOff Γ 46 0 = some (0, 3) := rfl
theorem fo46_1 : fieldOff Γ 46 1 = some (1, 3) := rfl
theorem fo46_2 : fieldOff Γ 46 2 = some (2, 3) := rfl
theorem fo46_3 : fieldOff Γ 46 3 = some (3, 36) := rfl
theorem fo46_4 : fieldOff Γ 46 4 = some (35, 3) := rfl
theorem fo46_5 : fieldOff Γ 46 5 = some (36, 3) := rfl
theorem fo46_6 : fieldOff Γ 46 6 = some (37, 27) := rfl
theorem Γ47 : Γ 47 = some ⟨.struct [(0, 3), (1, 3), (2, 3), (3, 36), (35, 3), (36, 3), (37, 27)], 38, 96, [.v (.int .i64 0), .v (.int .i64 0), .v (.int .i64 0), .v (.int .u8 0), .v (.int .u8 0), .v (.int .u8 0), .v (.int .u8 0), .v (.int .u8 0), .v (.int .u8 0), .v (.int .u8 0), .v (.int .u8 0), .v (.int .u8 0), .v (.int .u8 0), .v (.int .u8 0), .v (.int .u8 0), .v (.int .u8 0), .v (.int .u8 0), .v (.int .u8 0), .v (.int .u8 0), .v (.int .u8 0), .v (.int .u8 0), .v (.int .u8 0), .v (.int .u8 0), .v (.int .u8 0), .v (.int .u8 0), .v (.int .u8 0), .v (.int .u8 0), .v (.int .u8 0), .v (.int .u8 0), .v (.int .u8 0), .v (.int .u8 0), .v (.int .u8 0), .v (.int .u8 0), .v (.int .u8 0), .v (.int .u8 0), .v (.int .i64 0), .v (.int .i64 0), .ds true 0 []]⟩ := rfl
theorem td47 : tdOf Γ 47 = some (.struct [(0, 3), (1, 3), (2, 3), (3, 36), (35, 3), (36, 3), (37, 27)]) := rfl
theorem fo47_0 : fieldOff Γ 47 0 = some (0, 3) := rfl
theorem fo47_1 : fieldOff Γ 47 1 = some (1, 3) := rfl
theorem fo47_2 : fieldOff Γ 47 2 = some (2, 3) := rfl
theorem fo47_3 : fieldOff Γ 47 3 = some (3, 36) := rfl
theorem fo47_4 : fieldOff Γ 47 4 = some (35, 3) := rfl
theorem fo47_5 : fieldOff Γ 47 5 = some (36, 3) := rfl
theorem fo47_6 : fieldOff Γ 47 6 = some (37, 27) := rfl
theorem Γ48 : Γ 48 = some ⟨.other, 1, 8, [.v .nilFunc]⟩ := rfl
theorem td48 : tdOf Γ 48 = some (.other) := rfl
theorem Γ50 : Γ 50 = some ⟨.other, 1, 8, [.v .nilFunc]⟩ := rfl
theorem td50 : tdOf Γ 50 = some (.other) := rfl
theorem Γ51 : Γ 51 = some ⟨.other, 1, 8, [.v .nilFunc]⟩ := rfl
theorem td51 : tdOf Γ 51 = some (.other) := rfl
theorem Γ52 : Γ 52 = some ⟨.other, 1, 8, [.v .nilFunc]⟩ := rfl
theorem td52 : tdOf Γ 52 = some (.other) := rfl
theorem Γ53 : Γ 53 = some ⟨.other, 1, 8, [.v .nilFunc]⟩ := rfl
theorem td53 : tdOf Γ 53 = some (.other) := rfl
theorem Γ54 : Γ 54 = some ⟨.arr 4 22, 4, 32, [.v (.int .u64 0), .v (.int .u64 0), .v (.int .u64 0), .v (.int .u64 0)]⟩ := rfl
theorem td54 : tdOf Γ 54 = some (.arr 4 22) := rfl
theorem ar54 : arrOf Γ 54 = some (4, 22, 1) := rfl
theorem Γ55 : Γ 55 = some ⟨.arr 4 22, 4, 32, [.v (.int .u64 0), .v (.int .u64 0), .v (.int .u64 0), .v (.int .u64 0)]⟩ := rfl
theorem td55 : tdOf Γ 55 = some (.arr 4 22) := rfl
theorem ar55 : arrOf Γ 55 = some (4, 22, 1) := rfl
theorem Γ56 : Γ 56 = some ⟨.struct [(0, 55), (4, 55), (8, 4)], 9, 72, [.v (.int .u64 0), .v (.int .u64 0), .v (.int .u64 0), .v (.int .u64 0), .v (.int .u64 0), .v (.int .u64 0), .v (.int .u64 0), .v (.int .u64 0), .v (.bool false)]⟩ := rfl
theorem td56 : tdOf Γ 56 = some (.struct [(0, 55), (4, 55), (8, 4)]) := rfl
theorem fo56_0 : fieldOff Γ 56 0 = some (0, 55) := rfl
theorem fo56_1 : fieldOff Γ 56 1 = some (4, 55) := rfl
theorem fo56_2 : fieldOff Γ 56 2 = some (8, 4) := rfl
theorem Γ57 : Γ 57 = some ⟨.struct [(0, 55), (4, 55), (8, 4)], 9, 72, [.v (.int .u64 0), .v (.int .u64 0), .v (.int .u64 0), .v (.int .u64 0), .v (.int .u64 0), .v (.int .u64 0), .v (.int .u64 0), .v (.int .u64 0), .v (.bool false)]⟩ := rfl
theorem td57 : tdOf Γ 57 = some (.struct [(0, 55), (4, 55), (8, 4)]) := rfl
theorem fo57_0 : fieldOff Γ 57 0 = some (0, 55) := rfl
theorem fo57_1 : fieldOff Γ 57 1 = some (4, 55) := rfl
theorem fo57_2 : fieldOff Γ 57 2 = some (8, 4) := rfl
theorem Γ58 : Γ 58 = some ⟨.struct [(0, 55), (4, 55), (8, 55), (12, 55), (16, 57)], 25, 200, [.v (.int .u64 0), .v (.int .u64 0), .v (.int .u64 0), .v (.int .u64 0), .v (.int .u64 0), .v (.int .u64 0), .v (.int .u64 0), .v (.int .u64 0), .v (.int .u64 0), .v (.int .u64 0), .v (.int .u64 0), .v (.int .u64 0), .v (.int .u64 0), .v (.int .u64 0), .v (.int .u64 0), .v (.int .u64 0), .v (.int .u64 0), .v (.int .u64 0), .v (.int .u64 0), .v (.int .u64 0), .v (.int .u64 0), .v (.int .u64 0), .v (.int .u64 0), .v (.int .u64 0), .v (.bool false)]⟩ := rfl
theorem td58 : tdOf Γ 58 = some (.struct [(0, 55), (4, 55), (8, 55), (12, 55), (16, 57)]) := rfl
theorem fo58_0 : fieldOff Γ 58 0 = some (0, 55) := rfl
theorem fo58_1 : fieldOff Γ 58 1 = some (4, 55) := rfl
theorem fo58_2 : fieldOff Γ 58 2 = some (8, 55) := rfl
theorem fo58_3 : fieldOff Γ 58 3 = some (12, 55) := rfl
theorem fo58_4 : fieldOff Γ 58 4 = some (16, 57) := rfl
theorem Γ59 : Γ 59 = some ⟨.struct [(0, 55), (4, 55), (8, 55), (12, 55), (16, 57)], 25, 200, [.v (.int .u64 0), .v (.int .u64 0), .v (.int .u64 0), .v (.int .u64 0), .v (.int .u64 0), .v (.int .u64 0), .v (.int .u64 0), .v (.int .u64 0), .v (.int .u64 0), .v (.int .u64 0), .v (.int .u64 0), .v (.int .u64 0), .v (.int .u64 0), .v (.int .u64 0), .v (.int .u64 0), .v (.int .u64 0), .v (.int .u64 0), .v (.int .u64 0), .v (.int .u64 0), .v (.int .u64 0), .v (.int .u64 0), .v (.int .u64 0), .v (.int .u64 0), .v (.int .u64 0), .v (.bool false)]⟩ := rfl
theorem td59 : tdOf Γ 59 = some (.struct [(0, 55), (4, 55), (8, 55), (12, 55), (16, 57)]) := rfl
theorem fo59_0 : fieldOff Γ 59 0 = some (0, 55) := rfl
theorem fo59_1 : fieldOff Γ 59 1 = some (4, 55) := rfl
theorem fo59_2 : fieldOff Γ 59 2 = some (8, 55) := rfl
theorem fo59_3 : fieldOff Γ 59 3 = some (12, 55) := rfl
theorem fo59_4 : fieldOff Γ 59 4 = some (16, 57) := rfl
theorem Γ60 : Γ 60 = some ⟨.other, 1, 8, [.v .nilFunc]⟩ := rfl
theorem td60 : tdOf Γ 60 = some (.other) := rfl
theorem Γ62 : Γ 62 = some ⟨.other, 1, 8, [.v .nilFunc]⟩ := rfl
theorem td62 : tdOf Γ 62 = some (.other) := rfl
theorem Γ63 : Γ 63 = some ⟨.arr 20 5, 20, 20, (List.replicate 20 (.v (.int .u8 0)))⟩ := rfl
theorem td63 : tdOf Γ 63 = some (.arr 20 5) := rfl
theorem ar63 : arrOf Γ 63 = some (20, 5, 1) := rfl
theorem Γ64 : Γ 64 = some ⟨.arr 20 5, 20, 20, (List.replicate 20 (.v (.int .u8 0)))⟩ := rfl
theorem td64 : tdOf Γ 64 = some (.arr 20 5) := rfl
theorem ar64 : arrOf Γ 64 = some (20, 5, 1) := rfl
theorem Γ65 : Γ 65 = some ⟨.other, 1, 8, [.v .nilFunc]⟩ := rfl
theorem td65 : tdOf Γ 65 = some (.other) := rfl
theorem Γ66 : Γ 66 = some ⟨.other, 1, 8, [.v .nilFunc]⟩ := rfl
theorem td66 : tdOf Γ 66 = some (.other) := rfl
theorem Γ67 : Γ 67 = some ⟨.other, 1, 8, [.v .nilFunc]⟩ := rfl
theorem td67 : tdOf Γ 67 = some (.other) := rfl
theorem Γ68 : Γ 68 = some ⟨.struct [(0, 55), (4, 55), (8, 3)], 9, 72, [.v (.int .u64 0), .v (.int .u64 0), .v (.int .u64 0), .v (.int .u64 0), .v (.int .u64 0), .v (.int .u64 0), .v (.int .u64 0), .v (.int .u64 0), .v (.int .i64 0)]⟩ := rfl
theorem td68 : tdOf Γ 68 = some (.struct [(0, 55), (4, 55), (8, 3)]) := rfl
theorem fo68_0 : fieldOff Γ 68 0 = some (0, 55) := rfl
theorem fo68_1 : fieldOff Γ 68 1 = some (4, 55) := rfl
theorem fo68_2 : fieldOff Γ 68 2 = some (8, 3) := rfl
theorem Γ69 : Γ 69 = some ⟨.struct [(0, 55), (4, 55), (8, 3)], 9, 72, [.v (.int .u64 0), .v (.int .u64 0), .v (.int .u64 0), .v (.int .u64 0), .v (.int .u64 0), .v (.int .u64 0), .v (.int .u64 0), .v (.int .u64 0), .v (.int .i64 0)]⟩ := rfl
theorem td69 : tdOf Γ 69 = some (.struct [(0, 55), (4, 55), (8, 3)]) := rfl
theorem fo69_0 : fieldOff Γ 69 0 = some (0, 55) := rfl
theorem fo69_1 : fieldOff Γ 69 1 = some (4, 55) := rfl
theorem fo69_2 : fieldOff Γ 69 2 = some (8, 3) := rfl
theorem Γ71 : Γ 71 = some ⟨.other, 1, 8, [.v .nilFunc]⟩ := rfl
theorem td71 : tdOf Γ 71 = some (.other) := rfl
theorem Γ72 : Γ 72 = some ⟨.other, 1, 8, [.v .nilFunc]⟩ := rfl
theorem td72 : tdOf Γ 72 = some (.other) := rfl
theorem Γ74 : Γ 74 = some ⟨.other, 1, 8, [.v .nilFunc]⟩ := rfl
theorem td74 : tdOf Γ 74 = some (.other) := rfl
theorem Γ75 : Γ 75 = some ⟨.other, 1, 8, [.v .nilFunc]⟩ := rfl
theorem td75 : tdOf Γ 75 = some (.other) := rfl
theorem Γ76 : Γ 76 = some ⟨.other, 1, 8, [.v .nilFunc]⟩ := rfl
theorem td76 : tdOf Γ 76 = some (.other) := rfl
theorem Γ77 : Γ 77 = some ⟨.other, 1, 8, [.v .nilFunc]⟩ := rfl
theorem td77 : tdOf Γ 77 = some (.other) := rfl
theorem Γ78 : Γ 78 = some ⟨.other, 1, 8, [.v .nilFunc]⟩ := rfl
theorem td78 : tdOf Γ 78 = some (.other) := rfl
theorem Γ79 : Γ 79 = some ⟨.other, 1, 8, [.v .nilFunc]⟩ := rfl
theorem td79 : tdOf Γ 79 = some (.other) := rfl
theorem Γ81 : Γ 81 = some ⟨.other, 1, 8, [.v .nilFunc]⟩ := rfl
theorem td81 : tdOf Γ 81 = some (.other) := rfl
theorem Γ82 : Γ 82 = some ⟨.other, 1, 8, [.v .nilFunc]⟩ := rfl
theorem td82 : tdOf Γ 82 = some (.other) := rfl
theorem Γ83 : Γ 83 = some ⟨.slice 64, 1, 24, [.ds true 0 []]⟩ := rfl
theorem td83 : tdOf Γ 83 = some (.slice 64) := rfl
theorem sl83 : sliceOf Γ 83 = some (64, ⟨.arr 20 5, 20, 20, (List.replicate 20 (.v (.int .u8 0)))⟩) := rfl
theorem Γ84 : Γ 84 = some ⟨.struct [(0, 3), (1, 83), (2, 3)], 3, 40, [.v (.int .i64 0), .ds true 0 [], .v (.int .i64 0)]⟩ := rfl
theorem td84 : tdOf Γ 84 = some (.struct [(0, 3), (1, 83), (2, 3)]) := rfl
theorem fo84_0 : fieldOff Γ 84 0 = some (0, 3) := rfl
theorem fo84_1 : fieldOff Γ 84 1 = some (1, 83) := rfl
theorem fo84_2 : fieldOff Γ 84 2 = some (2, 3) := rfl
theorem Γ85 : Γ 85 = some ⟨.struct [(0, 3), (1, 83), (2, 3)], 3, 40, [.v (.int .i64 0), .ds true 0 [], .v (.int .i64 0)]⟩ := rfl
theorem td85 : tdOf Γ 85 = some (.struct [(0, 3), (1, 83), (2, 3)]) := rfl
theorem fo85_0 : fieldOff Γ 85 0 = some (0, 3) := rfl
theorem fo85_1 : fieldOff Γ 85 1 = some (1, 83) := rfl
theorem fo85_2 : fieldOff Γ 85 2 = some (2, 3) := rfl
theorem Γ86 : Γ 86 = some ⟨.slice 55, 1, 24, [.ds true 0 []]⟩ := rfl
theorem td86 : tdOf Γ 86 = some (.slice 55) := rfl
theorem sl86 : sliceOf Γ 86 = some (55, ⟨.arr 4 22, 4, 32, [.v (.int .u64 0), .v (.int .u64 0), .v (.int .u64 0), .v (.int .u64 0)]⟩) := rfl
theorem Γ88 : Γ 88 = some ⟨.other, 1, 8, [.v .nilFunc]⟩ := rfl
theorem td88 : tdOf Γ 88 = some (.other) := rfl
theorem Γ89 : Γ 89 = some ⟨.slice 95, 1, 24, [.ds true 0 []]⟩ := rfl
theorem td89 : tdOf Γ 89 = some (.slice 95) := rfl
theorem sl89 : sliceOf Γ 89 = some (95, ⟨.struct [(0, 3), (1, 69)], 10, 80, [.v (.int .i64 0), .v (.int .u64 0), .v (.int .u64 0), .v (.int .u64 0), .v (.int .u64 0), .v (.int .u64 0), .v (.int .u64 0), .v (.int .u64 0), .v (.int .u64 0), .v (.int .i64 0)]⟩) := rfl
theorem Γ90 : Γ 90 = some ⟨.other, 1, 8, [.v .nilFunc]⟩ := rfl
theorem td90 : tdOf Γ 90 = some (.other) := rfl
theorem Γ92 : Γ 92 = some ⟨.other, 1, 8, [.v .nilFunc]⟩ := rfl
theorem td92 : tdOf Γ 92 = some (.other) := rfl
theorem Γ93 : Γ 93 = some ⟨.other, 1, 8, [.v .nilFunc]⟩ := rfl
theorem td93 : tdOf Γ 93 = some (.other) := rfl
theorem Γ94 : Γ 94 = some ⟨.struct [(0, 3), (1, 69)], 10, 80, [.v (.int .i64 0), .v (.int .u64 0), .v (.int .u64 0), .v (.int .u64 0), .v (.int .u64 0), .v (.int .u64 0), .v (.int .u64 0), .v (.int .u64 0), .v (.int .u64 0), .v (.int .i64 0)]⟩ := rfl
theorem td94 : tdOf Γ 94 = some (.struct [(0, 3), (1, 69)]) := rfl
theorem fo94_0 : fieldOff Γ 94 0 = some (0, 3) := rfl
theorem fo94_1 : fieldOff Γ 94 1 = some (1, 69) := rfl
theorem Γ95 : Γ 95 = some ⟨.struct [(0, 3), (1, 69)], 10, 80, [.v (.int .i64 0), .v (.int .u64 0), .v (.int .u64 0), .v (.int .u64 0), .v (.int .u64 0), .v (.int .u64 0), .v (.int .u64 0), .v (.int .u64 0), .v (.int .u64 0), .v (.int .i64 0)]⟩ := rfl
theorem td95 : tdOf Γ 95 = some (.struct [(0, 3), (1, 69)]) := rfl
theorem fo95_0 : fieldOff Γ 95 0 = some (0, 3) := rfl
theorem fo95_1 : fieldOff Γ 95 1 = some (1, 69) := rfl
theorem Γ96 : Γ 96 = some ⟨.other, 1, 8, [.v .nilFunc]⟩ := rfl
theorem td96 : tdOf Γ 96 = some (.other) := rfl
theorem Γ97 : Γ 97 = some ⟨.other, 1, 8, [.v .nilFunc]⟩ := rfl
theorem td97 : tdOf Γ 97 = some (.other) := rfl
theorem Γ98 : Γ 98 = some ⟨.arr 24 22, 24, 192, (List.replicate 24 (.v (.int .u64 0)))⟩ := rfl
theorem td98 : tdOf Γ 98 = some (.arr 24 22) := rfl
theorem ar98 : arrOf Γ 98 = some (24, 22, 1) := rfl
theorem Γ99 : Γ 99 = some ⟨.arr 5 22, 5, 40, [.v (.int .u64 0), .v (.int .u64 0), .v (.int .u64 0), .v (.int .u64 0), .v (.int .u64 0)]⟩ := rfl
theorem td99 : tdOf Γ 99 = some (.arr 5 22) := rfl
theorem ar99 : arrOf Γ 99 = some (5, 22, 1) := rfl
theorem Γ100 : Γ 100 = some ⟨.other, 1, 8, [.v .nilFunc]⟩ := rfl
theorem td100 : tdOf Γ 100 = some (.other) := rfl
theorem Γ101 : Γ 101 = some ⟨.arr 25 3, 25, 200, (List.replicate 25 (.v (.int .i64 0)))⟩ := rfl
theorem td101 : tdOf Γ 101 = some (.arr 25 3) := rfl
theorem ar101 : arrOf Γ 101 = some (25, 3, 1) := rfl
theorem Γ102 : Γ 102 = some ⟨.other, 1, 8, [.v .nilFunc]⟩ := rfl
theorem td102 : tdOf Γ 102 = some (.other) := rfl
theorem Γ103 : Γ 103 = some ⟨.other, 1, 8, [.v .nilFunc]⟩ := rfl
theorem td103 : tdOf Γ 103 = some (.other) := rfl
theorem Γ104 : Γ 104 = some ⟨.other, 1, 8, [.v .nilFunc]⟩ := rfl
theorem td104 : tdOf Γ 104 = some (.other) := rfl
theorem Γ105 : Γ 105 = some ⟨.other, 1, 8, [.v .nilFunc]⟩ := rfl
theorem td105 : tdOf Γ 105 = some (.other) := rfl
theorem Γ106 : Γ 106 = some ⟨.ptr, 1, 8, [.v (.pointer none)]⟩ := rfl
theorem td106 : tdOf Γ 106 = some (.ptr) := rfl
theorem Γ107 : Γ 107 = some ⟨.struct [(0, 27)], 1, 24, [.ds true 0 []]⟩ := rfl
theorem td107 : tdOf Γ 107 = some (.struct [(0, 27)]) := rfl
theorem fo107_0 : fieldOff Γ 107 0 = some (0, 27) := rfl
theorem Γ108 : Γ 108 = some ⟨.struct [(0, 27)], 1, 24, [.ds true 0 []]⟩ := rfl
theorem td108 : tdOf Γ 108 = some (.struct [(0, 27)]) := rfl
theorem fo108_0 : fieldOff Γ 108 0 = some (0, 27) := rfl
theorem Γ109 : Γ 109 = some ⟨.other, 1, 8, [.v .nilFunc]⟩ := rfl
theorem td109 : tdOf Γ 109 = some (.other) := rfl
theorem Γ110 : Γ 110 = some ⟨.other, 1, 8, [.v .nilFunc]⟩ := rfl
theorem td110 : tdOf Γ 110 = some (.other) := rfl
theorem Γ111 : Γ 111 = some ⟨.other, 1, 8, [.v .nilFunc]⟩ := rfl
theorem td111 : tdOf Γ 111 = some (.other) := rfl
theorem Γ112 : Γ 112 = some ⟨.other, 1, 8, [.v .nilFunc]⟩ := rfl
theorem td112 : tdOf Γ 112 = some (.other) := rfl
theorem Γ113 : Γ 113 = some ⟨.other, 1, 8, [.v .nilFunc]⟩ := rfl
theorem td113 : tdOf Γ 113 = some (.other) := rfl
theorem Γ114 : Γ 114 = some ⟨.other, 1, 8, [.v .nilFunc]⟩ := rfl
theorem td114 : tdOf Γ 114 = some (.other) := rfl
theorem Γ115 : Γ 115 = some ⟨.arr 8 59, 200, 1600, [.v (.int .u64 0), .v (.int .u64 0), .v (.int .u64 0), .v (.int .u64 0), .v (.int .u64 0), .v (.int .u64 0), .v (.int .u64 0), .v (.int .u64 0), .v (.int .u64 0), .v (.int .u64 0), .v (.int .u64 0), .v (.int .u64 0), .v (.int .u64 0), .v (.int .u64 0), .v (.int .u64 0), .v (.int .u64 0), .v (.int .u64 0), .v (.int .u64 0), .v (.int .u64 0), .v (.int .u64 0), .v (.int .u64 0), .v (.int .u64 0), .v (.int .u64 0), .v (.int .u64 0), .v (.bool false), .v (.int .u64 0), .v (.int .u64 0), .v (.int .u64 0), .v (.int .u64 0), .v (.int .u64 0), .v (.int .u64 0), .v (.int .u64 0), .v (.int .u64 0), .v (.int .u64 0), .v (.int .u64 0), .v (.int .u64 0), .v (.int .u64 0), .v (.int .u64 0), .v (.int .u64 0), .v (.int .u64 0), .v (.int .u64 0), .v (.int .u64 0), .v (.int .u64 0), .v (.int .u64 0), .v (.int .u64 0), .v (.int .u64 0), .v (.int .u64 0), .v (.int .u64 0), .v (.int .u64 0), .v (.bool false), .v (.int .u64 0), .v (.int .u64 0), .v (.int .u64 0), .v (.int .u64 0), .v (.int .u64 0), .v (.int .u64 0), .v (.int .u64 0), .v (.int .u64 0), .v (.int .u64 0), .v (.int .u64 0), .v (.int .u64 0), .v (.int .u64 0), .v (.int .u64 0), .v (.int .u64 0), .v (.int .u64 0), .v (.int .u64 0), .v (.int .u64 0), .v (.int .u64 0), .v (.int .u64 0), .v (.int .u64 0), .v (.int .u64 0), .v (.int .u64 0), .v (.int .u64 0), .v (.int .u64 0), .v (.bool false), .v (.int .u64 0), .v (.int .u64 0), .v (.int .u64 0), .v (.int .u64 0), .v (.int .u64 0), .v (.int .u64 0), .v (.int .u64 0), .v (.int .u64 0), .v (.int .u64 0), .v (.int .u64 0), .v (.int .u64 0), .v (.int .u64 0), .v (.int .u64 0), .v (.int .u64 0), .v (.int .u64 0), .v (.int .u64 0), .v (.int .u64 0), .v (.int .u64 0), .v (.int .u64 0), .v (.int .u64 0), .v (.int .u64 0), .v (.int .u64 0), .v (.int .u64 0), .v (.int .u64 0), .v (.bool false), .v (.int .u64 0), .v (.int .u64 0), .v (.int .u64 0), .v (.int .u64 0), .v (.int .u64 0), .v (.int .u64 0), .v (.int .u64 0), .v (.int .u64 0), .v (.int .u64 0), .v (.int .u64 0), .v (.int .u64 0), .v (.int .u64 0), .v (.int .u64 0), .v (.int .u64 0), .v (.int .u64 0), .v (.int .u64 0), .v (.int .u64 0), .v (.int .u64 0), .v (.int .u64 0), .v (.int .u64 0), .v (.int .u64 0), .v (.int .u64 0), .v (.int .u64 0), .v (.int .u64 0), .v (.bool false), .v (.int .u64 0), .v (.int .u64 0), .v (.int .u64 0), .v (.int .u64 0), .v (.int .u64 0), .v (.int .u64 0), .v (.int .u64 0), .v (.int .u64 0), .v (.int .u64 0), .v (.int .u64 0), .v (.int .u64 0), .v (.int .u64 0), .v (.int .u64 0), .v (.int .u64 0), .v (.int .u64 0), .v (.int .u64 0), .v (.int .u64 0), .v (.int .u64 0), .v (.int .u64 0), .v (.int .u64 0), .v (.int .u64 0), .v (.int .u64 0), .v (.int .u64 0), .v (.int .u64 0), .v (.bool false), .v (.int .u64 0), .v (.int .u64 0), .v (.int .u64 0), .v (.int .u64 0), .v (.int .u64 0), .v (.int .u64 0), .v (.int .u64 0), .v (.int .u64 0), .v (.int .u64 0), .v (.int .u64 0), .v (.int .u64 0), .v (.int .u64 0), .v (.int .u64 0), .v (.int .u64 0), .v (.int .u64 0), .v (.int .u64 0), .v (.int .u64 0), .v (.int .u64 0), .v (.int .u64 0), .v (.int .u64 0), .v (.int .u64 0), .v (.int .u64 0), .v (.int .u64 0), .v (.int .u64 0), .v (.bool false), .v (.int .u64 0), .v (.int .u64 0), .v (.int .u64 0), .v (.int .u64 0), .v (.int .u64 0), .v (.int .u64 0), .v (.int .u64 0), .v (.int .u64 0), .v (.int .u64 0), .v (.int .u64 0), .v (.int .u64 0), .v (.int .u64 0), .v (.int .u64 0), .v (.int .u64 0), .v (.int .u64 0), .v (.int .u64 0), .v (.int .u64 0), .v (.int .u64 0), .v (.int .u64 0), .v (.int .u64 0), .v (.int .u64 0), .v (.int .u64 0), .v (.int .u64 0), .v (.int .u64 0), .v (.bool false)]⟩ := rfl
theorem td115 : tdOf Γ 115 = some (.arr 8 59) := rfl
theorem ar115 : arrOf Γ 115 = some (8, 59, 25) := rfl
theorem Γ116 : Γ 116 = some ⟨.other, 1, 8, [.v .nilFunc]⟩ := rfl
theorem td116 : tdOf Γ 116 = some (.other) := rfl
theorem Γ118 : Γ 118 = some ⟨.other, 1, 8, [.v .nilFunc]⟩ := rfl
theorem td118 : tdOf Γ 118 = some (.other) := rfl
theorem Γ119 : Γ 119 = some ⟨.other, 1, 8, [.v .nilFunc]⟩ := rfl
theorem td119 : tdOf Γ 119 = some (.other) := rfl
theorem Γ120 : Γ 120 = some ⟨.other, 1, 8, [.v .nilFunc]⟩ := rfl
theorem td120 : tdOf Γ 120 = some (.other) := rfl
theorem Γ121 : Γ 121 = some ⟨.other, 1, 8, [.v .nilFunc]⟩ := rfl
theorem td121 : tdOf Γ 121 = some (.other) := rfl
theorem Γ122 : Γ 122 = some ⟨.other, 1, 8, [.v .nilFunc]⟩ := rfl
theorem td122 : tdOf Γ 122 = some (.other) := rfl
theorem Γ123 : Γ 123 = some ⟨.other, 1, 8, [.v .nilFunc]⟩ := rfl
theorem td123 : tdOf Γ 123 = some (.other) := rfl
theorem Γ125 : Γ 125 = some ⟨.other, 1, 8, [.v .nilFunc]⟩ := rfl
theorem td125 : tdOf Γ 125 = some (.other) := rfl
theorem Γ126 : Γ 126 = some ⟨.other, 1, 8, [.v .nilFunc]⟩ := rfl
theorem td126 : tdOf Γ 126 = some (.other) := rfl
theorem Γ127 : Γ 127 = some ⟨.other, 1, 8, [.v .nilFunc]⟩ := rfl
theorem td127 : tdOf Γ 127 = some (.other) := rfl
theorem Γ128 : Γ 128 = some ⟨.other, 1, 8, [.v .nilFunc]⟩ := rfl
theorem td128 : tdOf Γ 128 = some (.other) := rfl
theorem Γ130 : Γ 130 = some ⟨.other, 1, 8, [.v .nilFunc]⟩ := rfl
theorem td130 : tdOf Γ 130 = some (.other) := rfl
theorem Γ131 : Γ 131 = some ⟨.int .u64, 1, 8, [.v (.int .u64 0)]⟩ := rfl
theorem td131 : tdOf Γ 131 = some (.int .u64) := rfl
theorem Γ132 : Γ 132 = some ⟨.other, 1, 8, [.v .nilFunc]⟩ := rfl
theorem td132 : tdOf Γ 132 = some (.other) := rfl
theorem Γ133 : Γ 133 = some ⟨.other, 1, 8, [.v .nilFunc]⟩ := rfl
theorem td133 : tdOf Γ 133 = some (.other) := rfl
theorem Γ134 : Γ 134 = some ⟨.other, 1, 8, [.v .nilFunc]⟩ := rfl
theorem td134 : tdOf Γ 134 = some (.other) := rfl
theorem Γ135 : Γ 135 = some ⟨.ptr, 1, 8, [.v (.pointer none)]⟩ := rfl
theorem td135 : tdOf Γ 135 = some (.ptr) := rfl
theorem Γ136 : Γ 136 = some ⟨.struct [(0, 55), (4, 135)], 5, 40, [.v (.int .u64 0), .v (.int .u64 0), .v (.int .u64 0), .v (.int .u64 0), .v (.pointer none)]⟩ := rfl
theorem td136 : tdOf Γ 136 = some (.struct [(0, 55), (4, 135)]) := rfl
theorem fo136_0 : fieldOff Γ 136 0 = some (0, 55) := rfl
theorem fo136_1 : fieldOff Γ 136 1 = some (4, 135) := rfl
theorem Γ137 : Γ 137 = some ⟨.struct [(0, 55), (4, 135)], 5, 40, [.v (.int .u64 0), .v (.int .u64 0), .v (.int .u64 0), .v (.int .u64 0), .v (.pointer none)]⟩ := rfl
theorem td137 : tdOf Γ 137 = some (.struct [(0, 55), (4, 135)]) := rfl
theorem fo137_0 : fieldOff Γ 137 0 = some (0, 55) := rfl
theorem fo137_1 : fieldOff Γ 137 1 = some (4, 135) := rfl
theorem Γ138 : Γ 138 = some ⟨.other, 1, 8, [.v .nilFunc]⟩ := rfl
theorem td138 : tdOf Γ 138 = some (.other) := rfl
theorem Γ139 : Γ 139 = some ⟨.other, 1, 8, [.v .nilFunc]⟩ := rfl
theorem td139 : tdOf Γ 139 = some (.other) := rfl
theorem Γ140 : Γ 140 = some ⟨.other, 1, 8, [.v .nilFunc]⟩ := rfl
theorem td140 : tdOf Γ 140 = some (.other) := rfl
theorem Γ141 : Γ 141 = some ⟨.other, 1, 8, [.v .nilFunc]⟩ := rfl
theorem td141 : tdOf Γ 141 = some (.other) := rfl
theorem Γ143 : Γ 143 = some ⟨.other, 1, 8, [.v .nilFunc]⟩ := rfl
theorem td143 : tdOf Γ 143 = some (.other) := rfl
theorem Γ144 : Γ 144 = some ⟨.other, 1, 8, [.v .nilFunc]⟩ := rfl
theorem td144 : tdOf Γ 144 = some (.other) := rfl
theorem Γ145 : Γ 145 = some ⟨.other, 1, 8, [.v .nilFunc]⟩ := rfl
theorem td145 : tdOf Γ 145 = some (.other) := rfl
theorem Γ146 : Γ 146 = some ⟨.other, 1, 8, [.v .nilFunc]⟩ := rfl
theorem td146 : tdOf Γ 146 = some (.other) := rfl
theorem Γ147 : Γ 147 = some ⟨.other, 1, 8, [.v .nilFunc]⟩ := rfl
theorem td147 : tdOf Γ 147 = some (.other) := rfl
theorem Γ148 : Γ 148 = some ⟨.other, 1, 8, [.v .nilFunc]⟩ := rfl
theorem td148 : tdOf Γ 148 = some (.other) := rfl
theorem Γ149 : Γ 149 = some ⟨.other, 1, 8, [.v .nilFunc]⟩ := rfl
theorem td149 : tdOf Γ 149 = some (.other) := rfl
theorem Γ150 : Γ 150 = some ⟨.other, 1, 8, [.v .nilFunc]⟩ := rfl
theorem td150 : tdOf Γ 150 = some (.other) := rfl
theorem Γ151 : Γ 151 = some ⟨.slice 57, 1, 24, [.ds true 0 []]⟩ := rfl
theorem td151 : tdOf Γ 151 = some (.slice 57) := rfl
theorem sl151 : sliceOf Γ 151 = some (57, ⟨.struct [(0, 55), (4, 55), (8, 4)], 9, 72, [.v (.int .u64 0), .v (.int .u64 0), .v (.int .u64 0), .v (.int .u64 0), .v (.int .u64 0), .v (.int .u64 0), .v (.int .u64 0), .v (.int .u64 0), .v (.bool false)]⟩) := rfl
theorem Γ152 : Γ 152 = some ⟨.other, 1, 8, [.v .nilFunc]⟩ := rfl
theorem td152 : tdOf Γ 152 = some (.other) := rfl
theorem Γ153 : Γ 153 = some ⟨.other, 1, 8, [.v .nilFunc]⟩ := rfl
theorem td153 : tdOf Γ 153 = some (.other) := rfl
theorem Γ154 : Γ 154 = some ⟨.other, 1, 8, [.v .nilFunc]⟩ := rfl
theorem td154 : tdOf Γ 154 = some (.other) := rfl
theorem Γ155 : Γ 155 = some ⟨.other, 1, 8, [.v .nilFunc]⟩ := rfl
theorem td155 : tdOf Γ 155 = some (.other) := rfl
theorem Γ156 : Γ 156 = some ⟨.struct [(0, 17), (1, 17), (2, 17), (3, 9)], 4, 40, [.v (.pointer none), .v (.pointer none), .v (.pointer none), .v (.string ByteArray.empty)]⟩ := rfl
theorem td156 : tdOf Γ 156 = some (.struct [(0, 17), (1, 17), (2, 17), (3, 9)]) := rfl
theorem fo156_0 : fieldOff Γ 156 0 = some (0, 17) := rfl
theorem fo156_1 : fieldOff Γ 156 1 = some (1, 17) := rfl
theorem fo156_2 : fieldOff Γ 156 2 = some (2, 17) := rfl
theorem fo156_3 : fieldOff Γ 156 3 = some (3, 9) := rfl
theorem Γ158 : Γ 158 = some ⟨.arr 0 16, 0, 0, []⟩ := rfl
theorem td158 : tdOf Γ 158 = some (.arr 0 16) := rfl
theorem Γ159 : Γ 159 = some ⟨.struct [(0, 158)], 0, 0, []⟩ := rfl
theorem td159 : tdOf Γ 159 = some (.struct [(0, 158)]) := rfl
theorem fo159_0 : fieldOff Γ 159 0 = some (0, 158) := rfl
theorem Γ161 : Γ 161 = some ⟨.other, 1, 8, [.v .nilFunc]⟩ := rfl
theorem td161 : tdOf Γ 161 = some (.other) := rfl
theorem Γ162 : Γ 162 = some ⟨.int .u32, 1, 4, [.v (.int .u32 0)]⟩ := rfl
theorem td162 : tdOf Γ 162 = some (.int .u32) := rfl
theorem Γ165 : Γ 165 = some ⟨.other, 1, 8, [.v .nilFunc]⟩ := rfl
theorem td165 : tdOf Γ 165 = some (.other) := rfl
theorem Γ166 : Γ 166 = some ⟨.ptr, 1, 8, [.v (.pointer none)]⟩ := rfl
theorem td166 : tdOf Γ 166 = some (.ptr) := rfl
theorem Γ169 : Γ 169 = some ⟨.struct [(0, 12), (1, 12), (2, 162), (3, 163), (4, 5), (5, 5), (6, 164), (7, 165), (8, 166), (9, 167), (10, 168)], 11, 48, [.v (.int .u64 0), .v (.int .u64 0), .v (.int .u32 0), .v (.int .u8 0), .v (.int .u8 0), .v (.int .u8 0), .v (.int .u8 0), .v .nilFunc, .v (.pointer none), .v (.int .i32 0), .v (.int .i32 0)]⟩ := rfl
theorem td169 : tdOf Γ 169 = some (.struct [(0, 12), (1, 12), (2, 162), (3, 163), (4, 5), (5, 5), (6, 164), (7, 165), (8, 166), (9, 167), (10, 168)]) := rfl
theorem fo169_0 : fieldOff Γ 169 0 = some (0, 12) := rfl
theorem fo169_1 : fieldOff Γ 169 1 = some (1, 12) := rfl
theorem fo169_2 : fieldOff Γ 169 2 = some (2, 162) := rfl
theorem fo169_3 : fieldOff Γ 169 3 = some (3, 163) := rfl
theorem fo169_4 : fieldOff Γ 169 4 = some (4, 5) := rfl
theorem fo169_5 : fieldOff Γ 169 5 = some (5, 5) := rfl
theorem fo169_6 : fieldOff Γ 169 6 = some (6, 164) := rfl
theorem fo169_7 : fieldOff Γ 169 7 = some (7, 165) := rfl
theorem fo169_8 : fieldOff Γ 169 8 = some (8, 166) := rfl
theorem fo169_9 : fieldOff Γ 169 9 = some (9, 167) := rfl
theorem fo169_10 : fieldOff Γ 169 10 = some (10, 168) := rfl
theorem Γok : TabOk Tryd.prog Γ := tabOkT (by kernel_rfl)
/-- bascule/keccak.rounds -/
def gl0 : List Nat := [1, 32898, 9223372036854808714, 9223372039002292224, 32907, 2147483649, 9223372039002292353, 9223372036854808585, 138, 136, 2147516425, 2147483658, 2147516555, 9223372036854775947, 9223372036854808713, 9223372036854808579, 9223372036854808578, 9223372036854775936, 32778, 9223372039002259466, 9223372039002292353, 9223372036854808704, 2147483649, 9223372039002292232]
def gc0 : List VV := gl0.map fun (x : Nat) => nI .u64 x
/-- bascule/keccak.turns -/
def gl1 : List Nat := [0, 1, 62, 28, 27, 36, 44, 6, 55, 20, 3, 10, 43, 25, 39, 41, 45, 15, 21, 8, 18, 2, 61, 56, 14]
def gc1 : List VV := gl1.map fun (x : Nat) => nI .i64 x
def G0 : Globs := fun g => match g with
  | 0 => some gc0
  | 1 => some gc1
  | _ => none
theorem G0_cases {g : Nat} {es : List VV} (h : G0 g = some es) : (g = 0 ∧ es = gc0) ∨ (g = 1 ∧ es = gc1) := by
  unfold G0 at h
  split at h <;> first | (cases h; simp) | cases h
theorem G0ok : GOk G0 := by
  intro g es h
  rcases G0_cases h with ⟨_, rfl⟩ | ⟨_, rfl⟩
  · exact noHs_map (fun _ => rfl) _
  · exact noHs_map (fun _ => rfl) _
def laidL : List (String × DataW Unit) := [("bascule/keccak.rounds", Rows.laid_bascule_keccak_rounds), ("bascule/keccak.turns", Rows.laid_bascule_keccak_turns)]
theorem mixed : Tryd.prog.follows .mixedOrders = true := by kernel_rfl
end Go.Proofs.YtidkdlaihmpjfaaDoor
