/- The table of the program's types, for the engine. -/
import Derived.Test.YtlecdiopokalgaaVTree
import Derived.Test.YtlecdiopokalgaaRows
import Derived.ProofKit
namespace Go.Proofs.Ytlecdiopokalgaa
open Go.RowKit
def Γl : TT := (.node (.node (.node (.node (.node (.node (.node (.node .leaf 1 ⟨.other, 1, 8, [.v .nilFunc]⟩ .leaf) 2 ⟨.int .i64, 1, 8, [.v (.int .i64 0)]⟩ .leaf) 3 ⟨.int .i64, 1, 8, [.v (.int .i64 0)]⟩ (.node .leaf 4 ⟨.bool, 1, 1, [.v (.bool false)]⟩ .leaf)) 5 ⟨.int .u8, 1, 1, [.v (.int .u8 0)]⟩ (.node (.node .leaf 7 ⟨.struct [(0, 2), (1, 3), (2, 4), (3, 6)], 4, 24, [.v (.int .i64 0), .v (.int .i64 0), .v (.bool false), .v (.int .u8 0)]⟩ .leaf) 9 ⟨.str, 1, 16, [.v (.string ByteArray.empty)]⟩ (.node .leaf 12 ⟨.int .u64, 1, 8, [.v (.int .u64 0)]⟩ .leaf))) 13 ⟨.struct [(0, 9), (1, 12)], 2, 24, [.v (.string ByteArray.empty), .v (.int .u64 0)]⟩ (.node (.node (.node (.node .leaf 21 ⟨.int .i32, 1, 4, [.v (.int .i32 0)]⟩ .leaf) 22 ⟨.slice 24, 1, 24, [.ds true 0 []]⟩ .leaf) 23 ⟨.struct [(0, 3), (1, 3), (2, 3), (3, 9)], 4, 40, [.v (.int .i64 0), .v (.int .i64 0), .v (.int .i64 0), .v (.string ByteArray.empty)]⟩ (.node .leaf 24 ⟨.struct [(0, 3), (1, 3), (2, 3), (3, 9)], 4, 40, [.v (.int .i64 0), .v (.int .i64 0), .v (.int .i64 0), .v (.string ByteArray.empty)]⟩ .leaf)) 25 ⟨.slice 46, 1, 24, [.ds true 0 []]⟩ (.node (.node .leaf 26 ⟨.arr 32 5, 32, 32, (List.replicate 32 (.v (.int .u8 0)))⟩ .leaf) 27 ⟨.slice 5, 1, 24, [.ds true 0 []]⟩ (.node .leaf 28 ⟨.struct [(0, 3), (1, 3), (2, 3), (3, 26), (35, 3), (36, 3), (37, 27)], 38, 96, [.v (.int .i64 0), .v (.int .i64 0), .v (.int .i64 0), .v (.int .u8 0), .v (.int .u8 0), .v (.int .u8 0), .v (.int .u8 0), .v (.int .u8 0), .v (.int .u8 0), .v (.int .u8 0), .v (.int .u8 0), .v (.int .u8 0), .v (.int .u8 0), .v (.int .u8 0), .v (.int .u8 0), .v (.int .u8 0), .v (.int .u8 0), .v (.int .u8 0), .v (.int .u8 0), .v (.int .u8 0), .v (.int .u8 0), .v (.int .u8 0), .v (.int .u8 0), .v (.int .u8 0), .v (.int .u8 0), .v (.int .u8 0), .v (.int .u8 0), .v (.int .u8 0), .v (.int .u8 0), .v (.int .u8 0), .v (.int .u8 0), .v (.int .u8 0), .v (.int .u8 0), .v (.int .u8 0), .v (.int .u8 0), .v (.int .i64 0), .v (.int .i64 0), .ds true 0 []]⟩ .leaf)))) 29 ⟨.struct [(0, 3), (1, 3), (2, 3), (3, 26), (35, 3), (36, 3), (37, 27)], 38, 96, [.v (.int .i64 0), .v (.int .i64 0), .v (.int .i64 0), .v (.int .u8 0), .v (.int .u8 0), .v (.int .u8 0), .v (.int .u8 0), .v (.int .u8 0), .v (.int .u8 0), .v (.int .u8 0), .v (.int .u8 0), .v (.int .u8 0), .v (.int .u8 0), .v (.int .u8 0), .v (.int .u8 0), .v (.int .u8 0), .v (.int .u8 0), .v (.int .u8 0), .v (.int .u8 0), .v (.int .u8 0), .v (.int .u8 0), .v (.int .u8 0), .v (.int .u8 0), .v (.int .u8 0), .v (.int .u8 0), .v (.int .u8 0), .v (.int .u8 0), .v (.int .u8 0), .v (.int .u8 0), .v (.int .u8 0), .v (.int .u8 0), .v (.int .u8 0), .v (.int .u8 0), .v (.int .u8 0), .v (.int .u8 0), .v (.int .i64 0), .v (.int .i64 0), .ds true 0 []]⟩ (.node (.node (.node (.node (.node .leaf 30 ⟨.struct [(0, 3), (1, 25), (2, 29)], 40, 128, [.v (.int .i64 0), .ds true 0 [], .v (.int .i64 0), .v (.int .i64 0), .v (.int .i64 0), .v (.int .u8 0), .v (.int .u8 0), .v (.int .u8 0), .v (.int .u8 0), .v (.int .u8 0), .v (.int .u8 0), .v (.int .u8 0), .v (.int .u8 0), .v (.int .u8 0), .v (.int .u8 0), .v (.int .u8 0), .v (.int .u8 0), .v (.int .u8 0), .v (.int .u8 0), .v (.int .u8 0), .v (.int .u8 0), .v (.int .u8 0), .v (.int .u8 0), .v (.int .u8 0), .v (.int .u8 0), .v (.int .u8 0), .v (.int .u8 0), .v (.int .u8 0), .v (.int .u8 0), .v (.int .u8 0), .v (.int .u8 0), .v (.int .u8 0), .v (.int .u8 0), .v (.int .u8 0), .v (.int .u8 0), .v (.int .u8 0), .v (.int .u8 0), .v (.int .i64 0), .v (.int .i64 0), .ds true 0 []]⟩ .leaf) 31 ⟨.struct [(0, 3), (1, 25), (2, 29)], 40, 128, [.v (.int .i64 0), .ds true 0 [], .v (.int .i64 0), .v (.int .i64 0), .v (.int .i64 0), .v (.int .u8 0), .v (.int .u8 0), .v (.int .u8 0), .v (.int .u8 0), .v (.int .u8 0), .v (.int .u8 0), .v (.int .u8 0), .v (.int .u8 0), .v (.int .u8 0), .v (.int .u8 0), .v (.int .u8 0), .v (.int .u8 0), .v (.int .u8 0), .v (.int .u8 0), .v (.int .u8 0), .v (.int .u8 0), .v (.int .u8 0), .v (.int .u8 0), .v (.int .u8 0), .v (.int .u8 0), .v (.int .u8 0), .v (.int .u8 0), .v (.int .u8 0), .v (.int .u8 0), .v (.int .u8 0), .v (.int .u8 0), .v (.int .u8 0), .v (.int .u8 0), .v (.int .u8 0), .v (.int .u8 0), .v (.int .u8 0), .v (.int .u8 0), .v (.int .i64 0), .v (.int .i64 0), .ds true 0 []]⟩ .leaf) 32 ⟨.other, 1, 8, [.v .nilFunc]⟩ (.node .leaf 33 ⟨.int .i64, 1, 8, [.v (.int .i64 0)]⟩ .leaf)) 35 ⟨.other, 1, 8, [.v .nilFunc]⟩ (.node (.node .leaf 37 ⟨.other, 1, 8, [.v .nilFunc]⟩ .leaf) 38 ⟨.other, 1, 8, [.v .nilFunc]⟩ (.node .leaf 39 ⟨.other, 1, 8, [.v .nilFunc]⟩ .leaf))) 40 ⟨.int .u64, 1, 8, [.v (.int .u64 0)]⟩ (.node (.node (.node .leaf 41 ⟨.arr 4 40, 4, 32, [.v (.int .u64 0), .v (.int .u64 0), .v (.int .u64 0), .v (.int .u64 0)]⟩ .leaf) 42 ⟨.arr 4 40, 4, 32, [.v (.int .u64 0), .v (.int .u64 0), .v (.int .u64 0), .v (.int .u64 0)]⟩ (.node .leaf 43 ⟨.struct [(0, 42), (4, 42), (8, 3)], 9, 72, [.v (.int .u64 0), .v (.int .u64 0), .v (.int .u64 0), .v (.int .u64 0), .v (.int .u64 0), .v (.int .u64 0), .v (.int .u64 0), .v (.int .u64 0), .v (.int .i64 0)]⟩ .leaf)) 44 ⟨.struct [(0, 42), (4, 42), (8, 3)], 9, 72, [.v (.int .u64 0), .v (.int .u64 0), .v (.int .u64 0), .v (.int .u64 0), .v (.int .u64 0), .v (.int .u64 0), .v (.int .u64 0), .v (.int .u64 0), .v (.int .i64 0)]⟩ (.node (.node .leaf 45 ⟨.struct [(0, 3), (1, 44)], 10, 80, [.v (.int .i64 0), .v (.int .u64 0), .v (.int .u64 0), .v (.int .u64 0), .v (.int .u64 0), .v (.int .u64 0), .v (.int .u64 0), .v (.int .u64 0), .v (.int .u64 0), .v (.int .i64 0)]⟩ .leaf) 46 ⟨.struct [(0, 3), (1, 44)], 10, 80, [.v (.int .i64 0), .v (.int .u64 0), .v (.int .u64 0), .v (.int .u64 0), .v (.int .u64 0), .v (.int .u64 0), .v (.int .u64 0), .v (.int .u64 0), .v (.int .u64 0), .v (.int .i64 0)]⟩ (.node .leaf 47 ⟨.other, 1, 8, [.v .nilFunc]⟩ .leaf))))) 48 ⟨.other, 1, 8, [.v .nilFunc]⟩ (.node (.node (.node (.node (.node (.node .leaf 49 ⟨.slice 55, 1, 24, [.ds true 0 []]⟩ .leaf) 50 ⟨.slice 3, 1, 24, [.ds true 0 []]⟩ .leaf) 52 ⟨.other, 1, 8, [.v .nilFunc]⟩ (.node .leaf 53 ⟨.slice 60, 1, 24, [.ds true 0 []]⟩ .leaf)) 54 ⟨.struct [(0, 3), (1, 53), (2, 3)], 3, 40, [.v (.int .i64 0), .ds true 0 [], .v (.int .i64 0)]⟩ (.node (.node .leaf 55 ⟨.struct [(0, 3), (1, 53), (2, 3)], 3, 40, [.v (.int .i64 0), .ds true 0 [], .v (.int .i64 0)]⟩ .leaf) 57 ⟨.other, 1, 8, [.v .nilFunc]⟩ (.node .leaf 58 ⟨.other, 1, 8, [.v .nilFunc]⟩ .leaf))) 59 ⟨.arr 20 5, 20, 20, (List.replicate 20 (.v (.int .u8 0)))⟩ (.node (.node (.node (.node .leaf 60 ⟨.arr 20 5, 20, 20, (List.replicate 20 (.v (.int .u8 0)))⟩ .leaf) 61 ⟨.other, 1, 8, [.v .nilFunc]⟩ .leaf) 62 ⟨.slice 68, 1, 24, [.ds true 0 []]⟩ (.node .leaf 63 ⟨.struct [(0, 62), (1, 3), (2, 3)], 3, 40, [.ds true 0 [], .v (.int .i64 0), .v (.int .i64 0)]⟩ .leaf)) 64 ⟨.struct [(0, 62), (1, 3), (2, 3)], 3, 40, [.ds true 0 [], .v (.int .i64 0), .v (.int .i64 0)]⟩ (.node (.node .leaf 65 ⟨.other, 1, 8, [.v .nilFunc]⟩ .leaf) 66 ⟨.slice 145, 1, 24, [.ds true 0 []]⟩ (.node .leaf 67 ⟨.struct [(0, 3), (1, 3), (2, 66)], 3, 40, [.v (.int .i64 0), .v (.int .i64 0), .ds true 0 []]⟩ .leaf)))) 68 ⟨.struct [(0, 3), (1, 3), (2, 66)], 3, 40, [.v (.int .i64 0), .v (.int .i64 0), .ds true 0 []]⟩ (.node (.node (.node (.node (.node .leaf 70 ⟨.other, 1, 8, [.v .nilFunc]⟩ .leaf) 71 ⟨.other, 1, 8, [.v .nilFunc]⟩ .leaf) 73 ⟨.other, 1, 8, [.v .nilFunc]⟩ (.node .leaf 74 ⟨.other, 1, 8, [.v .nilFunc]⟩ .leaf)) 75 ⟨.other, 1, 8, [.v .nilFunc]⟩ (.node (.node .leaf 76 ⟨.other, 1, 8, [.v .nilFunc]⟩ .leaf) 77 ⟨.other, 1, 8, [.v .nilFunc]⟩ (.node .leaf 78 ⟨.other, 1, 8, [.v .nilFunc]⟩ .leaf))) 79 ⟨.slice 96, 1, 24, [.ds true 0 []]⟩ (.node (.node (.node .leaf 80 ⟨.struct [(0, 42), (4, 79)], 5, 56, [.v (.int .u64 0), .v (.int .u64 0), .v (.int .u64 0), .v (.int .u64 0), .ds true 0 []]⟩ .leaf) 81 ⟨.struct [(0, 42), (4, 79)], 5, 56, [.v (.int .u64 0), .v (.int .u64 0), .v (.int .u64 0), .v (.int .u64 0), .ds true 0 []]⟩ (.node .leaf 83 ⟨.other, 1, 8, [.v .nilFunc]⟩ .leaf)) 85 ⟨.other, 1, 8, [.v .nilFunc]⟩ (.node (.node .leaf 86 ⟨.other, 1, 8, [.v .nilFunc]⟩ .leaf) 88 ⟨.other, 1, 8, [.v .nilFunc]⟩ (.node .leaf 89 ⟨.other, 1, 8, [.v .nilFunc]⟩ .leaf)))))) 90 ⟨.other, 1, 8, [.v .nilFunc]⟩ (.node (.node (.node (.node (.node (.node (.node .leaf 91 ⟨.other, 1, 8, [.v .nilFunc]⟩ .leaf) 92 ⟨.other, 1, 8, [.v .nilFunc]⟩ .leaf) 94 ⟨.other, 1, 8, [.v .nilFunc]⟩ (.node .leaf 95 ⟨.struct [(0, 26), (32, 42)], 36, 64, [.v (.int .u8 0), .v (.int .u8 0), .v (.int .u8 0), .v (.int .u8 0), .v (.int .u8 0), .v (.int .u8 0), .v (.int .u8 0), .v (.int .u8 0), .v (.int .u8 0), .v (.int .u8 0), .v (.int .u8 0), .v (.int .u8 0), .v (.int .u8 0), .v (.int .u8 0), .v (.int .u8 0), .v (.int .u8 0), .v (.int .u8 0), .v (.int .u8 0), .v (.int .u8 0), .v (.int .u8 0), .v (.int .u8 0), .v (.int .u8 0), .v (.int .u8 0), .v (.int .u8 0), .v (.int .u8 0), .v (.int .u8 0), .v (.int .u8 0), .v (.int .u8 0), .v (.int .u8 0), .v (.int .u8 0), .v (.int .u8 0), .v (.int .u8 0), .v (.int .u64 0), .v (.int .u64 0), .v (.int .u64 0), .v (.int .u64 0)]⟩ .leaf)) 96 ⟨.struct [(0, 26), (32, 42)], 36, 64, [.v (.int .u8 0), .v (.int .u8 0), .v (.int .u8 0), .v (.int .u8 0), .v (.int .u8 0), .v (.int .u8 0), .v (.int .u8 0), .v (.int .u8 0), .v (.int .u8 0), .v (.int .u8 0), .v (.int .u8 0), .v (.int .u8 0), .v (.int .u8 0), .v (.int .u8 0), .v (.int .u8 0), .v (.int .u8 0), .v (.int .u8 0), .v (.int .u8 0), .v (.int .u8 0), .v (.int .u8 0), .v (.int .u8 0), .v (.int .u8 0), .v (.int .u8 0), .v (.int .u8 0), .v (.int .u8 0), .v (.int .u8 0), .v (.int .u8 0), .v (.int .u8 0), .v (.int .u8 0), .v (.int .u8 0), .v (.int .u8 0), .v (.int .u8 0), .v (.int .u64 0), .v (.int .u64 0), .v (.int .u64 0), .v (.int .u64 0)]⟩ (.node (.node .leaf 97 ⟨.other, 1, 8, [.v .nilFunc]⟩ .leaf) 98 ⟨.other, 1, 8, [.v .nilFunc]⟩ (.node .leaf 99 ⟨.other, 1, 8, [.v .nilFunc]⟩ .leaf))) 100 ⟨.other, 1, 8, [.v .nilFunc]⟩ (.node (.node (.node (.node .leaf 101 ⟨.other, 1, 8, [.v .nilFunc]⟩ .leaf) 102 ⟨.other, 1, 8, [.v .nilFunc]⟩ .leaf) 103 ⟨.other, 1, 8, [.v .nilFunc]⟩ (.node .leaf 104 ⟨.other, 1, 8, [.v .nilFunc]⟩ .leaf)) 105 ⟨.other, 1, 8, [.v .nilFunc]⟩ (.node (.node .leaf 106 ⟨.other, 1, 8, [.v .nilFunc]⟩ .leaf) 107 ⟨.ptr, 1, 8, [.v (.pointer none)]⟩ (.node .leaf 108 ⟨.struct [(0, 27)], 1, 24, [.ds true 0 []]⟩ .leaf)))) 109 ⟨.struct [(0, 27)], 1, 24, [.ds true 0 []]⟩ (.node (.node (.node (.node (.node .leaf 110 ⟨.other, 1, 8, [.v .nilFunc]⟩ .leaf) 111 ⟨.other, 1, 8, [.v .nilFunc]⟩ .leaf) 112 ⟨.other, 1, 8, [.v .nilFunc]⟩ (.node .leaf 113 ⟨.other, 1, 8, [.v .nilFunc]⟩ .leaf)) 114 ⟨.ptr, 1, 8, [.v (.pointer none)]⟩ (.node (.node .leaf 115 ⟨.struct [(0, 27), (1, 4)], 2, 32, [.ds true 0 [], .v (.bool false)]⟩ .leaf) 116 ⟨.struct [(0, 27), (1, 4)], 2, 32, [.ds true 0 [], .v (.bool false)]⟩ (.node .leaf 117 ⟨.other, 1, 8, [.v .nilFunc]⟩ .leaf))) 118 ⟨.other, 1, 8, [.v .nilFunc]⟩ (.node (.node (.node .leaf 119 ⟨.other, 1, 8, [.v .nilFunc]⟩ .leaf) 120 ⟨.other, 1, 8, [.v .nilFunc]⟩ (.node .leaf 122 ⟨.other, 1, 8, [.v .nilFunc]⟩ .leaf)) 123 ⟨.other, 1, 8, [.v .nilFunc]⟩ (.node (.node .leaf 124 ⟨.other, 1, 8, [.v .nilFunc]⟩ .leaf) 125 ⟨.other, 1, 8, [.v .nilFunc]⟩ (.node .leaf 126 ⟨.other, 1, 8, [.v .nilFunc]⟩ .leaf))))) 127 ⟨.other, 1, 8, [.v .nilFunc]⟩ (.node (.node (.node (.node (.node (.node .leaf 128 ⟨.other, 1, 8, [.v .nilFunc]⟩ .leaf) 129 ⟨.other, 1, 8, [.v .nilFunc]⟩ .leaf) 130 ⟨.other, 1, 8, [.v .nilFunc]⟩ (.node .leaf 131 ⟨.other, 1, 8, [.v .nilFunc]⟩ .leaf)) 133 ⟨.other, 1, 8, [.v .nilFunc]⟩ (.node (.node .leaf 134 ⟨.other, 1, 8, [.v .nilFunc]⟩ .leaf) 135 ⟨.other, 1, 8, [.v .nilFunc]⟩ (.node .leaf 136 ⟨.other, 1, 8, [.v .nilFunc]⟩ .leaf))) 138 ⟨.other, 1, 8, [.v .nilFunc]⟩ (.node (.node (.node .leaf 139 ⟨.other, 1, 8, [.v .nilFunc]⟩ .leaf) 140 ⟨.other, 1, 8, [.v .nilFunc]⟩ (.node .leaf 141 ⟨.other, 1, 8, [.v .nilFunc]⟩ .leaf)) 142 ⟨.other, 1, 8, [.v .nilFunc]⟩ (.node (.node .leaf 143 ⟨.int .u64, 1, 8, [.v (.int .u64 0)]⟩ .leaf) 144 ⟨.struct [(0, 3), (1, 26), (33, 26), (65, 3), (66, 42), (70, 42), (74, 26), (106, 3), (107, 3), (108, 27)], 109, 216, [.v (.int .i64 0), .v (.int .u8 0), .v (.int .u8 0), .v (.int .u8 0), .v (.int .u8 0), .v (.int .u8 0), .v (.int .u8 0), .v (.int .u8 0), .v (.int .u8 0), .v (.int .u8 0), .v (.int .u8 0), .v (.int .u8 0), .v (.int .u8 0), .v (.int .u8 0), .v (.int .u8 0), .v (.int .u8 0), .v (.int .u8 0), .v (.int .u8 0), .v (.int .u8 0), .v (.int .u8 0), .v (.int .u8 0), .v (.int .u8 0), .v (.int .u8 0), .v (.int .u8 0), .v (.int .u8 0), .v (.int .u8 0), .v (.int .u8 0), .v (.int .u8 0), .v (.int .u8 0), .v (.int .u8 0), .v (.int .u8 0), .v (.int .u8 0), .v (.int .u8 0), .v (.int .u8 0), .v (.int .u8 0), .v (.int .u8 0), .v (.int .u8 0), .v (.int .u8 0), .v (.int .u8 0), .v (.int .u8 0), .v (.int .u8 0), .v (.int .u8 0), .v (.int .u8 0), .v (.int .u8 0), .v (.int .u8 0), .v (.int .u8 0), .v (.int .u8 0), .v (.int .u8 0), .v (.int .u8 0), .v (.int .u8 0), .v (.int .u8 0), .v (.int .u8 0), .v (.int .u8 0), .v (.int .u8 0), .v (.int .u8 0), .v (.int .u8 0), .v (.int .u8 0), .v (.int .u8 0), .v (.int .u8 0), .v (.int .u8 0), .v (.int .u8 0), .v (.int .u8 0), .v (.int .u8 0), .v (.int .u8 0), .v (.int .u8 0), .v (.int .i64 0), .v (.int .u64 0), .v (.int .u64 0), .v (.int .u64 0), .v (.int .u64 0), .v (.int .u64 0), .v (.int .u64 0), .v (.int .u64 0), .v (.int .u64 0), .v (.int .u8 0), .v (.int .u8 0), .v (.int .u8 0), .v (.int .u8 0), .v (.int .u8 0), .v (.int .u8 0), .v (.int .u8 0), .v (.int .u8 0), .v (.int .u8 0), .v (.int .u8 0), .v (.int .u8 0), .v (.int .u8 0), .v (.int .u8 0), .v (.int .u8 0), .v (.int .u8 0), .v (.int .u8 0), .v (.int .u8 0), .v (.int .u8 0), .v (.int .u8 0), .v (.int .u8 0), .v (.int .u8 0), .v (.int .u8 0), .v (.int .u8 0), .v (.int .u8 0), .v (.int .u8 0), .v (.int .u8 0), .v (.int .u8 0), .v (.int .u8 0), .v (.int .u8 0), .v (.int .u8 0), .v (.int .u8 0), .v (.int .u8 0), .v (.int .i64 0), .v (.int .i64 0), .ds true 0 []]⟩ (.node .leaf 145 ⟨.struct [(0, 3), (1, 26), (33, 26), (65, 3), (66, 42), (70, 42), (74, 26), (106, 3), (107, 3), (108, 27)], 109, 216, [.v (.int .i64 0), .v (.int .u8 0), .v (.int .u8 0), .v (.int .u8 0), .v (.int .u8 0), .v (.int .u8 0), .v (.int .u8 0), .v (.int .u8 0), .v (.int .u8 0), .v (.int .u8 0), .v (.int .u8 0), .v (.int .u8 0), .v (.int .u8 0), .v (.int .u8 0), .v (.int .u8 0), .v (.int .u8 0), .v (.int .u8 0), .v (.int .u8 0), .v (.int .u8 0), .v (.int .u8 0), .v (.int .u8 0), .v (.int .u8 0), .v (.int .u8 0), .v (.int .u8 0), .v (.int .u8 0), .v (.int .u8 0), .v (.int .u8 0), .v (.int .u8 0), .v (.int .u8 0), .v (.int .u8 0), .v (.int .u8 0), .v (.int .u8 0), .v (.int .u8 0), .v (.int .u8 0), .v (.int .u8 0), .v (.int .u8 0), .v (.int .u8 0), .v (.int .u8 0), .v (.int .u8 0), .v (.int .u8 0), .v (.int .u8 0), .v (.int .u8 0), .v (.int .u8 0), .v (.int .u8 0), .v (.int .u8 0), .v (.int .u8 0), .v (.int .u8 0), .v (.int .u8 0), .v (.int .u8 0), .v (.int .u8 0), .v (.int .u8 0), .v (.int .u8 0), .v (.int .u8 0), .v (.int .u8 0), .v (.int .u8 0), .v (.int .u8 0), .v (.int .u8 0), .v (.int .u8 0), .v (.int .u8 0), .v (.int .u8 0), .v (.int .u8 0), .v (.int .u8 0), .v (.int .u8 0), .v (.int .u8 0), .v (.int .u8 0), .v (.int .i64 0), .v (.int .u64 0), .v (.int .u64 0), .v (.int .u64 0), .v (.int .u64 0), .v (.int .u64 0), .v (.int .u64 0), .v (.int .u64 0), .v (.int .u64 0), .v (.int .u8 0), .v (.int .u8 0), .v (.int .u8 0), .v (.int .u8 0), .v (.int .u8 0), .v (.int .u8 0), .v (.int .u8 0), .v (.int .u8 0), .v (.int .u8 0), .v (.int .u8 0), .v (.int .u8 0), .v (.int .u8 0), .v (.int .u8 0), .v (.int .u8 0), .v (.int .u8 0), .v (.int .u8 0), .v (.int .u8 0), .v (.int .u8 0), .v (.int .u8 0), .v (.int .u8 0), .v (.int .u8 0), .v (.int .u8 0), .v (.int .u8 0), .v (.int .u8 0), .v (.int .u8 0), .v (.int .u8 0), .v (.int .u8 0), .v (.int .u8 0), .v (.int .u8 0), .v (.int .u8 0), .v (.int .u8 0), .v (.int .u8 0), .v (.int .i64 0), .v (.int .i64 0), .ds true 0 []]⟩ .leaf)))) 146 ⟨.other, 1, 8, [.v .nilFunc]⟩ (.node (.node (.node (.node (.node .leaf 148 ⟨.other, 1, 8, [.v .nilFunc]⟩ .leaf) 151 ⟨.other, 1, 8, [.v .nilFunc]⟩ .leaf) 152 ⟨.arr 8 40, 8, 64, (List.replicate 8 (.v (.int .u64 0)))⟩ (.node .leaf 153 ⟨.other, 1, 8, [.v .nilFunc]⟩ .leaf)) 154 ⟨.other, 1, 8, [.v .nilFunc]⟩ (.node (.node .leaf 156 ⟨.other, 1, 8, [.v .nilFunc]⟩ .leaf) 157 ⟨.struct [(0, 17), (1, 17), (2, 17), (3, 9)], 4, 40, [.v (.pointer none), .v (.pointer none), .v (.pointer none), .v (.string ByteArray.empty)]⟩ (.node .leaf 159 ⟨.arr 0 16, 0, 0, []⟩ .leaf))) 160 ⟨.struct [(0, 159)], 0, 0, []⟩ (.node (.node (.node .leaf 162 ⟨.other, 1, 8, [.v .nilFunc]⟩ .leaf) 163 ⟨.int .u32, 1, 4, [.v (.int .u32 0)]⟩ (.node .leaf 166 ⟨.other, 1, 8, [.v .nilFunc]⟩ .leaf)) 167 ⟨.ptr, 1, 8, [.v (.pointer none)]⟩ (.node (.node .leaf 170 ⟨.struct [(0, 12), (1, 12), (2, 163), (3, 164), (4, 5), (5, 5), (6, 165), (7, 166), (8, 167), (9, 168), (10, 169)], 11, 48, [.v (.int .u64 0), .v (.int .u64 0), .v (.int .u32 0), .v (.int .u8 0), .v (.int .u8 0), .v (.int .u8 0), .v (.int .u8 0), .v .nilFunc, .v (.pointer none), .v (.int .i32 0), .v (.int .i32 0)]⟩ .leaf) 172 ⟨.struct [(0, 9)], 1, 16, [.v (.string ByteArray.empty)]⟩ (.node .leaf 173 ⟨.struct [(0, 9)], 1, 16, [.v (.string ByteArray.empty)]⟩ .leaf)))))))
noncomputable def Γ : Tab := Γl.get
theorem Γ1 : Γ 1 = some ⟨.other, 1, 8, [.v .nilFunc]⟩ := rfl
theorem td1 : tdOf Γ 1 = some (.other) := rfl
theorem Γ2 : Γ 2 = some ⟨.int .i64, 1, 8, [.v (.int .i64 0)]⟩ := rfl
theorem td2 : tdOf Γ 2 = some (.int .i64) := rfl
theorem Γ3 : Γ 3 = some ⟨.int .i64, 1, 8, [.v (.int .i64 0)]⟩ := rfl
theorem td3 : tdOf Γ 3 = some (.int .i64) := rfl
theorem Γ4 : Γ 4 = some ⟨.bool, 1, 1, [.v (.bool false)]⟩ := rfl
theorem td4 : tdOf Γ 4 = some (.bool) := rfl
theorem Γ5 : Γ 5 = some ⟨.int .u8, 1, 1, [.v (.int .u8 0)]⟩ := rfl
theorem td5 : tdOf Γ 5 = some (.int .u8) := rfl
theorem Γ7 : Γ 7 = some ⟨.struct [(0, 2), (1, 3), (2, 4), (3, 6)], 4, 24, [.v (.int .i64 0), .v (.int .i64 0), .v (.bool false), .v (.int .u8 0)]⟩ := rfl
theorem td7 : tdOf Γ 7 = some (.struct [(0, 2), (1, 3), (2, 4), (3, 6)]) := rfl
theorem fo7_0 : fieldOff Γ 7 0 = some (0, 2) := rfl
theorem fo7_1 : fieldOff Γ 7 1 = some (1, 3) := rfl
theorem fo7_2 : fieldOff Γ 7 2 = some (2, 4) := rfl
theorem fo7_3 : fieldOff Γ 7 3 = some (3, 6) := rfl
theorem Γ9 : Γ 9 = some ⟨.str, 1, 16, [.v (.string ByteArray.empty)]⟩ := rfl
theorem td9 : tdOf Γ 9 = some (.str) := rfl
theorem Γ12 : Γ 12 = some ⟨.int .u64, 1, 8, [.v (.int .u64 0)]⟩ := rfl
theorem td12 : tdOf Γ 12 = some (.int .u64) := rfl
theorem Γ13 : Γ 13 = some ⟨.struct [(0, 9), (1, 12)], 2, 24, [.v (.string ByteArray.empty), .v (.int .u64 0)]⟩ := rfl
theorem td13 : tdOf Γ 13 = some (.struct [(0, 9), (1, 12)]) := rfl
theorem fo13_0 : fieldOff Γ 13 0 = some (0, 9) := rfl
theorem fo13_1 : fieldOff Γ 13 1 = some (1, 12) := rfl
theorem Γ21 : Γ 21 = some ⟨.int .i32, 1, 4, [.v (.int .i32 0)]⟩ := rfl
theorem td21 : tdOf Γ 21 = some (.int .i32) := rfl
theorem Γ22 : Γ 22 = some ⟨.slice 24, 1, 24, [.ds true 0 []]⟩ := rfl
theorem td22 : tdOf Γ 22 = some (.slice 24) := rfl
theorem sl22 : sliceOf Γ 22 = some (24, ⟨.struct [(0, 3), (1, 3), (2, 3), (3, 9)], 4, 40, [.v (.int .i64 0), .v (.int .i64 0), .v (.int .i64 0), .v (.string ByteArray.empty)]⟩) := rfl
theorem Γ23 : Γ 23 = some ⟨.struct [(0, 3), (1, 3), (2, 3), (3, 9)], 4, 40, [.v (.int .i64 0), .v (.int .i64 0), .v (.int .i64 0), .v (.string ByteArray.empty)]⟩ := rfl
theorem td23 : tdOf Γ 23 = some (.struct [(0, 3), (1, 3), (2, 3), (3, 9)]) := rfl
theorem fo23_0 : fieldOff Γ 23 0 = some (0, 3) := rfl
theorem fo23_1 : fieldOff Γ 23 1 = some (1, 3) := rfl
theorem fo23_2 : fieldOff Γ 23 2 = some (2, 3) := rfl
theorem fo23_3 : fieldOff Γ 23 3 = some (3, 9) := rfl
theorem Γ24 : Γ 24 = some ⟨.struct [(0, 3), (1, 3), (2, 3), (3, 9)], 4, 40, [.v (.int .i64 0), .v (.int .i64 0), .v (.int .i64 0), .v (.string ByteArray.empty)]⟩ := rfl
theorem td24 : tdOf Γ 24 = some (.struct [(0, 3), (1, 3), (2, 3), (3, 9)]) := rfl
theorem fo24_0 : fieldOff Γ 24 0 = some (0, 3) := rfl
theorem fo24_1 : fieldOff Γ 24 1 = some (1, 3) := rfl
theorem fo24_2 : fieldOff Γ 24 2 = some (2, 3) := rfl
theorem fo24_3 : fieldOff Γ 24 3 = some (3, 9) := rfl
theorem Γ25 : Γ 25 = some ⟨.slice 46, 1, 24, [.ds true 0 []]⟩ := rfl
theorem td25 : tdOf Γ 25 = some (.slice 46) := rfl
theorem sl25 : sliceOf Γ 25 = some (46, ⟨.struct [(0, 3), (1, 44)], 10, 80, [.v (.int .i64 0), .v (.int .u64 0), .v (.int .u64 0), .v (.int .u64 0), .v (.int .u64 0), .v (.int .u64 0), .v (.int .u64 0), .v (.int .u64 0), .v (.int .u64 0), .v (.int .i64 0)]⟩) := rfl
theorem Γ26 : Γ 26 = some ⟨.arr 32 5, 32, 32, (List.replicate 32 (.v (.int .u8 0)))⟩ := rfl
theorem td26 : tdOf Γ 26 = some (.arr 32 5) := rfl
theorem ar26 : arrOf Γ 26 = some (32, 5, 1) := rfl
theorem Γ27 : Γ 27 = some ⟨.slice 5, 1, 24, [.ds true 0 []]⟩ := rfl
theorem td27 : tdOf Γ 27 = some (.slice 5) := rfl
theorem sl27 : sliceOf Γ 27 = some (5, ⟨.int .u8, 1, 1, [.v (.int .u8 0)]⟩) := rfl
theorem Γ28 : Γ 28 = some ⟨.struct [(0, 3), (1, 3), (2, 3), (3, 26), (35, 3), (36, 3), (37, 27)], 38, 96, [.v (.int .i64 0), .v (.int .i64 0), .v (.int .i64 0), .v (.int .u8 0), .v (.int .u8 0), .v (.int .u8 0), .v (.int .u8 0), .v (.int .u8 0), .v (.int .u8 0), .v (.int .u8 0), .v (.int .u8 0), .v (.int .u8 0), .v (.int .u8 0), .v (.int .u8 0), .v (.int .u8 0), .v (.int .u8 0), .v (.int .u8 0), .v (.int .u8 0), .v (.int .u8 0), .v (.int .u8 0), .v (.int .u8 0), .v (.int .u8 0), .v (.int .u8 0), .v (.int .u8 0), .v (.int .u8 0), .v (.int .u8 0), .v (.int .u8 0), .v (.int .u8 0), .v (.int .u8 0), .v (.int .u8 0), .v (.int .u8 0), .v (.int .u8 0), .v (.int .u8 0), .v (.int .u8 0), .v (.int .u8 0), .v (.int .i64 0), .v (.int .i64 0), .ds true 0 []]⟩ := rfl
theorem td28 : tdOf Γ 28 = some (.struct [(0, 3), (1, 3), (2, 3), (3, 26), (35, 3), (36, 3), (37, 27)]) := rfl
theorem fo28_0 : fieldOff Γ 28 0 = some (0, 3) := rfl
theorem fo28_1 : fieldOff Γ 28 1 = some (1, 3) := rfl
theorem fo28_2 : fieldOff Γ 28 2 = some (2, 3) := rfl
theorem fo28_3 : fieldOff Γ 28 3 = some (3, 26) := rfl
theorem fo28_4 : fieldOff Γ 28 4 = some (35, 3) := rfl
theorem fo28_5 : fieldOff Γ 28 5 = some (36, 3) := rfl
theorem fo28_6 : fieldOff Γ 28 6 = some (37, 27) := rfl
theorem Γ29 : Γ 29 = some ⟨.struct [(0, 3), (1, 3), (2, 3), (3, 26), (35, 3), (36, 3), (37, 27)], 38, 96, [.v (.int .i64 0), .v (.int .i64 0), .v (.int .i64 0), .v (.int .u8 0), .v (.int .u8 0), .v (.int .u8 0), .v (.int .u8 0), .v (.int .u8 0), .v (.int .u8 0), .v (.int .u8 0), .v (.int .u8 0), .v (.int .u8 0), .v (.int .u8 0), .v (.int .u8 0), .v (.int .u8 0), .v (.int .u8 0), .v (.int .u8 0), .v (.int .u8 0), .v (.int .u8 0), .v (.int .u8 0), .v (.int .u8 0), .v (.int .u8 0), .v (.int .u8 0), .v (.int .u8 0), .v (.int .u8 0), .v (.int .u8 0), .v (.int .u8 0), .v (.int .u8 0), .v (.int .u8 0), .v (.int .u8 0), .v (.int .u8 0), .v (.int .u8 0), .v (.int .u8 0), .v (.int .u8 0), .v (.int .u8 0), .v (.int .i64 0), .v (.int .i64 0), .ds true 0 []]⟩ := rfl
theorem td29 : tdOf Γ 29 = some (.struct [(0, 3), (1, 3), (2, 3), (3, 26), (35, 3), (36, 3), (37, 27)]) := rfl
theorem fo29_0 : fieldOff Γ 29 0 = some (0, 3) := rfl
theorem fo29_1 : fieldOff Γ 29 1 = some (1, 3) := rfl
theorem fo29_2 : fieldOff Γ 29 2 = some (2, 3) := rfl
theorem fo29_3 : fieldOff Γ 29 3 = some (3, 26) := rfl
theorem fo29_4 : fieldOff Γ 29 4 = some (35, 3) := rfl
theorem fo29_5 : fieldOff Γ 29 5 = some (36, 3) := rfl
theorem fo29_6 : fieldOff Γ 29 6 = some (37, 27) := rfl
theorem Γ30 : Γ 30 = some ⟨.struct [(0, 3), (1, 25), (2, 29)], 40, 128, [.v (.int .i64 0), .ds true 0 [], .v (.int .i64 0), .v (.int .i64 0), .v (.int .i64 0), .v (.int .u8 0), .v (.int .u8 0), .v (.int .u8 0), .v (.int .u8 0), .v (.int .u8 0), .v (.int .u8 0), .v (.int .u8 0), .v (.int .u8 0), .v (.int .u8 0), .v (.int .u8 0), .v (.int .u8 0), .v (.int .u8 0), .v (.int .u8 0), .v (.int .u8 0), .v (.int .u8 0), .v (.int .u8 0), .v (.int .u8 0), .v (.int .u8 0), .v (.int .u8 0), .v (.int .u8 0), .v (.int .u8 0), .v (.int .u8 0), .v (.int .u8 0), .v (.int .u8 0), .v (.int .u8 0), .v (.int .u8 0), .v (.int .u8 0), .v (.int .u8 0), .v (.int .u8 0), .v (.int .u8 0), .v (.int .u8 0), .v (.int .u8 0), .v (.int .i64 0), .v (.int .i64 0), .ds true 0 []]⟩ := rfl
theorem td30 : tdOf Γ 30 = some (.struct [(0, 3), (1, 25), (2, 29)]) := rfl
theorem fo30_0 : fieldOff Γ 30 0 = some (0, 3) := rfl
theorem fo30_1 : fieldOff Γ 30 1 = some (1, 25) := rfl
theorem fo30_2 : fieldOff Γ 30 2 = some (2, 29) := rfl
theorem Γ31 : Γ 31 = some ⟨.struct [(0, 3), (1, 25), (2, 29)], 40, 128, [.v (.int .i64 0), .ds true 0 [], .v (.int .i64 0), .v (.int .i64 0), .v (.int .i64 0), .v (.int .u8 0), .v (.int .u8 0), .v (.int .u8 0), .v (.int .u8 0), .v (.int .u8 0), .v (.int .u8 0), .v (.int .u8 0), .v (.int .u8 0), .v (.int .u8 0), .v (.int .u8 0), .v (.int .u8 0), .v (.int .u8 0), .v (.int .u8 0), .v (.int .u8 0), .v (.int .u8 0), .v (.int .u8 0), .v (.int .u8 0), .v (.int .u8 0), .v (.int .u8 0), .v (.int .u8 0), .v (.int .u8 0), .v (.int .u8 0), .v (.int .u8 0), .v (.int .u8 0), .v (.int .u8 0), .v (.int .u8 0), .v (.int .u8 0), .v (.int .u8 0), .v (.int .u8 0), .v (.int .u8 0), .v (.int .u8 0), .v (.int .u8 0), .v (.int .i64 0), .v (.int .i64 0), .ds true 0 []]⟩ := rfl
theorem td31 : tdOf Γ 31 = some (.struct [(0, 3), (1, 25), (2, 29)]) := rfl
theorem fo31_0 : fieldOff Γ 31 0 = some (0, 3) := rfl
theorem fo31_1 : fieldOff Γ 31 1 = some (1, 25) := rfl
theorem fo31_2 : fieldOff Γ 31 2 = some (2, 29) := rfl
theorem Γ32 : Γ 32 = some ⟨.other, 1, 8, [.v .nilFunc]⟩ := rfl
theorem td32 : tdOf Γ 32 = some (.other) := rfl
theorem Γ33 : Γ 33 = some ⟨.int .i64, 1, 8, [.v (.int .i64 0)]⟩ := rfl
theorem td33 : tdOf Γ 33 = some (.int .i64) := rfl
theorem Γ35 : Γ 35 = some ⟨.other, 1, 8, [.v .nilFunc]⟩ := rfl
theorem td35 : tdOf Γ 35 = some (.other) := rfl
theorem Γ37 : Γ 37 = some ⟨.other, 1, 8, [.v .nilFunc]⟩ := rfl
theorem td37 : tdOf Γ 37 = some (.other) := rfl
theorem Γ38 : Γ 38 = some ⟨.other, 1, 8, [.v .nilFunc]⟩ := rfl
theorem td38 : tdOf Γ 38 = some (.other) := rfl
theorem Γ39 : Γ 39 = some ⟨.other, 1, 8, [.v .nilFunc]⟩ := rfl
theorem td39 : tdOf Γ 39 = some (.other) := rfl
theorem Γ40 : Γ 40 = some ⟨.int .u64, 1, 8, [.v (.int .u64 0)]⟩ := rfl
theorem td40 : tdOf Γ 40 = some (.int .u64) := rfl
theorem Γ41 : Γ 41 = some ⟨.arr 4 40, 4, 32, [.v (.int .u64 0), .v (.int .u64 0), .v (.int .u64 0), .v (.int .u64 0)]⟩ := rfl
theorem td41 : tdOf Γ 41 = some (.arr 4 40) := rfl
theorem ar41 : arrOf Γ 41 = some (4, 40, 1) := rfl
theorem Γ42 : Γ 42 = some ⟨.arr 4 40, 4, 32, [.v (.int .u64 0), .v (.int .u64 0), .v (.int .u64 0), .v (.int .u64 0)]⟩ := rfl
theorem td42 : tdOf Γ 42 = some (.arr 4 40) := rfl
theorem ar42 : arrOf Γ 42 = some (4, 40, 1) := rfl
theorem Γ43 : Γ 43 = some ⟨.struct [(0, 42), (4, 42), (8, 3)], 9, 72, [.v (.int .u64 0), .v (.int .u64 0), .v (.int .u64 0), .v (.int .u64 0), .v (.int .u64 0), .v (.int .u64 0), .v (.int .u64 0), .v (.int .u64 0), .v (.int .i64 0)]⟩ := rfl
theorem td43 : tdOf Γ 43 = some (.struct [(0, 42), (4, 42), (8, 3)]) := rfl
theorem fo43_0 : fieldOff Γ 43 0 = some (0, 42) := rfl
theorem fo43_1 : fieldOff Γ 43 1 = some (4, 42) := rfl
theorem fo43_2 : fieldOff Γ 43 2 = some (8, 3) := rfl
theorem Γ44 : Γ 44 = some ⟨.struct [(0, 42), (4, 42), (8, 3)], 9, 72, [.v (.int .u64 0), .v (.int .u64 0), .v (.int .u64 0), .v (.int .u64 0), .v (.int .u64 0), .v (.int .u64 0), .v (.int .u64 0), .v (.int .u64 0), .v (.int .i64 0)]⟩ := rfl
theorem td44 : tdOf Γ 44 = some (.struct [(0, 42), (4, 42), (8, 3)]) := rfl
theorem fo44_0 : fieldOff Γ 44 0 = some (0, 42) := rfl
theorem fo44_1 : fieldOff Γ 44 1 = some (4, 42) := rfl
theorem fo44_2 : fieldOff Γ 44 2 = some (8, 3) := rfl
theorem Γ45 : Γ 45 = some ⟨.struct [(0, 3), (1, 44)], 10, 80, [.v (.int .i64 0), .v (.int .u64 0), .v (.int .u64 0), .v (.int .u64 0), .v (.int .u64 0), .v (.int .u64 0), .v (.int .u64 0), .v (.int .u64 0), .v (.int .u64 0), .v (.int .i64 0)]⟩ := rfl
theorem td45 : tdOf Γ 45 = some (.struct [(0, 3), (1, 44)]) := rfl
theorem fo45_0 : fieldOff Γ 45 0 = some (0, 3) := rfl
theorem fo45_1 : fieldOff Γ 45 1 = some (1, 44) := rfl
theorem Γ46 : Γ 46 = some ⟨.struct [(0, 3), (1, 44)], 10, 80, [.v (.int .i64 0), .v (.int .u64 0), .v (.int .u64 0), .v (.int .u64 0), .v (.int .u64 0), .v (.int .u64 0), .v (.int .u64 0), .v (.int .u64 0), .v (.int .u64 0), .v (.int .i64 0)]⟩ := rfl
theorem td46 : tdOf Γ 46 = some (.struct [(0, 3), (1, 44)]) := rfl
theorem fo46_0 : fieldOff Γ 46 0 = some (0, 3) := rfl
theorem fo46_1 : fieldOff Γ 46 1 = some (1, 44) := rfl
theorem Γ47 : Γ 47 = some ⟨.other, 1, 8, [.v .nilFunc]⟩ := rfl
theorem td47 : tdOf Γ 47 = some (.other) := rfl
theorem Γ48 : Γ 48 = some ⟨.other, 1, 8, [.v .nilFunc]⟩ := rfl
theorem td48 : tdOf Γ 48 = some (.other) := rfl
theorem Γ49 : Γ 49 = some ⟨.slice 55, 1, 24, [.ds true 0 []]⟩ := rfl
theorem td49 : tdOf Γ 49 = some (.slice 55) := rfl
theorem sl49 : sliceOf Γ 49 = some (55, ⟨.struct [(0, 3), (1, 53), (2, 3)], 3, 40, [.v (.int .i64 0), .ds true 0 [], .v (.int .i64 0)]⟩) := rfl
theorem Γ50 : Γ 50 = some ⟨.slice 3, 1, 24, [.ds true 0 []]⟩ := rfl
theorem td50 : tdOf Γ 50 = some (.slice 3) := rfl
theorem sl50 : sliceOf Γ 50 = some (3, ⟨.int .i64, 1, 8, [.v (.int .i64 0)]⟩) := rfl
theorem Γ52 : Γ 52 = some ⟨.other, 1, 8, [.v .nilFunc]⟩ := rfl
theorem td52 : tdOf Γ 52 = some (.other) := rfl
theorem Γ53 : Γ 53 = some ⟨.slice 60, 1, 24, [.ds true 0 []]⟩ := rfl
theorem td53 : tdOf Γ 53 = some (.slice 60) := rfl
theorem sl53 : sliceOf Γ 53 = some (60, ⟨.arr 20 5, 20, 20, (List.replicate 20 (.v (.int .u8 0)))⟩) := rfl
theorem Γ54 : Γ 54 = some ⟨.struct [(0, 3), (1, 53), (2, 3)], 3, 40, [.v (.int .i64 0), .ds true 0 [], .v (.int .i64 0)]⟩ := rfl
theorem td54 : tdOf Γ 54 = some (.struct [(0, 3), (1, 53), (2, 3)]) := rfl
theorem fo54_0 : fieldOff Γ 54 0 = some (0, 3) := rfl
theorem fo54_1 : fieldOff Γ 54 1 = some (1, 53) := rfl
theorem fo54_2 : fieldOff Γ 54 2 = some (2, 3) := rfl
theorem Γ55 : Γ 55 = some ⟨.struct [(0, 3), (1, 53), (2, 3)], 3, 40, [.v (.int .i64 0), .ds true 0 [], .v (.int .i64 0)]⟩ := rfl
theorem td55 : tdOf Γ 55 = some (.struct [(0, 3), (1, 53), (2, 3)]) := rfl
theorem fo55_0 : fieldOff Γ 55 0 = some (0, 3) := rfl
theorem fo55_1 : fieldOff Γ 55 1 = some (1, 53) := rfl
theorem fo55_2 : fieldOff Γ 55 2 = some (2, 3) := rfl
theorem Γ57 : Γ 57 = some ⟨.other, 1, 8, [.v .nilFunc]⟩ := rfl
theorem td57 : tdOf Γ 57 = some (.other) := rfl
theorem Γ58 : Γ 58 = some ⟨.other, 1, 8, [.v .nilFunc]⟩ := rfl
theorem td58 : tdOf Γ 58 = some (.other) := rfl
theorem Γ59 : Γ 59 = some ⟨.arr 20 5, 20, 20, (List.replicate 20 (.v (.int .u8 0)))⟩ := rfl
theorem td59 : tdOf Γ 59 = some (.arr 20 5) := rfl
theorem ar59 : arrOf Γ 59 = some (20, 5, 1) := rfl
theorem Γ60 : Γ 60 = some ⟨.arr 20 5, 20, 20, (List.replicate 20 (.v (.int .u8 0)))⟩ := rfl
theorem td60 : tdOf Γ 60 = some (.arr 20 5) := rfl
theorem ar60 : arrOf Γ 60 = some (20, 5, 1) := rfl
theorem Γ61 : Γ 61 = some ⟨.other, 1, 8, [.v .nilFunc]⟩ := rfl
theorem td61 : tdOf Γ 61 = some (.other) := rfl
theorem Γ62 : Γ 62 = some ⟨.slice 68, 1, 24, [.ds true 0 []]⟩ := rfl
theorem td62 : tdOf Γ 62 = some (.slice 68) := rfl
theorem sl62 : sliceOf Γ 62 = some (68, ⟨.struct [(0, 3), (1, 3), (2, 66)], 3, 40, [.v (.int .i64 0), .v (.int .i64 0), .ds true 0 []]⟩) := rfl
theorem Γ63 : Γ 63 = some ⟨.struct [(0, 62), (1, 3), (2, 3)], 3, 40, [.ds true 0 [], .v (.int .i64 0), .v (.int .i64 0)]⟩ := rfl
theorem td63 : tdOf Γ 63 = some (.struct [(0, 62), (1, 3), (2, 3)]) := rfl
theorem fo63_0 : fieldOff Γ 63 0 = some (0, 62) := rfl
theorem fo63_1 : fieldOff Γ 63 1 = some (1, 3) := rfl
theorem fo63_2 : fieldOff Γ 63 2 = some (2, 3) := rfl
theorem Γ64 : Γ 64 = some ⟨.struct [(0, 62), (1, 3), (2, 3)], 3, 40, [.ds true 0 [], .v (.int .i64 0), .v (.int .i64 0)]⟩ := rfl
theorem td64 : tdOf Γ 64 = some (.struct [(0, 62), (1, 3), (2, 3)]) := rfl
theorem fo64_0 : fieldOff Γ 64 0 = some (0, 62) := rfl
theorem fo64_1 : fieldOff Γ 64 1 = some (1, 3) := rfl
theorem fo64_2 : fieldOff Γ 64 2 = some (2, 3) := rfl
theorem Γ65 : Γ 65 = some ⟨.other, 1, 8, [.v .nilFunc]⟩ := rfl
theorem td65 : tdOf Γ 65 = some (.other) := rfl
theorem Γ66 : Γ 66 = some ⟨.slice 145, 1, 24, [.ds true 0 []]⟩ := rfl
theorem td66 : tdOf Γ 66 = some (.slice 145) := rfl
theorem sl66 : sliceOf Γ 66 = some (145, ⟨.struct [(0, 3), (1, 26), (33, 26), (65, 3), (66, 42), (70, 42), (74, 26), (106, 3), (107, 3), (108, 27)], 109, 216, [.v (.int .i64 0), .v (.int .u8 0), .v (.int .u8 0), .v (.int .u8 0), .v (.int .u8 0), .v (.int .u8 0), .v (.int .u8 0), .v (.int .u8 0), .v (.int .u8 0), .v (.int .u8 0), .v (.int .u8 0), .v (.int .u8 0), .v (.int .u8 0), .v (.int .u8 0), .v (.int .u8 0), .v (.int .u8 0), .v (.int .u8 0), .v (.int .u8 0), .v (.int .u8 0), .v (.int .u8 0), .v (.int .u8 0), .v (.int .u8 0), .v (.int .u8 0), .v (.int .u8 0), .v (.int .u8 0), .v (.int .u8 0), .v (.int .u8 0), .v (.int .u8 0), .v (.int .u8 0), .v (.int .u8 0), .v (.int .u8 0), .v (.int .u8 0), .v (.int .u8 0), .v (.int .u8 0), .v (.int .u8 0), .v (.int .u8 0), .v (.int .u8 0), .v (.int .u8 0), .v (.int .u8 0), .v (.int .u8 0), .v (.int .u8 0), .v (.int .u8 0), .v (.int .u8 0), .v (.int .u8 0), .v (.int .u8 0), .v (.int .u8 0), .v (.int .u8 0), .v (.int .u8 0), .v (.int .u8 0), .v (.int .u8 0), .v (.int .u8 0), .v (.int .u8 0), .v (.int .u8 0), .v (.int .u8 0), .v (.int .u8 0), .v (.int .u8 0), .v (.int .u8 0), .v (.int .u8 0), .v (.int .u8 0), .v (.int .u8 0), .v (.int .u8 0), .v (.int .u8 0), .v (.int .u8 0), .v (.int .u8 0), .v (.int .u8 0), .v (.int .i64 0), .v (.int .u64 0), .v (.int .u64 0), .v (.int .u64 0), .v (.int .u64 0), .v (.int .u64 0), .v (.int .u64 0), .v (.int .u64 0), .v (.int .u64 0), .v (.int .u8 0), .v (.int .u8 0), .v (.int .u8 0), .v (.int .u8 0), .v (.int .u8 0), .v (.int .u8 0), .v (.int .u8 0), .v (.int .u8 0), .v (.int .u8 0), .v (.int .u8 0), .v (.int .u8 0), .v (.int .u8 0), .v (.int .u8 0), .v (.int .u8 0), .v (.int .u8 0), .v (.int .u8 0), .v (.int .u8 0), .v (.int .u8 0), .v (.int .u8 0), .v (.int .u8 0), .v (.int .u8 0), .v (.int .u8 0), .v (.int .u8 0), .v (.int .u8 0), .v (.int .u8 0), .v (.int .u8 0), .v (.int .u8 0), .v (.int .u8 0), .v (.int .u8 0), .v (.int .u8 0), .v (.int .u8 0), .v (.int .u8 0), .v (.int .i64 0), .v (.int .i64 0), .ds true 0 []]⟩) := rfl
theorem Γ67 : Γ 67 = some ⟨.struct [(0, 3), (1, 3), (2, 66)], 3, 40, [.v (.int .i64 0), .v (.int .i64 0), .ds true 0 []]⟩ := rfl
theorem td67 : tdOf Γ 67 = some (.struct [(0, 3), (1, 3), (2, 66)]) := rfl
theorem fo67_0 : fieldOff Γ 67 0 = some (0, 3) := rfl
theorem fo67_1 : fieldOff Γ 67 1 = some (1, 3) := rfl
theorem fo67_2 : fieldOff Γ 67 2 = some (2, 66) := rfl
theorem Γ68 : Γ 68 = some ⟨.struct [(0, 3), (1, 3), (2, 66)], 3, 40, [.v (.int .i64 0), .v (.int .i64 0), .ds true 0 []]⟩ := rfl
theorem td68 : tdOf Γ 68 = some (.struct [(0, 3), (1, 3), (2, 66)]) := rfl
theorem fo68_0 : fieldOff Γ 68 0 = some (0, 3) := rfl
theorem fo68_1 : fieldOff Γ 68 1 = some (1, 3) := rfl
theorem fo68_2 : fieldOff Γ 68 2 = some (2, 66) := rfl
theorem Γ70 : Γ 70 = some ⟨.other, 1, 8, [.v .nilFunc]⟩ := rfl
theorem td70 : tdOf Γ 70 = some (.other) := rfl
theorem Γ71 : Γ 71 = some ⟨.other, 1, 8, [.v .nilFunc]⟩ := rfl
theorem td71 : tdOf Γ 71 = some (.other) := rfl
theorem Γ73 : Γ 73 = some ⟨.other, 1, 8, [.v .nilFunc]⟩ := rfl
theorem td73 : tdOf Γ 73 = some (.other) := rfl
theorem Γ74 : Γ 74 = some ⟨.other, 1, 8, [.v .nilFunc]⟩ := rfl
theorem td74 : tdOf Γ 74 = some (.other) := rfl
theorem Γ75 : Γ 75 = some ⟨.other, 1, 8, [.v .nilFunc]⟩ := rfl
theorem td75 : tdOf Γ 75 = some (.other) := rfl
theorem Γ76 : Γ 76 = some ⟨.other, 1, 8, [.v .nilFunc]⟩ := rfl
theorem td76 : tdOf Γ 76 = some (.other) := rfl
theorem Γ77 : Γ 77 = some ⟨.other, 1, 8, [.v .nilFunc]⟩ := rfl
theorem td77 : tdOf Γ 77 = some (.other) := rfl
theorem Γ78 : Γ 78 = some ⟨.other, 1, 8, [.v .nilFunc]⟩ := rfl
theorem td78 : tdOf Γ 78 = some (.other) := rfl
theorem Γ79 : Γ 79 = some ⟨.slice 96, 1, 24, [.ds true 0 []]⟩ := rfl
theorem td79 : tdOf Γ 79 = some (.slice 96) := rfl
theorem sl79 : sliceOf Γ 79 = some (96, ⟨.struct [(0, 26), (32, 42)], 36, 64, [.v (.int .u8 0), .v (.int .u8 0), .v (.int .u8 0), .v (.int .u8 0), .v (.int .u8 0), .v (.int .u8 0), .v (.int .u8 0), .v (.int .u8 0), .v (.int .u8 0), .v (.int .u8 0), .v (.int .u8 0), .v (.int .u8 0), .v (.int .u8 0), .v (.int .u8 0), .v (.int .u8 0), .v (.int .u8 0), .v (.int .u8 0), .v (.int .u8 0), .v (.int .u8 0), .v (.int .u8 0), .v (.int .u8 0), .v (.int .u8 0), .v (.int .u8 0), .v (.int .u8 0), .v (.int .u8 0), .v (.int .u8 0), .v (.int .u8 0), .v (.int .u8 0), .v (.int .u8 0), .v (.int .u8 0), .v (.int .u8 0), .v (.int .u8 0), .v (.int .u64 0), .v (.int .u64 0), .v (.int .u64 0), .v (.int .u64 0)]⟩) := rfl
theorem Γ80 : Γ 80 = some ⟨.struct [(0, 42), (4, 79)], 5, 56, [.v (.int .u64 0), .v (.int .u64 0), .v (.int .u64 0), .v (.int .u64 0), .ds true 0 []]⟩ := rfl
theorem td80 : tdOf Γ 80 = some (.struct [(0, 42), (4, 79)]) := rfl
theorem fo80_0 : fieldOff Γ 80 0 = some (0, 42) := rfl
theorem fo80_1 : fieldOff Γ 80 1 = some (4, 79) := rfl
theorem Γ81 : Γ 81 = some ⟨.struct [(0, 42), (4, 79)], 5, 56, [.v (.int .u64 0), .v (.int .u64 0), .v (.int .u64 0), .v (.int .u64 0), .ds true 0 []]⟩ := rfl
theorem td81 : tdOf Γ 81 = some (.struct [(0, 42), (4, 79)]) := rfl
theorem fo81_0 : fieldOff Γ 81 0 = some (0, 42) := rfl
theorem fo81_1 : fieldOff Γ 81 1 = some (4, 79) := rfl
theorem Γ83 : Γ 83 = some ⟨.other, 1, 8, [.v .nilFunc]⟩ := rfl
theorem td83 : tdOf Γ 83 = some (.other) := rfl
theorem Γ85 : Γ 85 = some ⟨.other, 1, 8, [.v .nilFunc]⟩ := rfl
theorem td85 : tdOf Γ 85 = some (.other) := rfl
theorem Γ86 : Γ 86 = some ⟨.other, 1, 8, [.v .nilFunc]⟩ := rfl
theorem td86 : tdOf Γ 86 = some (.other) := rfl
theorem Γ88 : Γ 88 = some ⟨.other, 1, 8, [.v .nilFunc]⟩ := rfl
theorem td88 : tdOf Γ 88 = some (.other) := rfl
theorem Γ89 : Γ 89 = some ⟨.other, 1, 8, [.v .nilFunc]⟩ := rfl
theorem td89 : tdOf Γ 89 = some (.other) := rfl
theorem Γ90 : Γ 90 = some ⟨.other, 1, 8, [.v .nilFunc]⟩ := rfl
theorem td90 : tdOf Γ 90 = some (.other) := rfl
theorem Γ91 : Γ 91 = some ⟨.other, 1, 8, [.v .nilFunc]⟩ := rfl
theorem td91 : tdOf Γ 91 = some (.other) := rfl
theorem Γ92 : Γ 92 = some ⟨.other, 1, 8, [.v .nilFunc]⟩ := rfl
theorem td92 : tdOf Γ 92 = some (.other) := rfl
theorem Γ94 : Γ 94 = some ⟨.other, 1, 8, [.v .nilFunc]⟩ := rfl
theorem td94 : tdOf Γ 94 = some (.other) := rfl
theorem Γ95 : Γ 95 = some ⟨.struct [(0, 26), (32, 42)], 36, 64, [.v (.int .u8 0), .v (.int .u8 0), .v (.int .u8 0), .v (.int .u8 0), .v (.int .u8 0), .v (.int .u8 0), .v (.int .u8 0), .v (.int .u8 0), .v (.int .u8 0), .v (.int .u8 0), .v (.int .u8 0), .v (.int .u8 0), .v (.int .u8 0), .v (.int .u8 0), .v (.int .u8 0), .v (.int .u8 0), .v (.int .u8 0), .v (.int .u8 0), .v (.int .u8 0), .v (.int .u8 0), .v (.int .u8 0), .v (.int .u8 0), .v (.int .u8 0), .v (.int .u8 0), .v (.int .u8 0), .v (.int .u8 0), .v (.int .u8 0), .v (.int .u8 0), .v (.int .u8 0), .v (.int .u8 0), .v (.int .u8 0), .v (.int .u8 0), .v (.int .u64 0), .v (.int .u64 0), .v (.int .u64 0), .v (.int .u64 0)]⟩ := rfl
theorem td95 : tdOf Γ 95 = some (.struct [(0, 26), (32, 42)]) := rfl
theorem fo95_0 : fieldOff Γ 95 0 = some (0, 26) := rfl
theorem fo95_1 : fieldOff Γ 95 1 = some (32, 42) := rfl
theorem Γ96 : Γ 96 = some ⟨.struct [(0, 26), (32, 42)], 36, 64, [.v (.int .u8 0), .v (.int .u8 0), .v (.int .u8 0), .v (.int .u8 0), .v (.int .u8 0), .v (.int .u8 0), .v (.int .u8 0), .v (.int .u8 0), .v (.int .u8 0), .v (.int .u8 0), .v (.int .u8 0), .v (.int .u8 0), .v (.int .u8 0), .v (.int .u8 0), .v (.int .u8 0), .v (.int .u8 0), .v (.int .u8 0), .v (.int .u8 0), .v (.int .u8 0), .v (.int .u8 0), .v (.int .u8 0), .v (.int .u8 0), .v (.int .u8 0), .v (.int .u8 0), .v (.int .u8 0), .v (.int .u8 0), .v (.int .u8 0), .v (.int .u8 0), .v (.int .u8 0), .v (.int .u8 0), .v (.int .u8 0), .v (.int .u8 0), .v (.int .u64 0), .v (.int .u64 0), .v (.int .u64 0), .v (.int .u64 0)]⟩ := rfl
theorem td96 : tdOf Γ 96 = some (.struct [(0, 26), (32, 42)]) := rfl
theorem fo96_0 : fieldOff Γ 96 0 = some (0, 26) := rfl
theorem fo96_1 : fieldOff Γ 96 1 = some (32, 42) := rfl
theorem Γ97 : Γ 97 = some ⟨.other, 1, 8, [.v .nilFunc]⟩ := rfl
theorem td97 : tdOf Γ 97 = some (.other) := rfl
theorem Γ98 : Γ 98 = some ⟨.other, 1, 8, [.v .nilFunc]⟩ := rfl
theorem td98 : tdOf Γ 98 = some (.other) := rfl
theorem Γ99 : Γ 99 = some ⟨.other, 1, 8, [.v .nilFunc]⟩ := rfl
theorem td99 : tdOf Γ 99 = some (.other) := rfl
theorem Γ100 : Γ 100 = some ⟨.other, 1, 8, [.v .nilFunc]⟩ := rfl
theorem td100 : tdOf Γ 100 = some (.other) := rfl
theorem Γ101 : Γ 101 = some ⟨.other, 1, 8, [.v .nilFunc]⟩ := rfl
theorem td101 : tdOf Γ 101 = some (.other) := rfl
theorem Γ102 : Γ 102 = some ⟨.other, 1, 8, [.v .nilFunc]⟩ := rfl
theorem td102 : tdOf Γ 102 = some (.other) := rfl
theorem Γ103 : Γ 103 = some ⟨.other, 1, 8, [.v .nilFunc]⟩ := rfl
theorem td103 : tdOf Γ 103 = some (.other) := rfl
theorem Γ104 : Γ 104 = some ⟨.other, 1, 8, [.v .nilFunc]⟩ := rfl
theorem td104 : tdOf Γ 104 = some (.other) := rfl
theorem Γ105 : Γ 105 = some ⟨.other, 1, 8, [.v .nilFunc]⟩ := rfl
theorem td105 : tdOf Γ 105 = some (.other) := rfl
theorem Γ106 : Γ 106 = some ⟨.other, 1, 8, [.v .nilFunc]⟩ := rfl
theorem td106 : tdOf Γ 106 = some (.other) := rfl
theorem Γ107 : Γ 107 = some ⟨.ptr, 1, 8, [.v (.pointer none)]⟩ := rfl
theorem td107 : tdOf Γ 107 = some (.ptr) := rfl
theorem Γ108 : Γ 108 = some ⟨.struct [(0, 27)], 1, 24, [.ds true 0 []]⟩ := rfl
theorem td108 : tdOf Γ 108 = some (.struct [(0, 27)]) := rfl
theorem fo108_0 : fieldOff Γ 108 0 = some (0, 27) := rfl
theorem Γ109 : Γ 109 = some ⟨.struct [(0, 27)], 1, 24, [.ds true 0 []]⟩ := rfl
theorem td109 : tdOf Γ 109 = some (.struct [(0, 27)]) := rfl
theorem fo109_0 : fieldOff Γ 109 0 = some (0, 27) := rfl
theorem Γ110 : Γ 110 = some ⟨.other, 1, 8, [.v .nilFunc]⟩ := rfl
theorem td110 : tdOf Γ 110 = some (.other) := rfl
theorem Γ111 : Γ 111 = some ⟨.other, 1, 8, [.v .nilFunc]⟩ := rfl
theorem td111 : tdOf Γ 111 = some (.other) := rfl
theorem Γ112 : Γ 112 = some ⟨.other, 1, 8, [.v .nilFunc]⟩ := rfl
theorem td112 : tdOf Γ 112 = some (.other) := rfl
theorem Γ113 : Γ 113 = some ⟨.other, 1, 8, [.v .nilFunc]⟩ := rfl
theorem td113 : tdOf Γ 113 = some (.other) := rfl
theorem Γ114 : Γ 114 = some ⟨.ptr, 1, 8, [.v (.pointer none)]⟩ := rfl
theorem td114 : tdOf Γ 114 = some (.ptr) := rfl
theorem Γ115 : Γ 115 = some ⟨.struct [(0, 27), (1, 4)], 2, 32, [.ds true 0 [], .v (.bool false)]⟩ := rfl
theorem td115 : tdOf Γ 115 = some (.struct [(0, 27), (1, 4)]) := rfl
theorem fo115_0 : fieldOff Γ 115 0 = some (0, 27) := rfl
theorem fo115_1 : fieldOff Γ 115 1 = some (1, 4) := rfl
theorem Γ116 : Γ 116 = some ⟨.struct [(0, 27), (1, 4)], 2, 32, [.ds true 0 [], .v (.bool false)]⟩ := rfl
theorem td116 : tdOf Γ 116 = some (.struct [(0, 27), (1, 4)]) := rfl
theorem fo116_0 : fieldOff Γ 116 0 = some (0, 27) := rfl
theorem fo116_1 : fieldOff Γ 116 1 = some (1, 4) := rfl
theorem Γ117 : Γ 117 = some ⟨.other, 1, 8, [.v .nilFunc]⟩ := rfl
theorem td117 : tdOf Γ 117 = some (.other) := rfl
theorem Γ118 : Γ 118 = some ⟨.other, 1, 8, [.v .nilFunc]⟩ := rfl
theorem td118 : tdOf Γ 118 = some (.other) := rfl
theorem Γ119 : Γ 119 = some ⟨.other, 1, 8, [.v .nilFunc]⟩ := rfl
theorem td119 : tdOf Γ 119 = some (.other) := rfl
theorem Γ120 : Γ 120 = some ⟨.other, 1, 8, [.v .nilFunc]⟩ := rfl
theorem td120 : tdOf Γ 120 = some (.other) := rfl
theorem Γ122 : Γ 122 = some ⟨.other, 1, 8, [.v .nilFunc]⟩ := rfl
theorem td122 : tdOf Γ 122 = some (.other) := rfl
theorem Γ123 : Γ 123 = some ⟨.other, 1, 8, [.v .nilFunc]⟩ := rfl
theorem td123 : tdOf Γ 123 = some (.other) := rfl
theorem Γ124 : Γ 124 = some ⟨.other, 1, 8, [.v .nilFunc]⟩ := rfl
theorem td124 : tdOf Γ 124 = some (.other) := rfl
theorem Γ125 : Γ 125 = some ⟨.other, 1, 8, [.v .nilFunc]⟩ := rfl
theorem td125 : tdOf Γ 125 = some (.other) := rfl
theorem Γ126 : Γ 126 = some ⟨.other, 1, 8, [.v .nilFunc]⟩ := rfl
theorem td126 : tdOf Γ 126 = some (.other) := rfl
theorem Γ127 : Γ 127 = some ⟨.other, 1, 8, [.v .nilFunc]⟩ := rfl
theorem td127 : tdOf Γ 127 = some (.other) := rfl
theorem Γ128 : Γ 128 = some ⟨.other, 1, 8, [.v .nilFunc]⟩ := rfl
theorem td128 : tdOf Γ 128 = some (.other) := rfl
theorem Γ129 : Γ 129 = some ⟨.other, 1, 8, [.v .nilFunc]⟩ := rfl
theorem td129 : tdOf Γ 129 = some (.other) := rfl
theorem Γ130 : Γ 130 = some ⟨.other, 1, 8, [.v .nilFunc]⟩ := rfl
theorem td130 : tdOf Γ 130 = some (.other) := rfl
theorem Γ131 : Γ 131 = some ⟨.other, 1, 8, [.v .nilFunc]⟩ := rfl
theorem td131 : tdOf Γ 131 = some (.other) := rfl
theorem Γ133 : Γ 133 = some ⟨.other, 1, 8, [.v .nilFunc]⟩ := rfl
theorem td133 : tdOf Γ 133 = some (.other) := rfl
theorem Γ134 : Γ 134 = some ⟨.other, 1, 8, [.v .nilFunc]⟩ := rfl
theorem td134 : tdOf Γ 134 = some (.other) := rfl
theorem Γ135 : Γ 135 = some ⟨.other, 1, 8, [.v .nilFunc]⟩ := rfl
theorem td135 : tdOf Γ 135 = some (.other) := rfl
theorem Γ136 : Γ 136 = some ⟨.other, 1, 8, [.v .nilFunc]⟩ := rfl
theorem td136 : tdOf Γ 136 = some (.other) := rfl
theorem Γ138 : Γ 138 = some ⟨.other, 1, 8, [.v .nilFunc]⟩ := rfl
theorem td138 : tdOf Γ 138 = some (.other) := rfl
theorem Γ139 : Γ 139 = some ⟨.other, 1, 8, [.v .nilFunc]⟩ := rfl
theorem td139 : tdOf Γ 139 = some (.other) := rfl
theorem Γ140 : Γ 140 = some ⟨.other, 1, 8, [.v .nilFunc]⟩ := rfl
theorem td140 : tdOf Γ 140 = some (.other) := rfl
theorem Γ141 : Γ 141 = some ⟨.other, 1, 8, [.v .nilFunc]⟩ := rfl
theorem td141 : tdOf Γ 141 = some (.other) := rfl
theorem Γ142 : Γ 142 = some ⟨.other, 1, 8, [.v .nilFunc]⟩ := rfl
theorem td142 : tdOf Γ 142 = some (.other) := rfl
theorem Γ143 : Γ 143 = some ⟨.int .u64, 1, 8, [.v (.int .u64 0)]⟩ := rfl
theorem td143 : tdOf Γ 143 = some (.int .u64) := rfl
theorem Γ144 : Γ 144 = some ⟨.struct [(0, 3), (1, 26), (33, 26), (65, 3), (66, 42), (70, 42), (74, 26), (106, 3), (107, 3), (108, 27)], 109, 216, [.v (.int .i64 0), .v (.int .u8 0), .v (.int .u8 0), .v (.int .u8 0), .v (.int .u8 0), .v (.int .u8 0), .v (.int .u8 0), .v (.int .u8 0), .v (.int .u8 0), .v (.int .u8 0), .v (.int .u8 0), .v (.int .u8 0), .v (.int .u8 0), .v (.int .u8 0), .v (.int .u8 0), .v (.int .u8 0), .v (.int .u8 0), .v (.int .u8 0), .v (.int .u8 0), .v (.int .u8 0), .v (.int .u8 0), .v (.int .u8 0), .v (.int .u8 0), .v (.int .u8 0), .v (.int .u8 0), .v (.int .u8 0), .v (.int .u8 0), .v (.int .u8 0), .v (.int .u8 0), .v (.int .u8 0), .v (.int .u8 0), .v (.int .u8 0), .v (.int .u8 0), .v (.int .u8 0), .v (.int .u8 0), .v (.int .u8 0), .v (.int .u8 0), .v (.int .u8 0), .v (.int .u8 0), .v (.int .u8 0), .v (.int .u8 0), .v (.int .u8 0), .v (.int .u8 0), .v (.int .u8 0), .v (.int .u8 0), .v (.int .u8 0), .v (.int .u8 0), .v (.int .u8 0), .v (.int .u8 0), .v (.int .u8 0), .v (.int .u8 0), .v (.int .u8 0), .v (.int .u8 0), .v (.int .u8 0), .v (.int .u8 0), .v (.int .u8 0), .v (.int .u8 0), .v (.int .u8 0), .v (.int .u8 0), .v (.int .u8 0), .v (.int .u8 0), .v (.int .u8 0), .v (.int .u8 0), .v (.int .u8 0), .v (.int .u8 0), .v (.int .i64 0), .v (.int .u64 0), .v (.int .u64 0), .v (.int .u64 0), .v (.int .u64 0), .v (.int .u64 0), .v (.int .u64 0), .v (.int .u64 0), .v (.int .u64 0), .v (.int .u8 0), .v (.int .u8 0), .v (.int .u8 0), .v (.int .u8 0), .v (.int .u8 0), .v (.int .u8 0), .v (.int .u8 0), .v (.int .u8 0), .v (.int .u8 0), .v (.int .u8 0), .v (.int .u8 0), .v (.int .u8 0), .v (.int .u8 0), .v (.int .u8 0), .v (.int .u8 0), .v (.int .u8 0), .v (.int .u8 0), .v (.int .u8 0), .v (.int .u8 0), .v (.int .u8 0), .v (.int .u8 0), .v (.int .u8 0), .v (.int .u8 0), .v (.int .u8 0), .v (.int .u8 0), .v (.int .u8 0), .v (.int .u8 0), .v (.int .u8 0), .v (.int .u8 0), .v (.int .u8 0), .v (.int .u8 0), .v (.int .u8 0), .v (.int .i64 0), .v (.int .i64 0), .ds true 0 []]⟩ := rfl
theorem td144 : tdOf Γ 144 = some (.struct [(0, 3), (1, 26), (33, 26), (65, 3), (66, 42), (70, 42), (74, 26), (106, 3), (107, 3), (108, 27)]) := rfl
theorem fo144_0 : fieldOff Γ 144 0 = some (0, 3) := rfl
theorem fo144_1 : fieldOff Γ 144 1 = some (1, 26) := rfl
theorem fo144_2 : fieldOff Γ 144 2 = some (33, 26) := rfl
theorem fo144_3 : fieldOff Γ 144 3 = some (65, 3) := rfl
theorem fo144_4 : fieldOff Γ 144 4 = some (66, 42) := rfl
theorem fo144_5 : fieldOff Γ 144 5 = some (70, 42) := rfl
theorem fo144_6 : fieldOff Γ 144 6 = some (74, 26) := rfl
theorem fo144_7 : fieldOff Γ 144 7 = some (106, 3) := rfl
theorem fo144_8 : fieldOff Γ 144 8 = some (107, 3) := rfl
theorem fo144_9 : fieldOff Γ 144 9 = some (108, 27) := rfl
theorem Γ145 : Γ 145 = some ⟨.struct [(0, 3), (1, 26), (33, 26), (65, 3), (66, 42), (70, 42), (74, 26), (106, 3), (107, 3), (108, 27)], 109, 216, [.v (.int .i64 0), .v (.int .u8 0), .v (.int .u8 0), .v (.int .u8 0), .v (.int .u8 0), .v (.int .u8 0), .v (.int .u8 0), .v (.int .u8 0), .v (.int .u8 0), .v (.int .u8 0), .v (.int .u8 0), .v (.int .u8 0), .v (.int .u8 0), .v (.int .u8 0), .v (.int .u8 0), .v (.int .u8 0), .v (.int .u8 0), .v (.int .u8 0), .v (.int .u8 0), .v (.int .u8 0), .v (.int .u8 0), .v (.int .u8 0), .v (.int .u8 0), .v (.int .u8 0), .v (.int .u8 0), .v (.int .u8 0), .v (.int .u8 0), .v (.int .u8 0), .v (.int .u8 0), .v (.int .u8 0), .v (.int .u8 0), .v (.int .u8 0), .v (.int .u8 0), .v (.int .u8 0), .v (.int .u8 0), .v (.int .u8 0), .v (.int .u8 0), .v (.int .u8 0), .v (.int .u8 0), .v (.int .u8 0), .v (.int .u8 0), .v (.int .u8 0), .v (.int .u8 0), .v (.int .u8 0), .v (.int .u8 0), .v (.int .u8 0), .v (.int .u8 0), .v (.int .u8 0), .v (.int .u8 0), .v (.int .u8 0), .v (.int .u8 0), .v (.int .u8 0), .v (.int .u8 0), .v (.int .u8 0), .v (.int .u8 0), .v (.int .u8 0), .v (.int .u8 0), .v (.int .u8 0), .v (.int .u8 0), .v (.int .u8 0), .v (.int .u8 0), .v (.int .u8 0), .v (.int .u8 0), .v (.int .u8 0), .v (.int .u8 0), .v (.int .i64 0), .v (.int .u64 0), .v (.int .u64 0), .v (.int .u64 0), .v (.int .u64 0), .v (.int .u64 0), .v (.int .u64 0), .v (.int .u64 0), .v (.int .u64 0), .v (.int .u8 0), .v (.int .u8 0), .v (.int .u8 0), .v (.int .u8 0), .v (.int .u8 0), .v (.int .u8 0), .v (.int .u8 0), .v (.int .u8 0), .v (.int .u8 0), .v (.int .u8 0), .v (.int .u8 0), .v (.int .u8 0), .v (.int .u8 0), .v (.int .u8 0), .v (.int .u8 0), .v (.int .u8 0), .v (.int .u8 0), .v (.int .u8 0), .v (.int .u8 0), .v (.int .u8 0), .v (.int .u8 0), .v (.int .u8 0), .v (.int .u8 0), .v (.int .u8 0), .v (.int .u8 0), .v (.int .u8 0), .v (.int .u8 0), .v (.int .u8 0), .v (.int .u8 0), .v (.int .u8 0), .v (.int .u8 0), .v (.int .u8 0), .v (.int .i64 0), .v (.int .i64 0), .ds true 0 []]⟩ := rfl
theorem td145 : tdOf Γ 145 = some (.struct [(0, 3), (1, 26), (33, 26), (65, 3), (66, 42), (70, 42), (74, 26), (106, 3), (107, 3), (108, 27)]) := rfl
theorem fo145_0 : fieldOff Γ 145 0 = some (0, 3) := rfl
theorem fo145_1 : fieldOff Γ 145 1 = some (1, 26) := rfl
theorem fo145_2 : fieldOff Γ 145 2 = some (33, 26) := rfl
theorem fo145_3 : fieldOff Γ 145 3 = some (65, 3) := rfl
theorem fo145_4 : fieldOff Γ 145 4 = some (66, 42) := rfl
theorem fo145_5 : fieldOff Γ 145 5 = some (70, 42) := rfl
theorem fo145_6 : fieldOff Γ 145 6 = some (74, 26) := rfl
theorem fo145_7 : fieldOff Γ 145 7 = some (106, 3) := rfl
theorem fo145_8 : fieldOff Γ 145 8 = some (107, 3) := rfl
theorem fo145_9 : fieldOff Γ 145 9 = some (108, 27) := rfl
theorem Γ146 : Γ 146 = some ⟨.other, 1, 8, [.v .nilFunc]⟩ := rfl
theorem td146 : tdOf Γ 146 = some (.other) := rfl
theorem Γ148 : Γ 148 = some ⟨.other, 1, 8, [.v .nilFunc]⟩ := rfl
theorem td148 : tdOf Γ 148 = some (.other) := rfl
theorem Γ151 : Γ 151 = some ⟨.other, 1, 8, [.v .nilFunc]⟩ := rfl
theorem td151 : tdOf Γ 151 = some (.other) := rfl
theorem Γ152 : Γ 152 = some ⟨.arr 8 40, 8, 64, (List.replicate 8 (.v (.int .u64 0)))⟩ := rfl
theorem td152 : tdOf Γ 152 = some (.arr 8 40) := rfl
theorem ar152 : arrOf Γ 152 = some (8, 40, 1) := rfl
theorem Γ153 : Γ 153 = some ⟨.other, 1, 8, [.v .nilFunc]⟩ := rfl
theorem td153 : tdOf Γ 153 = some (.other) := rfl
theorem Γ154 : Γ 154 = some ⟨.other, 1, 8, [.v .nilFunc]⟩ := rfl
theorem td154 : tdOf Γ 154 = some (.other) := rfl
theorem Γ156 : Γ 156 = some ⟨.other, 1, 8, [.v .nilFunc]⟩ := rfl
theorem td156 : tdOf Γ 156 = some (.other) := rfl
theorem Γ157 : Γ 157 = some ⟨.struct [(0, 17), (1, 17), (2, 17), (3, 9)], 4, 40, [.v (.pointer none), .v (.pointer none), .v (.pointer none), .v (.string ByteArray.empty)]⟩ := rfl
theorem td157 : tdOf Γ 157 = some (.struct [(0, 17), (1, 17), (2, 17), (3, 9)]) := rfl
theorem fo157_0 : fieldOff Γ 157 0 = some (0, 17) := rfl
theorem fo157_1 : fieldOff Γ 157 1 = some (1, 17) := rfl
theorem fo157_2 : fieldOff Γ 157 2 = some (2, 17) := rfl
theorem fo157_3 : fieldOff Γ 157 3 = some (3, 9) := rfl
theorem Γ159 : Γ 159 = some ⟨.arr 0 16, 0, 0, []⟩ := rfl
theorem td159 : tdOf Γ 159 = some (.arr 0 16) := rfl
theorem Γ160 : Γ 160 = some ⟨.struct [(0, 159)], 0, 0, []⟩ := rfl
theorem td160 : tdOf Γ 160 = some (.struct [(0, 159)]) := rfl
theorem fo160_0 : fieldOff Γ 160 0 = some (0, 159) := rfl
theorem Γ162 : Γ 162 = some ⟨.other, 1, 8, [.v .nilFunc]⟩ := rfl
theorem td162 : tdOf Γ 162 = some (.other) := rfl
theorem Γ163 : Γ 163 = some ⟨.int .u32, 1, 4, [.v (.int .u32 0)]⟩ := rfl
theorem td163 : tdOf Γ 163 = some (.int .u32) := rfl
theorem Γ166 : Γ 166 = some ⟨.other, 1, 8, [.v .nilFunc]⟩ := rfl
theorem td166 : tdOf Γ 166 = some (.other) := rfl
theorem Γ167 : Γ 167 = some ⟨.ptr, 1, 8, [.v (.pointer none)]⟩ := rfl
theorem td167 : tdOf Γ 167 = some (.ptr) := rfl
theorem Γ170 : Γ 170 = some ⟨.struct [(0, 12), (1, 12), (2, 163), (3, 164), (4, 5), (5, 5), (6, 165), (7, 166), (8, 167), (9, 168), (10, 169)], 11, 48, [.v (.int .u64 0), .v (.int .u64 0), .v (.int .u32 0), .v (.int .u8 0), .v (.int .u8 0), .v (.int .u8 0), .v (.int .u8 0), .v .nilFunc, .v (.pointer none), .v (.int .i32 0), .v (.int .i32 0)]⟩ := rfl
theorem td170 : tdOf Γ 170 = some (.struct [(0, 12), (1, 12), (2, 163), (3, 164), (4, 5), (5, 5), (6, 165), (7, 166), (8, 167), (9, 168), (10, 169)]) := rfl
theorem fo170_0 : fieldOff Γ 170 0 = some (0, 12) := rfl
theorem fo170_1 : fieldOff Γ 170 1 = some (1, 12) := rfl
theorem fo170_2 : fieldOff Γ 170 2 = some (2, 163) := rfl
theorem fo170_3 : fieldOff Γ 170 3 = some (3, 164) := rfl
theorem fo170_4 : fieldOff Γ 170 4 = some (4, 5) := rfl
theorem fo170_5 : fieldOff Γ 170 5 = some (5, 5) := rfl
theorem fo170_6 : fieldOff Γ 170 6 = some (6, 165) := rfl
theorem fo170_7 : fieldOff Γ 170 7 = some (7, 166) := rfl
theorem fo170_8 : fieldOff Γ 170 8 = some (8, 167) := rfl
theorem fo170_9 : fieldOff Γ 170 9 = some (9, 168) := rfl
theorem fo170_10 : fieldOff Γ 170 10 = some (10, 169) := rfl
theorem Γ172 : Γ 172 = some ⟨.struct [(0, 9)], 1, 16, [.v (.string ByteArray.empty)]⟩ := rfl
theorem td172 : tdOf Γ 172 = some (.struct [(0, 9)]) := rfl
theorem fo172_0 : fieldOff Γ 172 0 = some (0, 9) := rfl
theorem Γ173 : Γ 173 = some ⟨.struct [(0, 9)], 1, 16, [.v (.string ByteArray.empty)]⟩ := rfl
theorem td173 : tdOf Γ 173 = some (.struct [(0, 9)]) := rfl
theorem fo173_0 : fieldOff Γ 173 0 = some (0, 9) := rfl
theorem Γok : TabOk Try.prog Γ := tabOkT (by kernel_rfl)
def G0 : Globs := fun _ => none
theorem G0ok : GOk G0 := fun _ _ h => by cases h
theorem mixed : Try.prog.follows .mixedOrders = true := by kernel_rfl
end Go.Proofs.Ytlecdiopokalgaa
