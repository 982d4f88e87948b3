/- The table of the program's types, for the engine. -/
import Derived.Test.YtidkdlaihmpjfaaVTree
import Derived.Test.YtidkdlaihmpjfaaRows
import Derived.ProofKit
namespace Go.Proofs.Ytidkdlaihmpjfaa
open Go.RowKit
def Γl : TT := (.node (.node (.node (.node (.node (.node (.node .leaf 1 ⟨.other, 1, 8, [.v .nilFunc]⟩ .leaf) 2 ⟨.int .i64, 1, 8, [.v (.int .i64 0)]⟩ .leaf) 3 ⟨.int .i64, 1, 8, [.v (.int .i64 0)]⟩ (.node (.node .leaf 4 ⟨.bool, 1, 1, [.v (.bool false)]⟩ .leaf) 5 ⟨.int .u8, 1, 1, [.v (.int .u8 0)]⟩ .leaf)) 7 ⟨.struct [(0, 2), (1, 3), (2, 4), (3, 6)], 4, 24, [.v (.int .i64 0), .v (.int .i64 0), .v (.bool false), .v (.int .u8 0)]⟩ (.node (.node (.node .leaf 9 ⟨.str, 1, 16, [.v (.string ByteArray.empty)]⟩ .leaf) 12 ⟨.int .u64, 1, 8, [.v (.int .u64 0)]⟩ .leaf) 13 ⟨.struct [(0, 9), (1, 12)], 2, 24, [.v (.string ByteArray.empty), .v (.int .u64 0)]⟩ (.node .leaf 21 ⟨.int .i32, 1, 4, [.v (.int .i32 0)]⟩ .leaf))) 22 ⟨.struct [(0, 3), (1, 3), (2, 3), (3, 9)], 4, 40, [.v (.int .i64 0), .v (.int .i64 0), .v (.int .i64 0), .v (.string ByteArray.empty)]⟩ (.node (.node (.node (.node .leaf 23 ⟨.struct [(0, 3), (1, 3), (2, 3), (3, 9)], 4, 40, [.v (.int .i64 0), .v (.int .i64 0), .v (.int .i64 0), .v (.string ByteArray.empty)]⟩ .leaf) 24 ⟨.int .u64, 1, 8, [.v (.int .u64 0)]⟩ .leaf) 25 ⟨.arr 4 24, 4, 32, [.v (.int .u64 0), .v (.int .u64 0), .v (.int .u64 0), .v (.int .u64 0)]⟩ (.node .leaf 26 ⟨.arr 4 24, 4, 32, [.v (.int .u64 0), .v (.int .u64 0), .v (.int .u64 0), .v (.int .u64 0)]⟩ .leaf)) 27 ⟨.struct [(0, 26), (4, 26), (8, 4)], 9, 72, [.v (.int .u64 0), .v (.int .u64 0), .v (.int .u64 0), .v (.int .u64 0), .v (.int .u64 0), .v (.int .u64 0), .v (.int .u64 0), .v (.int .u64 0), .v (.bool false)]⟩ (.node (.node (.node .leaf 28 ⟨.struct [(0, 26), (4, 26), (8, 4)], 9, 72, [.v (.int .u64 0), .v (.int .u64 0), .v (.int .u64 0), .v (.int .u64 0), .v (.int .u64 0), .v (.int .u64 0), .v (.int .u64 0), .v (.int .u64 0), .v (.bool false)]⟩ .leaf) 29 ⟨.struct [(0, 26), (4, 26), (8, 26), (12, 26), (16, 28)], 25, 200, [.v (.int .u64 0), .v (.int .u64 0), .v (.int .u64 0), .v (.int .u64 0), .v (.int .u64 0), .v (.int .u64 0), .v (.int .u64 0), .v (.int .u64 0), .v (.int .u64 0), .v (.int .u64 0), .v (.int .u64 0), .v (.int .u64 0), .v (.int .u64 0), .v (.int .u64 0), .v (.int .u64 0), .v (.int .u64 0), .v (.int .u64 0), .v (.int .u64 0), .v (.int .u64 0), .v (.int .u64 0), .v (.int .u64 0), .v (.int .u64 0), .v (.int .u64 0), .v (.int .u64 0), .v (.bool false)]⟩ .leaf) 30 ⟨.struct [(0, 26), (4, 26), (8, 26), (12, 26), (16, 28)], 25, 200, [.v (.int .u64 0), .v (.int .u64 0), .v (.int .u64 0), .v (.int .u64 0), .v (.int .u64 0), .v (.int .u64 0), .v (.int .u64 0), .v (.int .u64 0), .v (.int .u64 0), .v (.int .u64 0), .v (.int .u64 0), .v (.int .u64 0), .v (.int .u64 0), .v (.int .u64 0), .v (.int .u64 0), .v (.int .u64 0), .v (.int .u64 0), .v (.int .u64 0), .v (.int .u64 0), .v (.int .u64 0), .v (.int .u64 0), .v (.int .u64 0), .v (.int .u64 0), .v (.int .u64 0), .v (.bool false)]⟩ (.node .leaf 31 ⟨.other, 1, 8, [.v .nilFunc]⟩ .leaf)))) 32 ⟨.other, 1, 8, [.v .nilFunc]⟩ (.node (.node (.node (.node (.node .leaf 33 ⟨.other, 1, 8, [.v .nilFunc]⟩ .leaf) 34 ⟨.struct [(0, 26), (4, 26), (8, 3)], 9, 72, [.v (.int .u64 0), .v (.int .u64 0), .v (.int .u64 0), .v (.int .u64 0), .v (.int .u64 0), .v (.int .u64 0), .v (.int .u64 0), .v (.int .u64 0), .v (.int .i64 0)]⟩ .leaf) 35 ⟨.struct [(0, 26), (4, 26), (8, 3)], 9, 72, [.v (.int .u64 0), .v (.int .u64 0), .v (.int .u64 0), .v (.int .u64 0), .v (.int .u64 0), .v (.int .u64 0), .v (.int .u64 0), .v (.int .u64 0), .v (.int .i64 0)]⟩ (.node (.node .leaf 36 ⟨.int .i64, 1, 8, [.v (.int .i64 0)]⟩ .leaf) 38 ⟨.other, 1, 8, [.v .nilFunc]⟩ .leaf)) 39 ⟨.arr 32 5, 32, 32, (List.replicate 32 (.v (.int .u8 0)))⟩ (.node (.node (.node .leaf 40 ⟨.other, 1, 8, [.v .nilFunc]⟩ .leaf) 41 ⟨.other, 1, 8, [.v .nilFunc]⟩ .leaf) 42 ⟨.other, 1, 8, [.v .nilFunc]⟩ (.node .leaf 43 ⟨.other, 1, 8, [.v .nilFunc]⟩ .leaf))) 44 ⟨.other, 1, 8, [.v .nilFunc]⟩ (.node (.node (.node (.node .leaf 45 ⟨.arr 8 30, 200, 1600, [.v (.int .u64 0), .v (.int .u64 0), .v (.int .u64 0), .v (.int .u64 0), .v (.int .u64 0), .v (.int .u64 0), .v (.int .u64 0), .v (.int .u64 0), .v (.int .u64 0), .v (.int .u64 0), .v (.int .u64 0), .v (.int .u64 0), .v (.int .u64 0), .v (.int .u64 0), .v (.int .u64 0), .v (.int .u64 0), .v (.int .u64 0), .v (.int .u64 0), .v (.int .u64 0), .v (.int .u64 0), .v (.int .u64 0), .v (.int .u64 0), .v (.int .u64 0), .v (.int .u64 0), .v (.bool false), .v (.int .u64 0), .v (.int .u64 0), .v (.int .u64 0), .v (.int .u64 0), .v (.int .u64 0), .v (.int .u64 0), .v (.int .u64 0), .v (.int .u64 0), .v (.int .u64 0), .v (.int .u64 0), .v (.int .u64 0), .v (.int .u64 0), .v (.int .u64 0), .v (.int .u64 0), .v (.int .u64 0), .v (.int .u64 0), .v (.int .u64 0), .v (.int .u64 0), .v (.int .u64 0), .v (.int .u64 0), .v (.int .u64 0), .v (.int .u64 0), .v (.int .u64 0), .v (.int .u64 0), .v (.bool false), .v (.int .u64 0), .v (.int .u64 0), .v (.int .u64 0), .v (.int .u64 0), .v (.int .u64 0), .v (.int .u64 0), .v (.int .u64 0), .v (.int .u64 0), .v (.int .u64 0), .v (.int .u64 0), .v (.int .u64 0), .v (.int .u64 0), .v (.int .u64 0), .v (.int .u64 0), .v (.int .u64 0), .v (.int .u64 0), .v (.int .u64 0), .v (.int .u64 0), .v (.int .u64 0), .v (.int .u64 0), .v (.int .u64 0), .v (.int .u64 0), .v (.int .u64 0), .v (.int .u64 0), .v (.bool false), .v (.int .u64 0), .v (.int .u64 0), .v (.int .u64 0), .v (.int .u64 0), .v (.int .u64 0), .v (.int .u64 0), .v (.int .u64 0), .v (.int .u64 0), .v (.int .u64 0), .v (.int .u64 0), .v (.int .u64 0), .v (.int .u64 0), .v (.int .u64 0), .v (.int .u64 0), .v (.int .u64 0), .v (.int .u64 0), .v (.int .u64 0), .v (.int .u64 0), .v (.int .u64 0), .v (.int .u64 0), .v (.int .u64 0), .v (.int .u64 0), .v (.int .u64 0), .v (.int .u64 0), .v (.bool false), .v (.int .u64 0), .v (.int .u64 0), .v (.int .u64 0), .v (.int .u64 0), .v (.int .u64 0), .v (.int .u64 0), .v (.int .u64 0), .v (.int .u64 0), .v (.int .u64 0), .v (.int .u64 0), .v (.int .u64 0), .v (.int .u64 0), .v (.int .u64 0), .v (.int .u64 0), .v (.int .u64 0), .v (.int .u64 0), .v (.int .u64 0), .v (.int .u64 0), .v (.int .u64 0), .v (.int .u64 0), .v (.int .u64 0), .v (.int .u64 0), .v (.int .u64 0), .v (.int .u64 0), .v (.bool false), .v (.int .u64 0), .v (.int .u64 0), .v (.int .u64 0), .v (.int .u64 0), .v (.int .u64 0), .v (.int .u64 0), .v (.int .u64 0), .v (.int .u64 0), .v (.int .u64 0), .v (.int .u64 0), .v (.int .u64 0), .v (.int .u64 0), .v (.int .u64 0), .v (.int .u64 0), .v (.int .u64 0), .v (.int .u64 0), .v (.int .u64 0), .v (.int .u64 0), .v (.int .u64 0), .v (.int .u64 0), .v (.int .u64 0), .v (.int .u64 0), .v (.int .u64 0), .v (.int .u64 0), .v (.bool false), .v (.int .u64 0), .v (.int .u64 0), .v (.int .u64 0), .v (.int .u64 0), .v (.int .u64 0), .v (.int .u64 0), .v (.int .u64 0), .v (.int .u64 0), .v (.int .u64 0), .v (.int .u64 0), .v (.int .u64 0), .v (.int .u64 0), .v (.int .u64 0), .v (.int .u64 0), .v (.int .u64 0), .v (.int .u64 0), .v (.int .u64 0), .v (.int .u64 0), .v (.int .u64 0), .v (.int .u64 0), .v (.int .u64 0), .v (.int .u64 0), .v (.int .u64 0), .v (.int .u64 0), .v (.bool false), .v (.int .u64 0), .v (.int .u64 0), .v (.int .u64 0), .v (.int .u64 0), .v (.int .u64 0), .v (.int .u64 0), .v (.int .u64 0), .v (.int .u64 0), .v (.int .u64 0), .v (.int .u64 0), .v (.int .u64 0), .v (.int .u64 0), .v (.int .u64 0), .v (.int .u64 0), .v (.int .u64 0), .v (.int .u64 0), .v (.int .u64 0), .v (.int .u64 0), .v (.int .u64 0), .v (.int .u64 0), .v (.int .u64 0), .v (.int .u64 0), .v (.int .u64 0), .v (.int .u64 0), .v (.bool false)]⟩ .leaf) 46 ⟨.other, 1, 8, [.v .nilFunc]⟩ .leaf) 47 ⟨.other, 1, 8, [.v .nilFunc]⟩ (.node .leaf 49 ⟨.other, 1, 8, [.v .nilFunc]⟩ .leaf)) 50 ⟨.other, 1, 8, [.v .nilFunc]⟩ (.node (.node (.node .leaf 51 ⟨.other, 1, 8, [.v .nilFunc]⟩ .leaf) 53 ⟨.other, 1, 8, [.v .nilFunc]⟩ .leaf) 54 ⟨.other, 1, 8, [.v .nilFunc]⟩ (.node .leaf 55 ⟨.other, 1, 8, [.v .nilFunc]⟩ .leaf))))) 56 ⟨.other, 1, 8, [.v .nilFunc]⟩ (.node (.node (.node (.node (.node (.node .leaf 57 ⟨.other, 1, 8, [.v .nilFunc]⟩ .leaf) 58 ⟨.other, 1, 8, [.v .nilFunc]⟩ .leaf) 59 ⟨.other, 1, 8, [.v .nilFunc]⟩ (.node (.node .leaf 60 ⟨.ptr, 1, 8, [.v (.pointer none)]⟩ .leaf) 61 ⟨.struct [(0, 26), (4, 60)], 5, 40, [.v (.int .u64 0), .v (.int .u64 0), .v (.int .u64 0), .v (.int .u64 0), .v (.pointer none)]⟩ .leaf)) 62 ⟨.struct [(0, 26), (4, 60)], 5, 40, [.v (.int .u64 0), .v (.int .u64 0), .v (.int .u64 0), .v (.int .u64 0), .v (.pointer none)]⟩ (.node (.node (.node .leaf 63 ⟨.other, 1, 8, [.v .nilFunc]⟩ .leaf) 64 ⟨.other, 1, 8, [.v .nilFunc]⟩ .leaf) 65 ⟨.other, 1, 8, [.v .nilFunc]⟩ (.node .leaf 66 ⟨.other, 1, 8, [.v .nilFunc]⟩ .leaf))) 68 ⟨.other, 1, 8, [.v .nilFunc]⟩ (.node (.node (.node (.node .leaf 70 ⟨.other, 1, 8, [.v .nilFunc]⟩ .leaf) 71 ⟨.other, 1, 8, [.v .nilFunc]⟩ .leaf) 72 ⟨.other, 1, 8, [.v .nilFunc]⟩ (.node .leaf 73 ⟨.other, 1, 8, [.v .nilFunc]⟩ .leaf)) 74 ⟨.other, 1, 8, [.v .nilFunc]⟩ (.node (.node (.node .leaf 75 ⟨.other, 1, 8, [.v .nilFunc]⟩ .leaf) 76 ⟨.other, 1, 8, [.v .nilFunc]⟩ .leaf) 77 ⟨.other, 1, 8, [.v .nilFunc]⟩ (.node .leaf 78 ⟨.slice 5, 1, 24, [.ds true 0 []]⟩ .leaf)))) 79 ⟨.other, 1, 8, [.v .nilFunc]⟩ (.node (.node (.node (.node (.node .leaf 80 ⟨.other, 1, 8, [.v .nilFunc]⟩ .leaf) 81 ⟨.other, 1, 8, [.v .nilFunc]⟩ .leaf) 82 ⟨.other, 1, 8, [.v .nilFunc]⟩ (.node .leaf 83 ⟨.slice 26, 1, 24, [.ds true 0 []]⟩ .leaf)) 84 ⟨.other, 1, 8, [.v .nilFunc]⟩ (.node (.node (.node .leaf 86 ⟨.other, 1, 8, [.v .nilFunc]⟩ .leaf) 87 ⟨.other, 1, 8, [.v .nilFunc]⟩ .leaf) 88 ⟨.slice 28, 1, 24, [.ds true 0 []]⟩ (.node .leaf 89 ⟨.other, 1, 8, [.v .nilFunc]⟩ .leaf))) 90 ⟨.int .u64, 1, 8, [.v (.int .u64 0)]⟩ (.node (.node (.node (.node .leaf 91 ⟨.other, 1, 8, [.v .nilFunc]⟩ .leaf) 92 ⟨.struct [(0, 17), (1, 17), (2, 17), (3, 9)], 4, 40, [.v (.pointer none), .v (.pointer none), .v (.pointer none), .v (.string ByteArray.empty)]⟩ .leaf) 94 ⟨.arr 0 16, 0, 0, []⟩ (.node .leaf 95 ⟨.struct [(0, 94)], 0, 0, []⟩ .leaf)) 97 ⟨.other, 1, 8, [.v .nilFunc]⟩ (.node (.node (.node .leaf 98 ⟨.int .u32, 1, 4, [.v (.int .u32 0)]⟩ .leaf) 101 ⟨.other, 1, 8, [.v .nilFunc]⟩ .leaf) 102 ⟨.ptr, 1, 8, [.v (.pointer none)]⟩ (.node .leaf 105 ⟨.struct [(0, 12), (1, 12), (2, 98), (3, 99), (4, 5), (5, 5), (6, 100), (7, 101), (8, 102), (9, 103), (10, 104)], 11, 48, [.v (.int .u64 0), .v (.int .u64 0), .v (.int .u32 0), .v (.int .u8 0), .v (.int .u8 0), .v (.int .u8 0), .v (.int .u8 0), .v .nilFunc, .v (.pointer none), .v (.int .i32 0), .v (.int .i32 0)]⟩ .leaf))))))
noncomputable def Γ : Tab := Γl.get
theorem Γ1 : Γ 1 = some ⟨.other, 1, 8, [.v .nilFunc]⟩ := rfl
theorem td1 : tdOf Γ 1 = some (.other) := rfl
theorem Γ2 : Γ 2 = some ⟨.int .i64, 1, 8, [.v (.int .i64 0)]⟩ := rfl
theorem td2 : tdOf Γ 2 = some (.int .i64) := rfl
theorem Γ3 : Γ 3 = some ⟨.int .i64, 1, 8, [.v (.int .i64 0)]⟩ := rfl
theorem td3 : tdOf Γ 3 = some (.int .i64) := rfl
theorem Γ4 : Γ 4 = some ⟨.bool, 1, 1, [.v (.bool false)]⟩ := rfl
theorem td4 : tdOf Γ 4 = some (.bool) := rfl
theorem Γ5 : Γ 5 = some ⟨.int .u8, 1, 1, [.v (.int .u8 0)]⟩ := rfl
theorem td5 : tdOf Γ 5 = some (.int .u8) := rfl
theorem Γ7 : Γ 7 = some ⟨.struct [(0, 2), (1, 3), (2, 4), (3, 6)], 4, 24, [.v (.int .i64 0), .v (.int .i64 0), .v (.bool false), .v (.int .u8 0)]⟩ := rfl
theorem td7 : tdOf Γ 7 = some (.struct [(0, 2), (1, 3), (2, 4), (3, 6)]) := rfl
theorem fo7_0 : fieldOff Γ 7 0 = some (0, 2) := rfl
theorem fo7_1 : fieldOff Γ 7 1 = some (1, 3) := rfl
theorem fo7_2 : fieldOff Γ 7 2 = some (2, 4) := rfl
theorem fo7_3 : fieldOff Γ 7 3 = some (3, 6) := rfl
theorem Γ9 : Γ 9 = some ⟨.str, 1, 16, [.v (.string ByteArray.empty)]⟩ := rfl
theorem td9 : tdOf Γ 9 = some (.str) := rfl
theorem Γ12 : Γ 12 = some ⟨.int .u64, 1, 8, [.v (.int .u64 0)]⟩ := rfl
theorem td12 : tdOf Γ 12 = some (.int .u64) := rfl
theorem Γ13 : Γ 13 = some ⟨.struct [(0, 9), (1, 12)], 2, 24, [.v (.string ByteArray.empty), .v (.int .u64 0)]⟩ := rfl
theorem td13 : tdOf Γ 13 = some (.struct [(0, 9), (1, 12)]) := rfl
theorem fo13_0 : fieldOff Γ 13 0 = some (0, 9) := rfl
theorem fo13_1 : fieldOff Γ 13 1 = some (1, 12) := rfl
theorem Γ21 : Γ 21 = some ⟨.int .i32, 1, 4, [.v (.int .i32 0)]⟩ := rfl
theorem td21 : tdOf Γ 21 = some (.int .i32) := rfl
theorem Γ22 : Γ 22 = some ⟨.struct [(0, 3), (1, 3), (2, 3), (3, 9)], 4, 40, [.v (.int .i64 0), .v (.int .i64 0), .v (.int .i64 0), .v (.string ByteArray.empty)]⟩ := rfl
theorem td22 : tdOf Γ 22 = some (.struct [(0, 3), (1, 3), (2, 3), (3, 9)]) := rfl
theorem fo22_0 : fieldOff Γ 22 0 = some (0, 3) := rfl
theorem fo22_1 : fieldOff Γ 22 1 = some (1, 3) := rfl
theorem fo22_2 : fieldOff Γ 22 2 = some (2, 3) := rfl
theorem fo22_3 : fieldOff Γ 22 3 = some (3, 9) := rfl
theorem Γ23 : Γ 23 = some ⟨.struct [(0, 3), (1, 3), (2, 3), (3, 9)], 4, 40, [.v (.int .i64 0), .v (.int .i64 0), .v (.int .i64 0), .v (.string ByteArray.empty)]⟩ := rfl
theorem td23 : tdOf Γ 23 = some (.struct [(0, 3), (1, 3), (2, 3), (3, 9)]) := rfl
theorem fo23_0 : fieldOff Γ 23 0 = some (0, 3) := rfl
theorem fo23_1 : fieldOff Γ 23 1 = some (1, 3) := rfl
theorem fo23_2 : fieldOff Γ 23 2 = some (2, 3) := rfl
theorem fo23_3 : fieldOff Γ 23 3 = some (3, 9) := rfl
theorem Γ24 : Γ 24 = some ⟨.int .u64, 1, 8, [.v (.int .u64 0)]⟩ := rfl
theorem td24 : tdOf Γ 24 = some (.int .u64) := rfl
theorem Γ25 : Γ 25 = some ⟨.arr 4 24, 4, 32, [.v (.int .u64 0), .v (.int .u64 0), .v (.int .u64 0), .v (.int .u64 0)]⟩ := rfl
theorem td25 : tdOf Γ 25 = some (.arr 4 24) := rfl
theorem ar25 : arrOf Γ 25 = some (4, 24, 1) := rfl
theorem Γ26 : Γ 26 = some ⟨.arr 4 24, 4, 32, [.v (.int .u64 0), .v (.int .u64 0), .v (.int .u64 0), .v (.int .u64 0)]⟩ := rfl
theorem td26 : tdOf Γ 26 = some (.arr 4 24) := rfl
theorem ar26 : arrOf Γ 26 = some (4, 24, 1) := rfl
theorem Γ27 : Γ 27 = some ⟨.struct [(0, 26), (4, 26), (8, 4)], 9, 72, [.v (.int .u64 0), .v (.int .u64 0), .v (.int .u64 0), .v (.int .u64 0), .v (.int .u64 0), .v (.int .u64 0), .v (.int .u64 0), .v (.int .u64 0), .v (.bool false)]⟩ := rfl
theorem td27 : tdOf Γ 27 = some (.struct [(0, 26), (4, 26), (8, 4)]) := rfl
theorem fo27_0 : fieldOff Γ 27 0 = some (0, 26) := rfl
theorem fo27_1 : fieldOff Γ 27 1 = some (4, 26) := rfl
theorem fo27_2 : fieldOff Γ 27 2 = some (8, 4) := rfl
theorem Γ28 : Γ 28 = some ⟨.struct [(0, 26), (4, 26), (8, 4)], 9, 72, [.v (.int .u64 0), .v (.int .u64 0), .v (.int .u64 0), .v (.int .u64 0), .v (.int .u64 0), .v (.int .u64 0), .v (.int .u64 0), .v (.int .u64 0), .v (.bool false)]⟩ := rfl
theorem td28 : tdOf Γ 28 = some (.struct [(0, 26), (4, 26), (8, 4)]) := rfl
theorem fo28_0 : fieldOff Γ 28 0 = some (0, 26) := rfl
theorem fo28_1 : fieldOff Γ 28 1 = some (4, 26) := rfl
theorem fo28_2 : fieldOff Γ 28 2 = some (8, 4) := rfl
theorem Γ29 : Γ 29 = some ⟨.struct [(0, 26), (4, 26), (8, 26), (12, 26), (16, 28)], 25, 200, [.v (.int .u64 0), .v (.int .u64 0), .v (.int .u64 0), .v (.int .u64 0), .v (.int .u64 0), .v (.int .u64 0), .v (.int .u64 0), .v (.int .u64 0), .v (.int .u64 0), .v (.int .u64 0), .v (.int .u64 0), .v (.int .u64 0), .v (.int .u64 0), .v (.int .u64 0), .v (.int .u64 0), .v (.int .u64 0), .v (.int .u64 0), .v (.int .u64 0), .v (.int .u64 0), .v (.int .u64 0), .v (.int .u64 0), .v (.int .u64 0), .v (.int .u64 0), .v (.int .u64 0), .v (.bool false)]⟩ := rfl
theorem td29 : tdOf Γ 29 = some (.struct [(0, 26), (4, 26), (8, 26), (12, 26), (16, 28)]) := rfl
theorem fo29_0 : fieldOff Γ 29 0 = some (0, 26) := rfl
theorem fo29_1 : fieldOff Γ 29 1 = some (4, 26) := rfl
theorem fo29_2 : fieldOff Γ 29 2 = some (8, 26) := rfl
theorem fo29_3 : fieldOff Γ 29 3 = some (12, 26) := rfl
theorem fo29_4 : fieldOff Γ 29 4 = some (16, 28) := rfl
theorem Γ30 : Γ 30 = some ⟨.struct [(0, 26), (4, 26), (8, 26), (12, 26), (16, 28)], 25, 200, [.v (.int .u64 0), .v (.int .u64 0), .v (.int .u64 0), .v (.int .u64 0), .v (.int .u64 0), .v (.int .u64 0), .v (.int .u64 0), .v (.int .u64 0), .v (.int .u64 0), .v (.int .u64 0), .v (.int .u64 0), .v (.int .u64 0), .v (.int .u64 0), .v (.int .u64 0), .v (.int .u64 0), .v (.int .u64 0), .v (.int .u64 0), .v (.int .u64 0), .v (.int .u64 0), .v (.int .u64 0), .v (.int .u64 0), .v (.int .u64 0), .v (.int .u64 0), .v (.int .u64 0), .v (.bool false)]⟩ := rfl
theorem td30 : tdOf Γ 30 = some (.struct [(0, 26), (4, 26), (8, 26), (12, 26), (16, 28)]) := rfl
theorem fo30_0 : fieldOff Γ 30 0 = some (0, 26) := rfl
theorem fo30_1 : fieldOff Γ 30 1 = some (4, 26) := rfl
theorem fo30_2 : fieldOff Γ 30 2 = some (8, 26) := rfl
theorem fo30_3 : fieldOff Γ 30 3 = some (12, 26) := rfl
theorem fo30_4 : fieldOff Γ 30 4 = some (16, 28) := rfl
theorem Γ31 : Γ 31 = some ⟨.other, 1, 8, [.v .nilFunc]⟩ := rfl
theorem td31 : tdOf Γ 31 = some (.other) := rfl
theorem Γ32 : Γ 32 = some ⟨.other, 1, 8, [.v .nilFunc]⟩ := rfl
theorem td32 : tdOf Γ 32 = some (.other) := rfl
theorem Γ33 : Γ 33 = some ⟨.other, 1, 8, [.v .nilFunc]⟩ := rfl
theorem td33 : tdOf Γ 33 = some (.other) := rfl
theorem Γ34 : Γ 34 = some ⟨.struct [(0, 26), (4, 26), (8, 3)], 9, 72, [.v (.int .u64 0), .v (.int .u64 0), .v (.int .u64 0), .v (.int .u64 0), .v (.int .u64 0), .v (.int .u64 0), .v (.int .u64 0), .v (.int .u64 0), .v (.int .i64 0)]⟩ := rfl
theorem td34 : tdOf Γ 34 = some (.struct [(0, 26), (4, 26), (8, 3)]) := rfl
theorem fo34_0 : fieldOff Γ 34 0 = some (0, 26) := rfl
theorem fo34_1 : fieldOff Γ 34 1 = some (4, 26) := rfl
theorem fo34_2 : fieldOff Γ 34 2 = some (8, 3) := rfl
theorem Γ35 : Γ 35 = some ⟨.struct [(0, 26), (4, 26), (8, 3)], 9, 72, [.v (.int .u64 0), .v (.int .u64 0), .v (.int .u64 0), .v (.int .u64 0), .v (.int .u64 0), .v (.int .u64 0), .v (.int .u64 0), .v (.int .u64 0), .v (.int .i64 0)]⟩ := rfl
theorem td35 : tdOf Γ 35 = some (.struct [(0, 26), (4, 26), (8, 3)]) := rfl
theorem fo35_0 : fieldOff Γ 35 0 = some (0, 26) := rfl
theorem fo35_1 : fieldOff Γ 35 1 = some (4, 26) := rfl
theorem fo35_2 : fieldOff Γ 35 2 = some (8, 3) := rfl
theorem Γ36 : Γ 36 = some ⟨.int .i64, 1, 8, [.v (.int .i64 0)]⟩ := rfl
theorem td36 : tdOf Γ 36 = some (.int .i64) := rfl
theorem Γ38 : Γ 38 = some ⟨.other, 1, 8, [.v .nilFunc]⟩ := rfl
theorem td38 : tdOf Γ 38 = some (.other) := rfl
theorem Γ39 : Γ 39 = some ⟨.arr 32 5, 32, 32, (List.replicate 32 (.v (.int .u8 0)))⟩ := rfl
theorem td39 : tdOf Γ 39 = some (.arr 32 5) := rfl
theorem ar39 : arrOf Γ 39 = some (32, 5, 1) := rfl
theorem Γ40 : Γ 40 = some ⟨.other, 1, 8, [.v .nilFunc]⟩ := rfl
theorem td40 : tdOf Γ 40 = some (.other) := rfl
theorem Γ41 : Γ 41 = some ⟨.other, 1, 8, [.v .nilFunc]⟩ := rfl
theorem td41 : tdOf Γ 41 = some (.other) := rfl
theorem Γ42 : Γ 42 = some ⟨.other, 1, 8, [.v .nilFunc]⟩ := rfl
theorem td42 : tdOf Γ 42 = some (.other) := rfl
theorem Γ43 : Γ 43 = some ⟨.other, 1, 8, [.v .nilFunc]⟩ := rfl
theorem td43 : tdOf Γ 43 = some (.other) := rfl
theorem Γ44 : Γ 44 = some ⟨.other, 1, 8, [.v .nilFunc]⟩ := rfl
theorem td44 : tdOf Γ 44 = some (.other) := rfl
theorem Γ45 : Γ 45 = some ⟨.arr 8 30, 200, 1600, [.v (.int .u64 0), .v (.int .u64 0), .v (.int .u64 0), .v (.int .u64 0), .v (.int .u64 0), .v (.int .u64 0), .v (.int .u64 0), .v (.int .u64 0), .v (.int .u64 0), .v (.int .u64 0), .v (.int .u64 0), .v (.int .u64 0), .v (.int .u64 0), .v (.int .u64 0), .v (.int .u64 0), .v (.int .u64 0), .v (.int .u64 0), .v (.int .u64 0), .v (.int .u64 0), .v (.int .u64 0), .v (.int .u64 0), .v (.int .u64 0), .v (.int .u64 0), .v (.int .u64 0), .v (.bool false), .v (.int .u64 0), .v (.int .u64 0), .v (.int .u64 0), .v (.int .u64 0), .v (.int .u64 0), .v (.int .u64 0), .v (.int .u64 0), .v (.int .u64 0), .v (.int .u64 0), .v (.int .u64 0), .v (.int .u64 0), .v (.int .u64 0), .v (.int .u64 0), .v (.int .u64 0), .v (.int .u64 0), .v (.int .u64 0), .v (.int .u64 0), .v (.int .u64 0), .v (.int .u64 0), .v (.int .u64 0), .v (.int .u64 0), .v (.int .u64 0), .v (.int .u64 0), .v (.int .u64 0), .v (.bool false), .v (.int .u64 0), .v (.int .u64 0), .v (.int .u64 0), .v (.int .u64 0), .v (.int .u64 0), .v (.int .u64 0), .v (.int .u64 0), .v (.int .u64 0), .v (.int .u64 0), .v (.int .u64 0), .v (.int .u64 0), .v (.int .u64 0), .v (.int .u64 0), .v (.int .u64 0), .v (.int .u64 0), .v (.int .u64 0), .v (.int .u64 0), .v (.int .u64 0), .v (.int .u64 0), .v (.int .u64 0), .v (.int .u64 0), .v (.int .u64 0), .v (.int .u64 0), .v (.int .u64 0), .v (.bool false), .v (.int .u64 0), .v (.int .u64 0), .v (.int .u64 0), .v (.int .u64 0), .v (.int .u64 0), .v (.int .u64 0), .v (.int .u64 0), .v (.int .u64 0), .v (.int .u64 0), .v (.int .u64 0), .v (.int .u64 0), .v (.int .u64 0), .v (.int .u64 0), .v (.int .u64 0), .v (.int .u64 0), .v (.int .u64 0), .v (.int .u64 0), .v (.int .u64 0), .v (.int .u64 0), .v (.int .u64 0), .v (.int .u64 0), .v (.int .u64 0), .v (.int .u64 0), .v (.int .u64 0), .v (.bool false), .v (.int .u64 0), .v (.int .u64 0), .v (.int .u64 0), .v (.int .u64 0), .v (.int .u64 0), .v (.int .u64 0), .v (.int .u64 0), .v (.int .u64 0), .v (.int .u64 0), .v (.int .u64 0), .v (.int .u64 0), .v (.int .u64 0), .v (.int .u64 0), .v (.int .u64 0), .v (.int .u64 0), .v (.int .u64 0), .v (.int .u64 0), .v (.int .u64 0), .v (.int .u64 0), .v (.int .u64 0), .v (.int .u64 0), .v (.int .u64 0), .v (.int .u64 0), .v (.int .u64 0), .v (.bool false), .v (.int .u64 0), .v (.int .u64 0), .v (.int .u64 0), .v (.int .u64 0), .v (.int .u64 0), .v (.int .u64 0), .v (.int .u64 0), .v (.int .u64 0), .v (.int .u64 0), .v (.int .u64 0), .v (.int .u64 0), .v (.int .u64 0), .v (.int .u64 0), .v (.int .u64 0), .v (.int .u64 0), .v (.int .u64 0), .v (.int .u64 0), .v (.int .u64 0), .v (.int .u64 0), .v (.int .u64 0), .v (.int .u64 0), .v (.int .u64 0), .v (.int .u64 0), .v (.int .u64 0), .v (.bool false), .v (.int .u64 0), .v (.int .u64 0), .v (.int .u64 0), .v (.int .u64 0), .v (.int .u64 0), .v (.int .u64 0), .v (.int .u64 0), .v (.int .u64 0), .v (.int .u64 0), .v (.int .u64 0), .v (.int .u64 0), .v (.int .u64 0), .v (.int .u64 0), .v (.int .u64 0), .v (.int .u64 0), .v (.int .u64 0), .v (.int .u64 0), .v (.int .u64 0), .v (.int .u64 0), .v (.int .u64 0), .v (.int .u64 0), .v (.int .u64 0), .v (.int .u64 0), .v (.int .u64 0), .v (.bool false), .v (.int .u64 0), .v (.int .u64 0), .v (.int .u64 0), .v (.int .u64 0), .v (.int .u64 0), .v (.int .u64 0), .v (.int .u64 0), .v (.int .u64 0), .v (.int .u64 0), .v (.int .u64 0), .v (.int .u64 0), .v (.int .u64 0), .v (.int .u64 0), .v (.int .u64 0), .v (.int .u64 0), .v (.int .u64 0), .v (.int .u64 0), .v (.int .u64 0), .v (.int .u64 0), .v (.int .u64 0), .v (.int .u64 0), .v (.int .u64 0), .v (.int .u64 0), .v (.int .u64 0), .v (.bool false)]⟩ := rfl
theorem td45 : tdOf Γ 45 = some (.arr 8 30) := rfl
theorem ar45 : arrOf Γ 45 = some (8, 30, 25) := rfl
theorem Γ46 : Γ 46 = some ⟨.other, 1, 8, [.v .nilFunc]⟩ := rfl
theorem td46 : tdOf Γ 46 = some (.other) := rfl
theorem Γ47 : Γ 47 = some ⟨.other, 1, 8, [.v .nilFunc]⟩ := rfl
theorem td47 : tdOf Γ 47 = some (.other) := rfl
theorem Γ49 : Γ 49 = some ⟨.other, 1, 8, [.v .nilFunc]⟩ := rfl
theorem td49 : tdOf Γ 49 = some (.other) := rfl
theorem Γ50 : Γ 50 = some ⟨.other, 1, 8, [.v .nilFunc]⟩ := rfl
theorem td50 : tdOf Γ 50 = some (.other) := rfl
theorem Γ51 : Γ 51 = some ⟨.other, 1, 8, [.v .nilFunc]⟩ := rfl
theorem td51 : tdOf Γ 51 = some (.other) := rfl
theorem Γ53 : Γ 53 = some ⟨.other, 1, 8, [.v .nilFunc]⟩ := rfl
theorem td53 : tdOf Γ 53 = some (.other) := rfl
theorem Γ54 : Γ 54 = some ⟨.other, 1, 8, [.v .nilFunc]⟩ := rfl
theorem td54 : tdOf Γ 54 = some (.other) := rfl
theorem Γ55 : Γ 55 = some ⟨.other, 1, 8, [.v .nilFunc]⟩ := rfl
theorem td55 : tdOf Γ 55 = some (.other) := rfl
theorem Γ56 : Γ 56 = some ⟨.other, 1, 8, [.v .nilFunc]⟩ := rfl
theorem td56 : tdOf Γ 56 = some (.other) := rfl
theorem Γ57 : Γ 57 = some ⟨.other, 1, 8, [.v .nilFunc]⟩ := rfl
theorem td57 : tdOf Γ 57 = some (.other) := rfl
theorem Γ58 : Γ 58 = some ⟨.other, 1, 8, [.v .nilFunc]⟩ := rfl
theorem td58 : tdOf Γ 58 = some (.other) := rfl
theorem Γ59 : Γ 59 = some ⟨.other, 1, 8, [.v .nilFunc]⟩ := rfl
theorem td59 : tdOf Γ 59 = some (.other) := rfl
theorem Γ60 : Γ 60 = some ⟨.ptr, 1, 8, [.v (.pointer none)]⟩ := rfl
theorem td60 : tdOf Γ 60 = some (.ptr) := rfl
theorem Γ61 : Γ 61 = some ⟨.struct [(0, 26), (4, 60)], 5, 40, [.v (.int .u64 0), .v (.int .u64 0), .v (.int .u64 0), .v (.int .u64 0), .v (.pointer none)]⟩ := rfl
theorem td61 : tdOf Γ 61 = some (.struct [(0, 26), (4, 60)]) := rfl
theorem fo61_0 : fieldOff Γ 61 0 = some (0, 26) := rfl
theorem fo61_1 : fieldOff Γ 61 1 = some (4, 60) := rfl
theorem Γ62 : Γ 62 = some ⟨.struct [(0, 26), (4, 60)], 5, 40, [.v (.int .u64 0), .v (.int .u64 0), .v (.int .u64 0), .v (.int .u64 0), .v (.pointer none)]⟩ := rfl
theorem td62 : tdOf Γ 62 = some (.struct [(0, 26), (4, 60)]) := rfl
theorem fo62_0 : fieldOff Γ 62 0 = some (0, 26) := rfl
theorem fo62_1 : fieldOff Γ 62 1 = some (4, 60) := rfl
theorem Γ63 : Γ 63 = some ⟨.other, 1, 8, [.v .nilFunc]⟩ := rfl
theorem td63 : tdOf Γ 63 = some (.other) := rfl
theorem Γ64 : Γ 64 = some ⟨.other, 1, 8, [.v .nilFunc]⟩ := rfl
theorem td64 : tdOf Γ 64 = some (.other) := rfl
theorem Γ65 : Γ 65 = some ⟨.other, 1, 8, [.v .nilFunc]⟩ := rfl
theorem td65 : tdOf Γ 65 = some (.other) := rfl
theorem Γ66 : Γ 66 = some ⟨.other, 1, 8, [.v .nilFunc]⟩ := rfl
theorem td66 : tdOf Γ 66 = some (.other) := rfl
theorem Γ68 : Γ 68 = some ⟨.other, 1, 8, [.v .nilFunc]⟩ := rfl
theorem td68 : tdOf Γ 68 = some (.other) := rfl
theorem Γ70 : Γ 70 = some ⟨.other, 1, 8, [.v .nilFunc]⟩ := rfl
theorem td70 : tdOf Γ 70 = some (.other) := rfl
theorem Γ71 : Γ 71 = some ⟨.other, 1, 8, [.v .nilFunc]⟩ := rfl
theorem td71 : tdOf Γ 71 = some (.other) := rfl
theorem Γ72 : Γ 72 = some ⟨.other, 1, 8, [.v .nilFunc]⟩ := rfl
theorem td72 : tdOf Γ 72 = some (.other) := rfl
theorem Γ73 : Γ 73 = some ⟨.other, 1, 8, [.v .nilFunc]⟩ := rfl
theorem td73 : tdOf Γ 73 = some (.other) := rfl
theorem Γ74 : Γ 74 = some ⟨.other, 1, 8, [.v .nilFunc]⟩ := rfl
theorem td74 : tdOf Γ 74 = some (.other) := rfl
theorem Γ75 : Γ 75 = some ⟨.other, 1, 8, [.v .nilFunc]⟩ := rfl
theorem td75 : tdOf Γ 75 = some (.other) := rfl
theorem Γ76 : Γ 76 = some ⟨.other, 1, 8, [.v .nilFunc]⟩ := rfl
theorem td76 : tdOf Γ 76 = some (.other) := rfl
theorem Γ77 : Γ 77 = some ⟨.other, 1, 8, [.v .nilFunc]⟩ := rfl
theorem td77 : tdOf Γ 77 = some (.other) := rfl
theorem Γ78 : Γ 78 = some ⟨.slice 5, 1, 24, [.ds true 0 []]⟩ := rfl
theorem td78 : tdOf Γ 78 = some (.slice 5) := rfl
theorem sl78 : sliceOf Γ 78 = some (5, ⟨.int .u8, 1, 1, [.v (.int .u8 0)]⟩) := rfl
theorem Γ79 : Γ 79 = some ⟨.other, 1, 8, [.v .nilFunc]⟩ := rfl
theorem td79 : tdOf Γ 79 = some (.other) := rfl
theorem Γ80 : Γ 80 = some ⟨.other, 1, 8, [.v .nilFunc]⟩ := rfl
theorem td80 : tdOf Γ 80 = some (.other) := rfl
theorem Γ81 : Γ 81 = some ⟨.other, 1, 8, [.v .nilFunc]⟩ := rfl
theorem td81 : tdOf Γ 81 = some (.other) := rfl
theorem Γ82 : Γ 82 = some ⟨.other, 1, 8, [.v .nilFunc]⟩ := rfl
theorem td82 : tdOf Γ 82 = some (.other) := rfl
theorem Γ83 : Γ 83 = some ⟨.slice 26, 1, 24, [.ds true 0 []]⟩ := rfl
theorem td83 : tdOf Γ 83 = some (.slice 26) := rfl
theorem sl83 : sliceOf Γ 83 = some (26, ⟨.arr 4 24, 4, 32, [.v (.int .u64 0), .v (.int .u64 0), .v (.int .u64 0), .v (.int .u64 0)]⟩) := rfl
theorem Γ84 : Γ 84 = some ⟨.other, 1, 8, [.v .nilFunc]⟩ := rfl
theorem td84 : tdOf Γ 84 = some (.other) := rfl
theorem Γ86 : Γ 86 = some ⟨.other, 1, 8, [.v .nilFunc]⟩ := rfl
theorem td86 : tdOf Γ 86 = some (.other) := rfl
theorem Γ87 : Γ 87 = some ⟨.other, 1, 8, [.v .nilFunc]⟩ := rfl
theorem td87 : tdOf Γ 87 = some (.other) := rfl
theorem Γ88 : Γ 88 = some ⟨.slice 28, 1, 24, [.ds true 0 []]⟩ := rfl
theorem td88 : tdOf Γ 88 = some (.slice 28) := rfl
theorem sl88 : sliceOf Γ 88 = some (28, ⟨.struct [(0, 26), (4, 26), (8, 4)], 9, 72, [.v (.int .u64 0), .v (.int .u64 0), .v (.int .u64 0), .v (.int .u64 0), .v (.int .u64 0), .v (.int .u64 0), .v (.int .u64 0), .v (.int .u64 0), .v (.bool false)]⟩) := rfl
theorem Γ89 : Γ 89 = some ⟨.other, 1, 8, [.v .nilFunc]⟩ := rfl
theorem td89 : tdOf Γ 89 = some (.other) := rfl
theorem Γ90 : Γ 90 = some ⟨.int .u64, 1, 8, [.v (.int .u64 0)]⟩ := rfl
theorem td90 : tdOf Γ 90 = some (.int .u64) := rfl
theorem Γ91 : Γ 91 = some ⟨.other, 1, 8, [.v .nilFunc]⟩ := rfl
theorem td91 : tdOf Γ 91 = some (.other) := rfl
theorem Γ92 : Γ 92 = some ⟨.struct [(0, 17), (1, 17), (2, 17), (3, 9)], 4, 40, [.v (.pointer none), .v (.pointer none), .v (.pointer none), .v (.string ByteArray.empty)]⟩ := rfl
theorem td92 : tdOf Γ 92 = some (.struct [(0, 17), (1, 17), (2, 17), (3, 9)]) := rfl
theorem fo92_0 : fieldOff Γ 92 0 = some (0, 17) := rfl
theorem fo92_1 : fieldOff Γ 92 1 = some (1, 17) := rfl
theorem fo92_2 : fieldOff Γ 92 2 = some (2, 17) := rfl
theorem fo92_3 : fieldOff Γ 92 3 = some (3, 9) := rfl
theorem Γ94 : Γ 94 = some ⟨.arr 0 16, 0, 0, []⟩ := rfl
theorem td94 : tdOf Γ 94 = some (.arr 0 16) := rfl
theorem Γ95 : Γ 95 = some ⟨.struct [(0, 94)], 0, 0, []⟩ := rfl
theorem td95 : tdOf Γ 95 = some (.struct [(0, 94)]) := rfl
theorem fo95_0 : fieldOff Γ 95 0 = some (0, 94) := rfl
theorem Γ97 : Γ 97 = some ⟨.other, 1, 8, [.v .nilFunc]⟩ := rfl
theorem td97 : tdOf Γ 97 = some (.other) := rfl
theorem Γ98 : Γ 98 = some ⟨.int .u32, 1, 4, [.v (.int .u32 0)]⟩ := rfl
theorem td98 : tdOf Γ 98 = some (.int .u32) := rfl
theorem Γ101 : Γ 101 = some ⟨.other, 1, 8, [.v .nilFunc]⟩ := rfl
theorem td101 : tdOf Γ 101 = some (.other) := rfl
theorem Γ102 : Γ 102 = some ⟨.ptr, 1, 8, [.v (.pointer none)]⟩ := rfl
theorem td102 : tdOf Γ 102 = some (.ptr) := rfl
theorem Γ105 : Γ 105 = some ⟨.struct [(0, 12), (1, 12), (2, 98), (3, 99), (4, 5), (5, 5), (6, 100), (7, 101), (8, 102), (9, 103), (10, 104)], 11, 48, [.v (.int .u64 0), .v (.int .u64 0), .v (.int .u32 0), .v (.int .u8 0), .v (.int .u8 0), .v (.int .u8 0), .v (.int .u8 0), .v .nilFunc, .v (.pointer none), .v (.int .i32 0), .v (.int .i32 0)]⟩ := rfl
theorem td105 : tdOf Γ 105 = some (.struct [(0, 12), (1, 12), (2, 98), (3, 99), (4, 5), (5, 5), (6, 100), (7, 101), (8, 102), (9, 103), (10, 104)]) := rfl
theorem fo105_0 : fieldOff Γ 105 0 = some (0, 12) := rfl
theorem fo105_1 : fieldOff Γ 105 1 = some (1, 12) := rfl
theorem fo105_2 : fieldOff Γ 105 2 = some (2, 98) := rfl
theorem fo105_3 : fieldOff Γ 105 3 = some (3, 99) := rfl
theorem fo105_4 : fieldOff Γ 105 4 = some (4, 5) := rfl
theorem fo105_5 : fieldOff Γ 105 5 = some (5, 5) := rfl
theorem fo105_6 : fieldOff Γ 105 6 = some (6, 100) := rfl
theorem fo105_7 : fieldOff Γ 105 7 = some (7, 101) := rfl
theorem fo105_8 : fieldOff Γ 105 8 = some (8, 102) := rfl
theorem fo105_9 : fieldOff Γ 105 9 = some (9, 103) := rfl
theorem fo105_10 : fieldOff Γ 105 10 = some (10, 104) := rfl
theorem Γok : TabOk Try.prog Γ := tabOkT (by kernel_rfl)
def G0 : Globs := fun _ => none
theorem G0ok : GOk G0 := fun _ _ h => by cases h
theorem mixed : Try.prog.follows .mixedOrders = true := by kernel_rfl
end Go.Proofs.Ytidkdlaihmpjfaa
