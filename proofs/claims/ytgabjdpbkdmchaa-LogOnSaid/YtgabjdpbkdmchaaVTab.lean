/- The table of the program's types, for the engine. -/
import Derived.Test.YtgabjdpbkdmchaaVd
import Derived.Test.YtgabjdpbkdmchaaRows
import Derived.ProofKit
namespace Go.Proofs.Ytgabjdpbkdmchaa
open Go.RowKit
def Γl : List (TypeId × TR) := [
  (1, ⟨.other, 1, 8, [.v .nilFunc]⟩),
  (2, ⟨.int .i64, 1, 8, [.v (.int .i64 0)]⟩),
  (3, ⟨.int .i64, 1, 8, [.v (.int .i64 0)]⟩),
  (4, ⟨.bool, 1, 1, [.v (.bool false)]⟩),
  (5, ⟨.int .u8, 1, 1, [.v (.int .u8 0)]⟩),
  (7, ⟨.struct [(0, 2), (1, 3), (2, 4), (3, 6)], 4, 24, [.v (.int .i64 0), .v (.int .i64 0), .v (.bool false), .v (.int .u8 0)]⟩),
  (9, ⟨.str, 1, 16, [.v (.string ByteArray.empty)]⟩),
  (12, ⟨.int .u64, 1, 8, [.v (.int .u64 0)]⟩),
  (13, ⟨.struct [(0, 9), (1, 12)], 2, 24, [.v (.string ByteArray.empty), .v (.int .u64 0)]⟩),
  (21, ⟨.int .i32, 1, 4, [.v (.int .i32 0)]⟩),
  (22, ⟨.int .u64, 1, 8, [.v (.int .u64 0)]⟩),
  (23, ⟨.arr 4 22, 4, 32, [.v (.int .u64 0), .v (.int .u64 0), .v (.int .u64 0), .v (.int .u64 0)]⟩),
  (24, ⟨.other, 1, 8, [.v .nilFunc]⟩),
  (25, ⟨.int .i64, 1, 8, [.v (.int .i64 0)]⟩),
  (27, ⟨.other, 1, 8, [.v .nilFunc]⟩),
  (28, ⟨.arr 4 22, 4, 32, [.v (.int .u64 0), .v (.int .u64 0), .v (.int .u64 0), .v (.int .u64 0)]⟩),
  (30, ⟨.other, 1, 8, [.v .nilFunc]⟩),
  (31, ⟨.other, 1, 8, [.v .nilFunc]⟩),
  (32, ⟨.slice 76, 1, 24, [.ds true 0 []]⟩),
  (33, ⟨.slice 5, 1, 24, [.ds true 0 []]⟩),
  (34, ⟨.struct [(0, 33), (1, 33)], 2, 48, [.ds true 0 [], .ds true 0 []]⟩),
  (35, ⟨.struct [(0, 33), (1, 33)], 2, 48, [.ds true 0 [], .ds true 0 []]⟩),
  (36, ⟨.slice 33, 1, 24, [.ds true 0 []]⟩),
  (38, ⟨.other, 1, 8, [.v .nilFunc]⟩),
  (40, ⟨.other, 1, 8, [.v .nilFunc]⟩),
  (42, ⟨.other, 1, 8, [.v .nilFunc]⟩),
  (43, ⟨.other, 1, 8, [.v .nilFunc]⟩),
  (44, ⟨.other, 1, 8, [.v .nilFunc]⟩),
  (45, ⟨.other, 1, 8, [.v .nilFunc]⟩),
  (46, ⟨.other, 1, 8, [.v .nilFunc]⟩),
  (47, ⟨.other, 1, 8, [.v .nilFunc]⟩),
  (48, ⟨.other, 1, 8, [.v .nilFunc]⟩),
  (49, ⟨.other, 1, 8, [.v .nilFunc]⟩),
  (50, ⟨.slice 56, 1, 24, [.ds true 0 []]⟩),
  (51, ⟨.slice 3, 1, 24, [.ds true 0 []]⟩),
  (53, ⟨.other, 1, 8, [.v .nilFunc]⟩),
  (54, ⟨.slice 61, 1, 24, [.ds true 0 []]⟩),
  (55, ⟨.struct [(0, 3), (1, 54), (2, 3)], 3, 40, [.v (.int .i64 0), .ds true 0 [], .v (.int .i64 0)]⟩),
  (56, ⟨.struct [(0, 3), (1, 54), (2, 3)], 3, 40, [.v (.int .i64 0), .ds true 0 [], .v (.int .i64 0)]⟩),
  (58, ⟨.other, 1, 8, [.v .nilFunc]⟩),
  (59, ⟨.other, 1, 8, [.v .nilFunc]⟩),
  (60, ⟨.arr 20 5, 20, 20, (List.replicate 20 (.v (.int .u8 0)))⟩),
  (61, ⟨.arr 20 5, 20, 20, (List.replicate 20 (.v (.int .u8 0)))⟩),
  (62, ⟨.other, 1, 8, [.v .nilFunc]⟩),
  (63, ⟨.slice 69, 1, 24, [.ds true 0 []]⟩),
  (64, ⟨.struct [(0, 63), (1, 3), (2, 3)], 3, 40, [.ds true 0 [], .v (.int .i64 0), .v (.int .i64 0)]⟩),
  (65, ⟨.struct [(0, 63), (1, 3), (2, 3)], 3, 40, [.ds true 0 [], .v (.int .i64 0), .v (.int .i64 0)]⟩),
  (66, ⟨.other, 1, 8, [.v .nilFunc]⟩),
  (67, ⟨.slice 98, 1, 24, [.ds true 0 []]⟩),
  (68, ⟨.struct [(0, 3), (1, 3), (2, 67)], 3, 40, [.v (.int .i64 0), .v (.int .i64 0), .ds true 0 []]⟩),
  (69, ⟨.struct [(0, 3), (1, 3), (2, 67)], 3, 40, [.v (.int .i64 0), .v (.int .i64 0), .ds true 0 []]⟩),
  (71, ⟨.other, 1, 8, [.v .nilFunc]⟩),
  (73, ⟨.other, 1, 8, [.v .nilFunc]⟩),
  (74, ⟨.other, 1, 8, [.v .nilFunc]⟩),
  (75, ⟨.struct [(0, 3), (1, 3), (2, 3), (3, 9)], 4, 40, [.v (.int .i64 0), .v (.int .i64 0), .v (.int .i64 0), .v (.string ByteArray.empty)]⟩),
  (76, ⟨.struct [(0, 3), (1, 3), (2, 3), (3, 9)], 4, 40, [.v (.int .i64 0), .v (.int .i64 0), .v (.int .i64 0), .v (.string ByteArray.empty)]⟩),
  (77, ⟨.other, 1, 8, [.v .nilFunc]⟩),
  (78, ⟨.other, 1, 8, [.v .nilFunc]⟩),
  (79, ⟨.other, 1, 8, [.v .nilFunc]⟩),
  (80, ⟨.other, 1, 8, [.v .nilFunc]⟩),
  (81, ⟨.other, 1, 8, [.v .nilFunc]⟩),
  (82, ⟨.other, 1, 8, [.v .nilFunc]⟩),
  (83, ⟨.int .u64, 1, 8, [.v (.int .u64 0)]⟩),
  (84, ⟨.other, 1, 8, [.v .nilFunc]⟩),
  (86, ⟨.other, 1, 8, [.v .nilFunc]⟩),
  (87, ⟨.other, 1, 8, [.v .nilFunc]⟩),
  (88, ⟨.other, 1, 8, [.v .nilFunc]⟩),
  (89, ⟨.other, 1, 8, [.v .nilFunc]⟩),
  (90, ⟨.other, 1, 8, [.v .nilFunc]⟩),
  (91, ⟨.other, 1, 8, [.v .nilFunc]⟩),
  (92, ⟨.other, 1, 8, [.v .nilFunc]⟩),
  (93, ⟨.other, 1, 8, [.v .nilFunc]⟩),
  (94, ⟨.other, 1, 8, [.v .nilFunc]⟩),
  (95, ⟨.arr 32 5, 32, 32, (List.replicate 32 (.v (.int .u8 0)))⟩),
  (96, ⟨.arr 4 22, 4, 32, [.v (.int .u64 0), .v (.int .u64 0), .v (.int .u64 0), .v (.int .u64 0)]⟩),
  (97, ⟨.struct [(0, 3), (1, 95), (33, 95), (65, 3), (66, 96), (70, 96), (74, 95), (106, 3), (107, 3), (108, 33)], 109, 216, [.v (.int .i64 0), .v (.int .u8 0), .v (.int .u8 0), .v (.int .u8 0), .v (.int .u8 0), .v (.int .u8 0), .v (.int .u8 0), .v (.int .u8 0), .v (.int .u8 0), .v (.int .u8 0), .v (.int .u8 0), .v (.int .u8 0), .v (.int .u8 0), .v (.int .u8 0), .v (.int .u8 0), .v (.int .u8 0), .v (.int .u8 0), .v (.int .u8 0), .v (.int .u8 0), .v (.int .u8 0), .v (.int .u8 0), .v (.int .u8 0), .v (.int .u8 0), .v (.int .u8 0), .v (.int .u8 0), .v (.int .u8 0), .v (.int .u8 0), .v (.int .u8 0), .v (.int .u8 0), .v (.int .u8 0), .v (.int .u8 0), .v (.int .u8 0), .v (.int .u8 0), .v (.int .u8 0), .v (.int .u8 0), .v (.int .u8 0), .v (.int .u8 0), .v (.int .u8 0), .v (.int .u8 0), .v (.int .u8 0), .v (.int .u8 0), .v (.int .u8 0), .v (.int .u8 0), .v (.int .u8 0), .v (.int .u8 0), .v (.int .u8 0), .v (.int .u8 0), .v (.int .u8 0), .v (.int .u8 0), .v (.int .u8 0), .v (.int .u8 0), .v (.int .u8 0), .v (.int .u8 0), .v (.int .u8 0), .v (.int .u8 0), .v (.int .u8 0), .v (.int .u8 0), .v (.int .u8 0), .v (.int .u8 0), .v (.int .u8 0), .v (.int .u8 0), .v (.int .u8 0), .v (.int .u8 0), .v (.int .u8 0), .v (.int .u8 0), .v (.int .i64 0), .v (.int .u64 0), .v (.int .u64 0), .v (.int .u64 0), .v (.int .u64 0), .v (.int .u64 0), .v (.int .u64 0), .v (.int .u64 0), .v (.int .u64 0), .v (.int .u8 0), .v (.int .u8 0), .v (.int .u8 0), .v (.int .u8 0), .v (.int .u8 0), .v (.int .u8 0), .v (.int .u8 0), .v (.int .u8 0), .v (.int .u8 0), .v (.int .u8 0), .v (.int .u8 0), .v (.int .u8 0), .v (.int .u8 0), .v (.int .u8 0), .v (.int .u8 0), .v (.int .u8 0), .v (.int .u8 0), .v (.int .u8 0), .v (.int .u8 0), .v (.int .u8 0), .v (.int .u8 0), .v (.int .u8 0), .v (.int .u8 0), .v (.int .u8 0), .v (.int .u8 0), .v (.int .u8 0), .v (.int .u8 0), .v (.int .u8 0), .v (.int .u8 0), .v (.int .u8 0), .v (.int .u8 0), .v (.int .u8 0), .v (.int .i64 0), .v (.int .i64 0), .ds true 0 []]⟩),
  (98, ⟨.struct [(0, 3), (1, 95), (33, 95), (65, 3), (66, 96), (70, 96), (74, 95), (106, 3), (107, 3), (108, 33)], 109, 216, [.v (.int .i64 0), .v (.int .u8 0), .v (.int .u8 0), .v (.int .u8 0), .v (.int .u8 0), .v (.int .u8 0), .v (.int .u8 0), .v (.int .u8 0), .v (.int .u8 0), .v (.int .u8 0), .v (.int .u8 0), .v (.int .u8 0), .v (.int .u8 0), .v (.int .u8 0), .v (.int .u8 0), .v (.int .u8 0), .v (.int .u8 0), .v (.int .u8 0), .v (.int .u8 0), .v (.int .u8 0), .v (.int .u8 0), .v (.int .u8 0), .v (.int .u8 0), .v (.int .u8 0), .v (.int .u8 0), .v (.int .u8 0), .v (.int .u8 0), .v (.int .u8 0), .v (.int .u8 0), .v (.int .u8 0), .v (.int .u8 0), .v (.int .u8 0), .v (.int .u8 0), .v (.int .u8 0), .v (.int .u8 0), .v (.int .u8 0), .v (.int .u8 0), .v (.int .u8 0), .v (.int .u8 0), .v (.int .u8 0), .v (.int .u8 0), .v (.int .u8 0), .v (.int .u8 0), .v (.int .u8 0), .v (.int .u8 0), .v (.int .u8 0), .v (.int .u8 0), .v (.int .u8 0), .v (.int .u8 0), .v (.int .u8 0), .v (.int .u8 0), .v (.int .u8 0), .v (.int .u8 0), .v (.int .u8 0), .v (.int .u8 0), .v (.int .u8 0), .v (.int .u8 0), .v (.int .u8 0), .v (.int .u8 0), .v (.int .u8 0), .v (.int .u8 0), .v (.int .u8 0), .v (.int .u8 0), .v (.int .u8 0), .v (.int .u8 0), .v (.int .i64 0), .v (.int .u64 0), .v (.int .u64 0), .v (.int .u64 0), .v (.int .u64 0), .v (.int .u64 0), .v (.int .u64 0), .v (.int .u64 0), .v (.int .u64 0), .v (.int .u8 0), .v (.int .u8 0), .v (.int .u8 0), .v (.int .u8 0), .v (.int .u8 0), .v (.int .u8 0), .v (.int .u8 0), .v (.int .u8 0), .v (.int .u8 0), .v (.int .u8 0), .v (.int .u8 0), .v (.int .u8 0), .v (.int .u8 0), .v (.int .u8 0), .v (.int .u8 0), .v (.int .u8 0), .v (.int .u8 0), .v (.int .u8 0), .v (.int .u8 0), .v (.int .u8 0), .v (.int .u8 0), .v (.int .u8 0), .v (.int .u8 0), .v (.int .u8 0), .v (.int .u8 0), .v (.int .u8 0), .v (.int .u8 0), .v (.int .u8 0), .v (.int .u8 0), .v (.int .u8 0), .v (.int .u8 0), .v (.int .u8 0), .v (.int .i64 0), .v (.int .i64 0), .ds true 0 []]⟩),
  (99, ⟨.other, 1, 8, [.v .nilFunc]⟩),
  (100, ⟨.other, 1, 8, [.v .nilFunc]⟩),
  (101, ⟨.struct [(0, 17), (1, 17), (2, 17), (3, 9)], 4, 40, [.v (.pointer none), .v (.pointer none), .v (.pointer none), .v (.string ByteArray.empty)]⟩),
  (103, ⟨.arr 0 16, 0, 0, []⟩),
  (104, ⟨.struct [(0, 103)], 0, 0, []⟩),
  (106, ⟨.other, 1, 8, [.v .nilFunc]⟩),
  (107, ⟨.int .u32, 1, 4, [.v (.int .u32 0)]⟩),
  (110, ⟨.other, 1, 8, [.v .nilFunc]⟩),
  (111, ⟨.ptr, 1, 8, [.v (.pointer none)]⟩),
  (114, ⟨.struct [(0, 12), (1, 12), (2, 107), (3, 108), (4, 5), (5, 5), (6, 109), (7, 110), (8, 111), (9, 112), (10, 113)], 11, 48, [.v (.int .u64 0), .v (.int .u64 0), .v (.int .u32 0), .v (.int .u8 0), .v (.int .u8 0), .v (.int .u8 0), .v (.int .u8 0), .v .nilFunc, .v (.pointer none), .v (.int .i32 0), .v (.int .i32 0)]⟩)]
def Γ : Tab := lkT Γl
theorem Γ1 : Γ 1 = some ⟨.other, 1, 8, [.v .nilFunc]⟩ := rfl
theorem td1 : tdOf Γ 1 = some (.other) := rfl
theorem Γ2 : Γ 2 = some ⟨.int .i64, 1, 8, [.v (.int .i64 0)]⟩ := rfl
theorem td2 : tdOf Γ 2 = some (.int .i64) := rfl
theorem Γ3 : Γ 3 = some ⟨.int .i64, 1, 8, [.v (.int .i64 0)]⟩ := rfl
theorem td3 : tdOf Γ 3 = some (.int .i64) := rfl
theorem Γ4 : Γ 4 = some ⟨.bool, 1, 1, [.v (.bool false)]⟩ := rfl
theorem td4 : tdOf Γ 4 = some (.bool) := rfl
theorem Γ5 : Γ 5 = some ⟨.int .u8, 1, 1, [.v (.int .u8 0)]⟩ := rfl
theorem td5 : tdOf Γ 5 = some (.int .u8) := rfl
theorem Γ7 : Γ 7 = some ⟨.struct [(0, 2), (1, 3), (2, 4), (3, 6)], 4, 24, [.v (.int .i64 0), .v (.int .i64 0), .v (.bool false), .v (.int .u8 0)]⟩ := rfl
theorem td7 : tdOf Γ 7 = some (.struct [(0, 2), (1, 3), (2, 4), (3, 6)]) := rfl
theorem fo7_0 : fieldOff Γ 7 0 = some (0, 2) := rfl
theorem fo7_1 : fieldOff Γ 7 1 = some (1, 3) := rfl
theorem fo7_2 : fieldOff Γ 7 2 = some (2, 4) := rfl
theorem fo7_3 : fieldOff Γ 7 3 = some (3, 6) := rfl
theorem Γ9 : Γ 9 = some ⟨.str, 1, 16, [.v (.string ByteArray.empty)]⟩ := rfl
theorem td9 : tdOf Γ 9 = some (.str) := rfl
theorem Γ12 : Γ 12 = some ⟨.int .u64, 1, 8, [.v (.int .u64 0)]⟩ := rfl
theorem td12 : tdOf Γ 12 = some (.int .u64) := rfl
theorem Γ13 : Γ 13 = some ⟨.struct [(0, 9), (1, 12)], 2, 24, [.v (.string ByteArray.empty), .v (.int .u64 0)]⟩ := rfl
theorem td13 : tdOf Γ 13 = some (.struct [(0, 9), (1, 12)]) := rfl
theorem fo13_0 : fieldOff Γ 13 0 = some (0, 9) := rfl
theorem fo13_1 : fieldOff Γ 13 1 = some (1, 12) := rfl
theorem Γ21 : Γ 21 = some ⟨.int .i32, 1, 4, [.v (.int .i32 0)]⟩ := rfl
theorem td21 : tdOf Γ 21 = some (.int .i32) := rfl
theorem Γ22 : Γ 22 = some ⟨.int .u64, 1, 8, [.v (.int .u64 0)]⟩ := rfl
theorem td22 : tdOf Γ 22 = some (.int .u64) := rfl
theorem Γ23 : Γ 23 = some ⟨.arr 4 22, 4, 32, [.v (.int .u64 0), .v (.int .u64 0), .v (.int .u64 0), .v (.int .u64 0)]⟩ := rfl
theorem td23 : tdOf Γ 23 = some (.arr 4 22) := rfl
theorem ar23 : arrOf Γ 23 = some (4, 22, 1) := rfl
theorem Γ24 : Γ 24 = some ⟨.other, 1, 8, [.v .nilFunc]⟩ := rfl
theorem td24 : tdOf Γ 24 = some (.other) := rfl
theorem Γ25 : Γ 25 = some ⟨.int .i64, 1, 8, [.v (.int .i64 0)]⟩ := rfl
theorem td25 : tdOf Γ 25 = some (.int .i64) := rfl
theorem Γ27 : Γ 27 = some ⟨.other, 1, 8, [.v .nilFunc]⟩ := rfl
theorem td27 : tdOf Γ 27 = some (.other) := rfl
theorem Γ28 : Γ 28 = some ⟨.arr 4 22, 4, 32, [.v (.int .u64 0), .v (.int .u64 0), .v (.int .u64 0), .v (.int .u64 0)]⟩ := rfl
theorem td28 : tdOf Γ 28 = some (.arr 4 22) := rfl
theorem ar28 : arrOf Γ 28 = some (4, 22, 1) := rfl
theorem Γ30 : Γ 30 = some ⟨.other, 1, 8, [.v .nilFunc]⟩ := rfl
theorem td30 : tdOf Γ 30 = some (.other) := rfl
theorem Γ31 : Γ 31 = some ⟨.other, 1, 8, [.v .nilFunc]⟩ := rfl
theorem td31 : tdOf Γ 31 = some (.other) := rfl
theorem Γ32 : Γ 32 = some ⟨.slice 76, 1, 24, [.ds true 0 []]⟩ := rfl
theorem td32 : tdOf Γ 32 = some (.slice 76) := rfl
theorem sl32 : sliceOf Γ 32 = some (76, ⟨.struct [(0, 3), (1, 3), (2, 3), (3, 9)], 4, 40, [.v (.int .i64 0), .v (.int .i64 0), .v (.int .i64 0), .v (.string ByteArray.empty)]⟩) := rfl
theorem Γ33 : Γ 33 = some ⟨.slice 5, 1, 24, [.ds true 0 []]⟩ := rfl
theorem td33 : tdOf Γ 33 = some (.slice 5) := rfl
theorem sl33 : sliceOf Γ 33 = some (5, ⟨.int .u8, 1, 1, [.v (.int .u8 0)]⟩) := rfl
theorem Γ34 : Γ 34 = some ⟨.struct [(0, 33), (1, 33)], 2, 48, [.ds true 0 [], .ds true 0 []]⟩ := rfl
theorem td34 : tdOf Γ 34 = some (.struct [(0, 33), (1, 33)]) := rfl
theorem fo34_0 : fieldOff Γ 34 0 = some (0, 33) := rfl
theorem fo34_1 : fieldOff Γ 34 1 = some (1, 33) := rfl
theorem Γ35 : Γ 35 = some ⟨.struct [(0, 33), (1, 33)], 2, 48, [.ds true 0 [], .ds true 0 []]⟩ := rfl
theorem td35 : tdOf Γ 35 = some (.struct [(0, 33), (1, 33)]) := rfl
theorem fo35_0 : fieldOff Γ 35 0 = some (0, 33) := rfl
theorem fo35_1 : fieldOff Γ 35 1 = some (1, 33) := rfl
theorem Γ36 : Γ 36 = some ⟨.slice 33, 1, 24, [.ds true 0 []]⟩ := rfl
theorem td36 : tdOf Γ 36 = some (.slice 33) := rfl
theorem sl36 : sliceOf Γ 36 = some (33, ⟨.slice 5, 1, 24, [.ds true 0 []]⟩) := rfl
theorem Γ38 : Γ 38 = some ⟨.other, 1, 8, [.v .nilFunc]⟩ := rfl
theorem td38 : tdOf Γ 38 = some (.other) := rfl
theorem Γ40 : Γ 40 = some ⟨.other, 1, 8, [.v .nilFunc]⟩ := rfl
theorem td40 : tdOf Γ 40 = some (.other) := rfl
theorem Γ42 : Γ 42 = some ⟨.other, 1, 8, [.v .nilFunc]⟩ := rfl
theorem td42 : tdOf Γ 42 = some (.other) := rfl
theorem Γ43 : Γ 43 = some ⟨.other, 1, 8, [.v .nilFunc]⟩ := rfl
theorem td43 : tdOf Γ 43 = some (.other) := rfl
theorem Γ44 : Γ 44 = some ⟨.other, 1, 8, [.v .nilFunc]⟩ := rfl
theorem td44 : tdOf Γ 44 = some (.other) := rfl
theorem Γ45 : Γ 45 = some ⟨.other, 1, 8, [.v .nilFunc]⟩ := rfl
theorem td45 : tdOf Γ 45 = some (.other) := rfl
theorem Γ46 : Γ 46 = some ⟨.other, 1, 8, [.v .nilFunc]⟩ := rfl
theorem td46 : tdOf Γ 46 = some (.other) := rfl
theorem Γ47 : Γ 47 = some ⟨.other, 1, 8, [.v .nilFunc]⟩ := rfl
theorem td47 : tdOf Γ 47 = some (.other) := rfl
theorem Γ48 : Γ 48 = some ⟨.other, 1, 8, [.v .nilFunc]⟩ := rfl
theorem td48 : tdOf Γ 48 = some (.other) := rfl
theorem Γ49 : Γ 49 = some ⟨.other, 1, 8, [.v .nilFunc]⟩ := rfl
theorem td49 : tdOf Γ 49 = some (.other) := rfl
theorem Γ50 : Γ 50 = some ⟨.slice 56, 1, 24, [.ds true 0 []]⟩ := rfl
theorem td50 : tdOf Γ 50 = some (.slice 56) := rfl
theorem sl50 : sliceOf Γ 50 = some (56, ⟨.struct [(0, 3), (1, 54), (2, 3)], 3, 40, [.v (.int .i64 0), .ds true 0 [], .v (.int .i64 0)]⟩) := rfl
theorem Γ51 : Γ 51 = some ⟨.slice 3, 1, 24, [.ds true 0 []]⟩ := rfl
theorem td51 : tdOf Γ 51 = some (.slice 3) := rfl
theorem sl51 : sliceOf Γ 51 = some (3, ⟨.int .i64, 1, 8, [.v (.int .i64 0)]⟩) := rfl
theorem Γ53 : Γ 53 = some ⟨.other, 1, 8, [.v .nilFunc]⟩ := rfl
theorem td53 : tdOf Γ 53 = some (.other) := rfl
theorem Γ54 : Γ 54 = some ⟨.slice 61, 1, 24, [.ds true 0 []]⟩ := rfl
theorem td54 : tdOf Γ 54 = some (.slice 61) := rfl
theorem sl54 : sliceOf Γ 54 = some (61, ⟨.arr 20 5, 20, 20, (List.replicate 20 (.v (.int .u8 0)))⟩) := rfl
theorem Γ55 : Γ 55 = some ⟨.struct [(0, 3), (1, 54), (2, 3)], 3, 40, [.v (.int .i64 0), .ds true 0 [], .v (.int .i64 0)]⟩ := rfl
theorem td55 : tdOf Γ 55 = some (.struct [(0, 3), (1, 54), (2, 3)]) := rfl
theorem fo55_0 : fieldOff Γ 55 0 = some (0, 3) := rfl
theorem fo55_1 : fieldOff Γ 55 1 = some (1, 54) := rfl
theorem fo55_2 : fieldOff Γ 55 2 = some (2, 3) := rfl
theorem Γ56 : Γ 56 = some ⟨.struct [(0, 3), (1, 54), (2, 3)], 3, 40, [.v (.int .i64 0), .ds true 0 [], .v (.int .i64 0)]⟩ := rfl
theorem td56 : tdOf Γ 56 = some (.struct [(0, 3), (1, 54), (2, 3)]) := rfl
theorem fo56_0 : fieldOff Γ 56 0 = some (0, 3) := rfl
theorem fo56_1 : fieldOff Γ 56 1 = some (1, 54) := rfl
theorem fo56_2 : fieldOff Γ 56 2 = some (2, 3) := rfl
theorem Γ58 : Γ 58 = some ⟨.other, 1, 8, [.v .nilFunc]⟩ := rfl
theorem td58 : tdOf Γ 58 = some (.other) := rfl
theorem Γ59 : Γ 59 = some ⟨.other, 1, 8, [.v .nilFunc]⟩ := rfl
theorem td59 : tdOf Γ 59 = some (.other) := rfl
theorem Γ60 : Γ 60 = some ⟨.arr 20 5, 20, 20, (List.replicate 20 (.v (.int .u8 0)))⟩ := rfl
theorem td60 : tdOf Γ 60 = some (.arr 20 5) := rfl
theorem ar60 : arrOf Γ 60 = some (20, 5, 1) := rfl
theorem Γ61 : Γ 61 = some ⟨.arr 20 5, 20, 20, (List.replicate 20 (.v (.int .u8 0)))⟩ := rfl
theorem td61 : tdOf Γ 61 = some (.arr 20 5) := rfl
theorem ar61 : arrOf Γ 61 = some (20, 5, 1) := rfl
theorem Γ62 : Γ 62 = some ⟨.other, 1, 8, [.v .nilFunc]⟩ := rfl
theorem td62 : tdOf Γ 62 = some (.other) := rfl
theorem Γ63 : Γ 63 = some ⟨.slice 69, 1, 24, [.ds true 0 []]⟩ := rfl
theorem td63 : tdOf Γ 63 = some (.slice 69) := rfl
theorem sl63 : sliceOf Γ 63 = some (69, ⟨.struct [(0, 3), (1, 3), (2, 67)], 3, 40, [.v (.int .i64 0), .v (.int .i64 0), .ds true 0 []]⟩) := rfl
theorem Γ64 : Γ 64 = some ⟨.struct [(0, 63), (1, 3), (2, 3)], 3, 40, [.ds true 0 [], .v (.int .i64 0), .v (.int .i64 0)]⟩ := rfl
theorem td64 : tdOf Γ 64 = some (.struct [(0, 63), (1, 3), (2, 3)]) := rfl
theorem fo64_0 : fieldOff Γ 64 0 = some (0, 63) := rfl
theorem fo64_1 : fieldOff Γ 64 1 = some (1, 3) := rfl
theorem fo64_2 : fieldOff Γ 64 2 = some (2, 3) := rfl
theorem Γ65 : Γ 65 = some ⟨.struct [(0, 63), (1, 3), (2, 3)], 3, 40, [.ds true 0 [], .v (.int .i64 0), .v (.int .i64 0)]⟩ := rfl
theorem td65 : tdOf Γ 65 = some (.struct [(0, 63), (1, 3), (2, 3)]) := rfl
theorem fo65_0 : fieldOff Γ 65 0 = some (0, 63) := rfl
theorem fo65_1 : fieldOff Γ 65 1 = some (1, 3) := rfl
theorem fo65_2 : fieldOff Γ 65 2 = some (2, 3) := rfl
theorem Γ66 : Γ 66 = some ⟨.other, 1, 8, [.v .nilFunc]⟩ := rfl
theorem td66 : tdOf Γ 66 = some (.other) := rfl
theorem Γ67 : Γ 67 = some ⟨.slice 98, 1, 24, [.ds true 0 []]⟩ := rfl
theorem td67 : tdOf Γ 67 = some (.slice 98) := rfl
theorem sl67 : sliceOf Γ 67 = some (98, ⟨.struct [(0, 3), (1, 95), (33, 95), (65, 3), (66, 96), (70, 96), (74, 95), (106, 3), (107, 3), (108, 33)], 109, 216, [.v (.int .i64 0), .v (.int .u8 0), .v (.int .u8 0), .v (.int .u8 0), .v (.int .u8 0), .v (.int .u8 0), .v (.int .u8 0), .v (.int .u8 0), .v (.int .u8 0), .v (.int .u8 0), .v (.int .u8 0), .v (.int .u8 0), .v (.int .u8 0), .v (.int .u8 0), .v (.int .u8 0), .v (.int .u8 0), .v (.int .u8 0), .v (.int .u8 0), .v (.int .u8 0), .v (.int .u8 0), .v (.int .u8 0), .v (.int .u8 0), .v (.int .u8 0), .v (.int .u8 0), .v (.int .u8 0), .v (.int .u8 0), .v (.int .u8 0), .v (.int .u8 0), .v (.int .u8 0), .v (.int .u8 0), .v (.int .u8 0), .v (.int .u8 0), .v (.int .u8 0), .v (.int .u8 0), .v (.int .u8 0), .v (.int .u8 0), .v (.int .u8 0), .v (.int .u8 0), .v (.int .u8 0), .v (.int .u8 0), .v (.int .u8 0), .v (.int .u8 0), .v (.int .u8 0), .v (.int .u8 0), .v (.int .u8 0), .v (.int .u8 0), .v (.int .u8 0), .v (.int .u8 0), .v (.int .u8 0), .v (.int .u8 0), .v (.int .u8 0), .v (.int .u8 0), .v (.int .u8 0), .v (.int .u8 0), .v (.int .u8 0), .v (.int .u8 0), .v (.int .u8 0), .v (.int .u8 0), .v (.int .u8 0), .v (.int .u8 0), .v (.int .u8 0), .v (.int .u8 0), .v (.int .u8 0), .v (.int .u8 0), .v (.int .u8 0), .v (.int .i64 0), .v (.int .u64 0), .v (.int .u64 0), .v (.int .u64 0), .v (.int .u64 0), .v (.int .u64 0), .v (.int .u64 0), .v (.int .u64 0), .v (.int .u64 0), .v (.int .u8 0), .v (.int .u8 0), .v (.int .u8 0), .v (.int .u8 0), .v (.int .u8 0), .v (.int .u8 0), .v (.int .u8 0), .v (.int .u8 0), .v (.int .u8 0), .v (.int .u8 0), .v (.int .u8 0), .v (.int .u8 0), .v (.int .u8 0), .v (.int .u8 0), .v (.int .u8 0), .v (.int .u8 0), .v (.int .u8 0), .v (.int .u8 0), .v (.int .u8 0), .v (.int .u8 0), .v (.int .u8 0), .v (.int .u8 0), .v (.int .u8 0), .v (.int .u8 0), .v (.int .u8 0), .v (.int .u8 0), .v (.int .u8 0), .v (.int .u8 0), .v (.int .u8 0), .v (.int .u8 0), .v (.int .u8 0), .v (.int .u8 0), .v (.int .i64 0), .v (.int .i64 0), .ds true 0 []]⟩) := rfl
theorem Γ68 : Γ 68 = some ⟨.struct [(0, 3), (1, 3), (2, 67)], 3, 40, [.v (.int .i64 0), .v (.int .i64 0), .ds true 0 []]⟩ := rfl
theorem td68 : tdOf Γ 68 = some (.struct [(0, 3), (1, 3), (2, 67)]) := rfl
theorem fo68_0 : fieldOff Γ 68 0 = some (0, 3) := rfl
theorem fo68_1 : fieldOff Γ 68 1 = some (1, 3) := rfl
theorem fo68_2 : fieldOff Γ 68 2 = some (2, 67) := rfl
theorem Γ69 : Γ 69 = some ⟨.struct [(0, 3), (1, 3), (2, 67)], 3, 40, [.v (.int .i64 0), .v (.int .i64 0), .ds true 0 []]⟩ := rfl
theorem td69 : tdOf Γ 69 = some (.struct [(0, 3), (1, 3), (2, 67)]) := rfl
theorem fo69_0 : fieldOff Γ 69 0 = some (0, 3) := rfl
theorem fo69_1 : fieldOff Γ 69 1 = some (1, 3) := rfl
theorem fo69_2 : fieldOff Γ 69 2 = some (2, 67) := rfl
theorem Γ71 : Γ 71 = some ⟨.other, 1, 8, [.v .nilFunc]⟩ := rfl
theorem td71 : tdOf Γ 71 = some (.other) := rfl
theorem Γ73 : Γ 73 = some ⟨.other, 1, 8, [.v .nilFunc]⟩ := rfl
theorem td73 : tdOf Γ 73 = some (.other) := rfl
theorem Γ74 : Γ 74 = some ⟨.other, 1, 8, [.v .nilFunc]⟩ := rfl
theorem td74 : tdOf Γ 74 = some (.other) := rfl
theorem Γ75 : Γ 75 = some ⟨.struct [(0, 3), (1, 3), (2, 3), (3, 9)], 4, 40, [.v (.int .i64 0), .v (.int .i64 0), .v (.int .i64 0), .v (.string ByteArray.empty)]⟩ := rfl
theorem td75 : tdOf Γ 75 = some (.struct [(0, 3), (1, 3), (2, 3), (3, 9)]) := rfl
theorem fo75_0 : fieldOff Γ 75 0 = some (0, 3) := rfl
theorem fo75_1 : fieldOff Γ 75 1 = some (1, 3) := rfl
theorem fo75_2 : fieldOff Γ 75 2 = some (2, 3) := rfl
theorem fo75_3 : fieldOff Γ 75 3 = some (3, 9) := rfl
theorem Γ76 : Γ 76 = some ⟨.struct [(0, 3), (1, 3), (2, 3), (3, 9)], 4, 40, [.v (.int .i64 0), .v (.int .i64 0), .v (.int .i64 0), .v (.string ByteArray.empty)]⟩ := rfl
theorem td76 : tdOf Γ 76 = some (.struct [(0, 3), (1, 3), (2, 3), (3, 9)]) := rfl
theorem fo76_0 : fieldOff Γ 76 0 = some (0, 3) := rfl
theorem fo76_1 : fieldOff Γ 76 1 = some (1, 3) := rfl
theorem fo76_2 : fieldOff Γ 76 2 = some (2, 3) := rfl
theorem fo76_3 : fieldOff Γ 76 3 = some (3, 9) := rfl
theorem Γ77 : Γ 77 = some ⟨.other, 1, 8, [.v .nilFunc]⟩ := rfl
theorem td77 : tdOf Γ 77 = some (.other) := rfl
theorem Γ78 : Γ 78 = some ⟨.other, 1, 8, [.v .nilFunc]⟩ := rfl
theorem td78 : tdOf Γ 78 = some (.other) := rfl
theorem Γ79 : Γ 79 = some ⟨.other, 1, 8, [.v .nilFunc]⟩ := rfl
theorem td79 : tdOf Γ 79 = some (.other) := rfl
theorem Γ80 : Γ 80 = some ⟨.other, 1, 8, [.v .nilFunc]⟩ := rfl
theorem td80 : tdOf Γ 80 = some (.other) := rfl
theorem Γ81 : Γ 81 = some ⟨.other, 1, 8, [.v .nilFunc]⟩ := rfl
theorem td81 : tdOf Γ 81 = some (.other) := rfl
theorem Γ82 : Γ 82 = some ⟨.other, 1, 8, [.v .nilFunc]⟩ := rfl
theorem td82 : tdOf Γ 82 = some (.other) := rfl
theorem Γ83 : Γ 83 = some ⟨.int .u64, 1, 8, [.v (.int .u64 0)]⟩ := rfl
theorem td83 : tdOf Γ 83 = some (.int .u64) := rfl
theorem Γ84 : Γ 84 = some ⟨.other, 1, 8, [.v .nilFunc]⟩ := rfl
theorem td84 : tdOf Γ 84 = some (.other) := rfl
theorem Γ86 : Γ 86 = some ⟨.other, 1, 8, [.v .nilFunc]⟩ := rfl
theorem td86 : tdOf Γ 86 = some (.other) := rfl
theorem Γ87 : Γ 87 = some ⟨.other, 1, 8, [.v .nilFunc]⟩ := rfl
theorem td87 : tdOf Γ 87 = some (.other) := rfl
theorem Γ88 : Γ 88 = some ⟨.other, 1, 8, [.v .nilFunc]⟩ := rfl
theorem td88 : tdOf Γ 88 = some (.other) := rfl
theorem Γ89 : Γ 89 = some ⟨.other, 1, 8, [.v .nilFunc]⟩ := rfl
theorem td89 : tdOf Γ 89 = some (.other) := rfl
theorem Γ90 : Γ 90 = some ⟨.other, 1, 8, [.v .nilFunc]⟩ := rfl
theorem td90 : tdOf Γ 90 = some (.other) := rfl
theorem Γ91 : Γ 91 = some ⟨.other, 1, 8, [.v .nilFunc]⟩ := rfl
theorem td91 : tdOf Γ 91 = some (.other) := rfl
theorem Γ92 : Γ 92 = some ⟨.other, 1, 8, [.v .nilFunc]⟩ := rfl
theorem td92 : tdOf Γ 92 = some (.other) := rfl
theorem Γ93 : Γ 93 = some ⟨.other, 1, 8, [.v .nilFunc]⟩ := rfl
theorem td93 : tdOf Γ 93 = some (.other) := rfl
theorem Γ94 : Γ 94 = some ⟨.other, 1, 8, [.v .nilFunc]⟩ := rfl
theorem td94 : tdOf Γ 94 = some (.other) := rfl
theorem Γ95 : Γ 95 = some ⟨.arr 32 5, 32, 32, (List.replicate 32 (.v (.int .u8 0)))⟩ := rfl
theorem td95 : tdOf Γ 95 = some (.arr 32 5) := rfl
theorem ar95 : arrOf Γ 95 = some (32, 5, 1) := rfl
theorem Γ96 : Γ 96 = some ⟨.arr 4 22, 4, 32, [.v (.int .u64 0), .v (.int .u64 0), .v (.int .u64 0), .v (.int .u64 0)]⟩ := rfl
theorem td96 : tdOf Γ 96 = some (.arr 4 22) := rfl
theorem ar96 : arrOf Γ 96 = some (4, 22, 1) := rfl
theorem Γ97 : Γ 97 = some ⟨.struct [(0, 3), (1, 95), (33, 95), (65, 3), (66, 96), (70, 96), (74, 95), (106, 3), (107, 3), (108, 33)], 109, 216, [.v (.int .i64 0), .v (.int .u8 0), .v (.int .u8 0), .v (.int .u8 0), .v (.int .u8 0), .v (.int .u8 0), .v (.int .u8 0), .v (.int .u8 0), .v (.int .u8 0), .v (.int .u8 0), .v (.int .u8 0), .v (.int .u8 0), .v (.int .u8 0), .v (.int .u8 0), .v (.int .u8 0), .v (.int .u8 0), .v (.int .u8 0), .v (.int .u8 0), .v (.int .u8 0), .v (.int .u8 0), .v (.int .u8 0), .v (.int .u8 0), .v (.int .u8 0), .v (.int .u8 0), .v (.int .u8 0), .v (.int .u8 0), .v (.int .u8 0), .v (.int .u8 0), .v (.int .u8 0), .v (.int .u8 0), .v (.int .u8 0), .v (.int .u8 0), .v (.int .u8 0), .v (.int .u8 0), .v (.int .u8 0), .v (.int .u8 0), .v (.int .u8 0), .v (.int .u8 0), .v (.int .u8 0), .v (.int .u8 0), .v (.int .u8 0), .v (.int .u8 0), .v (.int .u8 0), .v (.int .u8 0), .v (.int .u8 0), .v (.int .u8 0), .v (.int .u8 0), .v (.int .u8 0), .v (.int .u8 0), .v (.int .u8 0), .v (.int .u8 0), .v (.int .u8 0), .v (.int .u8 0), .v (.int .u8 0), .v (.int .u8 0), .v (.int .u8 0), .v (.int .u8 0), .v (.int .u8 0), .v (.int .u8 0), .v (.int .u8 0), .v (.int .u8 0), .v (.int .u8 0), .v (.int .u8 0), .v (.int .u8 0), .v (.int .u8 0), .v (.int .i64 0), .v (.int .u64 0), .v (.int .u64 0), .v (.int .u64 0), .v (.int .u64 0), .v (.int .u64 0), .v (.int .u64 0), .v (.int .u64 0), .v (.int .u64 0), .v (.int .u8 0), .v (.int .u8 0), .v (.int .u8 0), .v (.int .u8 0), .v (.int .u8 0), .v (.int .u8 0), .v (.int .u8 0), .v (.int .u8 0), .v (.int .u8 0), .v (.int .u8 0), .v (.int .u8 0), .v (.int .u8 0), .v (.int .u8 0), .v (.int .u8 0), .v (.int .u8 0), .v (.int .u8 0), .v (.int .u8 0), .v (.int .u8 0), .v (.int .u8 0), .v (.int .u8 0), .v (.int .u8 0), .v (.int .u8 0), .v (.int .u8 0), .v (.int .u8 0), .v (.int .u8 0), .v (.int .u8 0), .v (.int .u8 0), .v (.int .u8 0), .v (.int .u8 0), .v (.int .u8 0), .v (.int .u8 0), .v (.int .u8 0), .v (.int .i64 0), .v (.int .i64 0), .ds true 0 []]⟩ := rfl
theorem td97 : tdOf Γ 97 = some (.struct [(0, 3), (1, 95), (33, 95), (65, 3), (66, 96), (70, 96), (74, 95), (106, 3), (107, 3), (108, 33)]) := rfl
theorem fo97_0 : fieldOff Γ 97 0 = some (0, 3) := rfl
theorem fo97_1 : fieldOff Γ 97 1 = some (1, 95) := rfl
theorem fo97_2 : fieldOff Γ 97 2 = some (33, 95) := rfl
theorem fo97_3 : fieldOff Γ 97 3 = some (65, 3) := rfl
theorem fo97_4 : fieldOff Γ 97 4 = some (66, 96) := rfl
theorem fo97_5 : fieldOff Γ 97 5 = some (70, 96) := rfl
theorem fo97_6 : fieldOff Γ 97 6 = some (74, 95) := rfl
theorem fo97_7 : fieldOff Γ 97 7 = some (106, 3) := rfl
theorem fo97_8 : fieldOff Γ 97 8 = some (107, 3) := rfl
theorem fo97_9 : fieldOff Γ 97 9 = some (108, 33) := rfl
theorem Γ98 : Γ 98 = some ⟨.struct [(0, 3), (1, 95), (33, 95), (65, 3), (66, 96), (70, 96), (74, 95), (106, 3), (107, 3), (108, 33)], 109, 216, [.v (.int .i64 0), .v (.int .u8 0), .v (.int .u8 0), .v (.int .u8 0), .v (.int .u8 0), .v (.int .u8 0), .v (.int .u8 0), .v (.int .u8 0), .v (.int .u8 0), .v (.int .u8 0), .v (.int .u8 0), .v (.int .u8 0), .v (.int .u8 0), .v (.int .u8 0), .v (.int .u8 0), .v (.int .u8 0), .v (.int .u8 0), .v (.int .u8 0), .v (.int .u8 0), .v (.int .u8 0), .v (.int .u8 0), .v (.int .u8 0), .v (.int .u8 0), .v (.int .u8 0), .v (.int .u8 0), .v (.int .u8 0), .v (.int .u8 0), .v (.int .u8 0), .v (.int .u8 0), .v (.int .u8 0), .v (.int .u8 0), .v (.int .u8 0), .v (.int .u8 0), .v (.int .u8 0), .v (.int .u8 0), .v (.int .u8 0), .v (.int .u8 0), .v (.int .u8 0), .v (.int .u8 0), .v (.int .u8 0), .v (.int .u8 0), .v (.int .u8 0), .v (.int .u8 0), .v (.int .u8 0), .v (.int .u8 0), .v (.int .u8 0), .v (.int .u8 0), .v (.int .u8 0), .v (.int .u8 0), .v (.int .u8 0), .v (.int .u8 0), .v (.int .u8 0), .v (.int .u8 0), .v (.int .u8 0), .v (.int .u8 0), .v (.int .u8 0), .v (.int .u8 0), .v (.int .u8 0), .v (.int .u8 0), .v (.int .u8 0), .v (.int .u8 0), .v (.int .u8 0), .v (.int .u8 0), .v (.int .u8 0), .v (.int .u8 0), .v (.int .i64 0), .v (.int .u64 0), .v (.int .u64 0), .v (.int .u64 0), .v (.int .u64 0), .v (.int .u64 0), .v (.int .u64 0), .v (.int .u64 0), .v (.int .u64 0), .v (.int .u8 0), .v (.int .u8 0), .v (.int .u8 0), .v (.int .u8 0), .v (.int .u8 0), .v (.int .u8 0), .v (.int .u8 0), .v (.int .u8 0), .v (.int .u8 0), .v (.int .u8 0), .v (.int .u8 0), .v (.int .u8 0), .v (.int .u8 0), .v (.int .u8 0), .v (.int .u8 0), .v (.int .u8 0), .v (.int .u8 0), .v (.int .u8 0), .v (.int .u8 0), .v (.int .u8 0), .v (.int .u8 0), .v (.int .u8 0), .v (.int .u8 0), .v (.int .u8 0), .v (.int .u8 0), .v (.int .u8 0), .v (.int .u8 0), .v (.int .u8 0), .v (.int .u8 0), .v (.int .u8 0), .v (.int .u8 0), .v (.int .u8 0), .v (.int .i64 0), .v (.int .i64 0), .ds true 0 []]⟩ := rfl
theorem td98 : tdOf Γ 98 = some (.struct [(0, 3), (1, 95), (33, 95), (65, 3), (66, 96), (70, 96), (74, 95), (106, 3), (107, 3), (108, 33)]) := rfl
theorem fo98_0 : fieldOff Γ 98 0 = some (0, 3) := rfl
theorem fo98_1 : fieldOff Γ 98 1 = some (1, 95) := rfl
theorem fo98_2 : fieldOff Γ 98 2 = some (33, 95) := rfl
theorem fo98_3 : fieldOff Γ 98 3 = some (65, 3) := rfl
theorem fo98_4 : fieldOff Γ 98 4 = some (66, 96) := rfl
theorem fo98_5 : fieldOff Γ 98 5 = some (70, 96) := rfl
theorem fo98_6 : fieldOff Γ 98 6 = some (74, 95) := rfl
theorem fo98_7 : fieldOff Γ 98 7 = some (106, 3) := rfl
theorem fo98_8 : fieldOff Γ 98 8 = some (107, 3) := rfl
theorem fo98_9 : fieldOff Γ 98 9 = some (108, 33) := rfl
theorem Γ99 : Γ 99 = some ⟨.other, 1, 8, [.v .nilFunc]⟩ := rfl
theorem td99 : tdOf Γ 99 = some (.other) := rfl
theorem Γ100 : Γ 100 = some ⟨.other, 1, 8, [.v .nilFunc]⟩ := rfl
theorem td100 : tdOf Γ 100 = some (.other) := rfl
theorem Γ101 : Γ 101 = some ⟨.struct [(0, 17), (1, 17), (2, 17), (3, 9)], 4, 40, [.v (.pointer none), .v (.pointer none), .v (.pointer none), .v (.string ByteArray.empty)]⟩ := rfl
theorem td101 : tdOf Γ 101 = some (.struct [(0, 17), (1, 17), (2, 17), (3, 9)]) := rfl
theorem fo101_0 : fieldOff Γ 101 0 = some (0, 17) := rfl
theorem fo101_1 : fieldOff Γ 101 1 = some (1, 17) := rfl
theorem fo101_2 : fieldOff Γ 101 2 = some (2, 17) := rfl
theorem fo101_3 : fieldOff Γ 101 3 = some (3, 9) := rfl
theorem Γ103 : Γ 103 = some ⟨.arr 0 16, 0, 0, []⟩ := rfl
theorem td103 : tdOf Γ 103 = some (.arr 0 16) := rfl
theorem Γ104 : Γ 104 = some ⟨.struct [(0, 103)], 0, 0, []⟩ := rfl
theorem td104 : tdOf Γ 104 = some (.struct [(0, 103)]) := rfl
theorem fo104_0 : fieldOff Γ 104 0 = some (0, 103) := rfl
theorem Γ106 : Γ 106 = some ⟨.other, 1, 8, [.v .nilFunc]⟩ := rfl
theorem td106 : tdOf Γ 106 = some (.other) := rfl
theorem Γ107 : Γ 107 = some ⟨.int .u32, 1, 4, [.v (.int .u32 0)]⟩ := rfl
theorem td107 : tdOf Γ 107 = some (.int .u32) := rfl
theorem Γ110 : Γ 110 = some ⟨.other, 1, 8, [.v .nilFunc]⟩ := rfl
theorem td110 : tdOf Γ 110 = some (.other) := rfl
theorem Γ111 : Γ 111 = some ⟨.ptr, 1, 8, [.v (.pointer none)]⟩ := rfl
theorem td111 : tdOf Γ 111 = some (.ptr) := rfl
theorem Γ114 : Γ 114 = some ⟨.struct [(0, 12), (1, 12), (2, 107), (3, 108), (4, 5), (5, 5), (6, 109), (7, 110), (8, 111), (9, 112), (10, 113)], 11, 48, [.v (.int .u64 0), .v (.int .u64 0), .v (.int .u32 0), .v (.int .u8 0), .v (.int .u8 0), .v (.int .u8 0), .v (.int .u8 0), .v .nilFunc, .v (.pointer none), .v (.int .i32 0), .v (.int .i32 0)]⟩ := rfl
theorem td114 : tdOf Γ 114 = some (.struct [(0, 12), (1, 12), (2, 107), (3, 108), (4, 5), (5, 5), (6, 109), (7, 110), (8, 111), (9, 112), (10, 113)]) := rfl
theorem fo114_0 : fieldOff Γ 114 0 = some (0, 12) := rfl
theorem fo114_1 : fieldOff Γ 114 1 = some (1, 12) := rfl
theorem fo114_2 : fieldOff Γ 114 2 = some (2, 107) := rfl
theorem fo114_3 : fieldOff Γ 114 3 = some (3, 108) := rfl
theorem fo114_4 : fieldOff Γ 114 4 = some (4, 5) := rfl
theorem fo114_5 : fieldOff Γ 114 5 = some (5, 5) := rfl
theorem fo114_6 : fieldOff Γ 114 6 = some (6, 109) := rfl
theorem fo114_7 : fieldOff Γ 114 7 = some (7, 110) := rfl
theorem fo114_8 : fieldOff Γ 114 8 = some (8, 111) := rfl
theorem fo114_9 : fieldOff Γ 114 9 = some (9, 112) := rfl
theorem fo114_10 : fieldOff Γ 114 10 = some (10, 113) := rfl
theorem Γok : TabOk Try.prog Γ := tabOk (by kernel_rfl)
theorem mixed : Try.prog.follows .mixedOrders = true := by kernel_rfl
end Go.Proofs.Ytgabjdpbkdmchaa
