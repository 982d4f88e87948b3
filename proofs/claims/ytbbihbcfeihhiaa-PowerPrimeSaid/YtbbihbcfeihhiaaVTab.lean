/- The table of the program's types, for the engine. -/
import Derived.Test.YtbbihbcfeihhiaaVd
import Derived.Test.YtbbihbcfeihhiaaRows
import Derived.ProofKit
namespace Go.Proofs.Ytbbihbcfeihhiaa
open Go.RowKit
def Γl : List (TypeId × TR) := [
  (1, ⟨.other, 1, 8, [.v .nilFunc]⟩),
  (2, ⟨.int .i64, 1, 8, [.v (.int .i64 0)]⟩),
  (3, ⟨.int .i64, 1, 8, [.v (.int .i64 0)]⟩),
  (4, ⟨.bool, 1, 1, [.v (.bool false)]⟩),
  (5, ⟨.int .u8, 1, 1, [.v (.int .u8 0)]⟩),
  (7, ⟨.struct [(0, 2), (1, 3), (2, 4), (3, 6)], 4, 24, [.v (.int .i64 0), .v (.int .i64 0), .v (.bool false), .v (.int .u8 0)]⟩),
  (9, ⟨.str, 1, 16, [.v (.string ByteArray.empty)]⟩),
  (12, ⟨.int .u64, 1, 8, [.v (.int .u64 0)]⟩),
  (13, ⟨.struct [(0, 9), (1, 12)], 2, 24, [.v (.string ByteArray.empty), .v (.int .u64 0)]⟩),
  (21, ⟨.int .i32, 1, 4, [.v (.int .i32 0)]⟩),
  (22, ⟨.struct [(0, 3), (1, 3), (2, 3), (3, 9)], 4, 40, [.v (.int .i64 0), .v (.int .i64 0), .v (.int .i64 0), .v (.string ByteArray.empty)]⟩),
  (23, ⟨.struct [(0, 3), (1, 3), (2, 3), (3, 9)], 4, 40, [.v (.int .i64 0), .v (.int .i64 0), .v (.int .i64 0), .v (.string ByteArray.empty)]⟩),
  (24, ⟨.int .u64, 1, 8, [.v (.int .u64 0)]⟩),
  (25, ⟨.arr 4 24, 4, 32, [.v (.int .u64 0), .v (.int .u64 0), .v (.int .u64 0), .v (.int .u64 0)]⟩),
  (26, ⟨.arr 4 24, 4, 32, [.v (.int .u64 0), .v (.int .u64 0), .v (.int .u64 0), .v (.int .u64 0)]⟩),
  (27, ⟨.other, 1, 8, [.v .nilFunc]⟩),
  (28, ⟨.other, 1, 8, [.v .nilFunc]⟩),
  (29, ⟨.int .i64, 1, 8, [.v (.int .i64 0)]⟩),
  (31, ⟨.other, 1, 8, [.v .nilFunc]⟩),
  (33, ⟨.other, 1, 8, [.v .nilFunc]⟩),
  (35, ⟨.other, 1, 8, [.v .nilFunc]⟩),
  (36, ⟨.other, 1, 8, [.v .nilFunc]⟩),
  (37, ⟨.other, 1, 8, [.v .nilFunc]⟩),
  (38, ⟨.other, 1, 8, [.v .nilFunc]⟩),
  (39, ⟨.slice 26, 1, 24, [.ds true 0 []]⟩),
  (41, ⟨.other, 1, 8, [.v .nilFunc]⟩),
  (42, ⟨.other, 1, 8, [.v .nilFunc]⟩),
  (43, ⟨.other, 1, 8, [.v .nilFunc]⟩),
  (44, ⟨.other, 1, 8, [.v .nilFunc]⟩),
  (45, ⟨.other, 1, 8, [.v .nilFunc]⟩),
  (46, ⟨.other, 1, 8, [.v .nilFunc]⟩),
  (47, ⟨.int .u64, 1, 8, [.v (.int .u64 0)]⟩),
  (48, ⟨.other, 1, 8, [.v .nilFunc]⟩),
  (49, ⟨.other, 1, 8, [.v .nilFunc]⟩),
  (50, ⟨.other, 1, 8, [.v .nilFunc]⟩),
  (51, ⟨.other, 1, 8, [.v .nilFunc]⟩),
  (52, ⟨.struct [(0, 26), (4, 26), (8, 4)], 9, 72, [.v (.int .u64 0), .v (.int .u64 0), .v (.int .u64 0), .v (.int .u64 0), .v (.int .u64 0), .v (.int .u64 0), .v (.int .u64 0), .v (.int .u64 0), .v (.bool false)]⟩),
  (53, ⟨.struct [(0, 26), (4, 26), (8, 4)], 9, 72, [.v (.int .u64 0), .v (.int .u64 0), .v (.int .u64 0), .v (.int .u64 0), .v (.int .u64 0), .v (.int .u64 0), .v (.int .u64 0), .v (.int .u64 0), .v (.bool false)]⟩),
  (54, ⟨.struct [(0, 26), (4, 26), (8, 26), (12, 26), (16, 53)], 25, 200, [.v (.int .u64 0), .v (.int .u64 0), .v (.int .u64 0), .v (.int .u64 0), .v (.int .u64 0), .v (.int .u64 0), .v (.int .u64 0), .v (.int .u64 0), .v (.int .u64 0), .v (.int .u64 0), .v (.int .u64 0), .v (.int .u64 0), .v (.int .u64 0), .v (.int .u64 0), .v (.int .u64 0), .v (.int .u64 0), .v (.int .u64 0), .v (.int .u64 0), .v (.int .u64 0), .v (.int .u64 0), .v (.int .u64 0), .v (.int .u64 0), .v (.int .u64 0), .v (.int .u64 0), .v (.bool false)]⟩),
  (55, ⟨.struct [(0, 26), (4, 26), (8, 26), (12, 26), (16, 53)], 25, 200, [.v (.int .u64 0), .v (.int .u64 0), .v (.int .u64 0), .v (.int .u64 0), .v (.int .u64 0), .v (.int .u64 0), .v (.int .u64 0), .v (.int .u64 0), .v (.int .u64 0), .v (.int .u64 0), .v (.int .u64 0), .v (.int .u64 0), .v (.int .u64 0), .v (.int .u64 0), .v (.int .u64 0), .v (.int .u64 0), .v (.int .u64 0), .v (.int .u64 0), .v (.int .u64 0), .v (.int .u64 0), .v (.int .u64 0), .v (.int .u64 0), .v (.int .u64 0), .v (.int .u64 0), .v (.bool false)]⟩),
  (56, ⟨.other, 1, 8, [.v .nilFunc]⟩),
  (57, ⟨.other, 1, 8, [.v .nilFunc]⟩),
  (58, ⟨.slice 23, 1, 24, [.ds true 0 []]⟩),
  (59, ⟨.slice 72, 1, 24, [.ds true 0 []]⟩),
  (60, ⟨.struct [(0, 26), (4, 59)], 5, 56, [.v (.int .u64 0), .v (.int .u64 0), .v (.int .u64 0), .v (.int .u64 0), .ds true 0 []]⟩),
  (61, ⟨.struct [(0, 26), (4, 59)], 5, 56, [.v (.int .u64 0), .v (.int .u64 0), .v (.int .u64 0), .v (.int .u64 0), .ds true 0 []]⟩),
  (63, ⟨.other, 1, 8, [.v .nilFunc]⟩),
  (64, ⟨.other, 1, 8, [.v .nilFunc]⟩),
  (65, ⟨.arr 32 5, 32, 32, (List.replicate 32 (.v (.int .u8 0)))⟩),
  (66, ⟨.other, 1, 8, [.v .nilFunc]⟩),
  (67, ⟨.other, 1, 8, [.v .nilFunc]⟩),
  (68, ⟨.other, 1, 8, [.v .nilFunc]⟩),
  (70, ⟨.other, 1, 8, [.v .nilFunc]⟩),
  (71, ⟨.struct [(0, 65), (32, 26)], 36, 64, [.v (.int .u8 0), .v (.int .u8 0), .v (.int .u8 0), .v (.int .u8 0), .v (.int .u8 0), .v (.int .u8 0), .v (.int .u8 0), .v (.int .u8 0), .v (.int .u8 0), .v (.int .u8 0), .v (.int .u8 0), .v (.int .u8 0), .v (.int .u8 0), .v (.int .u8 0), .v (.int .u8 0), .v (.int .u8 0), .v (.int .u8 0), .v (.int .u8 0), .v (.int .u8 0), .v (.int .u8 0), .v (.int .u8 0), .v (.int .u8 0), .v (.int .u8 0), .v (.int .u8 0), .v (.int .u8 0), .v (.int .u8 0), .v (.int .u8 0), .v (.int .u8 0), .v (.int .u8 0), .v (.int .u8 0), .v (.int .u8 0), .v (.int .u8 0), .v (.int .u64 0), .v (.int .u64 0), .v (.int .u64 0), .v (.int .u64 0)]⟩),
  (72, ⟨.struct [(0, 65), (32, 26)], 36, 64, [.v (.int .u8 0), .v (.int .u8 0), .v (.int .u8 0), .v (.int .u8 0), .v (.int .u8 0), .v (.int .u8 0), .v (.int .u8 0), .v (.int .u8 0), .v (.int .u8 0), .v (.int .u8 0), .v (.int .u8 0), .v (.int .u8 0), .v (.int .u8 0), .v (.int .u8 0), .v (.int .u8 0), .v (.int .u8 0), .v (.int .u8 0), .v (.int .u8 0), .v (.int .u8 0), .v (.int .u8 0), .v (.int .u8 0), .v (.int .u8 0), .v (.int .u8 0), .v (.int .u8 0), .v (.int .u8 0), .v (.int .u8 0), .v (.int .u8 0), .v (.int .u8 0), .v (.int .u8 0), .v (.int .u8 0), .v (.int .u8 0), .v (.int .u8 0), .v (.int .u64 0), .v (.int .u64 0), .v (.int .u64 0), .v (.int .u64 0)]⟩),
  (73, ⟨.other, 1, 8, [.v .nilFunc]⟩),
  (74, ⟨.other, 1, 8, [.v .nilFunc]⟩),
  (75, ⟨.other, 1, 8, [.v .nilFunc]⟩),
  (76, ⟨.other, 1, 8, [.v .nilFunc]⟩),
  (78, ⟨.other, 1, 8, [.v .nilFunc]⟩),
  (80, ⟨.other, 1, 8, [.v .nilFunc]⟩),
  (81, ⟨.other, 1, 8, [.v .nilFunc]⟩),
  (82, ⟨.other, 1, 8, [.v .nilFunc]⟩),
  (83, ⟨.other, 1, 8, [.v .nilFunc]⟩),
  (84, ⟨.other, 1, 8, [.v .nilFunc]⟩),
  (85, ⟨.other, 1, 8, [.v .nilFunc]⟩),
  (86, ⟨.other, 1, 8, [.v .nilFunc]⟩),
  (87, ⟨.other, 1, 8, [.v .nilFunc]⟩),
  (88, ⟨.other, 1, 8, [.v .nilFunc]⟩),
  (89, ⟨.arr 8 55, 200, 1600, [.v (.int .u64 0), .v (.int .u64 0), .v (.int .u64 0), .v (.int .u64 0), .v (.int .u64 0), .v (.int .u64 0), .v (.int .u64 0), .v (.int .u64 0), .v (.int .u64 0), .v (.int .u64 0), .v (.int .u64 0), .v (.int .u64 0), .v (.int .u64 0), .v (.int .u64 0), .v (.int .u64 0), .v (.int .u64 0), .v (.int .u64 0), .v (.int .u64 0), .v (.int .u64 0), .v (.int .u64 0), .v (.int .u64 0), .v (.int .u64 0), .v (.int .u64 0), .v (.int .u64 0), .v (.bool false), .v (.int .u64 0), .v (.int .u64 0), .v (.int .u64 0), .v (.int .u64 0), .v (.int .u64 0), .v (.int .u64 0), .v (.int .u64 0), .v (.int .u64 0), .v (.int .u64 0), .v (.int .u64 0), .v (.int .u64 0), .v (.int .u64 0), .v (.int .u64 0), .v (.int .u64 0), .v (.int .u64 0), .v (.int .u64 0), .v (.int .u64 0), .v (.int .u64 0), .v (.int .u64 0), .v (.int .u64 0), .v (.int .u64 0), .v (.int .u64 0), .v (.int .u64 0), .v (.int .u64 0), .v (.bool false), .v (.int .u64 0), .v (.int .u64 0), .v (.int .u64 0), .v (.int .u64 0), .v (.int .u64 0), .v (.int .u64 0), .v (.int .u64 0), .v (.int .u64 0), .v (.int .u64 0), .v (.int .u64 0), .v (.int .u64 0), .v (.int .u64 0), .v (.int .u64 0), .v (.int .u64 0), .v (.int .u64 0), .v (.int .u64 0), .v (.int .u64 0), .v (.int .u64 0), .v (.int .u64 0), .v (.int .u64 0), .v (.int .u64 0), .v (.int .u64 0), .v (.int .u64 0), .v (.int .u64 0), .v (.bool false), .v (.int .u64 0), .v (.int .u64 0), .v (.int .u64 0), .v (.int .u64 0), .v (.int .u64 0), .v (.int .u64 0), .v (.int .u64 0), .v (.int .u64 0), .v (.int .u64 0), .v (.int .u64 0), .v (.int .u64 0), .v (.int .u64 0), .v (.int .u64 0), .v (.int .u64 0), .v (.int .u64 0), .v (.int .u64 0), .v (.int .u64 0), .v (.int .u64 0), .v (.int .u64 0), .v (.int .u64 0), .v (.int .u64 0), .v (.int .u64 0), .v (.int .u64 0), .v (.int .u64 0), .v (.bool false), .v (.int .u64 0), .v (.int .u64 0), .v (.int .u64 0), .v (.int .u64 0), .v (.int .u64 0), .v (.int .u64 0), .v (.int .u64 0), .v (.int .u64 0), .v (.int .u64 0), .v (.int .u64 0), .v (.int .u64 0), .v (.int .u64 0), .v (.int .u64 0), .v (.int .u64 0), .v (.int .u64 0), .v (.int .u64 0), .v (.int .u64 0), .v (.int .u64 0), .v (.int .u64 0), .v (.int .u64 0), .v (.int .u64 0), .v (.int .u64 0), .v (.int .u64 0), .v (.int .u64 0), .v (.bool false), .v (.int .u64 0), .v (.int .u64 0), .v (.int .u64 0), .v (.int .u64 0), .v (.int .u64 0), .v (.int .u64 0), .v (.int .u64 0), .v (.int .u64 0), .v (.int .u64 0), .v (.int .u64 0), .v (.int .u64 0), .v (.int .u64 0), .v (.int .u64 0), .v (.int .u64 0), .v (.int .u64 0), .v (.int .u64 0), .v (.int .u64 0), .v (.int .u64 0), .v (.int .u64 0), .v (.int .u64 0), .v (.int .u64 0), .v (.int .u64 0), .v (.int .u64 0), .v (.int .u64 0), .v (.bool false), .v (.int .u64 0), .v (.int .u64 0), .v (.int .u64 0), .v (.int .u64 0), .v (.int .u64 0), .v (.int .u64 0), .v (.int .u64 0), .v (.int .u64 0), .v (.int .u64 0), .v (.int .u64 0), .v (.int .u64 0), .v (.int .u64 0), .v (.int .u64 0), .v (.int .u64 0), .v (.int .u64 0), .v (.int .u64 0), .v (.int .u64 0), .v (.int .u64 0), .v (.int .u64 0), .v (.int .u64 0), .v (.int .u64 0), .v (.int .u64 0), .v (.int .u64 0), .v (.int .u64 0), .v (.bool false), .v (.int .u64 0), .v (.int .u64 0), .v (.int .u64 0), .v (.int .u64 0), .v (.int .u64 0), .v (.int .u64 0), .v (.int .u64 0), .v (.int .u64 0), .v (.int .u64 0), .v (.int .u64 0), .v (.int .u64 0), .v (.int .u64 0), .v (.int .u64 0), .v (.int .u64 0), .v (.int .u64 0), .v (.int .u64 0), .v (.int .u64 0), .v (.int .u64 0), .v (.int .u64 0), .v (.int .u64 0), .v (.int .u64 0), .v (.int .u64 0), .v (.int .u64 0), .v (.int .u64 0), .v (.bool false)]⟩),
  (90, ⟨.other, 1, 8, [.v .nilFunc]⟩),
  (91, ⟨.other, 1, 8, [.v .nilFunc]⟩),
  (92, ⟨.other, 1, 8, [.v .nilFunc]⟩),
  (93, ⟨.slice 5, 1, 24, [.ds true 0 []]⟩),
  (94, ⟨.other, 1, 8, [.v .nilFunc]⟩),
  (95, ⟨.other, 1, 8, [.v .nilFunc]⟩),
  (96, ⟨.arr 8 24, 8, 64, (List.replicate 8 (.v (.int .u64 0)))⟩),
  (97, ⟨.other, 1, 8, [.v .nilFunc]⟩),
  (98, ⟨.other, 1, 8, [.v .nilFunc]⟩),
  (100, ⟨.other, 1, 8, [.v .nilFunc]⟩),
  (101, ⟨.other, 1, 8, [.v .nilFunc]⟩),
  (102, ⟨.struct [(0, 17), (1, 17), (2, 17), (3, 9)], 4, 40, [.v (.pointer none), .v (.pointer none), .v (.pointer none), .v (.string ByteArray.empty)]⟩),
  (104, ⟨.arr 0 16, 0, 0, []⟩),
  (105, ⟨.struct [(0, 104)], 0, 0, []⟩),
  (107, ⟨.other, 1, 8, [.v .nilFunc]⟩),
  (108, ⟨.int .u32, 1, 4, [.v (.int .u32 0)]⟩),
  (111, ⟨.other, 1, 8, [.v .nilFunc]⟩),
  (112, ⟨.ptr, 1, 8, [.v (.pointer none)]⟩),
  (115, ⟨.struct [(0, 12), (1, 12), (2, 108), (3, 109), (4, 5), (5, 5), (6, 110), (7, 111), (8, 112), (9, 113), (10, 114)], 11, 48, [.v (.int .u64 0), .v (.int .u64 0), .v (.int .u32 0), .v (.int .u8 0), .v (.int .u8 0), .v (.int .u8 0), .v (.int .u8 0), .v .nilFunc, .v (.pointer none), .v (.int .i32 0), .v (.int .i32 0)]⟩)]
def Γ : Tab := lkT Γl
theorem Γ1 : Γ 1 = some ⟨.other, 1, 8, [.v .nilFunc]⟩ := rfl
theorem td1 : tdOf Γ 1 = some (.other) := rfl
theorem Γ2 : Γ 2 = some ⟨.int .i64, 1, 8, [.v (.int .i64 0)]⟩ := rfl
theorem td2 : tdOf Γ 2 = some (.int .i64) := rfl
theorem Γ3 : Γ 3 = some ⟨.int .i64, 1, 8, [.v (.int .i64 0)]⟩ := rfl
theorem td3 : tdOf Γ 3 = some (.int .i64) := rfl
theorem Γ4 : Γ 4 = some ⟨.bool, 1, 1, [.v (.bool false)]⟩ := rfl
theorem td4 : tdOf Γ 4 = some (.bool) := rfl
theorem Γ5 : Γ 5 = some ⟨.int .u8, 1, 1, [.v (.int .u8 0)]⟩ := rfl
theorem td5 : tdOf Γ 5 = some (.int .u8) := rfl
theorem Γ7 : Γ 7 = some ⟨.struct [(0, 2), (1, 3), (2, 4), (3, 6)], 4, 24, [.v (.int .i64 0), .v (.int .i64 0), .v (.bool false), .v (.int .u8 0)]⟩ := rfl
theorem td7 : tdOf Γ 7 = some (.struct [(0, 2), (1, 3), (2, 4), (3, 6)]) := rfl
theorem fo7_0 : fieldOff Γ 7 0 = some (0, 2) := rfl
theorem fo7_1 : fieldOff Γ 7 1 = some (1, 3) := rfl
theorem fo7_2 : fieldOff Γ 7 2 = some (2, 4) := rfl
theorem fo7_3 : fieldOff Γ 7 3 = some (3, 6) := rfl
theorem Γ9 : Γ 9 = some ⟨.str, 1, 16, [.v (.string ByteArray.empty)]⟩ := rfl
theorem td9 : tdOf Γ 9 = some (.str) := rfl
theorem Γ12 : Γ 12 = some ⟨.int .u64, 1, 8, [.v (.int .u64 0)]⟩ := rfl
theorem td12 : tdOf Γ 12 = some (.int .u64) := rfl
theorem Γ13 : Γ 13 = some ⟨.struct [(0, 9), (1, 12)], 2, 24, [.v (.string ByteArray.empty), .v (.int .u64 0)]⟩ := rfl
theorem td13 : tdOf Γ 13 = some (.struct [(0, 9), (1, 12)]) := rfl
theorem fo13_0 : fieldOff Γ 13 0 = some (0, 9) := rfl
theorem fo13_1 : fieldOff Γ 13 1 = some (1, 12) := rfl
theorem Γ21 : Γ 21 = some ⟨.int .i32, 1, 4, [.v (.int .i32 0)]⟩ := rfl
theorem td21 : tdOf Γ 21 = some (.int .i32) := rfl
theorem Γ22 : Γ 22 = some ⟨.struct [(0, 3), (1, 3), (2, 3), (3, 9)], 4, 40, [.v (.int .i64 0), .v (.int .i64 0), .v (.int .i64 0), .v (.string ByteArray.empty)]⟩ := rfl
theorem td22 : tdOf Γ 22 = some (.struct [(0, 3), (1, 3), (2, 3), (3, 9)]) := rfl
theorem fo22_0 : fieldOff Γ 22 0 = some (0, 3) := rfl
theorem fo22_1 : fieldOff Γ 22 1 = some (1, 3) := rfl
theorem fo22_2 : fieldOff Γ 22 2 = some (2, 3) := rfl
theorem fo22_3 : fieldOff Γ 22 3 = some (3, 9) := rfl
theorem Γ23 : Γ 23 = some ⟨.struct [(0, 3), (1, 3), (2, 3), (3, 9)], 4, 40, [.v (.int .i64 0), .v (.int .i64 0), .v (.int .i64 0), .v (.string ByteArray.empty)]⟩ := rfl
theorem td23 : tdOf Γ 23 = some (.struct [(0, 3), (1, 3), (2, 3), (3, 9)]) := rfl
theorem fo23_0 : fieldOff Γ 23 0 = some (0, 3) := rfl
theorem fo23_1 : fieldOff Γ 23 1 = some (1, 3) := rfl
theorem fo23_2 : fieldOff Γ 23 2 = some (2, 3) := rfl
theorem fo23_3 : fieldOff Γ 23 3 = some (3, 9) := rfl
theorem Γ24 : Γ 24 = some ⟨.int .u64, 1, 8, [.v (.int .u64 0)]⟩ := rfl
theorem td24 : tdOf Γ 24 = some (.int .u64) := rfl
theorem Γ25 : Γ 25 = some ⟨.arr 4 24, 4, 32, [.v (.int .u64 0), .v (.int .u64 0), .v (.int .u64 0), .v (.int .u64 0)]⟩ := rfl
theorem td25 : tdOf Γ 25 = some (.arr 4 24) := rfl
theorem ar25 : arrOf Γ 25 = some (4, 24, 1) := rfl
theorem Γ26 : Γ 26 = some ⟨.arr 4 24, 4, 32, [.v (.int .u64 0), .v (.int .u64 0), .v (.int .u64 0), .v (.int .u64 0)]⟩ := rfl
theorem td26 : tdOf Γ 26 = some (.arr 4 24) := rfl
theorem ar26 : arrOf Γ 26 = some (4, 24, 1) := rfl
theorem Γ27 : Γ 27 = some ⟨.other, 1, 8, [.v .nilFunc]⟩ := rfl
theorem td27 : tdOf Γ 27 = some (.other) := rfl
theorem Γ28 : Γ 28 = some ⟨.other, 1, 8, [.v .nilFunc]⟩ := rfl
theorem td28 : tdOf Γ 28 = some (.other) := rfl
theorem Γ29 : Γ 29 = some ⟨.int .i64, 1, 8, [.v (.int .i64 0)]⟩ := rfl
theorem td29 : tdOf Γ 29 = some (.int .i64) := rfl
theorem Γ31 : Γ 31 = some ⟨.other, 1, 8, [.v .nilFunc]⟩ := rfl
theorem td31 : tdOf Γ 31 = some (.other) := rfl
theorem Γ33 : Γ 33 = some ⟨.other, 1, 8, [.v .nilFunc]⟩ := rfl
theorem td33 : tdOf Γ 33 = some (.other) := rfl
theorem Γ35 : Γ 35 = some ⟨.other, 1, 8, [.v .nilFunc]⟩ := rfl
theorem td35 : tdOf Γ 35 = some (.other) := rfl
theorem Γ36 : Γ 36 = some ⟨.other, 1, 8, [.v .nilFunc]⟩ := rfl
theorem td36 : tdOf Γ 36 = some (.other) := rfl
theorem Γ37 : Γ 37 = some ⟨.other, 1, 8, [.v .nilFunc]⟩ := rfl
theorem td37 : tdOf Γ 37 = some (.other) := rfl
theorem Γ38 : Γ 38 = some ⟨.other, 1, 8, [.v .nilFunc]⟩ := rfl
theorem td38 : tdOf Γ 38 = some (.other) := rfl
theorem Γ39 : Γ 39 = some ⟨.slice 26, 1, 24, [.ds true 0 []]⟩ := rfl
theorem td39 : tdOf Γ 39 = some (.slice 26) := rfl
theorem sl39 : sliceOf Γ 39 = some (26, ⟨.arr 4 24, 4, 32, [.v (.int .u64 0), .v (.int .u64 0), .v (.int .u64 0), .v (.int .u64 0)]⟩) := rfl
theorem Γ41 : Γ 41 = some ⟨.other, 1, 8, [.v .nilFunc]⟩ := rfl
theorem td41 : tdOf Γ 41 = some (.other) := rfl
theorem Γ42 : Γ 42 = some ⟨.other, 1, 8, [.v .nilFunc]⟩ := rfl
theorem td42 : tdOf Γ 42 = some (.other) := rfl
theorem Γ43 : Γ 43 = some ⟨.other, 1, 8, [.v .nilFunc]⟩ := rfl
theorem td43 : tdOf Γ 43 = some (.other) := rfl
theorem Γ44 : Γ 44 = some ⟨.other, 1, 8, [.v .nilFunc]⟩ := rfl
theorem td44 : tdOf Γ 44 = some (.other) := rfl
theorem Γ45 : Γ 45 = some ⟨.other, 1, 8, [.v .nilFunc]⟩ := rfl
theorem td45 : tdOf Γ 45 = some (.other) := rfl
theorem Γ46 : Γ 46 = some ⟨.other, 1, 8, [.v .nilFunc]⟩ := rfl
theorem td46 : tdOf Γ 46 = some (.other) := rfl
theorem Γ47 : Γ 47 = some ⟨.int .u64, 1, 8, [.v (.int .u64 0)]⟩ := rfl
theorem td47 : tdOf Γ 47 = some (.int .u64) := rfl
theorem Γ48 : Γ 48 = some ⟨.other, 1, 8, [.v .nilFunc]⟩ := rfl
theorem td48 : tdOf Γ 48 = some (.other) := rfl
theorem Γ49 : Γ 49 = some ⟨.other, 1, 8, [.v .nilFunc]⟩ := rfl
theorem td49 : tdOf Γ 49 = some (.other) := rfl
theorem Γ50 : Γ 50 = some ⟨.other, 1, 8, [.v .nilFunc]⟩ := rfl
theorem td50 : tdOf Γ 50 = some (.other) := rfl
theorem Γ51 : Γ 51 = some ⟨.other, 1, 8, [.v .nilFunc]⟩ := rfl
theorem td51 : tdOf Γ 51 = some (.other) := rfl
theorem Γ52 : Γ 52 = some ⟨.struct [(0, 26), (4, 26), (8, 4)], 9, 72, [.v (.int .u64 0), .v (.int .u64 0), .v (.int .u64 0), .v (.int .u64 0), .v (.int .u64 0), .v (.int .u64 0), .v (.int .u64 0), .v (.int .u64 0), .v (.bool false)]⟩ := rfl
theorem td52 : tdOf Γ 52 = some (.struct [(0, 26), (4, 26), (8, 4)]) := rfl
theorem fo52_0 : fieldOff Γ 52 0 = some (0, 26) := rfl
theorem fo52_1 : fieldOff Γ 52 1 = some (4, 26) := rfl
theorem fo52_2 : fieldOff Γ 52 2 = some (8, 4) := rfl
theorem Γ53 : Γ 53 = some ⟨.struct [(0, 26), (4, 26), (8, 4)], 9, 72, [.v (.int .u64 0), .v (.int .u64 0), .v (.int .u64 0), .v (.int .u64 0), .v (.int .u64 0), .v (.int .u64 0), .v (.int .u64 0), .v (.int .u64 0), .v (.bool false)]⟩ := rfl
theorem td53 : tdOf Γ 53 = some (.struct [(0, 26), (4, 26), (8, 4)]) := rfl
theorem fo53_0 : fieldOff Γ 53 0 = some (0, 26) := rfl
theorem fo53_1 : fieldOff Γ 53 1 = some (4, 26) := rfl
theorem fo53_2 : fieldOff Γ 53 2 = some (8, 4) := rfl
theorem Γ54 : Γ 54 = some ⟨.struct [(0, 26), (4, 26), (8, 26), (12, 26), (16, 53)], 25, 200, [.v (.int .u64 0), .v (.int .u64 0), .v (.int .u64 0), .v (.int .u64 0), .v (.int .u64 0), .v (.int .u64 0), .v (.int .u64 0), .v (.int .u64 0), .v (.int .u64 0), .v (.int .u64 0), .v (.int .u64 0), .v (.int .u64 0), .v (.int .u64 0), .v (.int .u64 0), .v (.int .u64 0), .v (.int .u64 0), .v (.int .u64 0), .v (.int .u64 0), .v (.int .u64 0), .v (.int .u64 0), .v (.int .u64 0), .v (.int .u64 0), .v (.int .u64 0), .v (.int .u64 0), .v (.bool false)]⟩ := rfl
theorem td54 : tdOf Γ 54 = some (.struct [(0, 26), (4, 26), (8, 26), (12, 26), (16, 53)]) := rfl
theorem fo54_0 : fieldOff Γ 54 0 = some (0, 26) := rfl
theorem fo54_1 : fieldOff Γ 54 1 = some (4, 26) := rfl
theorem fo54_2 : fieldOff Γ 54 2 = some (8, 26) := rfl
theorem fo54_3 : fieldOff Γ 54 3 = some (12, 26) := rfl
theorem fo54_4 : fieldOff Γ 54 4 = some (16, 53) := rfl
theorem Γ55 : Γ 55 = some ⟨.struct [(0, 26), (4, 26), (8, 26), (12, 26), (16, 53)], 25, 200, [.v (.int .u64 0), .v (.int .u64 0), .v (.int .u64 0), .v (.int .u64 0), .v (.int .u64 0), .v (.int .u64 0), .v (.int .u64 0), .v (.int .u64 0), .v (.int .u64 0), .v (.int .u64 0), .v (.int .u64 0), .v (.int .u64 0), .v (.int .u64 0), .v (.int .u64 0), .v (.int .u64 0), .v (.int .u64 0), .v (.int .u64 0), .v (.int .u64 0), .v (.int .u64 0), .v (.int .u64 0), .v (.int .u64 0), .v (.int .u64 0), .v (.int .u64 0), .v (.int .u64 0), .v (.bool false)]⟩ := rfl
theorem td55 : tdOf Γ 55 = some (.struct [(0, 26), (4, 26), (8, 26), (12, 26), (16, 53)]) := rfl
theorem fo55_0 : fieldOff Γ 55 0 = some (0, 26) := rfl
theorem fo55_1 : fieldOff Γ 55 1 = some (4, 26) := rfl
theorem fo55_2 : fieldOff Γ 55 2 = some (8, 26) := rfl
theorem fo55_3 : fieldOff Γ 55 3 = some (12, 26) := rfl
theorem fo55_4 : fieldOff Γ 55 4 = some (16, 53) := rfl
theorem Γ56 : Γ 56 = some ⟨.other, 1, 8, [.v .nilFunc]⟩ := rfl
theorem td56 : tdOf Γ 56 = some (.other) := rfl
theorem Γ57 : Γ 57 = some ⟨.other, 1, 8, [.v .nilFunc]⟩ := rfl
theorem td57 : tdOf Γ 57 = some (.other) := rfl
theorem Γ58 : Γ 58 = some ⟨.slice 23, 1, 24, [.ds true 0 []]⟩ := rfl
theorem td58 : tdOf Γ 58 = some (.slice 23) := rfl
theorem sl58 : sliceOf Γ 58 = some (23, ⟨.struct [(0, 3), (1, 3), (2, 3), (3, 9)], 4, 40, [.v (.int .i64 0), .v (.int .i64 0), .v (.int .i64 0), .v (.string ByteArray.empty)]⟩) := rfl
theorem Γ59 : Γ 59 = some ⟨.slice 72, 1, 24, [.ds true 0 []]⟩ := rfl
theorem td59 : tdOf Γ 59 = some (.slice 72) := rfl
theorem sl59 : sliceOf Γ 59 = some (72, ⟨.struct [(0, 65), (32, 26)], 36, 64, [.v (.int .u8 0), .v (.int .u8 0), .v (.int .u8 0), .v (.int .u8 0), .v (.int .u8 0), .v (.int .u8 0), .v (.int .u8 0), .v (.int .u8 0), .v (.int .u8 0), .v (.int .u8 0), .v (.int .u8 0), .v (.int .u8 0), .v (.int .u8 0), .v (.int .u8 0), .v (.int .u8 0), .v (.int .u8 0), .v (.int .u8 0), .v (.int .u8 0), .v (.int .u8 0), .v (.int .u8 0), .v (.int .u8 0), .v (.int .u8 0), .v (.int .u8 0), .v (.int .u8 0), .v (.int .u8 0), .v (.int .u8 0), .v (.int .u8 0), .v (.int .u8 0), .v (.int .u8 0), .v (.int .u8 0), .v (.int .u8 0), .v (.int .u8 0), .v (.int .u64 0), .v (.int .u64 0), .v (.int .u64 0), .v (.int .u64 0)]⟩) := rfl
theorem Γ60 : Γ 60 = some ⟨.struct [(0, 26), (4, 59)], 5, 56, [.v (.int .u64 0), .v (.int .u64 0), .v (.int .u64 0), .v (.int .u64 0), .ds true 0 []]⟩ := rfl
theorem td60 : tdOf Γ 60 = some (.struct [(0, 26), (4, 59)]) := rfl
theorem fo60_0 : fieldOff Γ 60 0 = some (0, 26) := rfl
theorem fo60_1 : fieldOff Γ 60 1 = some (4, 59) := rfl
theorem Γ61 : Γ 61 = some ⟨.struct [(0, 26), (4, 59)], 5, 56, [.v (.int .u64 0), .v (.int .u64 0), .v (.int .u64 0), .v (.int .u64 0), .ds true 0 []]⟩ := rfl
theorem td61 : tdOf Γ 61 = some (.struct [(0, 26), (4, 59)]) := rfl
theorem fo61_0 : fieldOff Γ 61 0 = some (0, 26) := rfl
theorem fo61_1 : fieldOff Γ 61 1 = some (4, 59) := rfl
theorem Γ63 : Γ 63 = some ⟨.other, 1, 8, [.v .nilFunc]⟩ := rfl
theorem td63 : tdOf Γ 63 = some (.other) := rfl
theorem Γ64 : Γ 64 = some ⟨.other, 1, 8, [.v .nilFunc]⟩ := rfl
theorem td64 : tdOf Γ 64 = some (.other) := rfl
theorem Γ65 : Γ 65 = some ⟨.arr 32 5, 32, 32, (List.replicate 32 (.v (.int .u8 0)))⟩ := rfl
theorem td65 : tdOf Γ 65 = some (.arr 32 5) := rfl
theorem ar65 : arrOf Γ 65 = some (32, 5, 1) := rfl
theorem Γ66 : Γ 66 = some ⟨.other, 1, 8, [.v .nilFunc]⟩ := rfl
theorem td66 : tdOf Γ 66 = some (.other) := rfl
theorem Γ67 : Γ 67 = some ⟨.other, 1, 8, [.v .nilFunc]⟩ := rfl
theorem td67 : tdOf Γ 67 = some (.other) := rfl
theorem Γ68 : Γ 68 = some ⟨.other, 1, 8, [.v .nilFunc]⟩ := rfl
theorem td68 : tdOf Γ 68 = some (.other) := rfl
theorem Γ70 : Γ 70 = some ⟨.other, 1, 8, [.v .nilFunc]⟩ := rfl
theorem td70 : tdOf Γ 70 = some (.other) := rfl
theorem Γ71 : Γ 71 = some ⟨.struct [(0, 65), (32, 26)], 36, 64, [.v (.int .u8 0), .v (.int .u8 0), .v (.int .u8 0), .v (.int .u8 0), .v (.int .u8 0), .v (.int .u8 0), .v (.int .u8 0), .v (.int .u8 0), .v (.int .u8 0), .v (.int .u8 0), .v (.int .u8 0), .v (.int .u8 0), .v (.int .u8 0), .v (.int .u8 0), .v (.int .u8 0), .v (.int .u8 0), .v (.int .u8 0), .v (.int .u8 0), .v (.int .u8 0), .v (.int .u8 0), .v (.int .u8 0), .v (.int .u8 0), .v (.int .u8 0), .v (.int .u8 0), .v (.int .u8 0), .v (.int .u8 0), .v (.int .u8 0), .v (.int .u8 0), .v (.int .u8 0), .v (.int .u8 0), .v (.int .u8 0), .v (.int .u8 0), .v (.int .u64 0), .v (.int .u64 0), .v (.int .u64 0), .v (.int .u64 0)]⟩ := rfl
theorem td71 : tdOf Γ 71 = some (.struct [(0, 65), (32, 26)]) := rfl
theorem fo71_0 : fieldOff Γ 71 0 = some (0, 65) := rfl
theorem fo71_1 : fieldOff Γ 71 1 = some (32, 26) := rfl
theorem Γ72 : Γ 72 = some ⟨.struct [(0, 65), (32, 26)], 36, 64, [.v (.int .u8 0), .v (.int .u8 0), .v (.int .u8 0), .v (.int .u8 0), .v (.int .u8 0), .v (.int .u8 0), .v (.int .u8 0), .v (.int .u8 0), .v (.int .u8 0), .v (.int .u8 0), .v (.int .u8 0), .v (.int .u8 0), .v (.int .u8 0), .v (.int .u8 0), .v (.int .u8 0), .v (.int .u8 0), .v (.int .u8 0), .v (.int .u8 0), .v (.int .u8 0), .v (.int .u8 0), .v (.int .u8 0), .v (.int .u8 0), .v (.int .u8 0), .v (.int .u8 0), .v (.int .u8 0), .v (.int .u8 0), .v (.int .u8 0), .v (.int .u8 0), .v (.int .u8 0), .v (.int .u8 0), .v (.int .u8 0), .v (.int .u8 0), .v (.int .u64 0), .v (.int .u64 0), .v (.int .u64 0), .v (.int .u64 0)]⟩ := rfl
theorem td72 : tdOf Γ 72 = some (.struct [(0, 65), (32, 26)]) := rfl
theorem fo72_0 : fieldOff Γ 72 0 = some (0, 65) := rfl
theorem fo72_1 : fieldOff Γ 72 1 = some (32, 26) := rfl
theorem Γ73 : Γ 73 = some ⟨.other, 1, 8, [.v .nilFunc]⟩ := rfl
theorem td73 : tdOf Γ 73 = some (.other) := rfl
theorem Γ74 : Γ 74 = some ⟨.other, 1, 8, [.v .nilFunc]⟩ := rfl
theorem td74 : tdOf Γ 74 = some (.other) := rfl
theorem Γ75 : Γ 75 = some ⟨.other, 1, 8, [.v .nilFunc]⟩ := rfl
theorem td75 : tdOf Γ 75 = some (.other) := rfl
theorem Γ76 : Γ 76 = some ⟨.other, 1, 8, [.v .nilFunc]⟩ := rfl
theorem td76 : tdOf Γ 76 = some (.other) := rfl
theorem Γ78 : Γ 78 = some ⟨.other, 1, 8, [.v .nilFunc]⟩ := rfl
theorem td78 : tdOf Γ 78 = some (.other) := rfl
theorem Γ80 : Γ 80 = some ⟨.other, 1, 8, [.v .nilFunc]⟩ := rfl
theorem td80 : tdOf Γ 80 = some (.other) := rfl
theorem Γ81 : Γ 81 = some ⟨.other, 1, 8, [.v .nilFunc]⟩ := rfl
theorem td81 : tdOf Γ 81 = some (.other) := rfl
theorem Γ82 : Γ 82 = some ⟨.other, 1, 8, [.v .nilFunc]⟩ := rfl
theorem td82 : tdOf Γ 82 = some (.other) := rfl
theorem Γ83 : Γ 83 = some ⟨.other, 1, 8, [.v .nilFunc]⟩ := rfl
theorem td83 : tdOf Γ 83 = some (.other) := rfl
theorem Γ84 : Γ 84 = some ⟨.other, 1, 8, [.v .nilFunc]⟩ := rfl
theorem td84 : tdOf Γ 84 = some (.other) := rfl
theorem Γ85 : Γ 85 = some ⟨.other, 1, 8, [.v .nilFunc]⟩ := rfl
theorem td85 : tdOf Γ 85 = some (.other) := rfl
theorem Γ86 : Γ 86 = some ⟨.other, 1, 8, [.v .nilFunc]⟩ := rfl
theorem td86 : tdOf Γ 86 = some (.other) := rfl
theorem Γ87 : Γ 87 = some ⟨.other, 1, 8, [.v .nilFunc]⟩ := rfl
theorem td87 : tdOf Γ 87 = some (.other) := rfl
theorem Γ88 : Γ 88 = some ⟨.other, 1, 8, [.v .nilFunc]⟩ := rfl
theorem td88 : tdOf Γ 88 = some (.other) := rfl
theorem Γ89 : Γ 89 = some ⟨.arr 8 55, 200, 1600, [.v (.int .u64 0), .v (.int .u64 0), .v (.int .u64 0), .v (.int .u64 0), .v (.int .u64 0), .v (.int .u64 0), .v (.int .u64 0), .v (.int .u64 0), .v (.int .u64 0), .v (.int .u64 0), .v (.int .u64 0), .v (.int .u64 0), .v (.int .u64 0), .v (.int .u64 0), .v (.int .u64 0), .v (.int .u64 0), .v (.int .u64 0), .v (.int .u64 0), .v (.int .u64 0), .v (.int .u64 0), .v (.int .u64 0), .v (.int .u64 0), .v (.int .u64 0), .v (.int .u64 0), .v (.bool false), .v (.int .u64 0), .v (.int .u64 0), .v (.int .u64 0), .v (.int .u64 0), .v (.int .u64 0), .v (.int .u64 0), .v (.int .u64 0), .v (.int .u64 0), .v (.int .u64 0), .v (.int .u64 0), .v (.int .u64 0), .v (.int .u64 0), .v (.int .u64 0), .v (.int .u64 0), .v (.int .u64 0), .v (.int .u64 0), .v (.int .u64 0), .v (.int .u64 0), .v (.int .u64 0), .v (.int .u64 0), .v (.int .u64 0), .v (.int .u64 0), .v (.int .u64 0), .v (.int .u64 0), .v (.bool false), .v (.int .u64 0), .v (.int .u64 0), .v (.int .u64 0), .v (.int .u64 0), .v (.int .u64 0), .v (.int .u64 0), .v (.int .u64 0), .v (.int .u64 0), .v (.int .u64 0), .v (.int .u64 0), .v (.int .u64 0), .v (.int .u64 0), .v (.int .u64 0), .v (.int .u64 0), .v (.int .u64 0), .v (.int .u64 0), .v (.int .u64 0), .v (.int .u64 0), .v (.int .u64 0), .v (.int .u64 0), .v (.int .u64 0), .v (.int .u64 0), .v (.int .u64 0), .v (.int .u64 0), .v (.bool false), .v (.int .u64 0), .v (.int .u64 0), .v (.int .u64 0), .v (.int .u64 0), .v (.int .u64 0), .v (.int .u64 0), .v (.int .u64 0), .v (.int .u64 0), .v (.int .u64 0), .v (.int .u64 0), .v (.int .u64 0), .v (.int .u64 0), .v (.int .u64 0), .v (.int .u64 0), .v (.int .u64 0), .v (.int .u64 0), .v (.int .u64 0), .v (.int .u64 0), .v (.int .u64 0), .v (.int .u64 0), .v (.int .u64 0), .v (.int .u64 0), .v (.int .u64 0), .v (.int .u64 0), .v (.bool false), .v (.int .u64 0), .v (.int .u64 0), .v (.int .u64 0), .v (.int .u64 0), .v (.int .u64 0), .v (.int .u64 0), .v (.int .u64 0), .v (.int .u64 0), .v (.int .u64 0), .v (.int .u64 0), .v (.int .u64 0), .v (.int .u64 0), .v (.int .u64 0), .v (.int .u64 0), .v (.int .u64 0), .v (.int .u64 0), .v (.int .u64 0), .v (.int .u64 0), .v (.int .u64 0), .v (.int .u64 0), .v (.int .u64 0), .v (.int .u64 0), .v (.int .u64 0), .v (.int .u64 0), .v (.bool false), .v (.int .u64 0), .v (.int .u64 0), .v (.int .u64 0), .v (.int .u64 0), .v (.int .u64 0), .v (.int .u64 0), .v (.int .u64 0), .v (.int .u64 0), .v (.int .u64 0), .v (.int .u64 0), .v (.int .u64 0), .v (.int .u64 0), .v (.int .u64 0), .v (.int .u64 0), .v (.int .u64 0), .v (.int .u64 0), .v (.int .u64 0), .v (.int .u64 0), .v (.int .u64 0), .v (.int .u64 0), .v (.int .u64 0), .v (.int .u64 0), .v (.int .u64 0), .v (.int .u64 0), .v (.bool false), .v (.int .u64 0), .v (.int .u64 0), .v (.int .u64 0), .v (.int .u64 0), .v (.int .u64 0), .v (.int .u64 0), .v (.int .u64 0), .v (.int .u64 0), .v (.int .u64 0), .v (.int .u64 0), .v (.int .u64 0), .v (.int .u64 0), .v (.int .u64 0), .v (.int .u64 0), .v (.int .u64 0), .v (.int .u64 0), .v (.int .u64 0), .v (.int .u64 0), .v (.int .u64 0), .v (.int .u64 0), .v (.int .u64 0), .v (.int .u64 0), .v (.int .u64 0), .v (.int .u64 0), .v (.bool false), .v (.int .u64 0), .v (.int .u64 0), .v (.int .u64 0), .v (.int .u64 0), .v (.int .u64 0), .v (.int .u64 0), .v (.int .u64 0), .v (.int .u64 0), .v (.int .u64 0), .v (.int .u64 0), .v (.int .u64 0), .v (.int .u64 0), .v (.int .u64 0), .v (.int .u64 0), .v (.int .u64 0), .v (.int .u64 0), .v (.int .u64 0), .v (.int .u64 0), .v (.int .u64 0), .v (.int .u64 0), .v (.int .u64 0), .v (.int .u64 0), .v (.int .u64 0), .v (.int .u64 0), .v (.bool false)]⟩ := rfl
theorem td89 : tdOf Γ 89 = some (.arr 8 55) := rfl
theorem ar89 : arrOf Γ 89 = some (8, 55, 25) := rfl
theorem Γ90 : Γ 90 = some ⟨.other, 1, 8, [.v .nilFunc]⟩ := rfl
theorem td90 : tdOf Γ 90 = some (.other) := rfl
theorem Γ91 : Γ 91 = some ⟨.other, 1, 8, [.v .nilFunc]⟩ := rfl
theorem td91 : tdOf Γ 91 = some (.other) := rfl
theorem Γ92 : Γ 92 = some ⟨.other, 1, 8, [.v .nilFunc]⟩ := rfl
theorem td92 : tdOf Γ 92 = some (.other) := rfl
theorem Γ93 : Γ 93 = some ⟨.slice 5, 1, 24, [.ds true 0 []]⟩ := rfl
theorem td93 : tdOf Γ 93 = some (.slice 5) := rfl
theorem sl93 : sliceOf Γ 93 = some (5, ⟨.int .u8, 1, 1, [.v (.int .u8 0)]⟩) := rfl
theorem Γ94 : Γ 94 = some ⟨.other, 1, 8, [.v .nilFunc]⟩ := rfl
theorem td94 : tdOf Γ 94 = some (.other) := rfl
theorem Γ95 : Γ 95 = some ⟨.other, 1, 8, [.v .nilFunc]⟩ := rfl
theorem td95 : tdOf Γ 95 = some (.other) := rfl
theorem Γ96 : Γ 96 = some ⟨.arr 8 24, 8, 64, (List.replicate 8 (.v (.int .u64 0)))⟩ := rfl
theorem td96 : tdOf Γ 96 = some (.arr 8 24) := rfl
theorem ar96 : arrOf Γ 96 = some (8, 24, 1) := rfl
theorem Γ97 : Γ 97 = some ⟨.other, 1, 8, [.v .nilFunc]⟩ := rfl
theorem td97 : tdOf Γ 97 = some (.other) := rfl
theorem Γ98 : Γ 98 = some ⟨.other, 1, 8, [.v .nilFunc]⟩ := rfl
theorem td98 : tdOf Γ 98 = some (.other) := rfl
theorem Γ100 : Γ 100 = some ⟨.other, 1, 8, [.v .nilFunc]⟩ := rfl
theorem td100 : tdOf Γ 100 = some (.other) := rfl
theorem Γ101 : Γ 101 = some ⟨.other, 1, 8, [.v .nilFunc]⟩ := rfl
theorem td101 : tdOf Γ 101 = some (.other) := rfl
theorem Γ102 : Γ 102 = some ⟨.struct [(0, 17), (1, 17), (2, 17), (3, 9)], 4, 40, [.v (.pointer none), .v (.pointer none), .v (.pointer none), .v (.string ByteArray.empty)]⟩ := rfl
theorem td102 : tdOf Γ 102 = some (.struct [(0, 17), (1, 17), (2, 17), (3, 9)]) := rfl
theorem fo102_0 : fieldOff Γ 102 0 = some (0, 17) := rfl
theorem fo102_1 : fieldOff Γ 102 1 = some (1, 17) := rfl
theorem fo102_2 : fieldOff Γ 102 2 = some (2, 17) := rfl
theorem fo102_3 : fieldOff Γ 102 3 = some (3, 9) := rfl
theorem Γ104 : Γ 104 = some ⟨.arr 0 16, 0, 0, []⟩ := rfl
theorem td104 : tdOf Γ 104 = some (.arr 0 16) := rfl
theorem Γ105 : Γ 105 = some ⟨.struct [(0, 104)], 0, 0, []⟩ := rfl
theorem td105 : tdOf Γ 105 = some (.struct [(0, 104)]) := rfl
theorem fo105_0 : fieldOff Γ 105 0 = some (0, 104) := rfl
theorem Γ107 : Γ 107 = some ⟨.other, 1, 8, [.v .nilFunc]⟩ := rfl
theorem td107 : tdOf Γ 107 = some (.other) := rfl
theorem Γ108 : Γ 108 = some ⟨.int .u32, 1, 4, [.v (.int .u32 0)]⟩ := rfl
theorem td108 : tdOf Γ 108 = some (.int .u32) := rfl
theorem Γ111 : Γ 111 = some ⟨.other, 1, 8, [.v .nilFunc]⟩ := rfl
theorem td111 : tdOf Γ 111 = some (.other) := rfl
theorem Γ112 : Γ 112 = some ⟨.ptr, 1, 8, [.v (.pointer none)]⟩ := rfl
theorem td112 : tdOf Γ 112 = some (.ptr) := rfl
theorem Γ115 : Γ 115 = some ⟨.struct [(0, 12), (1, 12), (2, 108), (3, 109), (4, 5), (5, 5), (6, 110), (7, 111), (8, 112), (9, 113), (10, 114)], 11, 48, [.v (.int .u64 0), .v (.int .u64 0), .v (.int .u32 0), .v (.int .u8 0), .v (.int .u8 0), .v (.int .u8 0), .v (.int .u8 0), .v .nilFunc, .v (.pointer none), .v (.int .i32 0), .v (.int .i32 0)]⟩ := rfl
theorem td115 : tdOf Γ 115 = some (.struct [(0, 12), (1, 12), (2, 108), (3, 109), (4, 5), (5, 5), (6, 110), (7, 111), (8, 112), (9, 113), (10, 114)]) := rfl
theorem fo115_0 : fieldOff Γ 115 0 = some (0, 12) := rfl
theorem fo115_1 : fieldOff Γ 115 1 = some (1, 12) := rfl
theorem fo115_2 : fieldOff Γ 115 2 = some (2, 108) := rfl
theorem fo115_3 : fieldOff Γ 115 3 = some (3, 109) := rfl
theorem fo115_4 : fieldOff Γ 115 4 = some (4, 5) := rfl
theorem fo115_5 : fieldOff Γ 115 5 = some (5, 5) := rfl
theorem fo115_6 : fieldOff Γ 115 6 = some (6, 110) := rfl
theorem fo115_7 : fieldOff Γ 115 7 = some (7, 111) := rfl
theorem fo115_8 : fieldOff Γ 115 8 = some (8, 112) := rfl
theorem fo115_9 : fieldOff Γ 115 9 = some (9, 113) := rfl
theorem fo115_10 : fieldOff Γ 115 10 = some (10, 114) := rfl
theorem Γok : TabOk Try.prog Γ := tabOk (by kernel_rfl)
theorem mixed : Try.prog.follows .mixedOrders = true := by kernel_rfl
end Go.Proofs.Ytbbihbcfeihhiaa
