/- The table of the program's types, for the engine. -/
import Derived.Test.YtmfgldfldejgcaaVd
import Derived.Test.YtmfgldfldejgcaaRows
import Derived.ProofKit
namespace Go.Proofs.Ytmfgldfldejgcaa
open Go.RowKit
def Γl : List (TypeId × TR) := [
  (1, ⟨.other, 1, 8, [.v .nilFunc]⟩),
  (2, ⟨.int .i64, 1, 8, [.v (.int .i64 0)]⟩),
  (3, ⟨.int .i64, 1, 8, [.v (.int .i64 0)]⟩),
  (4, ⟨.bool, 1, 1, [.v (.bool false)]⟩),
  (5, ⟨.int .u8, 1, 1, [.v (.int .u8 0)]⟩),
  (7, ⟨.struct [(0, 2), (1, 3), (2, 4), (3, 6)], 4, 24, [.v (.int .i64 0), .v (.int .i64 0), .v (.bool false), .v (.int .u8 0)]⟩),
  (9, ⟨.str, 1, 16, [.v (.string ByteArray.empty)]⟩),
  (12, ⟨.int .u64, 1, 8, [.v (.int .u64 0)]⟩),
  (13, ⟨.struct [(0, 9), (1, 12)], 2, 24, [.v (.string ByteArray.empty), .v (.int .u64 0)]⟩),
  (21, ⟨.int .i32, 1, 4, [.v (.int .i32 0)]⟩),
  (22, ⟨.other, 1, 8, [.v .nilFunc]⟩),
  (23, ⟨.int .i64, 1, 8, [.v (.int .i64 0)]⟩),
  (25, ⟨.other, 1, 8, [.v .nilFunc]⟩),
  (26, ⟨.other, 1, 8, [.v .nilFunc]⟩),
  (27, ⟨.other, 1, 8, [.v .nilFunc]⟩),
  (28, ⟨.struct [(0, 3), (1, 3), (2, 3), (3, 9)], 4, 40, [.v (.int .i64 0), .v (.int .i64 0), .v (.int .i64 0), .v (.string ByteArray.empty)]⟩),
  (29, ⟨.struct [(0, 3), (1, 3), (2, 3), (3, 9)], 4, 40, [.v (.int .i64 0), .v (.int .i64 0), .v (.int .i64 0), .v (.string ByteArray.empty)]⟩),
  (30, ⟨.int .u64, 1, 8, [.v (.int .u64 0)]⟩),
  (31, ⟨.arr 4 30, 4, 32, [.v (.int .u64 0), .v (.int .u64 0), .v (.int .u64 0), .v (.int .u64 0)]⟩),
  (32, ⟨.arr 4 30, 4, 32, [.v (.int .u64 0), .v (.int .u64 0), .v (.int .u64 0), .v (.int .u64 0)]⟩),
  (33, ⟨.other, 1, 8, [.v .nilFunc]⟩),
  (35, ⟨.other, 1, 8, [.v .nilFunc]⟩),
  (36, ⟨.other, 1, 8, [.v .nilFunc]⟩),
  (37, ⟨.other, 1, 8, [.v .nilFunc]⟩),
  (38, ⟨.other, 1, 8, [.v .nilFunc]⟩),
  (39, ⟨.other, 1, 8, [.v .nilFunc]⟩),
  (40, ⟨.arr 32 5, 32, 32, (List.replicate 32 (.v (.int .u8 0)))⟩),
  (41, ⟨.other, 1, 8, [.v .nilFunc]⟩),
  (42, ⟨.other, 1, 8, [.v .nilFunc]⟩),
  (43, ⟨.slice 5, 1, 24, [.ds true 0 []]⟩),
  (44, ⟨.other, 1, 8, [.v .nilFunc]⟩),
  (46, ⟨.other, 1, 8, [.v .nilFunc]⟩),
  (48, ⟨.other, 1, 8, [.v .nilFunc]⟩),
  (49, ⟨.other, 1, 8, [.v .nilFunc]⟩),
  (51, ⟨.other, 1, 8, [.v .nilFunc]⟩),
  (52, ⟨.other, 1, 8, [.v .nilFunc]⟩),
  (53, ⟨.other, 1, 8, [.v .nilFunc]⟩),
  (54, ⟨.other, 1, 8, [.v .nilFunc]⟩),
  (55, ⟨.other, 1, 8, [.v .nilFunc]⟩),
  (57, ⟨.other, 1, 8, [.v .nilFunc]⟩),
  (58, ⟨.arr 8 30, 8, 64, (List.replicate 8 (.v (.int .u64 0)))⟩),
  (59, ⟨.other, 1, 8, [.v .nilFunc]⟩),
  (60, ⟨.other, 1, 8, [.v .nilFunc]⟩),
  (61, ⟨.other, 1, 8, [.v .nilFunc]⟩),
  (62, ⟨.int .u64, 1, 8, [.v (.int .u64 0)]⟩),
  (63, ⟨.other, 1, 8, [.v .nilFunc]⟩),
  (67, ⟨.other, 1, 8, [.v .nilFunc]⟩),
  (68, ⟨.struct [(0, 17), (1, 17), (2, 17), (3, 9)], 4, 40, [.v (.pointer none), .v (.pointer none), .v (.pointer none), .v (.string ByteArray.empty)]⟩),
  (70, ⟨.arr 0 16, 0, 0, []⟩),
  (71, ⟨.struct [(0, 70)], 0, 0, []⟩),
  (73, ⟨.other, 1, 8, [.v .nilFunc]⟩),
  (74, ⟨.int .u32, 1, 4, [.v (.int .u32 0)]⟩),
  (77, ⟨.other, 1, 8, [.v .nilFunc]⟩),
  (78, ⟨.ptr, 1, 8, [.v (.pointer none)]⟩),
  (81, ⟨.struct [(0, 12), (1, 12), (2, 74), (3, 75), (4, 5), (5, 5), (6, 76), (7, 77), (8, 78), (9, 79), (10, 80)], 11, 48, [.v (.int .u64 0), .v (.int .u64 0), .v (.int .u32 0), .v (.int .u8 0), .v (.int .u8 0), .v (.int .u8 0), .v (.int .u8 0), .v .nilFunc, .v (.pointer none), .v (.int .i32 0), .v (.int .i32 0)]⟩),
  (83, ⟨.struct [(0, 9)], 1, 16, [.v (.string ByteArray.empty)]⟩),
  (84, ⟨.struct [(0, 9)], 1, 16, [.v (.string ByteArray.empty)]⟩)]
def Γ : Tab := lkT Γl
theorem Γ1 : Γ 1 = some ⟨.other, 1, 8, [.v .nilFunc]⟩ := rfl
theorem td1 : tdOf Γ 1 = some (.other) := rfl
theorem Γ2 : Γ 2 = some ⟨.int .i64, 1, 8, [.v (.int .i64 0)]⟩ := rfl
theorem td2 : tdOf Γ 2 = some (.int .i64) := rfl
theorem Γ3 : Γ 3 = some ⟨.int .i64, 1, 8, [.v (.int .i64 0)]⟩ := rfl
theorem td3 : tdOf Γ 3 = some (.int .i64) := rfl
theorem Γ4 : Γ 4 = some ⟨.bool, 1, 1, [.v (.bool false)]⟩ := rfl
theorem td4 : tdOf Γ 4 = some (.bool) := rfl
theorem Γ5 : Γ 5 = some ⟨.int .u8, 1, 1, [.v (.int .u8 0)]⟩ := rfl
theorem td5 : tdOf Γ 5 = some (.int .u8) := rfl
theorem Γ7 : Γ 7 = some ⟨.struct [(0, 2), (1, 3), (2, 4), (3, 6)], 4, 24, [.v (.int .i64 0), .v (.int .i64 0), .v (.bool false), .v (.int .u8 0)]⟩ := rfl
theorem td7 : tdOf Γ 7 = some (.struct [(0, 2), (1, 3), (2, 4), (3, 6)]) := rfl
theorem fo7_0 : fieldOff Γ 7 0 = some (0, 2) := rfl
theorem fo7_1 : fieldOff Γ 7 1 = some (1, 3) := rfl
theorem fo7_2 : fieldOff Γ 7 2 = some (2, 4) := rfl
theorem fo7_3 : fieldOff Γ 7 3 = some (3, 6) := rfl
theorem Γ9 : Γ 9 = some ⟨.str, 1, 16, [.v (.string ByteArray.empty)]⟩ := rfl
theorem td9 : tdOf Γ 9 = some (.str) := rfl
theorem Γ12 : Γ 12 = some ⟨.int .u64, 1, 8, [.v (.int .u64 0)]⟩ := rfl
theorem td12 : tdOf Γ 12 = some (.int .u64) := rfl
theorem Γ13 : Γ 13 = some ⟨.struct [(0, 9), (1, 12)], 2, 24, [.v (.string ByteArray.empty), .v (.int .u64 0)]⟩ := rfl
theorem td13 : tdOf Γ 13 = some (.struct [(0, 9), (1, 12)]) := rfl
theorem fo13_0 : fieldOff Γ 13 0 = some (0, 9) := rfl
theorem fo13_1 : fieldOff Γ 13 1 = some (1, 12) := rfl
theorem Γ21 : Γ 21 = some ⟨.int .i32, 1, 4, [.v (.int .i32 0)]⟩ := rfl
theorem td21 : tdOf Γ 21 = some (.int .i32) := rfl
theorem Γ22 : Γ 22 = some ⟨.other, 1, 8, [.v .nilFunc]⟩ := rfl
theorem td22 : tdOf Γ 22 = some (.other) := rfl
theorem Γ23 : Γ 23 = some ⟨.int .i64, 1, 8, [.v (.int .i64 0)]⟩ := rfl
theorem td23 : tdOf Γ 23 = some (.int .i64) := rfl
theorem Γ25 : Γ 25 = some ⟨.other, 1, 8, [.v .nilFunc]⟩ := rfl
theorem td25 : tdOf Γ 25 = some (.other) := rfl
theorem Γ26 : Γ 26 = some ⟨.other, 1, 8, [.v .nilFunc]⟩ := rfl
theorem td26 : tdOf Γ 26 = some (.other) := rfl
theorem Γ27 : Γ 27 = some ⟨.other, 1, 8, [.v .nilFunc]⟩ := rfl
theorem td27 : tdOf Γ 27 = some (.other) := rfl
theorem Γ28 : Γ 28 = some ⟨.struct [(0, 3), (1, 3), (2, 3), (3, 9)], 4, 40, [.v (.int .i64 0), .v (.int .i64 0), .v (.int .i64 0), .v (.string ByteArray.empty)]⟩ := rfl
theorem td28 : tdOf Γ 28 = some (.struct [(0, 3), (1, 3), (2, 3), (3, 9)]) := rfl
theorem fo28_0 : fieldOff Γ 28 0 = some (0, 3) := rfl
theorem fo28_1 : fieldOff Γ 28 1 = some (1, 3) := rfl
theorem fo28_2 : fieldOff Γ 28 2 = some (2, 3) := rfl
theorem fo28_3 : fieldOff Γ 28 3 = some (3, 9) := rfl
theorem Γ29 : Γ 29 = some ⟨.struct [(0, 3), (1, 3), (2, 3), (3, 9)], 4, 40, [.v (.int .i64 0), .v (.int .i64 0), .v (.int .i64 0), .v (.string ByteArray.empty)]⟩ := rfl
theorem td29 : tdOf Γ 29 = some (.struct [(0, 3), (1, 3), (2, 3), (3, 9)]) := rfl
theorem fo29_0 : fieldOff Γ 29 0 = some (0, 3) := rfl
theorem fo29_1 : fieldOff Γ 29 1 = some (1, 3) := rfl
theorem fo29_2 : fieldOff Γ 29 2 = some (2, 3) := rfl
theorem fo29_3 : fieldOff Γ 29 3 = some (3, 9) := rfl
theorem Γ30 : Γ 30 = some ⟨.int .u64, 1, 8, [.v (.int .u64 0)]⟩ := rfl
theorem td30 : tdOf Γ 30 = some (.int .u64) := rfl
theorem Γ31 : Γ 31 = some ⟨.arr 4 30, 4, 32, [.v (.int .u64 0), .v (.int .u64 0), .v (.int .u64 0), .v (.int .u64 0)]⟩ := rfl
theorem td31 : tdOf Γ 31 = some (.arr 4 30) := rfl
theorem ar31 : arrOf Γ 31 = some (4, 30, 1) := rfl
theorem Γ32 : Γ 32 = some ⟨.arr 4 30, 4, 32, [.v (.int .u64 0), .v (.int .u64 0), .v (.int .u64 0), .v (.int .u64 0)]⟩ := rfl
theorem td32 : tdOf Γ 32 = some (.arr 4 30) := rfl
theorem ar32 : arrOf Γ 32 = some (4, 30, 1) := rfl
theorem Γ33 : Γ 33 = some ⟨.other, 1, 8, [.v .nilFunc]⟩ := rfl
theorem td33 : tdOf Γ 33 = some (.other) := rfl
theorem Γ35 : Γ 35 = some ⟨.other, 1, 8, [.v .nilFunc]⟩ := rfl
theorem td35 : tdOf Γ 35 = some (.other) := rfl
theorem Γ36 : Γ 36 = some ⟨.other, 1, 8, [.v .nilFunc]⟩ := rfl
theorem td36 : tdOf Γ 36 = some (.other) := rfl
theorem Γ37 : Γ 37 = some ⟨.other, 1, 8, [.v .nilFunc]⟩ := rfl
theorem td37 : tdOf Γ 37 = some (.other) := rfl
theorem Γ38 : Γ 38 = some ⟨.other, 1, 8, [.v .nilFunc]⟩ := rfl
theorem td38 : tdOf Γ 38 = some (.other) := rfl
theorem Γ39 : Γ 39 = some ⟨.other, 1, 8, [.v .nilFunc]⟩ := rfl
theorem td39 : tdOf Γ 39 = some (.other) := rfl
theorem Γ40 : Γ 40 = some ⟨.arr 32 5, 32, 32, (List.replicate 32 (.v (.int .u8 0)))⟩ := rfl
theorem td40 : tdOf Γ 40 = some (.arr 32 5) := rfl
theorem ar40 : arrOf Γ 40 = some (32, 5, 1) := rfl
theorem Γ41 : Γ 41 = some ⟨.other, 1, 8, [.v .nilFunc]⟩ := rfl
theorem td41 : tdOf Γ 41 = some (.other) := rfl
theorem Γ42 : Γ 42 = some ⟨.other, 1, 8, [.v .nilFunc]⟩ := rfl
theorem td42 : tdOf Γ 42 = some (.other) := rfl
theorem Γ43 : Γ 43 = some ⟨.slice 5, 1, 24, [.ds true 0 []]⟩ := rfl
theorem td43 : tdOf Γ 43 = some (.slice 5) := rfl
theorem sl43 : sliceOf Γ 43 = some (5, ⟨.int .u8, 1, 1, [.v (.int .u8 0)]⟩) := rfl
theorem Γ44 : Γ 44 = some ⟨.other, 1, 8, [.v .nilFunc]⟩ := rfl
theorem td44 : tdOf Γ 44 = some (.other) := rfl
theorem Γ46 : Γ 46 = some ⟨.other, 1, 8, [.v .nilFunc]⟩ := rfl
theorem td46 : tdOf Γ 46 = some (.other) := rfl
theorem Γ48 : Γ 48 = some ⟨.other, 1, 8, [.v .nilFunc]⟩ := rfl
theorem td48 : tdOf Γ 48 = some (.other) := rfl
theorem Γ49 : Γ 49 = some ⟨.other, 1, 8, [.v .nilFunc]⟩ := rfl
theorem td49 : tdOf Γ 49 = some (.other) := rfl
theorem Γ51 : Γ 51 = some ⟨.other, 1, 8, [.v .nilFunc]⟩ := rfl
theorem td51 : tdOf Γ 51 = some (.other) := rfl
theorem Γ52 : Γ 52 = some ⟨.other, 1, 8, [.v .nilFunc]⟩ := rfl
theorem td52 : tdOf Γ 52 = some (.other) := rfl
theorem Γ53 : Γ 53 = some ⟨.other, 1, 8, [.v .nilFunc]⟩ := rfl
theorem td53 : tdOf Γ 53 = some (.other) := rfl
theorem Γ54 : Γ 54 = some ⟨.other, 1, 8, [.v .nilFunc]⟩ := rfl
theorem td54 : tdOf Γ 54 = some (.other) := rfl
theorem Γ55 : Γ 55 = some ⟨.other, 1, 8, [.v .nilFunc]⟩ := rfl
theorem td55 : tdOf Γ 55 = some (.other) := rfl
theorem Γ57 : Γ 57 = some ⟨.other, 1, 8, [.v .nilFunc]⟩ := rfl
theorem td57 : tdOf Γ 57 = some (.other) := rfl
theorem Γ58 : Γ 58 = some ⟨.arr 8 30, 8, 64, (List.replicate 8 (.v (.int .u64 0)))⟩ := rfl
theorem td58 : tdOf Γ 58 = some (.arr 8 30) := rfl
theorem ar58 : arrOf Γ 58 = some (8, 30, 1) := rfl
theorem Γ59 : Γ 59 = some ⟨.other, 1, 8, [.v .nilFunc]⟩ := rfl
theorem td59 : tdOf Γ 59 = some (.other) := rfl
theorem Γ60 : Γ 60 = some ⟨.other, 1, 8, [.v .nilFunc]⟩ := rfl
theorem td60 : tdOf Γ 60 = some (.other) := rfl
theorem Γ61 : Γ 61 = some ⟨.other, 1, 8, [.v .nilFunc]⟩ := rfl
theorem td61 : tdOf Γ 61 = some (.other) := rfl
theorem Γ62 : Γ 62 = some ⟨.int .u64, 1, 8, [.v (.int .u64 0)]⟩ := rfl
theorem td62 : tdOf Γ 62 = some (.int .u64) := rfl
theorem Γ63 : Γ 63 = some ⟨.other, 1, 8, [.v .nilFunc]⟩ := rfl
theorem td63 : tdOf Γ 63 = some (.other) := rfl
theorem Γ67 : Γ 67 = some ⟨.other, 1, 8, [.v .nilFunc]⟩ := rfl
theorem td67 : tdOf Γ 67 = some (.other) := rfl
theorem Γ68 : Γ 68 = some ⟨.struct [(0, 17), (1, 17), (2, 17), (3, 9)], 4, 40, [.v (.pointer none), .v (.pointer none), .v (.pointer none), .v (.string ByteArray.empty)]⟩ := rfl
theorem td68 : tdOf Γ 68 = some (.struct [(0, 17), (1, 17), (2, 17), (3, 9)]) := rfl
theorem fo68_0 : fieldOff Γ 68 0 = some (0, 17) := rfl
theorem fo68_1 : fieldOff Γ 68 1 = some (1, 17) := rfl
theorem fo68_2 : fieldOff Γ 68 2 = some (2, 17) := rfl
theorem fo68_3 : fieldOff Γ 68 3 = some (3, 9) := rfl
theorem Γ70 : Γ 70 = some ⟨.arr 0 16, 0, 0, []⟩ := rfl
theorem td70 : tdOf Γ 70 = some (.arr 0 16) := rfl
theorem Γ71 : Γ 71 = some ⟨.struct [(0, 70)], 0, 0, []⟩ := rfl
theorem td71 : tdOf Γ 71 = some (.struct [(0, 70)]) := rfl
theorem fo71_0 : fieldOff Γ 71 0 = some (0, 70) := rfl
theorem Γ73 : Γ 73 = some ⟨.other, 1, 8, [.v .nilFunc]⟩ := rfl
theorem td73 : tdOf Γ 73 = some (.other) := rfl
theorem Γ74 : Γ 74 = some ⟨.int .u32, 1, 4, [.v (.int .u32 0)]⟩ := rfl
theorem td74 : tdOf Γ 74 = some (.int .u32) := rfl
theorem Γ77 : Γ 77 = some ⟨.other, 1, 8, [.v .nilFunc]⟩ := rfl
theorem td77 : tdOf Γ 77 = some (.other) := rfl
theorem Γ78 : Γ 78 = some ⟨.ptr, 1, 8, [.v (.pointer none)]⟩ := rfl
theorem td78 : tdOf Γ 78 = some (.ptr) := rfl
theorem Γ81 : Γ 81 = some ⟨.struct [(0, 12), (1, 12), (2, 74), (3, 75), (4, 5), (5, 5), (6, 76), (7, 77), (8, 78), (9, 79), (10, 80)], 11, 48, [.v (.int .u64 0), .v (.int .u64 0), .v (.int .u32 0), .v (.int .u8 0), .v (.int .u8 0), .v (.int .u8 0), .v (.int .u8 0), .v .nilFunc, .v (.pointer none), .v (.int .i32 0), .v (.int .i32 0)]⟩ := rfl
theorem td81 : tdOf Γ 81 = some (.struct [(0, 12), (1, 12), (2, 74), (3, 75), (4, 5), (5, 5), (6, 76), (7, 77), (8, 78), (9, 79), (10, 80)]) := rfl
theorem fo81_0 : fieldOff Γ 81 0 = some (0, 12) := rfl
theorem fo81_1 : fieldOff Γ 81 1 = some (1, 12) := rfl
theorem fo81_2 : fieldOff Γ 81 2 = some (2, 74) := rfl
theorem fo81_3 : fieldOff Γ 81 3 = some (3, 75) := rfl
theorem fo81_4 : fieldOff Γ 81 4 = some (4, 5) := rfl
theorem fo81_5 : fieldOff Γ 81 5 = some (5, 5) := rfl
theorem fo81_6 : fieldOff Γ 81 6 = some (6, 76) := rfl
theorem fo81_7 : fieldOff Γ 81 7 = some (7, 77) := rfl
theorem fo81_8 : fieldOff Γ 81 8 = some (8, 78) := rfl
theorem fo81_9 : fieldOff Γ 81 9 = some (9, 79) := rfl
theorem fo81_10 : fieldOff Γ 81 10 = some (10, 80) := rfl
theorem Γ83 : Γ 83 = some ⟨.struct [(0, 9)], 1, 16, [.v (.string ByteArray.empty)]⟩ := rfl
theorem td83 : tdOf Γ 83 = some (.struct [(0, 9)]) := rfl
theorem fo83_0 : fieldOff Γ 83 0 = some (0, 9) := rfl
theorem Γ84 : Γ 84 = some ⟨.struct [(0, 9)], 1, 16, [.v (.string ByteArray.empty)]⟩ := rfl
theorem td84 : tdOf Γ 84 = some (.struct [(0, 9)]) := rfl
theorem fo84_0 : fieldOff Γ 84 0 = some (0, 9) := rfl
theorem Γok : TabOk Try.prog Γ := tabOk (by kernel_rfl)
theorem mixed : Try.prog.follows .mixedOrders = true := by kernel_rfl
end Go.Proofs.Ytmfgldfldejgcaa
