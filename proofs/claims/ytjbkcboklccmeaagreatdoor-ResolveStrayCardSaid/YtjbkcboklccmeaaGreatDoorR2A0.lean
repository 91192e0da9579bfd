/-
  Functions of the program as abstract code: printed by a program of mine.
-/
import Derived.Test.YtjbkcboklccmeaaGreatDoorGa
set_option linter.unusedVariables false
set_option linter.unusedSimpArgs false
set_option maxRecDepth 100000
namespace Go.Proofs.YtjbkcboklccmeaaGreatDoor.Abs.R2
/-- scribe/scribelaw14.ResolveStray -/
def af5 : AFunc := ⟨1, [.tmp 2],
  (.seq (.ops [
    ⟨some 2, .mov (.const (.bool false)), none, false⟩] [0])
  (.seq (.ops [
    ⟨some 10, .buildSlice true 9 1 6 [.str []] [(0, (.const (.string ⟨#[66, 69, 71, 73, 78, 123, 98, 114, 101, 97, 107, 125]⟩))), (1, (.const (.string ⟨#[123, 105, 102, 40, 49, 41, 99, 111, 110, 116, 105, 110, 117, 101, 125]⟩))), (2, (.const (.string ⟨#[123, 114, 101, 116, 117, 114, 110, 125]⟩))), (3, (.const (.string ⟨#[66, 69, 71, 73, 78, 123, 110, 101, 120, 116, 125]⟩))), (4, (.const (.string ⟨#[102, 117, 110, 99, 116, 105, 111, 110, 32, 102, 40, 41, 123, 110, 101, 120, 116, 125]⟩))), (5, (.const (.string ⟨#[69, 78, 68, 123, 119, 104, 105, 108, 101, 40, 49, 41, 98, 114, 101, 97, 107, 59, 98, 114, 101, 97, 107, 125]⟩)))], none, false⟩,
    ⟨some 3, .mov (.tmp 10), none, false⟩] [0, 3])
  (.seq (.seq (.ops [
    ⟨some 11, .mov (.tmp 0), none, false⟩,
    ⟨some 12, .bin .lss (.tmp 11) (.const (.int .i64 0)), none, false⟩,
    ⟨some 13, .mov (.tmp 12), none, false⟩,
    ⟨some 14, .mov (.tmp 0), some (13, false), false⟩,
    ⟨some 15, .mov (.tmp 3), some (13, false), false⟩,
    ⟨some 16, .len .slice (.tmp 15), some (13, false), false⟩,
    ⟨some 17, .bin .geq (.tmp 14) (.tmp 16), some (13, false), false⟩,
    ⟨some 18, .pick (.tmp 13) (.const (.bool true)) (.tmp 17), none, false⟩] [0, 3, 18])
  (.cond (.tmp 18)
  (.seq (.ops [
      ⟨some 19, .ext 12 [], none, false⟩,
      ⟨some 2, .mov (.tmp 19), none, false⟩] [2])
    .ret)
  .skip))
  (.seq (.ops [
    ⟨some 21, .mov (.tmp 3), none, false⟩,
    ⟨some 22, .mov (.tmp 0), none, false⟩,
    ⟨some 23, .indexAddr 1 (.tmp 21) (.tmp 22), none, false⟩,
    ⟨some 24, .load false 1 (.tmp 23), none, false⟩,
    ⟨some 25, .call 17 [(.tmp 24)], none, false⟩,
    ⟨some 20, .mov (.tmp 25), none, false⟩,
    ⟨some 26, .extract (.tmp 20) 0, none, false⟩,
    ⟨some 27, .extract (.tmp 20) 1, none, false⟩,
    ⟨some 28, .extract (.tmp 20) 2, none, false⟩,
    ⟨some 4, .mov (.tmp 26), none, false⟩,
    ⟨some 5, .mov (.tmp 27), none, false⟩,
    ⟨some 6, .mov (.tmp 28), none, false⟩] [4, 6])
  (.seq (.ops [
    ⟨some 30, .call 17 [(.const (.string ⟨#[102, 117, 110, 99, 116, 105, 111, 110, 32, 102, 40, 41, 123, 119, 104, 105, 108, 101, 40, 49, 41, 123, 98, 114, 101, 97, 107, 125, 114, 101, 116, 117, 114, 110, 32, 49, 125, 32, 123, 102, 111, 114, 40, 59, 59, 41, 99, 111, 110, 116, 105, 110, 117, 101, 59, 110, 101, 120, 116, 125]⟩))], none, false⟩,
    ⟨some 29, .mov (.tmp 30), none, false⟩,
    ⟨some 31, .extract (.tmp 29) 0, none, false⟩,
    ⟨some 32, .extract (.tmp 29) 1, none, false⟩,
    ⟨some 33, .extract (.tmp 29) 2, none, false⟩,
    ⟨some 7, .mov (.tmp 31), none, false⟩,
    ⟨some 8, .mov (.tmp 32), none, false⟩,
    ⟨some 9, .mov (.tmp 33), none, false⟩] [4, 6, 7, 9])
  (.seq (.ops [
    ⟨some 34, .ext 12 [], none, false⟩,
    ⟨some 35, .mov (.tmp 34), none, false⟩,
    ⟨some 36, .mov (.tmp 6), some (35, true), false⟩,
    ⟨some 37, .bin .eql (.tmp 36) (.const (.int .i64 9)), some (35, true), false⟩,
    ⟨some 38, .pick (.tmp 35) (.tmp 37) (.const (.bool false)), none, false⟩,
    ⟨some 39, .mov (.tmp 38), none, false⟩,
    ⟨some 40, .mov (.tmp 4), some (39, true), false⟩,
    ⟨some 41, .eqNil .ptr false (.tmp 40) (.const (.pointer none)), some (39, true), false⟩,
    ⟨some 42, .pick (.tmp 39) (.tmp 41) (.const (.bool false)), none, false⟩,
    ⟨some 43, .mov (.tmp 42), none, false⟩,
    ⟨some 44, .mov (.tmp 9), some (43, true), false⟩,
    ⟨some 45, .bin .eql (.tmp 44) (.const (.int .i64 0)), some (43, true), false⟩,
    ⟨some 46, .pick (.tmp 43) (.tmp 45) (.const (.bool false)), none, false⟩,
    ⟨some 47, .mov (.tmp 46), none, false⟩,
    ⟨some 48, .mov (.tmp 7), some (47, true), false⟩,
    ⟨some 49, .eqNil .ptr true (.tmp 48) (.const (.pointer none)), some (47, true), false⟩,
    ⟨some 50, .pick (.tmp 47) (.tmp 49) (.const (.bool false)), none, false⟩,
    ⟨some 2, .mov (.tmp 50), none, false⟩] [2])
  .ret))))))⟩
/-- scribe/parse.Parse -/
def af11 : AFunc := ⟨1, [.cellL true 4 2, .tmp 3, .tmp 4],
  (.seq (.ops [
    ⟨some 2, .allocL 0 [.str [], .str [], .int .i64 0, .nilSlice], none, false⟩,
    ⟨some 3, .mov (.const (.int .i64 0)), none, false⟩,
    ⟨some 4, .mov (.const (.int .i64 0)), none, false⟩] [0, 2])
  (.seq (.ops [
    ⟨some 11, .mov (.tmp 0), none, false⟩,
    ⟨some 12, .call 27 [(.tmp 11)], none, false⟩,
    ⟨some 10, .mov (.tmp 12), none, false⟩,
    ⟨some 13, .extract (.tmp 10) 0, none, false⟩,
    ⟨some 14, .extract (.tmp 10) 1, none, false⟩,
    ⟨some 15, .extract (.tmp 10) 2, none, false⟩,
    ⟨some 5, .mov (.tmp 13), none, false⟩,
    ⟨some 6, .mov (.tmp 14), none, false⟩,
    ⟨some 7, .mov (.tmp 15), none, false⟩] [2, 5, 6, 7])
  (.seq (.seq (.ops [
    ⟨some 16, .mov (.tmp 7), none, false⟩,
    ⟨some 17, .bin .neq (.tmp 16) (.const (.int .i64 0)), none, false⟩] [2, 5, 6, 7, 17])
  (.cond (.tmp 17)
  (.seq (.ops [
      ⟨some 18, .build [.str [], .str [], .int .i64 0, .nilSlice] [], none, false⟩,
      ⟨some 19, .mov (.tmp 6), none, false⟩,
      ⟨some 20, .mov (.tmp 7), none, false⟩,
      ⟨none, .storeL 4 (.tmp 2) (.tmp 18), none, false⟩,
      ⟨some 3, .mov (.tmp 19), none, false⟩,
      ⟨some 4, .mov (.tmp 20), none, false⟩] [2, 3, 4])
    .ret)
  .skip))
  (.seq (.ops [
    ⟨some 21, .mov (.tmp 5), none, false⟩,
    ⟨some 22, .build [.nilSlice, .int .i64 0, .int .i64 0, .bool false, .int .i64 0, .int .i64 0] [(0, 1, (.tmp 21))], none, false⟩,
    ⟨some 23, .boxH 91 6 (.tmp 22), none, false⟩,
    ⟨some 8, .mov (.tmp 23), none, false⟩] [2, 8])
  (.seq (.ops [
    ⟨some 24, .call 28 [(.const (.string ⟨#[112, 114, 111, 103, 114, 97, 109]⟩)), (.const (.slice none 0 0))], none, false⟩,
    ⟨some 9, .allocL 0 [.str [], .str [], .int .i64 0, .nilSlice], none, false⟩,
    ⟨none, .storeL 4 (.tmp 9) (.tmp 24), none, false⟩] [2, 8, 9])
  (.seq (.block 0
  (.loop [2, 8, 9]
    (.seq (.seq (.ops [
        ⟨some 25, .mov (.tmp 8), none, false⟩,
        ⟨some 26, .nilCheck (.tmp 25), none, false⟩,
        ⟨some 27, .fieldAddr 4 (.tmp 26), none, false⟩,
        ⟨some 28, .load false 1 (.tmp 27), none, false⟩,
        ⟨some 29, .bin .eql (.tmp 28) (.const (.int .i64 0)), none, false⟩] [2, 8, 9, 29])
      (.cond (.tmp 29)
      .skip
      (.exit 0)))
      (.block 1
      (.seq (.block 2
        (.loop [2, 8, 9]
          (.seq (.seq (.ops [
              ⟨some 30, .mov (.tmp 8), none, false⟩,
              ⟨some 31, .buildSlice true 9 1 1 [.str []] [(0, (.const (.string ⟨#[59]⟩)))], none, false⟩,
              ⟨some 32, .call 29 [(.tmp 30), (.tmp 31)], none, false⟩,
              ⟨some 33, .mov (.tmp 32), none, false⟩,
              ⟨some 34, .mov (.tmp 8), some (33, false), false⟩,
              ⟨some 35, .call 30 [(.tmp 34)], some (33, false), false⟩,
              ⟨some 36, .field false 1 0 (.tmp 35), some (33, false), false⟩,
              ⟨some 37, .bin .eql (.tmp 36) (.const (.int .i64 1)), some (33, false), false⟩,
              ⟨some 38, .pick (.tmp 33) (.const (.bool true)) (.tmp 37), none, false⟩] [2, 8, 9, 38])
            (.cond (.tmp 38)
            .skip
            (.exit 2)))
            (.block 3
            (.ops [
                ⟨some 39, .mov (.tmp 8), none, false⟩,
                ⟨some 40, .call 31 [(.tmp 39)], none, false⟩] [2, 8, 9])))))
        (.seq (.seq (.ops [
          ⟨some 41, .mov (.tmp 8), none, false⟩,
          ⟨some 42, .call 30 [(.tmp 41)], none, false⟩,
          ⟨some 43, .field false 1 0 (.tmp 42), none, false⟩,
          ⟨some 44, .bin .eql (.tmp 43) (.const (.int .i64 0)), none, false⟩] [2, 8, 9, 44])
        (.cond (.tmp 44)
        (.exit 0)
        .skip))
        (.opsD [
          (⟨some 45, .fieldL 3 (.tmp 9), none, false⟩, []),
          (⟨some 46, .loadL false 1 (.tmp 45), none, false⟩, []),
          (⟨some 47, .mov (.tmp 8), none, false⟩, []),
          (⟨some 48, .call 32 [(.tmp 47)], none, false⟩, []),
          (⟨some 49, .buildSlice true 25 4 1 [.str [], .str [], .int .i64 0, .nilSlice] [(0, (.tmp 48))], none, false⟩, []),
          (⟨some 50, .append false 25 4 64 (.tmp 46) (.tmp 49), none, false⟩, []),
          (⟨some 51, .fieldL 3 (.tmp 9), none, false⟩, []),
          (⟨none, .storeL 1 (.tmp 51) (.tmp 50), none, false⟩, [])] [2, 8, 9])))))))
  (.seq (.seq (.ops [
    ⟨some 52, .mov (.tmp 8), none, false⟩,
    ⟨some 53, .nilCheck (.tmp 52), none, false⟩,
    ⟨some 54, .fieldAddr 4 (.tmp 53), none, false⟩,
    ⟨some 55, .load false 1 (.tmp 54), none, false⟩,
    ⟨some 56, .bin .neq (.tmp 55) (.const (.int .i64 0)), none, false⟩] [2, 8, 9, 56])
  (.cond (.tmp 56)
  (.seq (.opsD [
      (⟨some 57, .build [.str [], .str [], .int .i64 0, .nilSlice] [], none, false⟩, []),
      (⟨some 58, .mov (.tmp 8), none, false⟩, []),
      (⟨some 59, .nilCheck (.tmp 58), none, false⟩, []),
      (⟨some 60, .fieldAddr 5 (.tmp 59), none, false⟩, []),
      (⟨some 61, .load false 1 (.tmp 60), none, false⟩, []),
      (⟨some 62, .mov (.tmp 8), none, false⟩, []),
      (⟨some 63, .nilCheck (.tmp 62), none, false⟩, []),
      (⟨some 64, .fieldAddr 4 (.tmp 63), none, false⟩, []),
      (⟨some 65, .load false 1 (.tmp 64), none, false⟩, []),
      (⟨none, .storeL 4 (.tmp 2) (.tmp 57), none, false⟩, []),
      (⟨some 3, .mov (.tmp 61), none, false⟩, []),
      (⟨some 4, .mov (.tmp 65), none, false⟩, [])] [2, 3, 4])
    .ret)
  .skip))
  (.seq (.ops [
    ⟨some 66, .loadL true 4 (.tmp 9), none, false⟩,
    ⟨none, .storeL 4 (.tmp 2) (.tmp 66), none, false⟩,
    ⟨some 3, .mov (.const (.int .i64 0)), none, false⟩,
    ⟨some 4, .mov (.const (.int .i64 0)), none, false⟩] [2, 3, 4])
  .ret))))))))⟩
/-- scribe/scribelaw14.awake -/
def af12 : AFunc := ⟨0, [.tmp 0],
  (.seq (.ops [
    ⟨some 0, .mov (.const (.bool false)), none, false⟩] [])
  (.seq (.ops [
    ⟨some 8, .call 17 [(.const (.string ⟨#[102, 117, 110, 99, 116, 105, 111, 110, 32, 102, 40, 97, 41, 123, 97, 91, 49, 93, 61, 49, 125, 32, 66, 69, 71, 73, 78, 123, 102, 40, 120, 41, 59, 112, 114, 105, 110, 116, 32, 120, 91, 49, 93, 125]⟩))], none, false⟩,
    ⟨some 7, .mov (.tmp 8), none, false⟩,
    ⟨some 9, .extract (.tmp 7) 0, none, false⟩,
    ⟨some 10, .extract (.tmp 7) 1, none, false⟩,
    ⟨some 11, .extract (.tmp 7) 2, none, false⟩,
    ⟨some 1, .mov (.tmp 9), none, false⟩,
    ⟨some 2, .mov (.tmp 10), none, false⟩,
    ⟨some 3, .mov (.tmp 11), none, false⟩] [1, 3])
  (.seq (.ops [
    ⟨some 13, .call 17 [(.const (.string ⟨#[102, 117, 110, 99, 116, 105, 111, 110, 32, 102, 40, 97, 41, 123, 97, 91, 49, 93, 61, 49, 125, 32, 66, 69, 71, 73, 78, 123, 102, 40, 120, 41, 59, 112, 114, 105, 110, 116, 32, 120, 125]⟩))], none, false⟩,
    ⟨some 12, .mov (.tmp 13), none, false⟩,
    ⟨some 14, .extract (.tmp 12) 0, none, false⟩,
    ⟨some 15, .extract (.tmp 12) 1, none, false⟩,
    ⟨some 16, .extract (.tmp 12) 2, none, false⟩,
    ⟨some 4, .mov (.tmp 14), none, false⟩,
    ⟨some 5, .mov (.tmp 15), none, false⟩,
    ⟨some 6, .mov (.tmp 16), none, false⟩] [1, 3, 5, 6])
  (.seq (.ops [
    ⟨some 17, .mov (.tmp 3), none, false⟩,
    ⟨some 18, .bin .eql (.tmp 17) (.const (.int .i64 0)), none, false⟩,
    ⟨some 19, .mov (.tmp 18), none, false⟩,
    ⟨some 20, .mov (.tmp 1), some (19, true), false⟩,
    ⟨some 21, .eqNil .ptr true (.tmp 20) (.const (.pointer none)), some (19, true), false⟩,
    ⟨some 22, .pick (.tmp 19) (.tmp 21) (.const (.bool false)), none, false⟩,
    ⟨some 23, .mov (.tmp 22), none, false⟩,
    ⟨some 24, .mov (.tmp 1), some (23, true), false⟩,
    ⟨some 25, .nilCheck (.tmp 24), some (23, true), false⟩,
    ⟨some 26, .fieldAddr 0 (.tmp 25), some (23, true), false⟩,
    ⟨some 27, .load false 1 (.tmp 26), some (23, true), false⟩,
    ⟨some 28, .len .slice (.tmp 27), some (23, true), false⟩,
    ⟨some 29, .bin .eql (.tmp 28) (.const (.int .i64 1)), some (23, true), false⟩,
    ⟨some 30, .pick (.tmp 23) (.tmp 29) (.const (.bool false)), none, false⟩,
    ⟨some 31, .mov (.tmp 30), none, false⟩,
    ⟨some 32, .mov (.tmp 1), some (31, true), false⟩,
    ⟨some 33, .nilCheck (.tmp 32), some (31, true), false⟩,
    ⟨some 34, .fieldAddr 0 (.tmp 33), some (31, true), false⟩,
    ⟨some 35, .load false 1 (.tmp 34), some (31, true), false⟩,
    ⟨some 36, .indexAddr 7 (.tmp 35) (.const (.int .i64 0)), some (31, true), false⟩,
    ⟨some 37, .fieldAddr 2 (.tmp 36), some (31, true), false⟩,
    ⟨some 38, .load false 1 (.tmp 37), some (31, true), false⟩,
    ⟨some 39, .len .slice (.tmp 38), some (31, true), false⟩,
    ⟨some 40, .bin .eql (.tmp 39) (.const (.int .i64 1)), some (31, true), false⟩,
    ⟨some 41, .pick (.tmp 31) (.tmp 40) (.const (.bool false)), none, false⟩,
    ⟨some 42, .mov (.tmp 41), none, false⟩,
    ⟨some 43, .mov (.tmp 1), some (42, true), false⟩,
    ⟨some 44, .nilCheck (.tmp 43), some (42, true), false⟩,
    ⟨some 45, .fieldAddr 0 (.tmp 44), some (42, true), false⟩,
    ⟨some 46, .load false 1 (.tmp 45), some (42, true), false⟩,
    ⟨some 47, .indexAddr 7 (.tmp 46) (.const (.int .i64 0)), some (42, true), false⟩,
    ⟨some 48, .fieldAddr 2 (.tmp 47), some (42, true), false⟩,
    ⟨some 49, .load false 1 (.tmp 48), some (42, true), false⟩,
    ⟨some 50, .indexAddr 1 (.tmp 49) (.const (.int .i64 0)), some (42, true), false⟩,
    ⟨some 51, .load false 1 (.tmp 50), some (42, true), false⟩,
    ⟨some 52, .pick (.tmp 42) (.tmp 51) (.const (.bool false)), none, false⟩,
    ⟨some 53, .mov (.tmp 52), none, false⟩,
    ⟨some 54, .mov (.tmp 1), some (53, true), false⟩,
    ⟨some 55, .nilCheck (.tmp 54), some (53, true), false⟩,
    ⟨some 56, .fieldAddr 1 (.tmp 55), some (53, true), false⟩,
    ⟨some 57, .load false 1 (.tmp 56), some (53, true), false⟩,
    ⟨some 58, .len .slice (.tmp 57), some (53, true), false⟩,
    ⟨some 59, .bin .eql (.tmp 58) (.const (.int .i64 1)), some (53, true), false⟩,
    ⟨some 60, .pick (.tmp 53) (.tmp 59) (.const (.bool false)), none, false⟩,
    ⟨some 61, .mov (.tmp 60), none, false⟩,
    ⟨some 62, .mov (.tmp 1), some (61, true), false⟩,
    ⟨some 63, .nilCheck (.tmp 62), some (61, true), false⟩,
    ⟨some 64, .fieldAddr 1 (.tmp 63), some (61, true), false⟩,
    ⟨some 65, .load false 1 (.tmp 64), some (61, true), false⟩,
    ⟨some 66, .indexAddr 1 (.tmp 65) (.const (.int .i64 0)), some (61, true), false⟩,
    ⟨some 67, .load false 1 (.tmp 66), some (61, true), false⟩,
    ⟨some 68, .bin .eql (.tmp 67) (.const (.string ⟨#[120]⟩)), some (61, true), false⟩,
    ⟨some 69, .pick (.tmp 61) (.tmp 68) (.const (.bool false)), none, false⟩,
    ⟨some 70, .mov (.tmp 69), none, false⟩,
    ⟨some 71, .mov (.tmp 1), some (70, true), false⟩,
    ⟨some 72, .nilCheck (.tmp 71), some (70, true), false⟩,
    ⟨some 73, .fieldAddr 2 (.tmp 72), some (70, true), false⟩,
    ⟨some 74, .load false 1 (.tmp 73), some (70, true), false⟩,
    ⟨some 75, .indexAddr 1 (.tmp 74) (.const (.int .i64 0)), some (70, true), false⟩,
    ⟨some 76, .load false 1 (.tmp 75), some (70, true), false⟩,
    ⟨some 77, .pick (.tmp 70) (.tmp 76) (.const (.bool false)), none, false⟩,
    ⟨some 78, .mov (.tmp 77), none, false⟩,
    ⟨some 79, .mov (.tmp 6), some (78, true), false⟩,
    ⟨some 80, .bin .eql (.tmp 79) (.const (.int .i64 11)), some (78, true), false⟩,
    ⟨some 81, .pick (.tmp 78) (.tmp 80) (.const (.bool false)), none, false⟩,
    ⟨some 82, .mov (.tmp 81), none, false⟩,
    ⟨some 83, .mov (.tmp 5), some (82, true), false⟩,
    ⟨some 84, .bin .eql (.tmp 83) (.const (.int .i64 39)), some (82, true), false⟩,
    ⟨some 85, .pick (.tmp 82) (.tmp 84) (.const (.bool false)), none, false⟩,
    ⟨some 0, .mov (.tmp 85), none, false⟩] [0])
  .ret))))⟩
/-- scribe/resolve.Resolve -/
def af13 : AFunc := ⟨1, [.tmp 2, .tmp 3, .tmp 4],
  (.seq (.ops [
    ⟨some 1, .boxL 0 4 (.tmp 0), none, false⟩,
    ⟨some 2, .mov (.const (.pointer none)), none, false⟩,
    ⟨some 3, .mov (.const (.int .i64 0)), none, false⟩,
    ⟨some 4, .mov (.const (.int .i64 0)), none, false⟩] [1])
  (.seq (.ops [
    ⟨some 15, .makeMap, none, false⟩,
    ⟨some 16, .build [.nilSlice, .nilSlice, .nilSlice] [], none, false⟩,
    ⟨some 17, .boxH 40 3 (.tmp 16), none, false⟩,
    ⟨some 18, .makeMap, none, false⟩,
    ⟨some 19, .build [.nilMap, .nil, .nilMap, .nilSlice, .int .i64 0, .int .i64 0] [(0, 1, (.tmp 15)), (1, 1, (.tmp 17)), (2, 1, (.tmp 18))], none, false⟩,
    ⟨some 20, .boxH 104 6 (.tmp 19), none, false⟩,
    ⟨some 5, .mov (.tmp 20), none, false⟩] [1, 5])
  (.seq (.ops [
    ⟨some 21, .mov (.tmp 5), none, false⟩,
    ⟨some 22, .fieldL 3 (.tmp 1), none, false⟩,
    ⟨some 23, .loadL false 1 (.tmp 22), none, false⟩,
    ⟨some 24, .call 33 [(.tmp 21), (.tmp 23)], none, false⟩] [1, 5])
  (.seq (.ops [
    ⟨some 25, .mov (.tmp 5), none, false⟩,
    ⟨some 26, .fieldL 3 (.tmp 1), none, false⟩,
    ⟨some 27, .loadL false 1 (.tmp 26), none, false⟩,
    ⟨some 28, .call 34 [(.tmp 25), (.tmp 27)], none, false⟩] [1, 5])
  (.seq (.ops [
    ⟨some 6, .mov (.const (.int .i64 0)), none, false⟩] [1, 5, 6])
  (.seq (.seq (.ops [
    ⟨some 29, .fieldL 3 (.tmp 1), none, false⟩,
    ⟨some 30, .loadL false 1 (.tmp 29), none, false⟩,
    ⟨some 31, .len .slice (.tmp 30), none, false⟩,
    ⟨some 32, .mov (.const (.int .i64 0)), none, false⟩] [5, 6, 30, 31, 32])
  (.block 0
  (.loop [5, 6, 30, 31, 32]
    (.seq (.ops [
        ⟨some 33, .bin .lss (.tmp 32) (.tmp 31), none, false⟩] [5, 6, 30, 31, 32, 33])
      (.seq (.cond (.tmp 33)
      .skip
      (.exit 0))
      (.seq (.block 1
      (.seq (.ops [
          ⟨some 34, .indexAddr 4 (.tmp 30) (.tmp 32), none, false⟩,
          ⟨some 35, .load true 4 (.tmp 34), none, false⟩,
          ⟨some 8, .allocL 0 [.str [], .str [], .int .i64 0, .nilSlice], none, false⟩,
          ⟨none, .storeL 4 (.tmp 8) (.tmp 35), none, false⟩] [5, 6, 8, 30, 31, 32])
        (.seq (.ops [
          ⟨some 36, .mov (.tmp 5), none, false⟩,
          ⟨some 37, .loadL true 4 (.tmp 8), none, false⟩,
          ⟨some 38, .mov (.tmp 6), none, false⟩,
          ⟨some 39, .call 35 [(.tmp 36), (.tmp 37), (.tmp 38)], none, false⟩] [5, 6, 8, 30, 31, 32])
        (.seq (.ops [
          ⟨some 40, .fieldL 0 (.tmp 8), none, false⟩,
          ⟨some 41, .loadL false 1 (.tmp 40), none, false⟩,
          ⟨some 42, .bin .eql (.tmp 41) (.const (.string ⟨#[102, 117, 110, 99]⟩)), none, false⟩] [5, 6, 30, 31, 32, 42])
        (.cond (.tmp 42)
        (.ops [
            ⟨some 43, .mov (.tmp 6), none, false⟩,
            ⟨some 44, .bin .add (.tmp 43) (.const (.int .i64 1)), none, false⟩,
            ⟨some 6, .mov (.tmp 44), none, false⟩] [5, 6, 30, 31, 32])
        .skip)))))
      (.ops [
        ⟨some 45, .bin .add (.tmp 32) (.const (.int .i64 1)), none, false⟩,
        ⟨some 32, .mov (.tmp 45), none, false⟩] [5, 6, 30, 31, 32])))))))
  (.seq (.seq (.ops [
    ⟨some 46, .mov (.tmp 5), none, false⟩,
    ⟨some 47, .nilCheck (.tmp 46), none, false⟩,
    ⟨some 48, .fieldAddr 5 (.tmp 47), none, false⟩,
    ⟨some 49, .load false 1 (.tmp 48), none, false⟩,
    ⟨some 50, .bin .neq (.tmp 49) (.const (.int .i64 0)), none, false⟩] [5, 50])
  (.cond (.tmp 50)
  (.seq (.opsD [
      (⟨some 51, .mov (.tmp 5), none, false⟩, []),
      (⟨some 52, .nilCheck (.tmp 51), none, false⟩, []),
      (⟨some 53, .fieldAddr 4 (.tmp 52), none, false⟩, []),
      (⟨some 54, .load false 1 (.tmp 53), none, false⟩, []),
      (⟨some 55, .mov (.tmp 5), none, false⟩, []),
      (⟨some 56, .nilCheck (.tmp 55), none, false⟩, []),
      (⟨some 57, .fieldAddr 5 (.tmp 56), none, false⟩, []),
      (⟨some 58, .load false 1 (.tmp 57), none, false⟩, []),
      (⟨some 2, .mov (.const (.pointer none)), none, false⟩, []),
      (⟨some 3, .mov (.tmp 54), none, false⟩, []),
      (⟨some 4, .mov (.tmp 58), none, false⟩, [])] [2, 3, 4])
    .ret)
  .skip))
  (.seq (.seq (.ops [
    ⟨some 59, .mov (.tmp 5), none, false⟩,
    ⟨some 60, .nilCheck (.tmp 59), none, false⟩,
    ⟨some 61, .fieldAddr 1 (.tmp 60), none, false⟩,
    ⟨some 62, .load false 1 (.tmp 61), none, false⟩,
    ⟨some 63, .nilCheck (.tmp 62), none, false⟩,
    ⟨some 64, .fieldAddr 0 (.tmp 63), none, false⟩,
    ⟨some 65, .load false 1 (.tmp 64), none, false⟩,
    ⟨some 66, .len .slice (.tmp 65), none, false⟩,
    ⟨some 67, .mov (.const (.int .i64 0)), none, false⟩] [5, 65, 66, 67])
  (.block 2
  (.loop [5, 65, 66, 67]
    (.seq (.ops [
        ⟨some 68, .bin .lss (.tmp 67) (.tmp 66), none, false⟩] [5, 65, 66, 67, 68])
      (.seq (.cond (.tmp 68)
      .skip
      (.exit 2))
      (.seq (.block 3
      (.seq (.ops [
          ⟨some 69, .mov (.tmp 67), none, false⟩,
          ⟨some 70, .indexAddr 7 (.tmp 65) (.tmp 67), none, false⟩,
          ⟨some 71, .load true 7 (.tmp 70), none, false⟩,
          ⟨some 10, .allocL 0 [.str [], .nilSlice, .nilSlice, .str [], .str [], .int .i64 0, .nilSlice], none, false⟩,
          ⟨some 9, .mov (.tmp 69), none, false⟩,
          ⟨none, .storeL 7 (.tmp 10) (.tmp 71), none, false⟩] [5, 9, 10, 65, 66, 67])
        (.seq (.ops [
          ⟨some 72, .fieldL 1 (.tmp 10), none, false⟩,
          ⟨some 73, .loadL false 1 (.tmp 72), none, false⟩,
          ⟨some 74, .len .slice (.tmp 73), none, false⟩,
          ⟨some 75, .mov (.const (.int .i64 0)), none, false⟩] [5, 9, 65, 66, 67, 73, 74, 75])
        (.block 4
        (.loop [5, 9, 65, 66, 67, 73, 74, 75]
          (.seq (.ops [
              ⟨some 76, .bin .lss (.tmp 75) (.tmp 74), none, false⟩] [5, 9, 65, 66, 67, 73, 74, 75, 76])
            (.seq (.cond (.tmp 76)
            .skip
            (.exit 4))
            (.seq (.block 5
            (.seq (.ops [
                ⟨some 77, .indexAddr 1 (.tmp 73) (.tmp 75), none, false⟩,
                ⟨some 78, .load false 1 (.tmp 77), none, false⟩,
                ⟨some 12, .mov (.tmp 78), none, false⟩] [5, 9, 12, 65, 66, 67, 73, 74, 75])
              (.opsD [
                (⟨some 79, .mov (.tmp 5), none, false⟩, []),
                (⟨some 80, .nilCheck (.tmp 79), none, false⟩, []),
                (⟨some 81, .fieldAddr 1 (.tmp 80), none, false⟩, []),
                (⟨some 82, .load false 1 (.tmp 81), none, false⟩, []),
                (⟨some 83, .nilCheck (.tmp 82), none, false⟩, []),
                (⟨some 84, .fieldAddr 0 (.tmp 83), none, false⟩, []),
                (⟨some 85, .load false 1 (.tmp 84), none, false⟩, []),
                (⟨some 86, .mov (.tmp 9), none, false⟩, []),
                (⟨some 87, .mov (.tmp 5), none, false⟩, []),
                (⟨some 88, .nilCheck (.tmp 87), none, false⟩, []),
                (⟨some 89, .fieldAddr 1 (.tmp 88), none, false⟩, []),
                (⟨some 90, .load false 1 (.tmp 89), none, false⟩, []),
                (⟨some 91, .nilCheck (.tmp 90), none, false⟩, []),
                (⟨some 92, .fieldAddr 0 (.tmp 91), none, false⟩, []),
                (⟨some 93, .load false 1 (.tmp 92), none, false⟩, []),
                (⟨some 94, .mov (.tmp 9), none, false⟩, []),
                (⟨some 95, .indexAddr 7 (.tmp 93) (.tmp 94), none, false⟩, []),
                (⟨some 96, .fieldAddr 2 (.tmp 95), none, false⟩, []),
                (⟨some 97, .load false 1 (.tmp 96), none, false⟩, []),
                (⟨some 98, .mov (.tmp 5), none, false⟩, []),
                (⟨some 99, .nilCheck (.tmp 98), none, false⟩, []),
                (⟨some 100, .fieldAddr 2 (.tmp 99), none, false⟩, []),
                (⟨some 101, .load false 1 (.tmp 100), none, false⟩, []),
                (⟨some 102, .mov (.tmp 9), none, false⟩, []),
                (⟨some 103, .mov (.tmp 12), none, false⟩, []),
                (⟨some 104, .build [.int .i64 0, .str []] [(0, 1, (.tmp 102)), (1, 1, (.tmp 103))], none, false⟩, []),
                (⟨some 105, .lookup (.agg [.int, .str]) (.bool false) False (.tmp 101) (.tmp 104), none, false⟩, []),
                (⟨some 106, .buildSlice true 4 1 1 [.bool false] [(0, (.tmp 105))], none, false⟩, []),
                (⟨some 107, .append false 4 1 1 (.tmp 97) (.tmp 106), none, false⟩, [(82, .load false 1 (.tmp 81)), (85, .load false 1 (.tmp 84))]),
                (⟨some 108, .indexAddr 7 (.tmp 85) (.tmp 86), none, false⟩, []),
                (⟨some 109, .fieldAddr 2 (.tmp 108), none, false⟩, []),
                (⟨none, .store 1 (.tmp 109) (.tmp 107), none, false⟩, [])] [5, 9, 65, 66, 67, 73, 74, 75])))
            (.ops [
              ⟨some 110, .bin .add (.tmp 75) (.const (.int .i64 1)), none, false⟩,
              ⟨some 75, .mov (.tmp 110), none, false⟩] [5, 9, 65, 66, 67, 73, 74, 75])))))))))
      (.ops [
        ⟨some 111, .bin .add (.tmp 67) (.const (.int .i64 1)), none, false⟩,
        ⟨some 67, .mov (.tmp 111), none, false⟩] [5, 65, 66, 67])))))))
  (.seq (.opsD [
    (⟨some 112, .mov (.tmp 5), none, false⟩, []),
    (⟨some 113, .nilCheck (.tmp 112), none, false⟩, []),
    (⟨some 114, .fieldAddr 1 (.tmp 113), none, false⟩, []),
    (⟨some 115, .load false 1 (.tmp 114), none, false⟩, []),
    (⟨some 116, .mov (.tmp 5), none, false⟩, []),
    (⟨some 117, .nilCheck (.tmp 116), none, false⟩, []),
    (⟨some 118, .fieldAddr 3 (.tmp 117), none, false⟩, []),
    (⟨some 119, .load false 1 (.tmp 118), none, false⟩, []),
    (⟨some 120, .nilCheck (.tmp 115), none, false⟩, []),
    (⟨some 121, .fieldAddr 1 (.tmp 120), none, false⟩, []),
    (⟨none, .store 1 (.tmp 121) (.tmp 119), none, false⟩, [])] [5])
  (.seq (.seq (.ops [
    ⟨some 122, .mov (.tmp 5), none, false⟩,
    ⟨some 123, .nilCheck (.tmp 122), none, false⟩,
    ⟨some 124, .fieldAddr 3 (.tmp 123), none, false⟩,
    ⟨some 125, .load false 1 (.tmp 124), none, false⟩,
    ⟨some 126, .len .slice (.tmp 125), none, false⟩,
    ⟨some 127, .mov (.const (.int .i64 0)), none, false⟩] [5, 125, 126, 127])
  (.block 6
  (.loop [5, 125, 126, 127]
    (.seq (.ops [
        ⟨some 128, .bin .lss (.tmp 127) (.tmp 126), none, false⟩] [5, 125, 126, 127, 128])
      (.seq (.cond (.tmp 128)
      .skip
      (.exit 6))
      (.seq (.block 7
      (.seq (.ops [
          ⟨some 129, .indexAddr 1 (.tmp 125) (.tmp 127), none, false⟩,
          ⟨some 130, .load false 1 (.tmp 129), none, false⟩,
          ⟨some 14, .mov (.tmp 130), none, false⟩] [5, 14, 125, 126, 127])
        (.opsD [
          (⟨some 131, .mov (.tmp 5), none, false⟩, []),
          (⟨some 132, .nilCheck (.tmp 131), none, false⟩, []),
          (⟨some 133, .fieldAddr 1 (.tmp 132), none, false⟩, []),
          (⟨some 134, .load false 1 (.tmp 133), none, false⟩, []),
          (⟨some 135, .mov (.tmp 5), none, false⟩, []),
          (⟨some 136, .nilCheck (.tmp 135), none, false⟩, []),
          (⟨some 137, .fieldAddr 1 (.tmp 136), none, false⟩, []),
          (⟨some 138, .load false 1 (.tmp 137), none, false⟩, []),
          (⟨some 139, .nilCheck (.tmp 138), none, false⟩, []),
          (⟨some 140, .fieldAddr 2 (.tmp 139), none, false⟩, []),
          (⟨some 141, .load false 1 (.tmp 140), none, false⟩, []),
          (⟨some 142, .mov (.tmp 5), none, false⟩, []),
          (⟨some 143, .nilCheck (.tmp 142), none, false⟩, []),
          (⟨some 144, .fieldAddr 2 (.tmp 143), none, false⟩, []),
          (⟨some 145, .load false 1 (.tmp 144), none, false⟩, []),
          (⟨some 146, .mov (.tmp 14), none, false⟩, []),
          (⟨some 147, .build [.int .i64 0, .str []] [(0, 1, (.const (.int .i64 (-1)))), (1, 1, (.tmp 146))], none, false⟩, []),
          (⟨some 148, .lookup (.agg [.int, .str]) (.bool false) False (.tmp 145) (.tmp 147), none, false⟩, []),
          (⟨some 149, .buildSlice true 4 1 1 [.bool false] [(0, (.tmp 148))], none, false⟩, []),
          (⟨some 150, .append false 4 1 1 (.tmp 141) (.tmp 149), none, false⟩, [(134, .load false 1 (.tmp 133))]),
          (⟨some 151, .nilCheck (.tmp 134), none, false⟩, []),
          (⟨some 152, .fieldAddr 2 (.tmp 151), none, false⟩, []),
          (⟨none, .store 1 (.tmp 152) (.tmp 150), none, false⟩, [])] [5, 125, 126, 127])))
      (.ops [
        ⟨some 153, .bin .add (.tmp 127) (.const (.int .i64 1)), none, false⟩,
        ⟨some 127, .mov (.tmp 153), none, false⟩] [5, 125, 126, 127])))))))
  (.seq (.ops [
    ⟨some 154, .mov (.tmp 5), none, false⟩,
    ⟨some 155, .nilCheck (.tmp 154), none, false⟩,
    ⟨some 156, .fieldAddr 1 (.tmp 155), none, false⟩,
    ⟨some 157, .load false 1 (.tmp 156), none, false⟩,
    ⟨some 2, .mov (.tmp 157), none, false⟩,
    ⟨some 3, .mov (.const (.int .i64 0)), none, false⟩,
    ⟨some 4, .mov (.const (.int .i64 0)), none, false⟩] [2, 3, 4])
  .ret)))))))))))⟩
/-- scribe/ast.All -/
def af14 : AFunc := ⟨1, [.tmp 2],
  (.seq (.ops [
    ⟨some 1, .boxH 25 4 (.tmp 0), none, false⟩,
    ⟨some 2, .mov (.const .nilFunc), none, false⟩] [1])
  (.seq (.ops [
    ⟨some 3, .clos 36 [] [(.tmp 1)], none, false⟩,
    ⟨some 2, .mov (.tmp 3), none, false⟩] [2])
  .ret))⟩
/-- scribe/scribelaw14.of -/
def af17 : AFunc := ⟨1, [.tmp 2, .tmp 3, .tmp 4],
  (.seq (.ops [
    ⟨some 2, .mov (.const (.pointer none)), none, false⟩,
    ⟨some 3, .mov (.const (.int .i64 0)), none, false⟩,
    ⟨some 4, .mov (.const (.int .i64 0)), none, false⟩] [0])
  (.seq (.ops [
    ⟨some 9, .mov (.tmp 0), none, false⟩,
    ⟨some 10, .call 11 [(.tmp 9)], none, false⟩,
    ⟨some 8, .mov (.tmp 10), none, false⟩,
    ⟨some 11, .extract (.tmp 8) 0, none, false⟩,
    ⟨some 12, .extract (.tmp 8) 1, none, false⟩,
    ⟨some 13, .extract (.tmp 8) 2, none, false⟩,
    ⟨some 5, .allocL 0 [.str [], .str [], .int .i64 0, .nilSlice], none, false⟩,
    ⟨none, .storeL 4 (.tmp 5) (.tmp 11), none, false⟩,
    ⟨some 6, .mov (.tmp 12), none, false⟩,
    ⟨some 7, .mov (.tmp 13), none, false⟩] [5, 6, 7])
  (.seq (.seq (.ops [
    ⟨some 14, .mov (.tmp 7), none, false⟩,
    ⟨some 15, .bin .neq (.tmp 14) (.const (.int .i64 0)), none, false⟩,
    ⟨some 16, .mov (.tmp 15), none, false⟩,
    ⟨some 17, .fieldL 0 (.tmp 5), some (16, false), false⟩,
    ⟨some 18, .loadL false 1 (.tmp 17), some (16, false), false⟩,
    ⟨some 19, .bin .neq (.tmp 18) (.const (.string ⟨#[112, 114, 111, 103, 114, 97, 109]⟩)), some (16, false), false⟩,
    ⟨some 20, .pick (.tmp 16) (.const (.bool true)) (.tmp 19), none, false⟩] [5, 6, 7, 20])
  (.cond (.tmp 20)
  (.seq (.ops [
      ⟨some 21, .mov (.tmp 6), none, false⟩,
      ⟨some 22, .mov (.tmp 7), none, false⟩,
      ⟨some 2, .mov (.const (.pointer none)), none, false⟩,
      ⟨some 3, .mov (.tmp 21), none, false⟩,
      ⟨some 4, .mov (.tmp 22), none, false⟩] [2, 3, 4])
    .ret)
  .skip))
  (.seq (.ops [
    ⟨some 23, .loadL true 4 (.tmp 5), none, false⟩,
    ⟨some 24, .call 13 [(.tmp 23)], none, false⟩,
    ⟨some 25, .extract (.tmp 24) 0, none, false⟩,
    ⟨some 26, .extract (.tmp 24) 1, none, false⟩,
    ⟨some 27, .extract (.tmp 24) 2, none, false⟩,
    ⟨some 2, .mov (.tmp 25), none, false⟩,
    ⟨some 3, .mov (.tmp 26), none, false⟩,
    ⟨some 4, .mov (.tmp 27), none, false⟩] [2, 3, 4])
  .ret))))⟩
/-- scribe/lex.Lex -/
def af27 : AFunc := ⟨1, [.tmp 2, .tmp 3, .tmp 4],
  (.seq (.ops [
    ⟨some 2, .mov (.const (.slice none 0 0)), none, false⟩,
    ⟨some 3, .mov (.const (.int .i64 0)), none, false⟩,
    ⟨some 4, .mov (.const (.int .i64 0)), none, false⟩] [0])
  (.seq (.seq (.ops [
    ⟨some 7, .mov (.tmp 0), none, false⟩,
    ⟨some 8, .len .str (.tmp 7), none, false⟩,
    ⟨some 9, .bin .gtr (.tmp 8) (.const (.int .i64 4000)), none, false⟩] [0, 9])
  (.cond (.tmp 9)
  (.seq (.ops [
      ⟨some 2, .mov (.const (.slice none 0 0)), none, false⟩,
      ⟨some 3, .mov (.const (.int .i64 0)), none, false⟩,
      ⟨some 4, .mov (.const (.int .i64 12)), none, false⟩] [2, 3, 4])
    .ret)
  .skip))
  (.seq (.ops [
    ⟨some 10, .mov (.tmp 0), none, false⟩,
    ⟨some 11, .build [.str [], .int .i64 0, .nilSlice] [(0, 1, (.tmp 10))], none, false⟩,
    ⟨some 12, .boxH 134 3 (.tmp 11), none, false⟩,
    ⟨some 5, .mov (.tmp 12), none, false⟩] [0, 5])
  (.seq (.block 0
  (.loop [0, 5]
    (.seq (.seq (.ops [
        ⟨some 13, .mov (.tmp 5), none, false⟩,
        ⟨some 14, .nilCheck (.tmp 13), none, false⟩,
        ⟨some 15, .fieldAddr 1 (.tmp 14), none, false⟩,
        ⟨some 16, .load false 1 (.tmp 15), none, false⟩,
        ⟨some 17, .mov (.tmp 0), none, false⟩,
        ⟨some 18, .len .str (.tmp 17), none, false⟩,
        ⟨some 19, .bin .lss (.tmp 16) (.tmp 18), none, false⟩] [0, 5, 19])
      (.cond (.tmp 19)
      .skip
      (.exit 0)))
      (.block 1
      (.seq (.ops [
          ⟨some 20, .mov (.tmp 5), none, false⟩,
          ⟨some 21, .call 46 [(.tmp 20)], none, false⟩,
          ⟨some 6, .mov (.tmp 21), none, false⟩] [0, 5, 6])
        (.seq (.ops [
          ⟨some 22, .mov (.tmp 6), none, false⟩,
          ⟨some 23, .bin .neq (.tmp 22) (.const (.int .i64 0)), none, false⟩] [0, 5, 6, 23])
        (.cond (.tmp 23)
        (.seq (.opsD [
            (⟨some 24, .mov (.tmp 5), none, false⟩, []),
            (⟨some 25, .nilCheck (.tmp 24), none, false⟩, []),
            (⟨some 26, .fieldAddr 1 (.tmp 25), none, false⟩, []),
            (⟨some 27, .load false 1 (.tmp 26), none, false⟩, []),
            (⟨some 28, .mov (.tmp 6), none, false⟩, []),
            (⟨some 2, .mov (.const (.slice none 0 0)), none, false⟩, []),
            (⟨some 3, .mov (.tmp 27), none, false⟩, []),
            (⟨some 4, .mov (.tmp 28), none, false⟩, [])] [2, 3, 4])
          .ret)
        .skip)))))))
  (.seq (.ops [
    ⟨some 29, .mov (.tmp 5), none, false⟩,
    ⟨some 30, .mov (.tmp 5), none, false⟩,
    ⟨some 31, .nilCheck (.tmp 30), none, false⟩,
    ⟨some 32, .fieldAddr 1 (.tmp 31), none, false⟩,
    ⟨some 33, .load false 1 (.tmp 32), none, false⟩,
    ⟨some 34, .call 47 [(.tmp 29), (.const (.int .i64 0)), (.const (.string ⟨#[]⟩)), (.tmp 33)], none, false⟩] [5])
  (.seq (.ops [
    ⟨some 35, .mov (.tmp 5), none, false⟩,
    ⟨some 36, .nilCheck (.tmp 35), none, false⟩,
    ⟨some 37, .fieldAddr 2 (.tmp 36), none, false⟩,
    ⟨some 38, .load false 1 (.tmp 37), none, false⟩,
    ⟨some 2, .mov (.tmp 38), none, false⟩,
    ⟨some 3, .mov (.const (.int .i64 0)), none, false⟩,
    ⟨some 4, .mov (.const (.int .i64 0)), none, false⟩] [2, 3, 4])
  .ret))))))⟩
/-- scribe/parse.node -/
def af28 : AFunc := ⟨2, [.cellL true 4 4],
  (.seq (.ops [
    ⟨some 4, .allocL 0 [.str [], .str [], .int .i64 0, .nilSlice], none, false⟩] [0, 1, 4])
  (.seq (.ops [
    ⟨some 5, .mov (.tmp 0), none, false⟩,
    ⟨some 6, .mov (.tmp 1), none, false⟩,
    ⟨some 7, .build [.str [], .str [], .int .i64 0, .nilSlice] [(0, 1, (.tmp 5)), (3, 1, (.tmp 6))], none, false⟩,
    ⟨none, .storeL 4 (.tmp 4) (.tmp 7), none, false⟩] [4])
  .ret))⟩
/-- (*scribe/parse.parser).at -/
def af29 : AFunc := ⟨2, [.tmp 4],
  (.seq (.ops [
    ⟨some 4, .mov (.const (.bool false)), none, false⟩] [0, 1])
  (.seq (.ops [
    ⟨some 6, .mov (.tmp 0), none, false⟩,
    ⟨some 7, .call 30 [(.tmp 6)], none, false⟩,
    ⟨some 5, .allocL 0 [.int .i64 0, .str [], .int .i64 0], none, false⟩,
    ⟨none, .storeL 3 (.tmp 5) (.tmp 7), none, false⟩] [1, 5])
  (.seq (.ops [
    ⟨some 8, .fieldL 0 (.tmp 5), none, false⟩,
    ⟨some 9, .loadL false 1 (.tmp 8), none, false⟩,
    ⟨some 10, .bin .eql (.tmp 9) (.const (.int .i64 8)), none, false⟩,
    ⟨some 11, .mov (.tmp 10), none, false⟩,
    ⟨some 12, .fieldL 0 (.tmp 5), some (11, false), false⟩,
    ⟨some 13, .loadL false 1 (.tmp 12), some (11, false), false⟩,
    ⟨some 14, .bin .eql (.tmp 13) (.const (.int .i64 7)), some (11, false), false⟩,
    ⟨some 15, .pick (.tmp 11) (.const (.bool true)) (.tmp 14), none, false⟩,
    ⟨some 16, .mov (.tmp 15), none, false⟩,
    ⟨some 17, .mov (.tmp 1), some (16, true), false⟩,
    ⟨some 18, .fieldL 1 (.tmp 5), some (16, true), false⟩,
    ⟨some 19, .loadL false 1 (.tmp 18), some (16, true), false⟩,
    ⟨some 20, .call 48 [(.tmp 17), (.tmp 19)], some (16, true), false⟩,
    ⟨some 21, .pick (.tmp 16) (.tmp 20) (.const (.bool false)), none, false⟩,
    ⟨some 4, .mov (.tmp 21), none, false⟩] [4])
  .ret)))⟩
/-- (*scribe/parse.parser).cur -/
def af30 : AFunc := ⟨1, [.cellL true 3 2],
  (.seq (.ops [
    ⟨some 2, .allocL 0 [.int .i64 0, .str [], .int .i64 0], none, false⟩] [0, 2])
  (.seq (.seq (.ops [
    ⟨some 3, .mov (.tmp 0), none, false⟩,
    ⟨some 4, .nilCheck (.tmp 3), none, false⟩,
    ⟨some 5, .fieldAddr 4 (.tmp 4), none, false⟩,
    ⟨some 6, .load false 1 (.tmp 5), none, false⟩,
    ⟨some 7, .bin .neq (.tmp 6) (.const (.int .i64 0)), none, false⟩] [0, 2, 7])
  (.cond (.tmp 7)
  (.seq (.ops [
      ⟨some 8, .build [.int .i64 0, .str [], .int .i64 0] [], none, false⟩,
      ⟨none, .storeL 3 (.tmp 2) (.tmp 8), none, false⟩] [2])
    .ret)
  .skip))
  (.seq (.opsD [
    (⟨some 9, .mov (.tmp 0), none, false⟩, []),
    (⟨some 10, .nilCheck (.tmp 9), none, false⟩, []),
    (⟨some 11, .fieldAddr 0 (.tmp 10), none, false⟩, []),
    (⟨some 12, .load false 1 (.tmp 11), none, false⟩, []),
    (⟨some 13, .mov (.tmp 0), none, false⟩, []),
    (⟨some 14, .nilCheck (.tmp 13), none, false⟩, []),
    (⟨some 15, .fieldAddr 1 (.tmp 14), none, false⟩, []),
    (⟨some 16, .load false 1 (.tmp 15), none, false⟩, []),
    (⟨some 17, .indexAddr 3 (.tmp 12) (.tmp 16), none, false⟩, []),
    (⟨some 18, .load true 3 (.tmp 17), none, false⟩, []),
    (⟨none, .storeL 3 (.tmp 2) (.tmp 18), none, false⟩, [])] [2])
  .ret)))⟩
/-- (*scribe/parse.parser).step -/
def af31 : AFunc := ⟨1, [],
  (.seq (.opsD [
    (⟨some 2, .mov (.tmp 0), none, false⟩, []),
    (⟨some 3, .nilCheck (.tmp 2), none, false⟩, []),
    (⟨some 4, .fieldAddr 4 (.tmp 3), none, false⟩, []),
    (⟨some 5, .load false 1 (.tmp 4), none, false⟩, []),
    (⟨some 6, .bin .eql (.tmp 5) (.const (.int .i64 0)), none, false⟩, []),
    (⟨some 7, .mov (.tmp 6), none, false⟩, []),
    (⟨some 8, .mov (.tmp 0), some (7, true), false⟩, []),
    (⟨some 9, .nilCheck (.tmp 8), some (7, true), false⟩, []),
    (⟨some 10, .fieldAddr 1 (.tmp 9), some (7, true), false⟩, []),
    (⟨some 11, .load false 1 (.tmp 10), some (7, true), false⟩, []),
    (⟨some 12, .mov (.tmp 0), some (7, true), false⟩, []),
    (⟨some 13, .nilCheck (.tmp 12), some (7, true), false⟩, []),
    (⟨some 14, .fieldAddr 0 (.tmp 13), some (7, true), false⟩, []),
    (⟨some 15, .load false 1 (.tmp 14), some (7, true), false⟩, []),
    (⟨some 16, .len .slice (.tmp 15), some (7, true), false⟩, []),
    (⟨some 17, .bin .sub (.tmp 16) (.const (.int .i64 1)), some (7, true), false⟩, []),
    (⟨some 18, .bin .lss (.tmp 11) (.tmp 17), some (7, true), false⟩, []),
    (⟨some 19, .pick (.tmp 7) (.tmp 18) (.const (.bool false)), none, false⟩, [])] [0, 19])
  (.cond (.tmp 19)
  (.ops [
      ⟨some 20, .mov (.tmp 0), none, false⟩,
      ⟨some 21, .nilCheck (.tmp 20), none, false⟩,
      ⟨some 22, .fieldAddr 1 (.tmp 21), none, false⟩,
      ⟨some 23, .load false 1 (.tmp 22), none, false⟩,
      ⟨some 24, .bin .add (.tmp 23) (.const (.int .i64 1)), none, false⟩,
      ⟨some 25, .nilCheck (.tmp 20), none, false⟩,
      ⟨some 26, .fieldAddr 1 (.tmp 25), none, false⟩,
      ⟨none, .store 1 (.tmp 26) (.tmp 24), none, false⟩] [])
  .skip))⟩
/-- (*scribe/parse.parser).item -/
def af32 : AFunc := ⟨1, [.cellL true 4 2],
  (.seq (.ops [
    ⟨some 2, .allocL 0 [.str [], .str [], .int .i64 0, .nilSlice], none, false⟩] [0, 2])
  (.seq (.block 0
  (.seq (.ops [
      ⟨some 7, .mov (.tmp 0), none, false⟩,
      ⟨some 8, .call 49 [(.tmp 7), (.const (.string ⟨#[66, 69, 71, 73, 78]⟩))], none, false⟩,
      ⟨some 6, .mov (.tmp 8), none, false⟩] [0, 2, 6])
    (.cond (.tmp 6)
    (.seq (.ops [
        ⟨some 9, .mov (.tmp 0), none, false⟩,
        ⟨some 10, .call 50 [(.tmp 9)], none, false⟩,
        ⟨some 11, .buildSlice true 25 4 1 [.str [], .str [], .int .i64 0, .nilSlice] [(0, (.tmp 10))], none, false⟩,
        ⟨some 12, .call 28 [(.const (.string ⟨#[98, 101, 103, 105, 110]⟩)), (.tmp 11)], none, false⟩,
        ⟨none, .storeL 4 (.tmp 2) (.tmp 12), none, false⟩] [2])
      .ret)
    (.seq (.ops [
        ⟨some 14, .mov (.tmp 0), none, false⟩,
        ⟨some 15, .call 49 [(.tmp 14), (.const (.string ⟨#[69, 78, 68]⟩))], none, false⟩,
        ⟨some 13, .mov (.tmp 15), none, false⟩] [0, 2, 13])
      (.cond (.tmp 13)
      (.seq (.ops [
          ⟨some 16, .mov (.tmp 0), none, false⟩,
          ⟨some 17, .call 50 [(.tmp 16)], none, false⟩,
          ⟨some 18, .buildSlice true 25 4 1 [.str [], .str [], .int .i64 0, .nilSlice] [(0, (.tmp 17))], none, false⟩,
          ⟨some 19, .call 28 [(.const (.string ⟨#[101, 110, 100]⟩)), (.tmp 18)], none, false⟩,
          ⟨none, .storeL 4 (.tmp 2) (.tmp 19), none, false⟩] [2])
        .ret)
      (.seq (.ops [
          ⟨some 21, .mov (.tmp 0), none, false⟩,
          ⟨some 22, .call 49 [(.tmp 21), (.const (.string ⟨#[102, 117, 110, 99, 116, 105, 111, 110]⟩))], none, false⟩,
          ⟨some 20, .mov (.tmp 22), none, false⟩] [0, 2, 20])
        (.cond (.tmp 20)
        (.seq (.ops [
            ⟨some 23, .mov (.tmp 0), none, false⟩,
            ⟨some 24, .buildSlice true 3 1 2 [.int .i64 0] [(0, (.const (.int .i64 5))), (1, (.const (.int .i64 6)))], none, false⟩,
            ⟨some 25, .call 52 [(.tmp 23), (.tmp 24)], none, false⟩,
            ⟨some 26, .call 51 [(.const (.string ⟨#[102, 117, 110, 99]⟩)), (.tmp 25), (.const (.slice none 0 0))], none, false⟩,
            ⟨some 3, .allocL 0 [.str [], .str [], .int .i64 0, .nilSlice], none, false⟩,
            ⟨none, .storeL 4 (.tmp 3) (.tmp 26), none, false⟩] [0, 2, 3])
          (.seq (.ops [
            ⟨some 27, .mov (.tmp 0), none, false⟩,
            ⟨some 28, .call 53 [(.tmp 27), (.const (.string ⟨#[40]⟩))], none, false⟩] [0, 2, 3])
          (.seq (.ops [
            ⟨some 29, .mov (.tmp 0), none, false⟩,
            ⟨some 30, .call 54 [(.tmp 29)], none, false⟩] [0, 2, 3])
          (.seq (.block 1
          (.loop [0, 2, 3]
            (.seq (.seq (.ops [
                ⟨some 31, .mov (.tmp 0), none, false⟩,
                ⟨some 32, .nilCheck (.tmp 31), none, false⟩,
                ⟨some 33, .fieldAddr 4 (.tmp 32), none, false⟩,
                ⟨some 34, .load false 1 (.tmp 33), none, false⟩,
                ⟨some 35, .bin .eql (.tmp 34) (.const (.int .i64 0)), none, false⟩,
                ⟨some 36, .mov (.tmp 35), none, false⟩,
                ⟨some 37, .mov (.tmp 0), some (36, true), false⟩,
                ⟨some 38, .buildSlice true 9 1 1 [.str []] [(0, (.const (.string ⟨#[41]⟩)))], some (36, true), false⟩,
                ⟨some 39, .call 29 [(.tmp 37), (.tmp 38)], some (36, true), false⟩,
                ⟨some 40, .un .not (.tmp 39), some (36, true), false⟩,
                ⟨some 41, .pick (.tmp 36) (.tmp 40) (.const (.bool false)), none, false⟩] [0, 2, 3, 41])
              (.cond (.tmp 41)
              .skip
              (.exit 1)))
              (.block 2
              (.seq (.seq (.ops [
                  ⟨some 42, .fieldL 3 (.tmp 3), none, false⟩,
                  ⟨some 43, .loadL false 1 (.tmp 42), none, false⟩,
                  ⟨some 44, .len .slice (.tmp 43), none, false⟩,
                  ⟨some 45, .bin .gtr (.tmp 44) (.const (.int .i64 0)), none, false⟩] [0, 2, 3, 45])
                (.cond (.tmp 45)
                (.seq (.ops [
                    ⟨some 46, .mov (.tmp 0), none, false⟩,
                    ⟨some 47, .call 53 [(.tmp 46), (.const (.string ⟨#[44]⟩))], none, false⟩] [0, 2, 3])
                  (.ops [
                    ⟨some 48, .mov (.tmp 0), none, false⟩,
                    ⟨some 49, .call 54 [(.tmp 48)], none, false⟩] [0, 2, 3]))
                .skip))
                (.seq (.opsD [
                  (⟨some 50, .fieldL 3 (.tmp 3), none, false⟩, []),
                  (⟨some 51, .loadL false 1 (.tmp 50), none, false⟩, []),
                  (⟨some 52, .mov (.tmp 0), none, false⟩, []),
                  (⟨some 53, .buildSlice true 3 1 1 [.int .i64 0] [(0, (.const (.int .i64 5)))], none, false⟩, []),
                  (⟨some 54, .call 52 [(.tmp 52), (.tmp 53)], none, false⟩, []),
                  (⟨some 55, .call 51 [(.const (.string ⟨#[112, 97, 114, 97, 109]⟩)), (.tmp 54), (.const (.slice none 0 0))], none, false⟩, []),
                  (⟨some 56, .buildSlice true 25 4 1 [.str [], .str [], .int .i64 0, .nilSlice] [(0, (.tmp 55))], none, false⟩, []),
                  (⟨some 57, .append false 25 4 64 (.tmp 51) (.tmp 56), none, false⟩, []),
                  (⟨some 58, .fieldL 3 (.tmp 3), none, false⟩, []),
                  (⟨none, .storeL 1 (.tmp 58) (.tmp 57), none, false⟩, [])] [0, 2, 3])
                (.ops [
                  ⟨some 59, .mov (.tmp 0), none, false⟩,
                  ⟨some 60, .call 54 [(.tmp 59)], none, false⟩] [0, 2, 3])))))))
          (.seq (.ops [
            ⟨some 61, .mov (.tmp 0), none, false⟩,
            ⟨some 62, .call 53 [(.tmp 61), (.const (.string ⟨#[41]⟩))], none, false⟩] [0, 2, 3])
          (.seq (.ops [
            ⟨some 63, .mov (.tmp 0), none, false⟩,
            ⟨some 64, .call 54 [(.tmp 63)], none, false⟩] [0, 2, 3])
          (.seq (.opsD [
            (⟨some 65, .fieldL 3 (.tmp 3), none, false⟩, []),
            (⟨some 66, .loadL false 1 (.tmp 65), none, false⟩, []),
            (⟨some 67, .mov (.tmp 0), none, false⟩, []),
            (⟨some 68, .call 50 [(.tmp 67)], none, false⟩, []),
            (⟨some 69, .buildSlice true 25 4 1 [.str [], .str [], .int .i64 0, .nilSlice] [(0, (.tmp 68))], none, false⟩, []),
            (⟨some 70, .append false 25 4 64 (.tmp 66) (.tmp 69), none, false⟩, []),
            (⟨some 71, .fieldL 3 (.tmp 3), none, false⟩, []),
            (⟨none, .storeL 1 (.tmp 71) (.tmp 70), none, false⟩, [])] [2, 3])
          (.seq (.ops [
            ⟨some 72, .loadL true 4 (.tmp 3), none, false⟩,
            ⟨none, .storeL 4 (.tmp 2) (.tmp 72), none, false⟩] [2])
          .ret))))))))
        (.seq (.ops [
            ⟨some 74, .mov (.tmp 0), none, false⟩,
            ⟨some 75, .buildSlice true 9 1 1 [.str []] [(0, (.const (.string ⟨#[123]⟩)))], none, false⟩,
            ⟨some 76, .call 29 [(.tmp 74), (.tmp 75)], none, false⟩,
            ⟨some 73, .mov (.tmp 76), none, false⟩] [0, 2, 73])
          (.cond (.tmp 73)
          (.seq (.ops [
              ⟨some 77, .call 28 [(.const (.string ⟨#[97, 108, 119, 97, 121, 115]⟩)), (.const (.slice none 0 0))], none, false⟩,
              ⟨some 78, .mov (.tmp 0), none, false⟩,
              ⟨some 79, .call 50 [(.tmp 78)], none, false⟩,
              ⟨some 80, .buildSlice true 25 4 2 [.str [], .str [], .int .i64 0, .nilSlice] [(0, (.tmp 77)), (1, (.tmp 79))], none, false⟩,
              ⟨some 81, .call 28 [(.const (.string ⟨#[114, 117, 108, 101]⟩)), (.tmp 80)], none, false⟩,
              ⟨none, .storeL 4 (.tmp 2) (.tmp 81), none, false⟩] [2])
            .ret)
          .skip)))))))))
  (.seq (.ops [
    ⟨some 82, .mov (.tmp 0), none, false⟩,
    ⟨some 83, .call 55 [(.tmp 82)], none, false⟩,
    ⟨some 84, .buildSlice true 25 4 1 [.str [], .str [], .int .i64 0, .nilSlice] [(0, (.tmp 83))], none, false⟩,
    ⟨some 85, .call 28 [(.const (.string ⟨#[114, 117, 108, 101]⟩)), (.tmp 84)], none, false⟩,
    ⟨some 4, .allocL 0 [.str [], .str [], .int .i64 0, .nilSlice], none, false⟩,
    ⟨none, .storeL 4 (.tmp 4) (.tmp 85), none, false⟩] [0, 2, 4])
  (.seq (.seq (.ops [
    ⟨some 86, .mov (.tmp 0), none, false⟩,
    ⟨some 87, .buildSlice true 9 1 1 [.str []] [(0, (.const (.string ⟨#[123]⟩)))], none, false⟩,
    ⟨some 88, .call 29 [(.tmp 86), (.tmp 87)], none, false⟩] [0, 2, 4, 88])
  (.cond (.tmp 88)
  (.seq (.opsD [
      (⟨some 89, .fieldL 3 (.tmp 4), none, false⟩, []),
      (⟨some 90, .loadL false 1 (.tmp 89), none, false⟩, []),
      (⟨some 91, .mov (.tmp 0), none, false⟩, []),
      (⟨some 92, .call 50 [(.tmp 91)], none, false⟩, []),
      (⟨some 93, .buildSlice true 25 4 1 [.str [], .str [], .int .i64 0, .nilSlice] [(0, (.tmp 92))], none, false⟩, []),
      (⟨some 94, .append false 25 4 64 (.tmp 90) (.tmp 93), none, false⟩, []),
      (⟨some 95, .fieldL 3 (.tmp 4), none, false⟩, []),
      (⟨none, .storeL 1 (.tmp 95) (.tmp 94), none, false⟩, [])] [2, 4])
    (.seq (.ops [
      ⟨some 96, .loadL true 4 (.tmp 4), none, false⟩,
      ⟨none, .storeL 4 (.tmp 2) (.tmp 96), none, false⟩] [2])
    .ret))
  .skip))
  (.seq (.seq (.ops [
    ⟨some 97, .mov (.tmp 0), none, false⟩,
    ⟨some 98, .call 30 [(.tmp 97)], none, false⟩,
    ⟨some 5, .allocL 0 [.int .i64 0, .str [], .int .i64 0], none, false⟩,
    ⟨none, .storeL 3 (.tmp 5) (.tmp 98), none, false⟩] [0, 2, 4, 5])
  (.seq (.ops [
    ⟨some 99, .fieldL 0 (.tmp 5), none, false⟩,
    ⟨some 100, .loadL false 1 (.tmp 99), none, false⟩,
    ⟨some 101, .bin .neq (.tmp 100) (.const (.int .i64 1)), none, false⟩,
    ⟨some 102, .mov (.tmp 101), none, false⟩,
    ⟨some 103, .fieldL 0 (.tmp 5), some (102, true), false⟩,
    ⟨some 104, .loadL false 1 (.tmp 103), some (102, true), false⟩,
    ⟨some 105, .bin .neq (.tmp 104) (.const (.int .i64 0)), some (102, true), false⟩,
    ⟨some 106, .pick (.tmp 102) (.tmp 105) (.const (.bool false)), none, false⟩,
    ⟨some 107, .mov (.tmp 106), none, false⟩,
    ⟨some 108, .mov (.tmp 0), some (107, true), false⟩,
    ⟨some 109, .buildSlice true 9 1 1 [.str []] [(0, (.const (.string ⟨#[59]⟩)))], some (107, true), false⟩,
    ⟨some 110, .call 29 [(.tmp 108), (.tmp 109)], some (107, true), false⟩,
    ⟨some 111, .un .not (.tmp 110), some (107, true), false⟩,
    ⟨some 112, .pick (.tmp 107) (.tmp 111) (.const (.bool false)), none, false⟩] [0, 2, 4, 112])
  (.cond (.tmp 112)
  (.ops [
      ⟨some 113, .mov (.tmp 0), none, false⟩,
      ⟨some 114, .call 56 [(.tmp 113)], none, false⟩] [2, 4])
  .skip)))
  (.seq (.opsD [
    (⟨some 115, .fieldL 3 (.tmp 4), none, false⟩, []),
    (⟨some 116, .loadL false 1 (.tmp 115), none, false⟩, []),
    (⟨some 117, .call 28 [(.const (.string ⟨#[100, 101, 102, 97, 117, 108, 116]⟩)), (.const (.slice none 0 0))], none, false⟩, []),
    (⟨some 118, .buildSlice true 25 4 1 [.str [], .str [], .int .i64 0, .nilSlice] [(0, (.tmp 117))], none, false⟩, []),
    (⟨some 119, .append false 25 4 64 (.tmp 116) (.tmp 118), none, false⟩, []),
    (⟨some 120, .fieldL 3 (.tmp 4), none, false⟩, []),
    (⟨none, .storeL 1 (.tmp 120) (.tmp 119), none, false⟩, [])] [2, 4])
  (.seq (.ops [
    ⟨some 121, .loadL true 4 (.tmp 4), none, false⟩,
    ⟨none, .storeL 4 (.tmp 2) (.tmp 121), none, false⟩] [2])
  .ret)))))))⟩
/-- (*scribe/resolve.resolver).collect -/
def af33 : AFunc := ⟨2, [],
  (.seq (.ops [
    ⟨some 11, .mov (.tmp 1), none, false⟩,
    ⟨some 12, .len .slice (.tmp 11), none, false⟩,
    ⟨some 13, .mov (.const (.int .i64 0)), none, false⟩] [0, 11, 12, 13])
  (.block 0
  (.loop [0, 11, 12, 13]
    (.seq (.ops [
        ⟨some 14, .bin .lss (.tmp 13) (.tmp 12), none, false⟩] [0, 11, 12, 13, 14])
      (.seq (.cond (.tmp 14)
      .skip
      (.exit 0))
      (.seq (.block 1
      (.seq (.ops [
          ⟨some 15, .indexAddr 4 (.tmp 11) (.tmp 13), none, false⟩,
          ⟨some 16, .load true 4 (.tmp 15), none, false⟩,
          ⟨some 5, .allocL 0 [.str [], .str [], .int .i64 0, .nilSlice], none, false⟩,
          ⟨none, .storeL 4 (.tmp 5) (.tmp 16), none, false⟩] [0, 5, 11, 12, 13])
        (.seq (.seq (.ops [
          ⟨some 17, .fieldL 0 (.tmp 5), none, false⟩,
          ⟨some 18, .loadL false 1 (.tmp 17), none, false⟩,
          ⟨some 19, .bin .neq (.tmp 18) (.const (.string ⟨#[102, 117, 110, 99]⟩)), none, false⟩] [0, 5, 11, 12, 13, 19])
        (.cond (.tmp 19)
        (.exit 1)
        .skip))
        (.seq (.opsD [
          (⟨some 20, .fieldL 1 (.tmp 5), none, false⟩, []),
          (⟨some 21, .loadL false 1 (.tmp 20), none, false⟩, []),
          (⟨some 22, .fieldL 3 (.tmp 5), none, false⟩, []),
          (⟨some 23, .loadL false 1 (.tmp 22), none, false⟩, []),
          (⟨some 24, .fieldL 3 (.tmp 5), none, false⟩, []),
          (⟨some 25, .loadL false 1 (.tmp 24), none, false⟩, []),
          (⟨some 26, .len .slice (.tmp 25), none, false⟩, []),
          (⟨some 27, .bin .sub (.tmp 26) (.const (.int .i64 1)), none, false⟩, []),
          (⟨some 28, .indexAddr 4 (.tmp 23) (.tmp 27), none, false⟩, []),
          (⟨some 29, .load true 4 (.tmp 28), none, false⟩, []),
          (⟨some 30, .build [.str [], .nilSlice, .nilSlice, .str [], .str [], .int .i64 0, .nilSlice] [(0, 1, (.tmp 21)), (3, 4, (.tmp 29))], none, false⟩, []),
          (⟨some 6, .allocL 0 [.str [], .nilSlice, .nilSlice, .str [], .str [], .int .i64 0, .nilSlice], none, false⟩, []),
          (⟨none, .storeL 7 (.tmp 6) (.tmp 30), none, false⟩, [])] [0, 5, 6, 11, 12, 13])
        (.seq (.seq (.ops [
          ⟨some 31, .fieldL 3 (.tmp 5), none, false⟩,
          ⟨some 32, .loadL false 1 (.tmp 31), none, false⟩,
          ⟨some 33, .fieldL 3 (.tmp 5), none, false⟩,
          ⟨some 34, .loadL false 1 (.tmp 33), none, false⟩,
          ⟨some 35, .len .slice (.tmp 34), none, false⟩,
          ⟨some 36, .bin .sub (.tmp 35) (.const (.int .i64 1)), none, false⟩,
          ⟨some 37, .slice 4 (.tmp 32) none (some (.tmp 36)), none, false⟩,
          ⟨some 38, .len .slice (.tmp 37), none, false⟩,
          ⟨some 39, .mov (.const (.int .i64 0)), none, false⟩] [0, 5, 6, 11, 12, 13, 37, 38, 39])
        (.block 2
        (.loop [0, 5, 6, 11, 12, 13, 37, 38, 39]
          (.seq (.ops [
              ⟨some 40, .bin .lss (.tmp 39) (.tmp 38), none, false⟩] [0, 5, 6, 11, 12, 13, 37, 38, 39, 40])
            (.seq (.cond (.tmp 40)
            .skip
            (.exit 2))
            (.seq (.block 3
            (.seq (.ops [
                ⟨some 41, .indexAddr 4 (.tmp 37) (.tmp 39), none, false⟩,
                ⟨some 42, .load true 4 (.tmp 41), none, false⟩,
                ⟨some 8, .allocL 0 [.str [], .str [], .int .i64 0, .nilSlice], none, false⟩,
                ⟨none, .storeL 4 (.tmp 8) (.tmp 42), none, false⟩] [0, 5, 6, 8, 11, 12, 13, 37, 38, 39])
              (.ops [
                ⟨some 43, .fieldL 1 (.tmp 6), none, false⟩,
                ⟨some 44, .loadL false 1 (.tmp 43), none, false⟩,
                ⟨some 45, .fieldL 1 (.tmp 8), none, false⟩,
                ⟨some 46, .loadL false 1 (.tmp 45), none, false⟩,
                ⟨some 47, .buildSlice true 9 1 1 [.str []] [(0, (.tmp 46))], none, false⟩,
                ⟨some 48, .append false 9 1 16 (.tmp 44) (.tmp 47), none, false⟩,
                ⟨some 49, .fieldL 1 (.tmp 6), none, false⟩,
                ⟨none, .storeL 1 (.tmp 49) (.tmp 48), none, false⟩] [0, 5, 6, 11, 12, 13, 37, 38, 39])))
            (.ops [
              ⟨some 50, .bin .add (.tmp 39) (.const (.int .i64 1)), none, false⟩,
              ⟨some 39, .mov (.tmp 50), none, false⟩] [0, 5, 6, 11, 12, 13, 37, 38, 39])))))))
        (.seq (.seq (.opsD [
          (⟨some 52, .mov (.tmp 0), none, false⟩, []),
          (⟨some 53, .nilCheck (.tmp 52), none, false⟩, []),
          (⟨some 54, .fieldAddr 0 (.tmp 53), none, false⟩, []),
          (⟨some 55, .load false 1 (.tmp 54), none, false⟩, []),
          (⟨some 56, .fieldL 1 (.tmp 5), none, false⟩, []),
          (⟨some 57, .loadL false 1 (.tmp 56), none, false⟩, []),
          (⟨some 58, .lookup (.cell .str) (.int .i64 0) True (.tmp 55) (.tmp 57), none, false⟩, []),
          (⟨some 51, .mov (.tmp 58), none, false⟩, []),
          (⟨some 59, .extract (.tmp 51) 0, none, false⟩, []),
          (⟨some 60, .extract (.tmp 51) 1, none, false⟩, []),
          (⟨some 9, .mov (.tmp 59), none, false⟩, []),
          (⟨some 10, .mov (.tmp 60), none, false⟩, [])] [0, 5, 6, 10, 11, 12, 13])
        (.seq (.ops [
          ⟨some 61, .mov (.tmp 10), none, false⟩,
          ⟨some 62, .un .not (.tmp 61), none, false⟩] [0, 5, 6, 11, 12, 13, 62])
        (.cond (.tmp 62)
        (.opsD [
            (⟨some 63, .mov (.tmp 0), none, false⟩, []),
            (⟨some 64, .nilCheck (.tmp 63), none, false⟩, []),
            (⟨some 65, .fieldAddr 0 (.tmp 64), none, false⟩, []),
            (⟨some 66, .load false 1 (.tmp 65), none, false⟩, []),
            (⟨some 67, .fieldL 1 (.tmp 5), none, false⟩, []),
            (⟨some 68, .loadL false 1 (.tmp 67), none, false⟩, []),
            (⟨some 69, .mov (.tmp 0), none, false⟩, []),
            (⟨some 70, .nilCheck (.tmp 69), none, false⟩, []),
            (⟨some 71, .fieldAddr 1 (.tmp 70), none, false⟩, []),
            (⟨some 72, .load false 1 (.tmp 71), none, false⟩, []),
            (⟨some 73, .nilCheck (.tmp 72), none, false⟩, []),
            (⟨some 74, .fieldAddr 0 (.tmp 73), none, false⟩, []),
            (⟨some 75, .load false 1 (.tmp 74), none, false⟩, []),
            (⟨some 76, .len .slice (.tmp 75), none, false⟩, []),
            (⟨none, .mapUpdate (.cell .str) (.tmp 66) (.tmp 68) (.tmp 76), none, false⟩, [])] [0, 6, 11, 12, 13])
        .skip)))
        (.opsD [
          (⟨some 77, .mov (.tmp 0), none, false⟩, []),
          (⟨some 78, .nilCheck (.tmp 77), none, false⟩, []),
          (⟨some 79, .fieldAddr 1 (.tmp 78), none, false⟩, []),
          (⟨some 80, .load false 1 (.tmp 79), none, false⟩, []),
          (⟨some 81, .mov (.tmp 0), none, false⟩, []),
          (⟨some 82, .nilCheck (.tmp 81), none, false⟩, []),
          (⟨some 83, .fieldAddr 1 (.tmp 82), none, false⟩, []),
          (⟨some 84, .load false 1 (.tmp 83), none, false⟩, []),
          (⟨some 85, .nilCheck (.tmp 84), none, false⟩, []),
          (⟨some 86, .fieldAddr 0 (.tmp 85), none, false⟩, []),
          (⟨some 87, .load false 1 (.tmp 86), none, false⟩, []),
          (⟨some 88, .loadL true 7 (.tmp 6), none, false⟩, []),
          (⟨some 89, .buildSlice true 99 7 1 [.str [], .nilSlice, .nilSlice, .str [], .str [], .int .i64 0, .nilSlice] [(0, (.tmp 88))], none, false⟩, []),
          (⟨some 90, .append false 99 7 128 (.tmp 87) (.tmp 89), none, false⟩, [(80, .load false 1 (.tmp 79))]),
          (⟨some 91, .nilCheck (.tmp 80), none, false⟩, []),
          (⟨some 92, .fieldAddr 0 (.tmp 91), none, false⟩, []),
          (⟨none, .store 1 (.tmp 92) (.tmp 90), none, false⟩, [])] [0, 11, 12, 13])))))))
      (.ops [
        ⟨some 93, .bin .add (.tmp 13) (.const (.int .i64 1)), none, false⟩,
        ⟨some 13, .mov (.tmp 93), none, false⟩] [0, 11, 12, 13])))))))⟩
/-- (*scribe/resolve.resolver).mark -/
def af34 : AFunc := ⟨2, [],
  (.seq (.ops [
    ⟨some 2, .boxH 100 1 (.tmp 0), none, false⟩] [1, 2])
  (.seq (.ops [
    ⟨some 4, .allocH 4 [.bool false], none, false⟩,
    ⟨none, .store 1 (.tmp 4) (.const (.bool true)), none, false⟩] [1, 2, 4])
  (.block 0
  (.loop [1, 2, 4]
    (.seq (.seq (.ops [
        ⟨some 20, .load false 1 (.tmp 4), none, false⟩] [1, 2, 4, 20])
      (.cond (.tmp 20)
      .skip
      (.exit 0)))
      (.seq (.block 1
      (.seq (.ops [
          ⟨none, .store 1 (.tmp 4) (.const (.bool false)), none, false⟩] [1, 2, 4])
        (.seq (.ops [
          ⟨some 21, .clos 57 [] [(.tmp 2), (.tmp 4)], none, false⟩,
          ⟨some 5, .allocH 141 [.nilFunc], none, false⟩,
          ⟨none, .store 1 (.tmp 5) (.tmp 21), none, false⟩] [1, 2, 4, 5])
        (.seq (.ops [
          ⟨some 22, .mov (.tmp 1), none, false⟩,
          ⟨some 23, .len .slice (.tmp 22), none, false⟩,
          ⟨some 24, .mov (.const (.int .i64 0)), none, false⟩] [1, 2, 4, 5, 22, 23, 24])
        (.block 2
        (.loop [1, 2, 4, 5, 22, 23, 24]
          (.seq (.ops [
              ⟨some 25, .bin .lss (.tmp 24) (.tmp 23), none, false⟩] [1, 2, 4, 5, 22, 23, 24, 25])
            (.seq (.cond (.tmp 25)
            .skip
            (.exit 2))
            (.seq (.block 3
            (.seq (.ops [
                ⟨some 26, .indexAddr 4 (.tmp 22) (.tmp 24), none, false⟩,
                ⟨some 27, .load true 4 (.tmp 26), none, false⟩,
                ⟨some 7, .allocL 0 [.str [], .str [], .int .i64 0, .nilSlice], none, false⟩,
                ⟨none, .storeL 4 (.tmp 7) (.tmp 27), none, false⟩] [1, 2, 4, 5, 7, 22, 23, 24])
              (.seq (.ops [
                ⟨some 28, .load false 1 (.tmp 2), none, false⟩,
                ⟨some 29, .loadL true 4 (.tmp 7), none, false⟩,
                ⟨some 30, .call 58 [(.tmp 28), (.tmp 29)], none, false⟩,
                ⟨some 8, .allocH 3 [.int .i64 0], none, false⟩,
                ⟨none, .store 1 (.tmp 8) (.tmp 30), none, false⟩] [1, 2, 4, 5, 7, 8, 22, 23, 24])
              (.seq (.ops [
                ⟨some 31, .loadL true 4 (.tmp 7), none, false⟩,
                ⟨some 32, .call 14 [(.tmp 31)], none, false⟩] [1, 2, 4, 5, 8, 22, 23, 24, 32])
              (.block 4
              (.rangeFunc (.tmp 32) [33, 34]
                (.ops [
                    ⟨some 10, .allocL 0 [.str [], .str [], .int .i64 0, .nilSlice], none, false⟩,
                    ⟨none, .storeL 4 (.tmp 10) (.tmp 34), none, false⟩] [2, 5, 8, 10])
                (.block 5
                  (.seq (.seq (.ops [
                      ⟨some 36, .loadL true 4 (.tmp 10), none, false⟩,
                      ⟨some 37, .call 59 [(.tmp 36)], none, false⟩,
                      ⟨some 35, .mov (.tmp 37), none, false⟩,
                      ⟨some 38, .extract (.tmp 35) 0, none, false⟩,
                      ⟨some 39, .extract (.tmp 35) 1, none, false⟩,
                      ⟨some 11, .mov (.tmp 38), none, false⟩,
                      ⟨some 12, .mov (.tmp 39), none, false⟩] [2, 5, 8, 10, 11, 12])
                    (.seq (.ops [
                      ⟨some 40, .mov (.tmp 12), none, false⟩] [2, 5, 8, 10, 11, 40])
                    (.cond (.tmp 40)
                    (.opsD [
                        (⟨some 41, .load false 1 (.tmp 5), none, false⟩, []),
                        (⟨some 42, .load false 1 (.tmp 2), none, false⟩, []),
                        (⟨some 43, .load false 1 (.tmp 8), none, false⟩, []),
                        (⟨some 44, .mov (.tmp 11), none, false⟩, []),
                        (⟨some 45, .call 60 [(.tmp 42), (.tmp 43), (.tmp 44)], none, false⟩, [(41, .load false 1 (.tmp 5))]),
                        (⟨some 46, .callv (.tmp 41) [(.tmp 45)], none, false⟩, [])] [2, 5, 8, 10])
                    .skip)))
                    (.seq (.opsD [
                      (⟨some 48, .load false 1 (.tmp 2), none, false⟩, []),
                      (⟨some 49, .nilCheck (.tmp 48), none, false⟩, []),
                      (⟨some 50, .fieldAddr 0 (.tmp 49), none, false⟩, []),
                      (⟨some 51, .load false 1 (.tmp 50), none, false⟩, []),
                      (⟨some 52, .fieldL 1 (.tmp 10), none, false⟩, []),
                      (⟨some 53, .loadL false 1 (.tmp 52), none, false⟩, []),
                      (⟨some 54, .lookup (.cell .str) (.int .i64 0) True (.tmp 51) (.tmp 53), none, false⟩, []),
                      (⟨some 47, .mov (.tmp 54), none, false⟩, []),
                      (⟨some 55, .extract (.tmp 47) 0, none, false⟩, []),
                      (⟨some 56, .extract (.tmp 47) 1, none, false⟩, []),
                      (⟨some 13, .mov (.tmp 55), none, false⟩, []),
                      (⟨some 14, .mov (.tmp 56), none, false⟩, [])] [2, 5, 8, 10, 13, 14])
                    (.seq (.seq (.ops [
                      ⟨some 57, .fieldL 0 (.tmp 10), none, false⟩,
                      ⟨some 58, .loadL false 1 (.tmp 57), none, false⟩,
                      ⟨some 59, .bin .neq (.tmp 58) (.const (.string ⟨#[99, 97, 108, 108]⟩)), none, false⟩,
                      ⟨some 60, .mov (.tmp 59), none, false⟩,
                      ⟨some 61, .mov (.tmp 14), some (60, false), false⟩,
                      ⟨some 62, .un .not (.tmp 61), some (60, false), false⟩,
                      ⟨some 63, .pick (.tmp 60) (.const (.bool true)) (.tmp 62), none, false⟩] [2, 5, 8, 10, 13, 63])
                    (.cond (.tmp 63)
                    (.exit 5)
                    .skip))
                    (.seq (.ops [
                      ⟨some 64, .load false 1 (.tmp 2), none, false⟩,
                      ⟨some 65, .nilCheck (.tmp 64), none, false⟩,
                      ⟨some 66, .fieldAddr 1 (.tmp 65), none, false⟩,
                      ⟨some 67, .load false 1 (.tmp 66), none, false⟩,
                      ⟨some 68, .nilCheck (.tmp 67), none, false⟩,
                      ⟨some 69, .fieldAddr 0 (.tmp 68), none, false⟩,
                      ⟨some 70, .load false 1 (.tmp 69), none, false⟩,
                      ⟨some 71, .mov (.tmp 13), none, false⟩,
                      ⟨some 72, .indexAddr 7 (.tmp 70) (.tmp 71), none, false⟩,
                      ⟨some 73, .load true 7 (.tmp 72), none, false⟩,
                      ⟨some 15, .allocL 0 [.str [], .nilSlice, .nilSlice, .str [], .str [], .int .i64 0, .nilSlice], none, false⟩,
                      ⟨none, .storeL 7 (.tmp 15) (.tmp 73), none, false⟩] [2, 5, 8, 10, 13, 15])
                    (.seq (.ops [
                      ⟨some 74, .fieldL 3 (.tmp 10), none, false⟩,
                      ⟨some 75, .loadL false 1 (.tmp 74), none, false⟩,
                      ⟨some 76, .fieldL 3 (.tmp 10), none, false⟩,
                      ⟨some 77, .loadL false 1 (.tmp 76), none, false⟩,
                      ⟨some 78, .len .slice (.tmp 77), none, false⟩,
                      ⟨some 79, .fieldL 1 (.tmp 15), none, false⟩,
                      ⟨some 80, .loadL false 1 (.tmp 79), none, false⟩,
                      ⟨some 81, .len .slice (.tmp 80), none, false⟩,
                      ⟨some 82, .min (.tmp 78) (.tmp 81), none, false⟩,
                      ⟨some 83, .slice 4 (.tmp 75) none (some (.tmp 82)), none, false⟩,
                      ⟨some 84, .len .slice (.tmp 83), none, false⟩,
                      ⟨some 85, .mov (.const (.int .i64 0)), none, false⟩] [2, 5, 8, 13, 15, 83, 84, 85])
                    (.block 6
                    (.loop [2, 5, 8, 13, 15, 83, 84, 85]
                      (.seq (.ops [
                          ⟨some 86, .bin .lss (.tmp 85) (.tmp 84), none, false⟩] [2, 5, 8, 13, 15, 83, 84, 85, 86])
                        (.seq (.cond (.tmp 86)
                        .skip
                        (.exit 6))
                        (.seq (.block 7
                        (.seq (.ops [
                            ⟨some 87, .mov (.tmp 85), none, false⟩,
                            ⟨some 88, .indexAddr 4 (.tmp 83) (.tmp 85), none, false⟩,
                            ⟨some 89, .load true 4 (.tmp 88), none, false⟩,
                            ⟨some 17, .allocL 0 [.str [], .str [], .int .i64 0, .nilSlice], none, false⟩,
                            ⟨some 16, .mov (.tmp 87), none, false⟩,
                            ⟨none, .storeL 4 (.tmp 17) (.tmp 89), none, false⟩] [2, 5, 8, 13, 15, 16, 17, 83, 84, 85])
                          (.seq (.seq (.ops [
                            ⟨some 90, .fieldL 0 (.tmp 17), none, false⟩,
                            ⟨some 91, .loadL false 1 (.tmp 90), none, false⟩,
                            ⟨some 92, .bin .neq (.tmp 91) (.const (.string ⟨#[118, 97, 114]⟩)), none, false⟩] [2, 5, 8, 13, 15, 16, 17, 83, 84, 85, 92])
                          (.cond (.tmp 92)
                          (.exit 7)
                          .skip))
                          (.seq (.opsD [
                            (⟨some 93, .mov (.tmp 13), none, false⟩, []),
                            (⟨some 94, .fieldL 1 (.tmp 15), none, false⟩, []),
                            (⟨some 95, .loadL false 1 (.tmp 94), none, false⟩, []),
                            (⟨some 96, .mov (.tmp 16), none, false⟩, []),
                            (⟨some 97, .indexAddr 1 (.tmp 95) (.tmp 96), none, false⟩, []),
                            (⟨some 98, .load false 1 (.tmp 97), none, false⟩, []),
                            (⟨some 99, .build [.int .i64 0, .str []] [(0, 1, (.tmp 93)), (1, 1, (.tmp 98))], none, false⟩, []),
                            (⟨some 100, .load false 1 (.tmp 2), none, false⟩, []),
                            (⟨some 101, .load false 1 (.tmp 8), none, false⟩, []),
                            (⟨some 102, .fieldL 1 (.tmp 17), none, false⟩, []),
                            (⟨some 103, .loadL false 1 (.tmp 102), none, false⟩, []),
                            (⟨some 104, .call 60 [(.tmp 100), (.tmp 101), (.tmp 103)], none, false⟩, [(98, .load false 1 (.tmp 97))]),
                            (⟨some 18, .allocL 0 [.int .i64 0, .str []], none, false⟩, []),
                            (⟨some 19, .allocL 1 [.int .i64 0, .str []], none, false⟩, []),
                            (⟨none, .storeL 2 (.tmp 18) (.tmp 99), none, false⟩, []),
                            (⟨none, .storeL 2 (.tmp 19) (.tmp 104), none, false⟩, [])] [2, 5, 8, 13, 15, 18, 19, 83, 84, 85])
                          (.seq (.opsD [
                            (⟨some 105, .load false 1 (.tmp 2), none, false⟩, []),
                            (⟨some 106, .nilCheck (.tmp 105), none, false⟩, []),
                            (⟨some 107, .fieldAddr 2 (.tmp 106), none, false⟩, []),
                            (⟨some 108, .load false 1 (.tmp 107), none, false⟩, []),
                            (⟨some 109, .loadL true 2 (.tmp 18), none, false⟩, []),
                            (⟨some 110, .lookup (.agg [.int, .str]) (.bool false) False (.tmp 108) (.tmp 109), none, false⟩, []),
                            (⟨some 111, .mov (.tmp 110), none, false⟩, []),
                            (⟨some 112, .load false 1 (.tmp 2), some (111, false), false⟩, []),
                            (⟨some 113, .nilCheck (.tmp 112), some (111, false), false⟩, []),
                            (⟨some 114, .fieldAddr 2 (.tmp 113), some (111, false), false⟩, []),
                            (⟨some 115, .load false 1 (.tmp 114), some (111, false), false⟩, []),
                            (⟨some 116, .loadL true 2 (.tmp 19), some (111, false), false⟩, []),
                            (⟨some 117, .lookup (.agg [.int, .str]) (.bool false) False (.tmp 115) (.tmp 116), some (111, false), false⟩, []),
                            (⟨some 118, .pick (.tmp 111) (.const (.bool true)) (.tmp 117), none, false⟩, [])] [2, 5, 8, 13, 15, 18, 19, 83, 84, 85, 118])
                          (.cond (.tmp 118)
                          (.seq (.ops [
                              ⟨some 119, .load false 1 (.tmp 5), none, false⟩,
                              ⟨some 120, .loadL true 2 (.tmp 18), none, false⟩,
                              ⟨some 121, .callv (.tmp 119) [(.tmp 120)], none, false⟩] [2, 5, 8, 13, 15, 19, 83, 84, 85])
                            (.ops [
                              ⟨some 122, .load false 1 (.tmp 5), none, false⟩,
                              ⟨some 123, .loadL true 2 (.tmp 19), none, false⟩,
                              ⟨some 124, .callv (.tmp 122) [(.tmp 123)], none, false⟩] [2, 5, 8, 13, 15, 83, 84, 85]))
                          .skip))))))
                        (.ops [
                          ⟨some 125, .bin .add (.tmp 85) (.const (.int .i64 1)), none, false⟩,
                          ⟨some 85, .mov (.tmp 125), none, false⟩] [2, 5, 8, 13, 15, 83, 84, 85])))))))))))) [2, 5, 8]))))))
            (.ops [
              ⟨some 126, .bin .add (.tmp 24) (.const (.int .i64 1)), none, false⟩,
              ⟨some 24, .mov (.tmp 126), none, false⟩] [1, 2, 4, 5, 22, 23, 24]))))))))))
      (.seq (.ops [
        ⟨some 127, .load false 1 (.tmp 4), none, false⟩] [1, 2, 127])
      (.ops [
        ⟨some 4, .allocH 4 [.bool false], none, false⟩,
        ⟨none, .store 1 (.tmp 4) (.tmp 127), none, false⟩] [1, 2, 4]))))))))⟩
/-- (*scribe/resolve.resolver).item -/
def af35 : AFunc := ⟨3, [],
  (.seq (.ops [
    ⟨some 4, .boxL 0 4 (.tmp 1), none, false⟩] [0, 2, 4])
  (.seq (.seq (.ops [
    ⟨some 11, .fieldL 0 (.tmp 4), none, false⟩,
    ⟨some 12, .loadL false 1 (.tmp 11), none, false⟩,
    ⟨some 13, .bin .neq (.tmp 12) (.const (.string ⟨#[102, 117, 110, 99]⟩)), none, false⟩] [0, 2, 4, 13])
  (.cond (.tmp 13)
  (.seq (.ops [
      ⟨some 14, .mov (.tmp 0), none, false⟩,
      ⟨some 15, .loadL true 4 (.tmp 4), none, false⟩,
      ⟨some 16, .fieldL 0 (.tmp 4), none, false⟩,
      ⟨some 17, .loadL false 1 (.tmp 16), none, false⟩,
      ⟨some 18, .bin .eql (.tmp 17) (.const (.string ⟨#[114, 117, 108, 101]⟩)), none, false⟩,
      ⟨some 19, .build [.bool false, .bool false, .bool false] [(2, 1, (.tmp 18))], none, false⟩,
      ⟨some 20, .call 61 [(.tmp 14), (.const (.int .i64 (-1))), (.tmp 15), (.tmp 19)], none, false⟩] [])
    .ret)
  .skip))
  (.seq (.seq (.opsD [
    (⟨some 21, .mov (.tmp 0), none, false⟩, []),
    (⟨some 22, .nilCheck (.tmp 21), none, false⟩, []),
    (⟨some 23, .fieldAddr 0 (.tmp 22), none, false⟩, []),
    (⟨some 24, .load false 1 (.tmp 23), none, false⟩, []),
    (⟨some 25, .fieldL 1 (.tmp 4), none, false⟩, []),
    (⟨some 26, .loadL false 1 (.tmp 25), none, false⟩, []),
    (⟨some 27, .lookup (.cell .str) (.int .i64 0) False (.tmp 24) (.tmp 26), none, false⟩, []),
    (⟨some 28, .mov (.tmp 2), none, false⟩, []),
    (⟨some 29, .bin .neq (.tmp 27) (.tmp 28), none, false⟩, [])] [0, 2, 4, 29])
  (.cond (.tmp 29)
  (.seq (.ops [
      ⟨some 30, .mov (.tmp 0), none, false⟩,
      ⟨some 31, .fieldL 2 (.tmp 4), none, false⟩,
      ⟨some 32, .loadL false 1 (.tmp 31), none, false⟩,
      ⟨some 33, .call 62 [(.tmp 30), (.tmp 32), (.const (.int .i64 11))], none, false⟩] [])
    .ret)
  .skip))
  (.seq (.ops [
    ⟨some 34, .mov (.tmp 0), none, false⟩,
    ⟨some 35, .nilCheck (.tmp 34), none, false⟩,
    ⟨some 36, .fieldAddr 1 (.tmp 35), none, false⟩,
    ⟨some 37, .load false 1 (.tmp 36), none, false⟩,
    ⟨some 38, .nilCheck (.tmp 37), none, false⟩,
    ⟨some 39, .fieldAddr 0 (.tmp 38), none, false⟩,
    ⟨some 40, .load false 1 (.tmp 39), none, false⟩,
    ⟨some 41, .mov (.tmp 2), none, false⟩,
    ⟨some 42, .indexAddr 7 (.tmp 40) (.tmp 41), none, false⟩,
    ⟨some 43, .load true 7 (.tmp 42), none, false⟩,
    ⟨some 6, .allocL 0 [.str [], .nilSlice, .nilSlice, .str [], .str [], .int .i64 0, .nilSlice], none, false⟩,
    ⟨none, .storeL 7 (.tmp 6) (.tmp 43), none, false⟩] [0, 2, 4, 6])
  (.seq (.seq (.ops [
    ⟨some 44, .fieldL 3 (.tmp 4), none, false⟩,
    ⟨some 45, .loadL false 1 (.tmp 44), none, false⟩,
    ⟨some 46, .fieldL 3 (.tmp 4), none, false⟩,
    ⟨some 47, .loadL false 1 (.tmp 46), none, false⟩,
    ⟨some 48, .len .slice (.tmp 47), none, false⟩,
    ⟨some 49, .bin .sub (.tmp 48) (.const (.int .i64 1)), none, false⟩,
    ⟨some 50, .slice 4 (.tmp 45) none (some (.tmp 49)), none, false⟩,
    ⟨some 51, .len .slice (.tmp 50), none, false⟩,
    ⟨some 52, .mov (.const (.int .i64 0)), none, false⟩] [0, 2, 6, 50, 51, 52])
  (.block 0
  (.loop [0, 2, 6, 50, 51, 52]
    (.seq (.ops [
        ⟨some 53, .bin .lss (.tmp 52) (.tmp 51), none, false⟩] [0, 2, 6, 50, 51, 52, 53])
      (.seq (.cond (.tmp 53)
      .skip
      (.exit 0))
      (.seq (.block 1
      (.seq (.ops [
          ⟨some 54, .mov (.tmp 52), none, false⟩,
          ⟨some 55, .indexAddr 4 (.tmp 50) (.tmp 52), none, false⟩,
          ⟨some 56, .load true 4 (.tmp 55), none, false⟩,
          ⟨some 8, .allocL 0 [.str [], .str [], .int .i64 0, .nilSlice], none, false⟩,
          ⟨some 7, .mov (.tmp 54), none, false⟩,
          ⟨none, .storeL 4 (.tmp 8) (.tmp 56), none, false⟩] [0, 2, 6, 7, 8, 50, 51, 52])
        (.seq (.opsD [
          (⟨some 58, .mov (.tmp 0), none, false⟩, []),
          (⟨some 59, .nilCheck (.tmp 58), none, false⟩, []),
          (⟨some 60, .fieldAddr 0 (.tmp 59), none, false⟩, []),
          (⟨some 61, .load false 1 (.tmp 60), none, false⟩, []),
          (⟨some 62, .fieldL 1 (.tmp 8), none, false⟩, []),
          (⟨some 63, .loadL false 1 (.tmp 62), none, false⟩, []),
          (⟨some 64, .lookup (.cell .str) (.int .i64 0) True (.tmp 61) (.tmp 63), none, false⟩, []),
          (⟨some 57, .mov (.tmp 64), none, false⟩, []),
          (⟨some 65, .extract (.tmp 57) 0, none, false⟩, []),
          (⟨some 66, .extract (.tmp 57) 1, none, false⟩, []),
          (⟨some 9, .mov (.tmp 65), none, false⟩, []),
          (⟨some 10, .mov (.tmp 66), none, false⟩, [])] [0, 2, 6, 7, 8, 10, 50, 51, 52])
        (.seq (.opsD [
          (⟨some 67, .mov (.tmp 10), none, false⟩, []),
          (⟨some 68, .mov (.tmp 67), none, false⟩, []),
          (⟨some 69, .fieldL 1 (.tmp 6), some (68, false), false⟩, []),
          (⟨some 70, .loadL false 1 (.tmp 69), some (68, false), false⟩, []),
          (⟨some 71, .mov (.tmp 7), some (68, false), false⟩, []),
          (⟨some 72, .slice 1 (.tmp 70) none (some (.tmp 71)), some (68, false), false⟩, []),
          (⟨some 73, .fieldL 1 (.tmp 8), some (68, false), false⟩, []),
          (⟨some 74, .loadL false 1 (.tmp 73), some (68, false), false⟩, []),
          (⟨some 75, .call 48 [(.tmp 72), (.tmp 74)], some (68, false), false⟩, []),
          (⟨some 76, .pick (.tmp 68) (.const (.bool true)) (.tmp 75), none, false⟩, []),
          (⟨some 77, .mov (.tmp 76), none, false⟩, []),
          (⟨some 78, .load false 1 (.global 2), some (77, false), false⟩, []),
          (⟨some 79, .fieldL 1 (.tmp 8), some (77, false), false⟩, []),
          (⟨some 80, .loadL false 1 (.tmp 79), some (77, false), false⟩, []),
          (⟨some 81, .call 48 [(.tmp 78), (.tmp 80)], some (77, false), false⟩, []),
          (⟨some 82, .pick (.tmp 77) (.const (.bool true)) (.tmp 81), none, false⟩, [])] [0, 2, 6, 8, 50, 51, 52, 82])
        (.cond (.tmp 82)
        (.ops [
            ⟨some 83, .mov (.tmp 0), none, false⟩,
            ⟨some 84, .fieldL 2 (.tmp 8), none, false⟩,
            ⟨some 85, .loadL false 1 (.tmp 84), none, false⟩,
            ⟨some 86, .call 62 [(.tmp 83), (.tmp 85), (.const (.int .i64 11))], none, false⟩] [0, 2, 6, 50, 51, 52])
        .skip)))))
      (.ops [
        ⟨some 87, .bin .add (.tmp 52) (.const (.int .i64 1)), none, false⟩,
        ⟨some 52, .mov (.tmp 87), none, false⟩] [0, 2, 6, 50, 51, 52])))))))
  (.ops [
    ⟨some 88, .mov (.tmp 0), none, false⟩,
    ⟨some 89, .mov (.tmp 2), none, false⟩,
    ⟨some 90, .fieldL 3 (.tmp 6), none, false⟩,
    ⟨some 91, .loadL true 4 (.tmp 90), none, false⟩,
    ⟨some 92, .build [.bool false, .bool false, .bool false] [(1, 1, (.const (.bool true)))], none, false⟩,
    ⟨some 93, .call 61 [(.tmp 88), (.tmp 89), (.tmp 91), (.tmp 92)], none, false⟩] []))))))⟩
/-- scribe/ast.All$1 -/
def af36 : AFunc := ⟨2, [],
  (.ops [
    ⟨some 3, .load true 4 (.tmp 1), none, false⟩,
    ⟨some 4, .mov (.tmp 0), none, false⟩,
    ⟨some 5, .call 37 [(.tmp 3), (.const (.int .i64 0)), (.tmp 4)], none, false⟩] [])⟩
/-- scribe/ast.walk -/
def af37 : AFunc := ⟨3, [.tmp 6],
  (.seq (.ops [
    ⟨some 3, .boxL 0 4 (.tmp 0), none, false⟩,
    ⟨some 6, .mov (.const (.bool false)), none, false⟩] [1, 2, 3])
  (.seq (.seq (.ops [
    ⟨some 9, .mov (.tmp 2), none, false⟩,
    ⟨some 10, .mov (.tmp 1), none, false⟩,
    ⟨some 11, .loadL true 4 (.tmp 3), none, false⟩,
    ⟨some 12, .callv (.tmp 9) [(.tmp 10), (.tmp 11)], none, false⟩,
    ⟨some 13, .un .not (.tmp 12), none, false⟩] [1, 2, 3, 13])
  (.cond (.tmp 13)
  (.seq (.ops [
      ⟨some 6, .mov (.const (.bool false)), none, false⟩] [6])
    .ret)
  .skip))
  (.seq (.seq (.ops [
    ⟨some 14, .fieldL 3 (.tmp 3), none, false⟩,
    ⟨some 15, .loadL false 1 (.tmp 14), none, false⟩,
    ⟨some 16, .len .slice (.tmp 15), none, false⟩,
    ⟨some 17, .mov (.const (.int .i64 0)), none, false⟩] [1, 2, 15, 16, 17])
  (.block 0
  (.loop [1, 2, 15, 16, 17]
    (.seq (.ops [
        ⟨some 18, .bin .lss (.tmp 17) (.tmp 16), none, false⟩] [1, 2, 15, 16, 17, 18])
      (.seq (.cond (.tmp 18)
      .skip
      (.exit 0))
      (.seq (.block 1
      (.seq (.ops [
          ⟨some 19, .indexAddr 4 (.tmp 15) (.tmp 17), none, false⟩,
          ⟨some 20, .load true 4 (.tmp 19), none, false⟩,
          ⟨some 8, .allocL 0 [.str [], .str [], .int .i64 0, .nilSlice], none, false⟩,
          ⟨none, .storeL 4 (.tmp 8) (.tmp 20), none, false⟩] [1, 2, 8, 15, 16, 17])
        (.seq (.ops [
          ⟨some 21, .loadL true 4 (.tmp 8), none, false⟩,
          ⟨some 22, .mov (.tmp 1), none, false⟩,
          ⟨some 23, .bin .add (.tmp 22) (.const (.int .i64 1)), none, false⟩,
          ⟨some 24, .mov (.tmp 2), none, false⟩,
          ⟨some 25, .call 37 [(.tmp 21), (.tmp 23), (.tmp 24)], none, false⟩,
          ⟨some 26, .un .not (.tmp 25), none, false⟩] [1, 2, 15, 16, 17, 26])
        (.cond (.tmp 26)
        (.seq (.ops [
            ⟨some 6, .mov (.const (.bool false)), none, false⟩] [6])
          .ret)
        .skip))))
      (.ops [
        ⟨some 27, .bin .add (.tmp 17) (.const (.int .i64 1)), none, false⟩,
        ⟨some 17, .mov (.tmp 27), none, false⟩] [1, 2, 15, 16, 17])))))))
  (.seq (.ops [
    ⟨some 6, .mov (.const (.bool true)), none, false⟩] [6])
  .ret))))⟩
/-- (*scribe/lex.lexer).next -/
def af46 : AFunc := ⟨1, [.tmp 2],
  (.seq (.ops [
    ⟨some 2, .mov (.const (.int .i64 0)), none, false⟩] [0])
  (.seq (.opsD [
    (⟨some 4, .mov (.tmp 0), none, false⟩, []),
    (⟨some 5, .nilCheck (.tmp 4), none, false⟩, []),
    (⟨some 6, .fieldAddr 0 (.tmp 5), none, false⟩, []),
    (⟨some 7, .load false 1 (.tmp 6), none, false⟩, []),
    (⟨some 8, .mov (.tmp 0), none, false⟩, []),
    (⟨some 9, .nilCheck (.tmp 8), none, false⟩, []),
    (⟨some 10, .fieldAddr 1 (.tmp 9), none, false⟩, []),
    (⟨some 11, .load false 1 (.tmp 10), none, false⟩, []),
    (⟨some 12, .indexStr (.tmp 7) (.tmp 11), none, false⟩, []),
    (⟨some 3, .mov (.tmp 12), none, false⟩, [])] [0, 3])
  (.seq (.block 0
  (.seq (.seq (.ops [
      ⟨some 16, .mov (.tmp 3), none, false⟩,
      ⟨some 17, .bin .eql (.tmp 16) (.const (.int .u8 32)), none, false⟩,
      ⟨some 15, .mov (.tmp 17), none, false⟩] [0, 3, 15])
    (.cond (.tmp 15)
    .skip
    (.seq (.ops [
        ⟨some 18, .mov (.tmp 3), none, false⟩,
        ⟨some 19, .bin .eql (.tmp 18) (.const (.int .u8 9)), none, false⟩,
        ⟨some 15, .mov (.tmp 19), none, false⟩] [0, 3, 15])
      (.cond (.tmp 15)
      .skip
      (.ops [
          ⟨some 20, .mov (.tmp 3), none, false⟩,
          ⟨some 21, .bin .eql (.tmp 20) (.const (.int .u8 13)), none, false⟩,
          ⟨some 15, .mov (.tmp 21), none, false⟩] [0, 3, 15])))))
    (.cond (.tmp 15)
    (.ops [
        ⟨some 22, .mov (.tmp 0), none, false⟩,
        ⟨some 23, .nilCheck (.tmp 22), none, false⟩,
        ⟨some 24, .fieldAddr 1 (.tmp 23), none, false⟩,
        ⟨some 25, .load false 1 (.tmp 24), none, false⟩,
        ⟨some 26, .bin .add (.tmp 25) (.const (.int .i64 1)), none, false⟩,
        ⟨some 27, .nilCheck (.tmp 22), none, false⟩,
        ⟨some 28, .fieldAddr 1 (.tmp 27), none, false⟩,
        ⟨none, .store 1 (.tmp 28) (.tmp 26), none, false⟩] [])
    (.seq (.ops [
        ⟨some 30, .mov (.tmp 3), none, false⟩,
        ⟨some 31, .bin .eql (.tmp 30) (.const (.int .u8 35)), none, false⟩,
        ⟨some 29, .mov (.tmp 31), none, false⟩] [0, 3, 29])
      (.cond (.tmp 29)
      (.ops [
          ⟨some 32, .mov (.tmp 0), none, false⟩,
          ⟨some 33, .call 75 [(.tmp 32), (.func 76)], none, false⟩] [])
      (.seq (.ops [
          ⟨some 35, .mov (.tmp 3), none, false⟩,
          ⟨some 36, .bin .eql (.tmp 35) (.const (.int .u8 92)), none, false⟩,
          ⟨some 37, .mov (.tmp 36), none, false⟩,
          ⟨some 38, .mov (.tmp 0), some (37, true), false⟩,
          ⟨some 39, .call 77 [(.tmp 38), (.const (.int .i64 1))], some (37, true), false⟩,
          ⟨some 40, .bin .eql (.tmp 39) (.const (.int .u8 10)), some (37, true), false⟩,
          ⟨some 41, .pick (.tmp 37) (.tmp 40) (.const (.bool false)), none, false⟩,
          ⟨some 34, .mov (.tmp 41), none, false⟩] [0, 3, 34])
        (.cond (.tmp 34)
        (.ops [
            ⟨some 42, .mov (.tmp 0), none, false⟩,
            ⟨some 43, .nilCheck (.tmp 42), none, false⟩,
            ⟨some 44, .fieldAddr 1 (.tmp 43), none, false⟩,
            ⟨some 45, .load false 1 (.tmp 44), none, false⟩,
            ⟨some 46, .bin .add (.tmp 45) (.const (.int .i64 2)), none, false⟩,
            ⟨some 47, .nilCheck (.tmp 42), none, false⟩,
            ⟨some 48, .fieldAddr 1 (.tmp 47), none, false⟩,
            ⟨none, .store 1 (.tmp 48) (.tmp 46), none, false⟩] [])
        (.seq (.ops [
            ⟨some 50, .mov (.tmp 3), none, false⟩,
            ⟨some 51, .bin .eql (.tmp 50) (.const (.int .u8 10)), none, false⟩,
            ⟨some 49, .mov (.tmp 51), none, false⟩] [0, 3, 49])
          (.cond (.tmp 49)
          (.seq (.ops [
              ⟨some 52, .mov (.tmp 0), none, false⟩,
              ⟨some 53, .mov (.tmp 0), none, false⟩,
              ⟨some 54, .nilCheck (.tmp 53), none, false⟩,
              ⟨some 55, .fieldAddr 1 (.tmp 54), none, false⟩,
              ⟨some 56, .load false 1 (.tmp 55), none, false⟩,
              ⟨some 57, .call 47 [(.tmp 52), (.const (.int .i64 1)), (.const (.string ⟨#[]⟩)), (.tmp 56)], none, false⟩] [0])
            (.ops [
              ⟨some 58, .mov (.tmp 0), none, false⟩,
              ⟨some 59, .nilCheck (.tmp 58), none, false⟩,
              ⟨some 60, .fieldAddr 1 (.tmp 59), none, false⟩,
              ⟨some 61, .load false 1 (.tmp 60), none, false⟩,
              ⟨some 62, .bin .add (.tmp 61) (.const (.int .i64 1)), none, false⟩,
              ⟨some 63, .nilCheck (.tmp 58), none, false⟩,
              ⟨some 64, .fieldAddr 1 (.tmp 63), none, false⟩,
              ⟨none, .store 1 (.tmp 64) (.tmp 62), none, false⟩] []))
          (.seq (.seq (.ops [
              ⟨some 66, .mov (.tmp 3), none, false⟩,
              ⟨some 67, .call 78 [(.tmp 66)], none, false⟩,
              ⟨some 65, .mov (.tmp 67), none, false⟩] [0, 3, 65])
            (.cond (.tmp 65)
            .skip
            (.ops [
                ⟨some 68, .mov (.tmp 3), none, false⟩,
                ⟨some 69, .bin .eql (.tmp 68) (.const (.int .u8 46)), none, false⟩,
                ⟨some 70, .mov (.tmp 69), none, false⟩,
                ⟨some 71, .mov (.tmp 0), some (70, true), false⟩,
                ⟨some 72, .call 77 [(.tmp 71), (.const (.int .i64 1))], some (70, true), false⟩,
                ⟨some 73, .call 78 [(.tmp 72)], some (70, true), false⟩,
                ⟨some 74, .pick (.tmp 70) (.tmp 73) (.const (.bool false)), none, false⟩,
                ⟨some 65, .mov (.tmp 74), none, false⟩] [0, 3, 65])))
            (.cond (.tmp 65)
            (.ops [
                ⟨some 75, .mov (.tmp 0), none, false⟩,
                ⟨some 76, .call 79 [(.tmp 75)], none, false⟩] [])
            (.seq (.ops [
                ⟨some 78, .mov (.tmp 3), none, false⟩,
                ⟨some 79, .call 80 [(.tmp 78)], none, false⟩,
                ⟨some 77, .mov (.tmp 79), none, false⟩] [0, 3, 77])
              (.cond (.tmp 77)
              (.ops [
                  ⟨some 80, .mov (.tmp 0), none, false⟩,
                  ⟨some 81, .call 81 [(.tmp 80)], none, false⟩] [])
              (.seq (.ops [
                  ⟨some 83, .mov (.tmp 3), none, false⟩,
                  ⟨some 84, .bin .eql (.tmp 83) (.const (.int .u8 34)), none, false⟩,
                  ⟨some 82, .mov (.tmp 84), none, false⟩] [0, 3, 82])
                (.cond (.tmp 82)
                (.seq (.ops [
                    ⟨some 85, .mov (.tmp 0), none, false⟩,
                    ⟨some 86, .call 82 [(.tmp 85), (.const (.int .i64 3)), (.const (.int .u8 34)), (.func 83)], none, false⟩,
                    ⟨some 2, .mov (.tmp 86), none, false⟩] [2])
                  .ret)
                (.seq (.ops [
                    ⟨some 88, .mov (.tmp 3), none, false⟩,
                    ⟨some 89, .bin .eql (.tmp 88) (.const (.int .u8 47)), none, false⟩,
                    ⟨some 90, .mov (.tmp 89), none, false⟩,
                    ⟨some 91, .mov (.tmp 0), some (90, true), false⟩,
                    ⟨some 92, .call 84 [(.tmp 91)], some (90, true), false⟩,
                    ⟨some 93, .pick (.tmp 90) (.tmp 92) (.const (.bool false)), none, false⟩,
                    ⟨some 87, .mov (.tmp 93), none, false⟩] [0, 87])
                  (.cond (.tmp 87)
                  (.seq (.ops [
                      ⟨some 94, .mov (.tmp 0), none, false⟩,
                      ⟨some 95, .call 82 [(.tmp 94), (.const (.int .i64 4)), (.const (.int .u8 47)), (.func 85)], none, false⟩,
                      ⟨some 2, .mov (.tmp 95), none, false⟩] [2])
                    .ret)
                  (.seq (.ops [
                      ⟨some 13, .mov (.tmp 0), none, false⟩,
                      ⟨some 14, .call 86 [(.tmp 13)], none, false⟩,
                      ⟨some 2, .mov (.tmp 14), none, false⟩] [2])
                    .ret))))))))))))))))))
  (.seq (.ops [
    ⟨some 2, .mov (.const (.int .i64 0)), none, false⟩] [2])
  .ret))))⟩
/-- (*scribe/lex.lexer).put -/
def af47 : AFunc := ⟨4, [],
  (.ops [
    ⟨some 8, .mov (.tmp 0), none, false⟩,
    ⟨some 9, .mov (.tmp 0), none, false⟩,
    ⟨some 10, .nilCheck (.tmp 9), none, false⟩,
    ⟨some 11, .fieldAddr 2 (.tmp 10), none, false⟩,
    ⟨some 12, .load false 1 (.tmp 11), none, false⟩,
    ⟨some 13, .mov (.tmp 1), none, false⟩,
    ⟨some 14, .mov (.tmp 2), none, false⟩,
    ⟨some 15, .mov (.tmp 3), none, false⟩,
    ⟨some 16, .build [.int .i64 0, .str [], .int .i64 0] [(0, 1, (.tmp 13)), (1, 1, (.tmp 14)), (2, 1, (.tmp 15))], none, false⟩,
    ⟨some 17, .buildSlice true 95 3 1 [.int .i64 0, .str [], .int .i64 0] [(0, (.tmp 16))], none, false⟩,
    ⟨some 18, .append false 95 3 32 (.tmp 12) (.tmp 17), none, false⟩,
    ⟨some 19, .nilCheck (.tmp 8), none, false⟩,
    ⟨some 20, .fieldAddr 2 (.tmp 19), none, false⟩,
    ⟨none, .store 1 (.tmp 20) (.tmp 18), none, false⟩] [])⟩
/-- slices.Contains[[]string,string] -/
def af48 : AFunc := ⟨2, [.tmp 4],
  (.seq (.ops [
    ⟨some 4, .mov (.const (.bool false)), none, false⟩] [0, 1])
  (.seq (.ops [
    ⟨some 5, .mov (.tmp 0), none, false⟩,
    ⟨some 6, .mov (.tmp 1), none, false⟩,
    ⟨some 7, .call 87 [(.tmp 5), (.tmp 6)], none, false⟩,
    ⟨some 8, .bin .geq (.tmp 7) (.const (.int .i64 0)), none, false⟩,
    ⟨some 4, .mov (.tmp 8), none, false⟩] [4])
  .ret))⟩
/-- (*scribe/parse.parser).accept -/
def af49 : AFunc := ⟨2, [.tmp 4],
  (.seq (.ops [
    ⟨some 4, .mov (.const (.bool false)), none, false⟩] [0, 1])
  (.seq (.seq (.ops [
    ⟨some 5, .mov (.tmp 0), none, false⟩,
    ⟨some 6, .mov (.tmp 1), none, false⟩,
    ⟨some 7, .buildSlice true 9 1 1 [.str []] [(0, (.tmp 6))], none, false⟩,
    ⟨some 8, .call 29 [(.tmp 5), (.tmp 7)], none, false⟩,
    ⟨some 9, .un .not (.tmp 8), none, false⟩] [0, 9])
  (.cond (.tmp 9)
  (.seq (.ops [
      ⟨some 4, .mov (.const (.bool false)), none, false⟩] [4])
    .ret)
  .skip))
  (.seq (.ops [
    ⟨some 10, .mov (.tmp 0), none, false⟩,
    ⟨some 11, .call 31 [(.tmp 10)], none, false⟩] [])
  (.seq (.ops [
    ⟨some 4, .mov (.const (.bool true)), none, false⟩] [4])
  .ret))))⟩
/-- (*scribe/parse.parser).block -/
def af50 : AFunc := ⟨1, [.cellL true 4 2],
  (.seq (.ops [
    ⟨some 2, .allocL 0 [.str [], .str [], .int .i64 0, .nilSlice], none, false⟩] [0, 2])
  (.seq (.ops [
    ⟨some 4, .call 28 [(.const (.string ⟨#[98, 108, 111, 99, 107]⟩)), (.const (.slice none 0 0))], none, false⟩,
    ⟨some 3, .allocL 0 [.str [], .str [], .int .i64 0, .nilSlice], none, false⟩,
    ⟨none, .storeL 4 (.tmp 3) (.tmp 4), none, false⟩] [0, 2, 3])
  (.seq (.ops [
    ⟨some 5, .mov (.tmp 0), none, false⟩,
    ⟨some 6, .call 53 [(.tmp 5), (.const (.string ⟨#[123]⟩))], none, false⟩] [0, 2, 3])
  (.seq (.block 0
  (.loop [0, 2, 3]
    (.seq (.seq (.ops [
        ⟨some 7, .mov (.tmp 0), none, false⟩,
        ⟨some 8, .nilCheck (.tmp 7), none, false⟩,
        ⟨some 9, .fieldAddr 4 (.tmp 8), none, false⟩,
        ⟨some 10, .load false 1 (.tmp 9), none, false⟩,
        ⟨some 11, .bin .eql (.tmp 10) (.const (.int .i64 0)), none, false⟩] [0, 2, 3, 11])
      (.cond (.tmp 11)
      .skip
      (.exit 0)))
      (.block 1
      (.seq (.block 2
        (.loop [0, 2, 3]
          (.seq (.seq (.ops [
              ⟨some 12, .mov (.tmp 0), none, false⟩,
              ⟨some 13, .buildSlice true 9 1 1 [.str []] [(0, (.const (.string ⟨#[59]⟩)))], none, false⟩,
              ⟨some 14, .call 29 [(.tmp 12), (.tmp 13)], none, false⟩,
              ⟨some 15, .mov (.tmp 14), none, false⟩,
              ⟨some 16, .mov (.tmp 0), some (15, false), false⟩,
              ⟨some 17, .call 30 [(.tmp 16)], some (15, false), false⟩,
              ⟨some 18, .field false 1 0 (.tmp 17), some (15, false), false⟩,
              ⟨some 19, .bin .eql (.tmp 18) (.const (.int .i64 1)), some (15, false), false⟩,
              ⟨some 20, .pick (.tmp 15) (.const (.bool true)) (.tmp 19), none, false⟩] [0, 2, 3, 20])
            (.cond (.tmp 20)
            .skip
            (.exit 2)))
            (.block 3
            (.ops [
                ⟨some 21, .mov (.tmp 0), none, false⟩,
                ⟨some 22, .call 31 [(.tmp 21)], none, false⟩] [0, 2, 3])))))
        (.seq (.seq (.ops [
          ⟨some 23, .mov (.tmp 0), none, false⟩,
          ⟨some 24, .call 49 [(.tmp 23), (.const (.string ⟨#[125]⟩))], none, false⟩] [0, 2, 3, 24])
        (.cond (.tmp 24)
        (.exit 0)
        .skip))
        (.opsD [
          (⟨some 25, .fieldL 3 (.tmp 3), none, false⟩, []),
          (⟨some 26, .loadL false 1 (.tmp 25), none, false⟩, []),
          (⟨some 27, .mov (.tmp 0), none, false⟩, []),
          (⟨some 28, .call 88 [(.tmp 27)], none, false⟩, []),
          (⟨some 29, .buildSlice true 25 4 1 [.str [], .str [], .int .i64 0, .nilSlice] [(0, (.tmp 28))], none, false⟩, []),
          (⟨some 30, .append false 25 4 64 (.tmp 26) (.tmp 29), none, false⟩, []),
          (⟨some 31, .fieldL 3 (.tmp 3), none, false⟩, []),
          (⟨none, .storeL 1 (.tmp 31) (.tmp 30), none, false⟩, [])] [0, 2, 3])))))))
  (.seq (.ops [
    ⟨some 32, .loadL true 4 (.tmp 3), none, false⟩,
    ⟨none, .storeL 4 (.tmp 2) (.tmp 32), none, false⟩] [2])
  .ret)))))⟩
/-- scribe/parse.leaf -/
def af51 : AFunc := ⟨3, [.cellL true 4 6],
  (.seq (.ops [
    ⟨some 4, .boxL 0 3 (.tmp 1), none, false⟩,
    ⟨some 6, .allocL 1 [.str [], .str [], .int .i64 0, .nilSlice], none, false⟩] [0, 2, 4, 6])
  (.seq (.ops [
    ⟨some 7, .mov (.tmp 0), none, false⟩,
    ⟨some 8, .fieldL 1 (.tmp 4), none, false⟩,
    ⟨some 9, .loadL false 1 (.tmp 8), none, false⟩,
    ⟨some 10, .fieldL 2 (.tmp 4), none, false⟩,
    ⟨some 11, .loadL false 1 (.tmp 10), none, false⟩,
    ⟨some 12, .mov (.tmp 2), none, false⟩,
    ⟨some 13, .build [.str [], .str [], .int .i64 0, .nilSlice] [(0, 1, (.tmp 7)), (1, 1, (.tmp 9)), (2, 1, (.tmp 11)), (3, 1, (.tmp 12))], none, false⟩,
    ⟨none, .storeL 4 (.tmp 6) (.tmp 13), none, false⟩] [6])
  .ret))⟩
/-- (*scribe/parse.parser).name -/
def af52 : AFunc := ⟨2, [.cellL true 3 4],
  (.seq (.ops [
    ⟨some 4, .allocL 0 [.int .i64 0, .str [], .int .i64 0], none, false⟩] [0, 1, 4])
  (.seq (.ops [
    ⟨some 6, .mov (.tmp 0), none, false⟩,
    ⟨some 7, .call 30 [(.tmp 6)], none, false⟩,
    ⟨some 5, .allocL 0 [.int .i64 0, .str [], .int .i64 0], none, false⟩,
    ⟨none, .storeL 3 (.tmp 5) (.tmp 7), none, false⟩] [0, 1, 4, 5])
  (.seq (.seq (.ops [
    ⟨some 8, .mov (.tmp 1), none, false⟩,
    ⟨some 9, .fieldL 0 (.tmp 5), none, false⟩,
    ⟨some 10, .loadL false 1 (.tmp 9), none, false⟩,
    ⟨some 11, .call 89 [(.tmp 8), (.tmp 10)], none, false⟩,
    ⟨some 12, .un .not (.tmp 11), none, false⟩] [0, 4, 5, 12])
  (.cond (.tmp 12)
  (.seq (.ops [
      ⟨some 13, .mov (.tmp 0), none, false⟩,
      ⟨some 14, .call 56 [(.tmp 13)], none, false⟩] [4])
    (.seq (.ops [
      ⟨some 15, .build [.int .i64 0, .str [], .int .i64 0] [], none, false⟩,
      ⟨none, .storeL 3 (.tmp 4) (.tmp 15), none, false⟩] [4])
    .ret))
  .skip))
  (.seq (.ops [
    ⟨some 16, .mov (.tmp 0), none, false⟩,
    ⟨some 17, .call 31 [(.tmp 16)], none, false⟩] [4, 5])
  (.seq (.ops [
    ⟨some 18, .loadL true 3 (.tmp 5), none, false⟩,
    ⟨none, .storeL 3 (.tmp 4) (.tmp 18), none, false⟩] [4])
  .ret)))))⟩
/-- (*scribe/parse.parser).expect -/
def af53 : AFunc := ⟨2, [],
  (.seq (.ops [
    ⟨some 4, .mov (.tmp 0), none, false⟩,
    ⟨some 5, .mov (.tmp 1), none, false⟩,
    ⟨some 6, .call 49 [(.tmp 4), (.tmp 5)], none, false⟩,
    ⟨some 7, .un .not (.tmp 6), none, false⟩] [0, 7])
  (.cond (.tmp 7)
  (.ops [
      ⟨some 8, .mov (.tmp 0), none, false⟩,
      ⟨some 9, .call 56 [(.tmp 8)], none, false⟩] [])
  .skip))⟩
/-- (*scribe/parse.parser).lines -/
def af54 : AFunc := ⟨1, [],
  (.block 0
  (.loop [0]
    (.seq (.seq (.ops [
        ⟨some 2, .mov (.tmp 0), none, false⟩,
        ⟨some 3, .call 30 [(.tmp 2)], none, false⟩,
        ⟨some 4, .field false 1 0 (.tmp 3), none, false⟩,
        ⟨some 5, .bin .eql (.tmp 4) (.const (.int .i64 1)), none, false⟩] [0, 5])
      (.cond (.tmp 5)
      .skip
      (.exit 0)))
      (.block 1
      (.ops [
          ⟨some 6, .mov (.tmp 0), none, false⟩,
          ⟨some 7, .call 31 [(.tmp 6)], none, false⟩] [0])))))⟩
/-- (*scribe/parse.parser).expr -/
def af55 : AFunc := ⟨1, [.cellL true 4 2],
  (.seq (.ops [
    ⟨some 2, .allocL 0 [.str [], .str [], .int .i64 0, .nilSlice], none, false⟩] [0, 2])
  (.seq (.ops [
    ⟨some 6, .mov (.tmp 0), none, false⟩,
    ⟨some 7, .call 90 [(.tmp 6)], none, false⟩] [0, 2])
  (.seq (.ops [
    ⟨some 8, .mov (.tmp 0), none, false⟩,
    ⟨none, .defer 91 [(.tmp 8)], none, false⟩] [0, 2])
  (.seq (.ops [
    ⟨some 9, .mov (.tmp 0), none, false⟩,
    ⟨some 10, .call 92 [(.tmp 9)], none, false⟩,
    ⟨some 3, .allocL 0 [.str [], .str [], .int .i64 0, .nilSlice], none, false⟩,
    ⟨none, .storeL 4 (.tmp 3) (.tmp 10), none, false⟩] [0, 2, 3])
  (.seq (.seq (.ops [
    ⟨some 11, .mov (.tmp 0), none, false⟩,
    ⟨some 12, .call 49 [(.tmp 11), (.const (.string ⟨#[63]⟩))], none, false⟩] [0, 2, 3, 12])
  (.cond (.tmp 12)
  (.seq (.ops [
      ⟨some 13, .mov (.tmp 0), none, false⟩,
      ⟨some 14, .call 54 [(.tmp 13)], none, false⟩] [0, 2, 3])
    (.seq (.ops [
      ⟨some 15, .mov (.tmp 0), none, false⟩,
      ⟨some 16, .call 55 [(.tmp 15)], none, false⟩,
      ⟨some 4, .allocL 0 [.str [], .str [], .int .i64 0, .nilSlice], none, false⟩,
      ⟨none, .storeL 4 (.tmp 4) (.tmp 16), none, false⟩] [0, 2, 3, 4])
    (.seq (.ops [
      ⟨some 17, .mov (.tmp 0), none, false⟩,
      ⟨some 18, .call 54 [(.tmp 17)], none, false⟩] [0, 2, 3, 4])
    (.seq (.ops [
      ⟨some 19, .mov (.tmp 0), none, false⟩,
      ⟨some 20, .call 53 [(.tmp 19), (.const (.string ⟨#[58]⟩))], none, false⟩] [0, 2, 3, 4])
    (.seq (.ops [
      ⟨some 21, .mov (.tmp 0), none, false⟩,
      ⟨some 22, .call 54 [(.tmp 21)], none, false⟩] [0, 2, 3, 4])
    (.seq (.opsD [
      (⟨some 23, .loadL true 4 (.tmp 3), none, false⟩, []),
      (⟨some 24, .loadL true 4 (.tmp 4), none, false⟩, []),
      (⟨some 25, .mov (.tmp 0), none, false⟩, []),
      (⟨some 26, .call 55 [(.tmp 25)], none, false⟩, []),
      (⟨some 27, .buildSlice true 25 4 3 [.str [], .str [], .int .i64 0, .nilSlice] [(0, (.tmp 23)), (1, (.tmp 24)), (2, (.tmp 26))], none, false⟩, []),
      (⟨some 28, .call 28 [(.const (.string ⟨#[99, 111, 110, 100]⟩)), (.tmp 27)], none, false⟩, []),
      (⟨none, .storeL 4 (.tmp 2) (.tmp 28), none, false⟩, [])] [2])
    .ret))))))
  .skip))
  (.seq (.seq (.ops [
    ⟨some 29, .mov (.tmp 0), none, false⟩,
    ⟨some 30, .call 30 [(.tmp 29)], none, false⟩,
    ⟨some 5, .allocL 0 [.int .i64 0, .str [], .int .i64 0], none, false⟩,
    ⟨none, .storeL 3 (.tmp 5) (.tmp 30), none, false⟩] [0, 2, 3, 5])
  (.seq (.ops [
    ⟨some 31, .loadL true 4 (.tmp 3), none, false⟩,
    ⟨some 32, .call 93 [(.tmp 31)], none, false⟩,
    ⟨some 33, .mov (.tmp 32), none, false⟩,
    ⟨some 34, .fieldL 0 (.tmp 5), some (33, true), false⟩,
    ⟨some 35, .loadL false 1 (.tmp 34), some (33, true), false⟩,
    ⟨some 36, .bin .eql (.tmp 35) (.const (.int .i64 8)), some (33, true), false⟩,
    ⟨some 37, .pick (.tmp 33) (.tmp 36) (.const (.bool false)), none, false⟩,
    ⟨some 38, .mov (.tmp 37), none, false⟩,
    ⟨some 39, .buildSlice true 9 1 6 [.str []] [(0, (.const (.string ⟨#[61]⟩))), (1, (.const (.string ⟨#[43, 61]⟩))), (2, (.const (.string ⟨#[45, 61]⟩))), (3, (.const (.string ⟨#[42, 61]⟩))), (4, (.const (.string ⟨#[47, 61]⟩))), (5, (.const (.string ⟨#[37, 61]⟩)))], some (38, true), false⟩,
    ⟨some 40, .fieldL 1 (.tmp 5), some (38, true), false⟩,
    ⟨some 41, .loadL false 1 (.tmp 40), some (38, true), false⟩,
    ⟨some 42, .call 48 [(.tmp 39), (.tmp 41)], some (38, true), false⟩,
    ⟨some 43, .pick (.tmp 38) (.tmp 42) (.const (.bool false)), none, false⟩] [0, 2, 3, 5, 43])
  (.cond (.tmp 43)
  (.seq (.ops [
      ⟨some 44, .mov (.tmp 0), none, false⟩,
      ⟨some 45, .call 31 [(.tmp 44)], none, false⟩] [0, 2, 3, 5])
    (.seq (.ops [
      ⟨some 46, .mov (.tmp 0), none, false⟩,
      ⟨some 47, .call 54 [(.tmp 46)], none, false⟩] [0, 2, 3, 5])
    (.seq (.opsD [
      (⟨some 48, .fieldL 1 (.tmp 5), none, false⟩, []),
      (⟨some 49, .loadL false 1 (.tmp 48), none, false⟩, []),
      (⟨some 50, .loadL true 4 (.tmp 3), none, false⟩, []),
      (⟨some 51, .mov (.tmp 0), none, false⟩, []),
      (⟨some 52, .call 55 [(.tmp 51)], none, false⟩, []),
      (⟨some 53, .buildSlice true 25 4 2 [.str [], .str [], .int .i64 0, .nilSlice] [(0, (.tmp 50)), (1, (.tmp 52))], none, false⟩, []),
      (⟨some 54, .build [.str [], .str [], .int .i64 0, .nilSlice] [(0, 1, (.const (.string ⟨#[97, 115, 115, 105, 103, 110]⟩))), (1, 1, (.tmp 49)), (3, 1, (.tmp 53))], none, false⟩, []),
      (⟨none, .storeL 4 (.tmp 2) (.tmp 54), none, false⟩, [])] [2])
    .ret)))
  .skip)))
  (.seq (.ops [
    ⟨some 55, .loadL true 4 (.tmp 3), none, false⟩,
    ⟨none, .storeL 4 (.tmp 2) (.tmp 55), none, false⟩] [2])
  .ret)))))))⟩
/-- (*scribe/parse.parser).fail -/
def af56 : AFunc := ⟨1, [],
  (.seq (.ops [
    ⟨some 3, .mov (.tmp 0), none, false⟩,
    ⟨some 4, .call 30 [(.tmp 3)], none, false⟩,
    ⟨some 2, .allocL 0 [.int .i64 0, .str [], .int .i64 0], none, false⟩,
    ⟨none, .storeL 3 (.tmp 2) (.tmp 4), none, false⟩] [0, 2])
  (.block 0
  (.seq (.ops [
      ⟨some 14, .mov (.tmp 0), none, false⟩,
      ⟨some 15, .nilCheck (.tmp 14), none, false⟩,
      ⟨some 16, .fieldAddr 4 (.tmp 15), none, false⟩,
      ⟨some 17, .load false 1 (.tmp 16), none, false⟩,
      ⟨some 18, .bin .neq (.tmp 17) (.const (.int .i64 0)), none, false⟩,
      ⟨some 13, .mov (.tmp 18), none, false⟩] [0, 2, 13])
    (.cond (.tmp 13)
    .skip
    (.seq (.seq (.ops [
        ⟨some 20, .fieldL 0 (.tmp 2), none, false⟩,
        ⟨some 21, .loadL false 1 (.tmp 20), none, false⟩,
        ⟨some 22, .bin .eql (.tmp 21) (.const (.int .i64 10)), none, false⟩,
        ⟨some 19, .mov (.tmp 22), none, false⟩] [0, 2, 19])
      (.cond (.tmp 19)
      .skip
      (.ops [
          ⟨some 23, .fieldL 0 (.tmp 2), none, false⟩,
          ⟨some 24, .loadL false 1 (.tmp 23), none, false⟩,
          ⟨some 25, .bin .eql (.tmp 24) (.const (.int .i64 8)), none, false⟩,
          ⟨some 26, .mov (.tmp 25), none, false⟩,
          ⟨some 27, .fieldL 1 (.tmp 2), some (26, true), false⟩,
          ⟨some 28, .loadL false 1 (.tmp 27), some (26, true), false⟩,
          ⟨some 29, .bin .eql (.tmp 28) (.const (.string ⟨#[124]⟩)), some (26, true), false⟩,
          ⟨some 30, .pick (.tmp 26) (.tmp 29) (.const (.bool false)), none, false⟩,
          ⟨some 19, .mov (.tmp 30), none, false⟩] [0, 2, 19])))
      (.cond (.tmp 19)
      (.opsD [
          (⟨some 31, .mov (.tmp 0), none, false⟩, []),
          (⟨some 32, .mov (.tmp 0), none, false⟩, []),
          (⟨some 33, .fieldL 2 (.tmp 2), none, false⟩, []),
          (⟨some 34, .loadL false 1 (.tmp 33), none, false⟩, []),
          (⟨some 35, .nilCheck (.tmp 31), none, false⟩, []),
          (⟨some 36, .fieldAddr 4 (.tmp 35), none, false⟩, []),
          (⟨none, .store 1 (.tmp 36) (.const (.int .i64 10)), none, false⟩, []),
          (⟨some 37, .nilCheck (.tmp 32), none, false⟩, []),
          (⟨some 38, .fieldAddr 5 (.tmp 37), none, false⟩, []),
          (⟨none, .store 1 (.tmp 38) (.tmp 34), none, false⟩, [])] [])
      (.opsD [
          (⟨some 5, .mov (.tmp 0), none, false⟩, []),
          (⟨some 6, .mov (.tmp 0), none, false⟩, []),
          (⟨some 7, .fieldL 2 (.tmp 2), none, false⟩, []),
          (⟨some 8, .loadL false 1 (.tmp 7), none, false⟩, []),
          (⟨some 9, .nilCheck (.tmp 5), none, false⟩, []),
          (⟨some 10, .fieldAddr 4 (.tmp 9), none, false⟩, []),
          (⟨none, .store 1 (.tmp 10) (.const (.int .i64 9)), none, false⟩, []),
          (⟨some 11, .nilCheck (.tmp 6), none, false⟩, []),
          (⟨some 12, .fieldAddr 5 (.tmp 11), none, false⟩, []),
          (⟨none, .store 1 (.tmp 12) (.tmp 8), none, false⟩, [])] [])))))))⟩
/-- (*scribe/resolve.resolver).mark$1 -/
def af57 : AFunc := ⟨3, [],
  (.seq (.ops [
    ⟨some 3, .boxL 0 2 (.tmp 0), none, false⟩] [1, 2, 3])
  (.seq (.opsD [
    (⟨some 4, .load false 1 (.tmp 1), none, false⟩, []),
    (⟨some 5, .nilCheck (.tmp 4), none, false⟩, []),
    (⟨some 6, .fieldAddr 2 (.tmp 5), none, false⟩, []),
    (⟨some 7, .load false 1 (.tmp 6), none, false⟩, []),
    (⟨some 8, .loadL true 2 (.tmp 3), none, false⟩, []),
    (⟨some 9, .lookup (.agg [.int, .str]) (.bool false) False (.tmp 7) (.tmp 8), none, false⟩, []),
    (⟨some 10, .un .not (.tmp 9), none, false⟩, [])] [1, 2, 3, 10])
  (.cond (.tmp 10)
  (.opsD [
      (⟨some 11, .load false 1 (.tmp 1), none, false⟩, []),
      (⟨some 12, .nilCheck (.tmp 11), none, false⟩, []),
      (⟨some 13, .fieldAddr 2 (.tmp 12), none, false⟩, []),
      (⟨some 14, .load false 1 (.tmp 13), none, false⟩, []),
      (⟨some 15, .loadL true 2 (.tmp 3), none, false⟩, []),
      (⟨some 16, .mapEntry (.agg [.int, .str]) (.bool false) (.tmp 14) (.tmp 15), none, false⟩, []),
      (⟨some 17, .extract (.tmp 16) 1, none, false⟩, []),
      (⟨none, .entryStore (.tmp 14) (.tmp 17) (.const (.bool true)), none, false⟩, []),
      (⟨none, .store 1 (.tmp 2) (.const (.bool true)), none, false⟩, [])] [])
  .skip)))⟩
/-- (*scribe/resolve.resolver).fn -/
def af58 : AFunc := ⟨2, [.tmp 4],
  (.seq (.ops [
    ⟨some 3, .boxL 0 4 (.tmp 1), none, false⟩,
    ⟨some 4, .mov (.const (.int .i64 0)), none, false⟩] [0, 3])
  (.seq (.seq (.ops [
    ⟨some 5, .fieldL 0 (.tmp 3), none, false⟩,
    ⟨some 6, .loadL false 1 (.tmp 5), none, false⟩,
    ⟨some 7, .bin .eql (.tmp 6) (.const (.string ⟨#[102, 117, 110, 99]⟩)), none, false⟩] [0, 3, 7])
  (.cond (.tmp 7)
  (.seq (.opsD [
      (⟨some 8, .mov (.tmp 0), none, false⟩, []),
      (⟨some 9, .nilCheck (.tmp 8), none, false⟩, []),
      (⟨some 10, .fieldAddr 0 (.tmp 9), none, false⟩, []),
      (⟨some 11, .load false 1 (.tmp 10), none, false⟩, []),
      (⟨some 12, .fieldL 1 (.tmp 3), none, false⟩, []),
      (⟨some 13, .loadL false 1 (.tmp 12), none, false⟩, []),
      (⟨some 14, .lookup (.cell .str) (.int .i64 0) False (.tmp 11) (.tmp 13), none, false⟩, []),
      (⟨some 4, .mov (.tmp 14), none, false⟩, [])] [4])
    .ret)
  .skip))
  (.seq (.ops [
    ⟨some 4, .mov (.const (.int .i64 (-1))), none, false⟩] [4])
  .ret)))⟩
/-- scribe/resolve.arrayName -/
def af59 : AFunc := ⟨1, [.tmp 2, .tmp 3],
  (.seq (.ops [
    ⟨some 1, .boxL 0 4 (.tmp 0), none, false⟩,
    ⟨some 2, .mov (.const (.string ⟨#[]⟩)), none, false⟩,
    ⟨some 3, .mov (.const (.bool false)), none, false⟩] [1])
  (.seq (.seq (.ops [
    ⟨some 4, .fieldL 0 (.tmp 1), none, false⟩,
    ⟨some 5, .loadL false 1 (.tmp 4), none, false⟩] [1, 5])
  (.block 0
  (.seq (.seq (.ops [
      ⟨some 7, .bin .eql (.tmp 5) (.const (.string ⟨#[105, 110, 100, 101, 120]⟩)), none, false⟩,
      ⟨some 6, .mov (.tmp 7), none, false⟩] [1, 5, 6])
    (.cond (.tmp 6)
    .skip
    (.seq (.ops [
        ⟨some 8, .bin .eql (.tmp 5) (.const (.string ⟨#[105, 110]⟩)), none, false⟩,
        ⟨some 6, .mov (.tmp 8), none, false⟩] [1, 5, 6])
      (.cond (.tmp 6)
      .skip
      (.ops [
          ⟨some 9, .bin .eql (.tmp 5) (.const (.string ⟨#[110, 97, 109, 101]⟩)), none, false⟩,
          ⟨some 6, .mov (.tmp 9), none, false⟩] [1, 6])))))
    (.cond (.tmp 6)
    (.seq (.ops [
        ⟨some 10, .fieldL 1 (.tmp 1), none, false⟩,
        ⟨some 11, .loadL false 1 (.tmp 10), none, false⟩,
        ⟨some 2, .mov (.tmp 11), none, false⟩,
        ⟨some 3, .mov (.const (.bool true)), none, false⟩] [2, 3])
      .ret)
    .skip))))
  (.seq (.ops [
    ⟨some 2, .mov (.const (.string ⟨#[]⟩)), none, false⟩,
    ⟨some 3, .mov (.const (.bool false)), none, false⟩] [2, 3])
  .ret)))⟩
/-- (*scribe/resolve.resolver).symbol -/
def af60 : AFunc := ⟨3, [.cellL true 2 6],
  (.seq (.ops [
    ⟨some 6, .allocL 0 [.int .i64 0, .str []], none, false⟩] [0, 1, 2, 6])
  (.seq (.seq (.ops [
    ⟨some 7, .mov (.tmp 1), none, false⟩,
    ⟨some 8, .bin .geq (.tmp 7) (.const (.int .i64 0)), none, false⟩,
    ⟨some 9, .mov (.tmp 8), none, false⟩,
    ⟨some 10, .mov (.tmp 0), some (9, true), false⟩,
    ⟨some 11, .nilCheck (.tmp 10), some (9, true), false⟩,
    ⟨some 12, .fieldAddr 1 (.tmp 11), some (9, true), false⟩,
    ⟨some 13, .load false 1 (.tmp 12), some (9, true), false⟩,
    ⟨some 14, .nilCheck (.tmp 13), some (9, true), false⟩,
    ⟨some 15, .fieldAddr 0 (.tmp 14), some (9, true), false⟩,
    ⟨some 16, .load false 1 (.tmp 15), some (9, true), false⟩,
    ⟨some 17, .mov (.tmp 1), some (9, true), false⟩,
    ⟨some 18, .indexAddr 7 (.tmp 16) (.tmp 17), some (9, true), false⟩,
    ⟨some 19, .fieldAddr 1 (.tmp 18), some (9, true), false⟩,
    ⟨some 20, .load false 1 (.tmp 19), some (9, true), false⟩,
    ⟨some 21, .mov (.tmp 2), some (9, true), false⟩,
    ⟨some 22, .call 48 [(.tmp 20), (.tmp 21)], some (9, true), false⟩,
    ⟨some 23, .pick (.tmp 9) (.tmp 22) (.const (.bool false)), none, false⟩] [1, 2, 6, 23])
  (.cond (.tmp 23)
  (.seq (.ops [
      ⟨some 24, .mov (.tmp 1), none, false⟩,
      ⟨some 25, .mov (.tmp 2), none, false⟩,
      ⟨some 26, .build [.int .i64 0, .str []] [(0, 1, (.tmp 24)), (1, 1, (.tmp 25))], none, false⟩,
      ⟨none, .storeL 2 (.tmp 6) (.tmp 26), none, false⟩] [6])
    .ret)
  .skip))
  (.seq (.ops [
    ⟨some 27, .mov (.tmp 2), none, false⟩,
    ⟨some 28, .build [.int .i64 0, .str []] [(0, 1, (.const (.int .i64 (-1)))), (1, 1, (.tmp 27))], none, false⟩,
    ⟨none, .storeL 2 (.tmp 6) (.tmp 28), none, false⟩] [6])
  .ret)))⟩
/-- (*scribe/resolve.resolver).check -/
def af61 : AFunc := ⟨4, [],
  (.seq (.ops [
    ⟨some 6, .boxL 0 4 (.tmp 2), none, false⟩,
    ⟨some 7, .boxL 1 3 (.tmp 3), none, false⟩] [0, 1, 6, 7])
  (.seq (.seq (.ops [
    ⟨some 11, .mov (.tmp 0), none, false⟩,
    ⟨some 12, .nilCheck (.tmp 11), none, false⟩,
    ⟨some 13, .fieldAddr 5 (.tmp 12), none, false⟩,
    ⟨some 14, .load false 1 (.tmp 13), none, false⟩,
    ⟨some 15, .bin .neq (.tmp 14) (.const (.int .i64 0)), none, false⟩] [0, 1, 6, 7, 15])
  (.cond (.tmp 15)
  .ret
  .skip))
  (.seq (.seq (.ops [
    ⟨some 16, .fieldL 0 (.tmp 6), none, false⟩,
    ⟨some 17, .loadL false 1 (.tmp 16), none, false⟩] [0, 1, 6, 7, 17])
  (.block 0
  (.seq (.ops [
      ⟨some 19, .bin .eql (.tmp 17) (.const (.string ⟨#[118, 97, 114]⟩)), none, false⟩,
      ⟨some 18, .mov (.tmp 19), none, false⟩] [0, 1, 6, 7, 17, 18])
    (.cond (.tmp 18)
    (.ops [
        ⟨some 20, .mov (.tmp 0), none, false⟩,
        ⟨some 21, .mov (.tmp 1), none, false⟩,
        ⟨some 22, .loadL true 4 (.tmp 6), none, false⟩,
        ⟨some 23, .call 94 [(.tmp 20), (.tmp 21), (.tmp 22), (.const (.bool false))], none, false⟩] [0, 1, 6, 7])
    (.seq (.seq (.ops [
        ⟨some 25, .bin .eql (.tmp 17) (.const (.string ⟨#[105, 110, 100, 101, 120]⟩)), none, false⟩,
        ⟨some 24, .mov (.tmp 25), none, false⟩] [0, 1, 6, 7, 17, 24])
      (.cond (.tmp 24)
      .skip
      (.seq (.ops [
          ⟨some 26, .bin .eql (.tmp 17) (.const (.string ⟨#[105, 110]⟩)), none, false⟩,
          ⟨some 24, .mov (.tmp 26), none, false⟩] [0, 1, 6, 7, 17, 24])
        (.cond (.tmp 24)
        .skip
        (.ops [
            ⟨some 27, .bin .eql (.tmp 17) (.const (.string ⟨#[110, 97, 109, 101]⟩)), none, false⟩,
            ⟨some 24, .mov (.tmp 27), none, false⟩] [0, 1, 6, 7, 17, 24])))))
      (.cond (.tmp 24)
      (.ops [
          ⟨some 28, .mov (.tmp 0), none, false⟩,
          ⟨some 29, .mov (.tmp 1), none, false⟩,
          ⟨some 30, .loadL true 4 (.tmp 6), none, false⟩,
          ⟨some 31, .call 94 [(.tmp 28), (.tmp 29), (.tmp 30), (.const (.bool true))], none, false⟩] [0, 1, 6, 7])
      (.seq (.ops [
          ⟨some 33, .bin .eql (.tmp 17) (.const (.string ⟨#[102, 111, 114, 105, 110]⟩)), none, false⟩,
          ⟨some 32, .mov (.tmp 33), none, false⟩] [0, 1, 6, 7, 17, 32])
        (.cond (.tmp 32)
        (.seq (.ops [
            ⟨some 34, .mov (.tmp 0), none, false⟩,
            ⟨some 35, .mov (.tmp 1), none, false⟩,
            ⟨some 36, .fieldL 1 (.tmp 6), none, false⟩,
            ⟨some 37, .loadL false 1 (.tmp 36), none, false⟩,
            ⟨some 38, .fieldL 2 (.tmp 6), none, false⟩,
            ⟨some 39, .loadL false 1 (.tmp 38), none, false⟩,
            ⟨some 40, .build [.str [], .str [], .int .i64 0, .nilSlice] [(0, 1, (.const (.string ⟨#[118, 97, 114]⟩))), (1, 1, (.tmp 37)), (2, 1, (.tmp 39))], none, false⟩,
            ⟨some 41, .call 94 [(.tmp 34), (.tmp 35), (.tmp 40), (.const (.bool false))], none, false⟩] [0, 1, 6, 7])
          (.ops [
            ⟨some 42, .fieldL 0 (.tmp 7), none, false⟩,
            ⟨none, .storeL 1 (.tmp 42) (.const (.bool true)), none, false⟩] [0, 1, 6, 7]))
        (.seq (.ops [
            ⟨some 44, .bin .eql (.tmp 17) (.const (.string ⟨#[119, 104, 105, 108, 101]⟩)), none, false⟩,
            ⟨some 43, .mov (.tmp 44), none, false⟩] [0, 1, 6, 7, 17, 43])
          (.cond (.tmp 43)
          (.ops [
              ⟨some 45, .fieldL 0 (.tmp 7), none, false⟩,
              ⟨none, .storeL 1 (.tmp 45) (.const (.bool true)), none, false⟩] [0, 1, 6, 7])
          (.seq (.ops [
              ⟨some 47, .bin .eql (.tmp 17) (.const (.string ⟨#[99, 97, 108, 108]⟩)), none, false⟩,
              ⟨some 46, .mov (.tmp 47), none, false⟩] [0, 1, 6, 7, 17, 46])
            (.cond (.tmp 46)
            (.seq (.ops [
                ⟨some 48, .mov (.tmp 0), none, false⟩,
                ⟨some 49, .mov (.tmp 1), none, false⟩,
                ⟨some 50, .loadL true 4 (.tmp 6), none, false⟩,
                ⟨some 51, .loadL true 3 (.tmp 7), none, false⟩,
                ⟨some 52, .call 95 [(.tmp 48), (.tmp 49), (.tmp 50), (.tmp 51)], none, false⟩] [])
              .ret)
            (.seq (.seq (.ops [
                ⟨some 54, .bin .eql (.tmp 17) (.const (.string ⟨#[98, 114, 101, 97, 107]⟩)), none, false⟩,
                ⟨some 53, .mov (.tmp 54), none, false⟩] [0, 1, 6, 7, 17, 53])
              (.cond (.tmp 53)
              .skip
              (.ops [
                  ⟨some 55, .bin .eql (.tmp 17) (.const (.string ⟨#[99, 111, 110, 116, 105, 110, 117, 101]⟩)), none, false⟩,
                  ⟨some 53, .mov (.tmp 55), none, false⟩] [0, 1, 6, 7, 17, 53])))
              (.cond (.tmp 53)
              (.seq (.ops [
                  ⟨some 56, .fieldL 0 (.tmp 7), none, false⟩,
                  ⟨some 57, .loadL false 1 (.tmp 56), none, false⟩,
                  ⟨some 58, .un .not (.tmp 57), none, false⟩] [0, 1, 6, 7, 58])
                (.cond (.tmp 58)
                (.ops [
                    ⟨some 59, .mov (.tmp 0), none, false⟩,
                    ⟨some 60, .fieldL 2 (.tmp 6), none, false⟩,
                    ⟨some 61, .loadL false 1 (.tmp 60), none, false⟩,
                    ⟨some 62, .call 62 [(.tmp 59), (.tmp 61), (.const (.int .i64 9))], none, false⟩] [0, 1, 6, 7])
                .skip))
              (.seq (.ops [
                  ⟨some 64, .bin .eql (.tmp 17) (.const (.string ⟨#[114, 101, 116, 117, 114, 110]⟩)), none, false⟩,
                  ⟨some 63, .mov (.tmp 64), none, false⟩] [0, 1, 6, 7, 17, 63])
                (.cond (.tmp 63)
                (.seq (.ops [
                    ⟨some 65, .fieldL 1 (.tmp 7), none, false⟩,
                    ⟨some 66, .loadL false 1 (.tmp 65), none, false⟩,
                    ⟨some 67, .un .not (.tmp 66), none, false⟩] [0, 1, 6, 7, 67])
                  (.cond (.tmp 67)
                  (.ops [
                      ⟨some 68, .mov (.tmp 0), none, false⟩,
                      ⟨some 69, .fieldL 2 (.tmp 6), none, false⟩,
                      ⟨some 70, .loadL false 1 (.tmp 69), none, false⟩,
                      ⟨some 71, .call 62 [(.tmp 68), (.tmp 70), (.const (.int .i64 9))], none, false⟩] [0, 1, 6, 7])
                  .skip))
                (.seq (.ops [
                    ⟨some 73, .bin .eql (.tmp 17) (.const (.string ⟨#[110, 101, 120, 116]⟩)), none, false⟩,
                    ⟨some 72, .mov (.tmp 73), none, false⟩] [0, 1, 6, 7, 72])
                  (.cond (.tmp 72)
                  (.seq (.ops [
                      ⟨some 74, .fieldL 2 (.tmp 7), none, false⟩,
                      ⟨some 75, .loadL false 1 (.tmp 74), none, false⟩,
                      ⟨some 76, .un .not (.tmp 75), none, false⟩] [0, 1, 6, 7, 76])
                    (.cond (.tmp 76)
                    (.ops [
                        ⟨some 77, .mov (.tmp 0), none, false⟩,
                        ⟨some 78, .fieldL 2 (.tmp 6), none, false⟩,
                        ⟨some 79, .loadL false 1 (.tmp 78), none, false⟩,
                        ⟨some 80, .call 62 [(.tmp 77), (.tmp 79), (.const (.int .i64 9))], none, false⟩] [0, 1, 6, 7])
                    .skip))
                  .skip))))))))))))))))))
  (.seq (.ops [
    ⟨some 81, .fieldL 3 (.tmp 6), none, false⟩,
    ⟨some 82, .loadL false 1 (.tmp 81), none, false⟩,
    ⟨some 83, .len .slice (.tmp 82), none, false⟩,
    ⟨some 84, .mov (.const (.int .i64 0)), none, false⟩] [0, 1, 6, 7, 82, 83, 84])
  (.block 1
  (.loop [0, 1, 6, 7, 82, 83, 84]
    (.seq (.ops [
        ⟨some 85, .bin .lss (.tmp 84) (.tmp 83), none, false⟩] [0, 1, 6, 7, 82, 83, 84, 85])
      (.seq (.cond (.tmp 85)
      .skip
      (.exit 1))
      (.seq (.block 2
      (.seq (.ops [
          ⟨some 86, .mov (.tmp 84), none, false⟩,
          ⟨some 87, .indexAddr 4 (.tmp 82) (.tmp 84), none, false⟩,
          ⟨some 88, .load true 4 (.tmp 87), none, false⟩,
          ⟨some 9, .allocL 0 [.str [], .str [], .int .i64 0, .nilSlice], none, false⟩,
          ⟨some 8, .mov (.tmp 86), none, false⟩,
          ⟨none, .storeL 4 (.tmp 9) (.tmp 88), none, false⟩] [0, 1, 6, 7, 8, 9, 82, 83, 84])
        (.seq (.ops [
          ⟨some 89, .loadL true 3 (.tmp 7), none, false⟩,
          ⟨some 10, .allocL 0 [.bool false, .bool false, .bool false], none, false⟩,
          ⟨none, .storeL 3 (.tmp 10) (.tmp 89), none, false⟩] [0, 1, 6, 7, 8, 9, 10, 82, 83, 84])
        (.seq (.ops [
          ⟨some 90, .fieldL 0 (.tmp 7), none, false⟩,
          ⟨some 91, .loadL false 1 (.tmp 90), none, false⟩,
          ⟨some 92, .mov (.tmp 91), none, false⟩,
          ⟨some 93, .fieldL 0 (.tmp 6), some (92, false), false⟩,
          ⟨some 94, .loadL false 1 (.tmp 93), some (92, false), false⟩,
          ⟨some 95, .bin .eql (.tmp 94) (.const (.string ⟨#[102, 111, 114]⟩)), some (92, false), false⟩,
          ⟨some 96, .mov (.tmp 95), some (92, false), false⟩,
          ⟨some 97, .mov (.tmp 8), some (96, true), false⟩,
          ⟨some 98, .bin .eql (.tmp 97) (.const (.int .i64 3)), some (96, true), false⟩,
          ⟨some 99, .pick (.tmp 96) (.tmp 98) (.const (.bool false)), some (92, false), false⟩,
          ⟨some 100, .pick (.tmp 92) (.const (.bool true)) (.tmp 99), none, false⟩,
          ⟨some 101, .fieldL 0 (.tmp 10), none, false⟩,
          ⟨none, .storeL 1 (.tmp 101) (.tmp 100), none, false⟩] [0, 1, 6, 7, 9, 10, 82, 83, 84])
        (.ops [
          ⟨some 102, .mov (.tmp 0), none, false⟩,
          ⟨some 103, .mov (.tmp 1), none, false⟩,
          ⟨some 104, .loadL true 4 (.tmp 9), none, false⟩,
          ⟨some 105, .loadL true 3 (.tmp 10), none, false⟩,
          ⟨some 106, .call 61 [(.tmp 102), (.tmp 103), (.tmp 104), (.tmp 105)], none, false⟩] [0, 1, 6, 7, 82, 83, 84])))))
      (.ops [
        ⟨some 107, .bin .add (.tmp 84) (.const (.int .i64 1)), none, false⟩,
        ⟨some 84, .mov (.tmp 107), none, false⟩] [0, 1, 6, 7, 82, 83, 84]))))))))))⟩
/-- (*scribe/resolve.resolver).fail -/
def af62 : AFunc := ⟨3, [],
  (.seq (.ops [
    ⟨some 6, .mov (.tmp 0), none, false⟩,
    ⟨some 7, .nilCheck (.tmp 6), none, false⟩,
    ⟨some 8, .fieldAddr 5 (.tmp 7), none, false⟩,
    ⟨some 9, .load false 1 (.tmp 8), none, false⟩,
    ⟨some 10, .bin .eql (.tmp 9) (.const (.int .i64 0)), none, false⟩] [0, 1, 2, 10])
  (.cond (.tmp 10)
  (.ops [
      ⟨some 11, .mov (.tmp 0), none, false⟩,
      ⟨some 12, .mov (.tmp 0), none, false⟩,
      ⟨some 13, .mov (.tmp 2), none, false⟩,
      ⟨some 14, .mov (.tmp 1), none, false⟩,
      ⟨some 15, .nilCheck (.tmp 11), none, false⟩,
      ⟨some 16, .fieldAddr 5 (.tmp 15), none, false⟩,
      ⟨none, .store 1 (.tmp 16) (.tmp 13), none, false⟩,
      ⟨some 17, .nilCheck (.tmp 12), none, false⟩,
      ⟨some 18, .fieldAddr 4 (.tmp 17), none, false⟩,
      ⟨none, .store 1 (.tmp 18) (.tmp 14), none, false⟩] [])
  .skip))⟩
/-- (*scribe/lex.lexer).while -/
def af75 : AFunc := ⟨2, [],
  (.block 0
  (.loop [0, 1]
    (.seq (.seq (.opsD [
        (⟨some 4, .mov (.tmp 0), none, false⟩, []),
        (⟨some 5, .nilCheck (.tmp 4), none, false⟩, []),
        (⟨some 6, .fieldAddr 1 (.tmp 5), none, false⟩, []),
        (⟨some 7, .load false 1 (.tmp 6), none, false⟩, []),
        (⟨some 8, .mov (.tmp 0), none, false⟩, []),
        (⟨some 9, .nilCheck (.tmp 8), none, false⟩, []),
        (⟨some 10, .fieldAddr 0 (.tmp 9), none, false⟩, []),
        (⟨some 11, .load false 1 (.tmp 10), none, false⟩, []),
        (⟨some 12, .len .str (.tmp 11), none, false⟩, []),
        (⟨some 13, .bin .lss (.tmp 7) (.tmp 12), none, false⟩, []),
        (⟨some 14, .mov (.tmp 13), none, false⟩, []),
        (⟨some 15, .mov (.tmp 1), some (14, true), false⟩, []),
        (⟨some 16, .mov (.tmp 0), some (14, true), false⟩, []),
        (⟨some 17, .nilCheck (.tmp 16), some (14, true), false⟩, []),
        (⟨some 18, .fieldAddr 0 (.tmp 17), some (14, true), false⟩, []),
        (⟨some 19, .load false 1 (.tmp 18), some (14, true), false⟩, []),
        (⟨some 20, .mov (.tmp 0), some (14, true), false⟩, []),
        (⟨some 21, .nilCheck (.tmp 20), some (14, true), false⟩, []),
        (⟨some 22, .fieldAddr 1 (.tmp 21), some (14, true), false⟩, []),
        (⟨some 23, .load false 1 (.tmp 22), some (14, true), false⟩, []),
        (⟨some 24, .indexStr (.tmp 19) (.tmp 23), some (14, true), false⟩, []),
        (⟨some 25, .callv (.tmp 15) [(.tmp 24)], some (14, true), false⟩, []),
        (⟨some 26, .pick (.tmp 14) (.tmp 25) (.const (.bool false)), none, false⟩, [])] [0, 1, 26])
      (.cond (.tmp 26)
      .skip
      (.exit 0)))
      (.block 1
      (.ops [
          ⟨some 27, .mov (.tmp 0), none, false⟩,
          ⟨some 28, .nilCheck (.tmp 27), none, false⟩,
          ⟨some 29, .fieldAddr 1 (.tmp 28), none, false⟩,
          ⟨some 30, .load false 1 (.tmp 29), none, false⟩,
          ⟨some 31, .bin .add (.tmp 30) (.const (.int .i64 1)), none, false⟩,
          ⟨some 32, .nilCheck (.tmp 27), none, false⟩,
          ⟨some 33, .fieldAddr 1 (.tmp 32), none, false⟩,
          ⟨none, .store 1 (.tmp 33) (.tmp 31), none, false⟩] [0, 1])))))⟩
/-- (*scribe/lex.lexer).next$1 -/
def af76 : AFunc := ⟨1, [.tmp 2],
  (.seq (.ops [
    ⟨some 2, .mov (.const (.bool false)), none, false⟩] [0])
  (.seq (.ops [
    ⟨some 3, .mov (.tmp 0), none, false⟩,
    ⟨some 4, .bin .neq (.tmp 3) (.const (.int .u8 10)), none, false⟩,
    ⟨some 2, .mov (.tmp 4), none, false⟩] [2])
  .ret))⟩
/-- (*scribe/lex.lexer).peek -/
def af77 : AFunc := ⟨2, [.tmp 4],
  (.seq (.ops [
    ⟨some 4, .mov (.const (.int .u8 0)), none, false⟩] [0, 1])
  (.seq (.seq (.opsD [
    (⟨some 5, .mov (.tmp 0), none, false⟩, []),
    (⟨some 6, .nilCheck (.tmp 5), none, false⟩, []),
    (⟨some 7, .fieldAddr 1 (.tmp 6), none, false⟩, []),
    (⟨some 8, .load false 1 (.tmp 7), none, false⟩, []),
    (⟨some 9, .mov (.tmp 1), none, false⟩, []),
    (⟨some 10, .bin .add (.tmp 8) (.tmp 9), none, false⟩, []),
    (⟨some 11, .mov (.tmp 0), none, false⟩, []),
    (⟨some 12, .nilCheck (.tmp 11), none, false⟩, []),
    (⟨some 13, .fieldAddr 0 (.tmp 12), none, false⟩, []),
    (⟨some 14, .load false 1 (.tmp 13), none, false⟩, []),
    (⟨some 15, .len .str (.tmp 14), none, false⟩, []),
    (⟨some 16, .bin .geq (.tmp 10) (.tmp 15), none, false⟩, [])] [0, 1, 16])
  (.cond (.tmp 16)
  (.seq (.ops [
      ⟨some 4, .mov (.const (.int .u8 0)), none, false⟩] [4])
    .ret)
  .skip))
  (.seq (.opsD [
    (⟨some 17, .mov (.tmp 0), none, false⟩, []),
    (⟨some 18, .nilCheck (.tmp 17), none, false⟩, []),
    (⟨some 19, .fieldAddr 0 (.tmp 18), none, false⟩, []),
    (⟨some 20, .load false 1 (.tmp 19), none, false⟩, []),
    (⟨some 21, .mov (.tmp 0), none, false⟩, []),
    (⟨some 22, .nilCheck (.tmp 21), none, false⟩, []),
    (⟨some 23, .fieldAddr 1 (.tmp 22), none, false⟩, []),
    (⟨some 24, .load false 1 (.tmp 23), none, false⟩, []),
    (⟨some 25, .mov (.tmp 1), none, false⟩, []),
    (⟨some 26, .bin .add (.tmp 24) (.tmp 25), none, false⟩, []),
    (⟨some 27, .indexStr (.tmp 20) (.tmp 26), none, false⟩, []),
    (⟨some 4, .mov (.tmp 27), none, false⟩, [])] [4])
  .ret)))⟩
/-- scribe/lex.digit -/
def af78 : AFunc := ⟨1, [.tmp 2],
  (.seq (.ops [
    ⟨some 2, .mov (.const (.bool false)), none, false⟩] [0])
  (.seq (.ops [
    ⟨some 3, .mov (.tmp 0), none, false⟩,
    ⟨some 4, .bin .geq (.tmp 3) (.const (.int .u8 48)), none, false⟩,
    ⟨some 5, .mov (.tmp 4), none, false⟩,
    ⟨some 6, .mov (.tmp 0), some (5, true), false⟩,
    ⟨some 7, .bin .leq (.tmp 6) (.const (.int .u8 57)), some (5, true), false⟩,
    ⟨some 8, .pick (.tmp 5) (.tmp 7) (.const (.bool false)), none, false⟩,
    ⟨some 2, .mov (.tmp 8), none, false⟩] [2])
  .ret))⟩
/-- (*scribe/lex.lexer).number -/
def af79 : AFunc := ⟨1, [],
  (.seq (.ops [
    ⟨some 3, .mov (.tmp 0), none, false⟩,
    ⟨some 4, .nilCheck (.tmp 3), none, false⟩,
    ⟨some 5, .fieldAddr 1 (.tmp 4), none, false⟩,
    ⟨some 6, .load false 1 (.tmp 5), none, false⟩,
    ⟨some 2, .mov (.tmp 6), none, false⟩] [0, 2])
  (.seq (.ops [
    ⟨some 7, .mov (.tmp 0), none, false⟩,
    ⟨some 8, .call 75 [(.tmp 7), (.func 78)], none, false⟩] [0, 2])
  (.seq (.seq (.ops [
    ⟨some 9, .mov (.tmp 0), none, false⟩,
    ⟨some 10, .call 77 [(.tmp 9), (.const (.int .i64 0))], none, false⟩,
    ⟨some 11, .bin .eql (.tmp 10) (.const (.int .u8 46)), none, false⟩] [0, 2, 11])
  (.cond (.tmp 11)
  (.seq (.ops [
      ⟨some 12, .mov (.tmp 0), none, false⟩,
      ⟨some 13, .nilCheck (.tmp 12), none, false⟩,
      ⟨some 14, .fieldAddr 1 (.tmp 13), none, false⟩,
      ⟨some 15, .load false 1 (.tmp 14), none, false⟩,
      ⟨some 16, .bin .add (.tmp 15) (.const (.int .i64 1)), none, false⟩,
      ⟨some 17, .nilCheck (.tmp 12), none, false⟩,
      ⟨some 18, .fieldAddr 1 (.tmp 17), none, false⟩,
      ⟨none, .store 1 (.tmp 18) (.tmp 16), none, false⟩] [0, 2])
    (.ops [
      ⟨some 19, .mov (.tmp 0), none, false⟩,
      ⟨some 20, .call 75 [(.tmp 19), (.func 78)], none, false⟩] [0, 2]))
  .skip))
  (.opsD [
    (⟨some 21, .mov (.tmp 0), none, false⟩, []),
    (⟨some 22, .mov (.tmp 0), none, false⟩, []),
    (⟨some 23, .nilCheck (.tmp 22), none, false⟩, []),
    (⟨some 24, .fieldAddr 0 (.tmp 23), none, false⟩, []),
    (⟨some 25, .load false 1 (.tmp 24), none, false⟩, []),
    (⟨some 26, .mov (.tmp 2), none, false⟩, []),
    (⟨some 27, .mov (.tmp 0), none, false⟩, []),
    (⟨some 28, .nilCheck (.tmp 27), none, false⟩, []),
    (⟨some 29, .fieldAddr 1 (.tmp 28), none, false⟩, []),
    (⟨some 30, .load false 1 (.tmp 29), none, false⟩, []),
    (⟨some 31, .sliceStr (.tmp 25) (some (.tmp 26)) (some (.tmp 30)), none, false⟩, []),
    (⟨some 32, .mov (.tmp 2), none, false⟩, []),
    (⟨some 33, .call 47 [(.tmp 21), (.const (.int .i64 2)), (.tmp 31), (.tmp 32)], none, false⟩, [])] []))))⟩
/-- scribe/lex.letter -/
def af80 : AFunc := ⟨1, [.tmp 2],
  (.seq (.ops [
    ⟨some 2, .mov (.const (.bool false)), none, false⟩] [0])
  (.seq (.ops [
    ⟨some 3, .mov (.tmp 0), none, false⟩,
    ⟨some 4, .bin .geq (.tmp 3) (.const (.int .u8 97)), none, false⟩,
    ⟨some 5, .mov (.tmp 4), none, false⟩,
    ⟨some 6, .mov (.tmp 0), some (5, true), false⟩,
    ⟨some 7, .bin .leq (.tmp 6) (.const (.int .u8 122)), some (5, true), false⟩,
    ⟨some 8, .pick (.tmp 5) (.tmp 7) (.const (.bool false)), none, false⟩,
    ⟨some 9, .mov (.tmp 8), none, false⟩,
    ⟨some 10, .mov (.tmp 0), some (9, false), false⟩,
    ⟨some 11, .bin .geq (.tmp 10) (.const (.int .u8 65)), some (9, false), false⟩,
    ⟨some 12, .mov (.tmp 11), some (9, false), false⟩,
    ⟨some 13, .mov (.tmp 0), some (12, true), false⟩,
    ⟨some 14, .bin .leq (.tmp 13) (.const (.int .u8 90)), some (12, true), false⟩,
    ⟨some 15, .pick (.tmp 12) (.tmp 14) (.const (.bool false)), some (9, false), false⟩,
    ⟨some 16, .pick (.tmp 9) (.const (.bool true)) (.tmp 15), none, false⟩,
    ⟨some 17, .mov (.tmp 16), none, false⟩,
    ⟨some 18, .mov (.tmp 0), some (17, false), false⟩,
    ⟨some 19, .bin .eql (.tmp 18) (.const (.int .u8 95)), some (17, false), false⟩,
    ⟨some 20, .pick (.tmp 17) (.const (.bool true)) (.tmp 19), none, false⟩,
    ⟨some 2, .mov (.tmp 20), none, false⟩] [2])
  .ret))⟩
/-- (*scribe/lex.lexer).word -/
def af81 : AFunc := ⟨1, [],
  (.seq (.ops [
    ⟨some 4, .mov (.tmp 0), none, false⟩,
    ⟨some 5, .nilCheck (.tmp 4), none, false⟩,
    ⟨some 6, .fieldAddr 1 (.tmp 5), none, false⟩,
    ⟨some 7, .load false 1 (.tmp 6), none, false⟩,
    ⟨some 2, .mov (.tmp 7), none, false⟩] [0, 2])
  (.seq (.ops [
    ⟨some 8, .mov (.tmp 0), none, false⟩,
    ⟨some 9, .call 75 [(.tmp 8), (.func 107)], none, false⟩] [0, 2])
  (.seq (.opsD [
    (⟨some 10, .mov (.tmp 0), none, false⟩, []),
    (⟨some 11, .nilCheck (.tmp 10), none, false⟩, []),
    (⟨some 12, .fieldAddr 0 (.tmp 11), none, false⟩, []),
    (⟨some 13, .load false 1 (.tmp 12), none, false⟩, []),
    (⟨some 14, .mov (.tmp 2), none, false⟩, []),
    (⟨some 15, .mov (.tmp 0), none, false⟩, []),
    (⟨some 16, .nilCheck (.tmp 15), none, false⟩, []),
    (⟨some 17, .fieldAddr 1 (.tmp 16), none, false⟩, []),
    (⟨some 18, .load false 1 (.tmp 17), none, false⟩, []),
    (⟨some 19, .sliceStr (.tmp 13) (some (.tmp 14)) (some (.tmp 18)), none, false⟩, []),
    (⟨some 3, .mov (.tmp 19), none, false⟩, [])] [0, 2, 3])
  (.block 0
  (.seq (.ops [
      ⟨some 25, .load false 1 (.global 6), none, false⟩,
      ⟨some 26, .mov (.tmp 3), none, false⟩,
      ⟨some 27, .call 48 [(.tmp 25), (.tmp 26)], none, false⟩,
      ⟨some 24, .mov (.tmp 27), none, false⟩] [0, 2, 3, 24])
    (.cond (.tmp 24)
    (.ops [
        ⟨some 28, .mov (.tmp 0), none, false⟩,
        ⟨some 29, .mov (.tmp 3), none, false⟩,
        ⟨some 30, .mov (.tmp 2), none, false⟩,
        ⟨some 31, .call 47 [(.tmp 28), (.const (.int .i64 7)), (.tmp 29), (.tmp 30)], none, false⟩] [])
    (.seq (.ops [
        ⟨some 33, .load false 1 (.global 7), none, false⟩,
        ⟨some 34, .mov (.tmp 3), none, false⟩,
        ⟨some 35, .call 48 [(.tmp 33), (.tmp 34)], none, false⟩,
        ⟨some 32, .mov (.tmp 35), none, false⟩] [0, 2, 3, 32])
      (.cond (.tmp 32)
      (.ops [
          ⟨some 36, .mov (.tmp 0), none, false⟩,
          ⟨some 37, .mov (.tmp 3), none, false⟩,
          ⟨some 38, .mov (.tmp 2), none, false⟩,
          ⟨some 39, .call 47 [(.tmp 36), (.const (.int .i64 9)), (.tmp 37), (.tmp 38)], none, false⟩] [])
      (.seq (.ops [
          ⟨some 41, .load false 1 (.global 8), none, false⟩,
          ⟨some 42, .mov (.tmp 3), none, false⟩,
          ⟨some 43, .call 48 [(.tmp 41), (.tmp 42)], none, false⟩,
          ⟨some 40, .mov (.tmp 43), none, false⟩] [0, 2, 3, 40])
        (.cond (.tmp 40)
        (.ops [
            ⟨some 44, .mov (.tmp 0), none, false⟩,
            ⟨some 45, .mov (.tmp 3), none, false⟩,
            ⟨some 46, .mov (.tmp 2), none, false⟩,
            ⟨some 47, .call 47 [(.tmp 44), (.const (.int .i64 10)), (.tmp 45), (.tmp 46)], none, false⟩] [])
        (.seq (.ops [
            ⟨some 49, .mov (.tmp 0), none, false⟩,
            ⟨some 50, .call 77 [(.tmp 49), (.const (.int .i64 0))], none, false⟩,
            ⟨some 51, .bin .eql (.tmp 50) (.const (.int .u8 40)), none, false⟩,
            ⟨some 48, .mov (.tmp 51), none, false⟩] [0, 2, 3, 48])
          (.cond (.tmp 48)
          (.ops [
              ⟨some 52, .mov (.tmp 0), none, false⟩,
              ⟨some 53, .mov (.tmp 3), none, false⟩,
              ⟨some 54, .mov (.tmp 2), none, false⟩,
              ⟨some 55, .call 47 [(.tmp 52), (.const (.int .i64 6)), (.tmp 53), (.tmp 54)], none, false⟩] [])
          (.ops [
              ⟨some 20, .mov (.tmp 0), none, false⟩,
              ⟨some 21, .mov (.tmp 3), none, false⟩,
              ⟨some 22, .mov (.tmp 2), none, false⟩,
              ⟨some 23, .call 47 [(.tmp 20), (.const (.int .i64 5)), (.tmp 21), (.tmp 22)], none, false⟩] [])))))))))))))⟩
/-- (*scribe/lex.lexer).quoted -/
def af82 : AFunc := ⟨4, [.tmp 8],
  (.seq (.ops [
    ⟨some 8, .mov (.const (.int .i64 0)), none, false⟩] [0, 1, 2, 3])
  (.seq (.ops [
    ⟨some 14, .mov (.tmp 0), none, false⟩,
    ⟨some 15, .nilCheck (.tmp 14), none, false⟩,
    ⟨some 16, .fieldAddr 1 (.tmp 15), none, false⟩,
    ⟨some 17, .load false 1 (.tmp 16), none, false⟩,
    ⟨some 9, .mov (.tmp 17), none, false⟩] [0, 1, 2, 3, 9])
  (.seq (.ops [
    ⟨some 10, .allocH 180 [.nil, .nilSlice], none, false⟩] [0, 1, 2, 3, 9, 10])
  (.seq (.ops [
    ⟨some 18, .mov (.tmp 0), none, false⟩,
    ⟨some 19, .nilCheck (.tmp 18), none, false⟩,
    ⟨some 20, .fieldAddr 1 (.tmp 19), none, false⟩,
    ⟨some 21, .load false 1 (.tmp 20), none, false⟩,
    ⟨some 22, .bin .add (.tmp 21) (.const (.int .i64 1)), none, false⟩,
    ⟨some 23, .nilCheck (.tmp 18), none, false⟩,
    ⟨some 24, .fieldAddr 1 (.tmp 23), none, false⟩,
    ⟨none, .store 1 (.tmp 24) (.tmp 22), none, false⟩] [0, 1, 2, 3, 9, 10])
  (.block 0
  (.loop [0, 1, 2, 3, 9, 10]
    (.seq (.block 1
      (.seq (.ops [
          ⟨some 32, .mov (.tmp 0), none, false⟩,
          ⟨some 33, .call 77 [(.tmp 32), (.const (.int .i64 0))], none, false⟩,
          ⟨some 11, .mov (.tmp 33), none, false⟩] [0, 1, 2, 3, 9, 10, 11])
        (.block 2
        (.seq (.seq (.opsD [
            (⟨some 37, .mov (.tmp 0), none, false⟩, []),
            (⟨some 38, .nilCheck (.tmp 37), none, false⟩, []),
            (⟨some 39, .fieldAddr 1 (.tmp 38), none, false⟩, []),
            (⟨some 40, .load false 1 (.tmp 39), none, false⟩, []),
            (⟨some 41, .mov (.tmp 0), none, false⟩, []),
            (⟨some 42, .nilCheck (.tmp 41), none, false⟩, []),
            (⟨some 43, .fieldAddr 0 (.tmp 42), none, false⟩, []),
            (⟨some 44, .load false 1 (.tmp 43), none, false⟩, []),
            (⟨some 45, .len .str (.tmp 44), none, false⟩, []),
            (⟨some 46, .bin .geq (.tmp 40) (.tmp 45), none, false⟩, []),
            (⟨some 36, .mov (.tmp 46), none, false⟩, [])] [0, 1, 2, 3, 9, 10, 11, 36])
          (.cond (.tmp 36)
          .skip
          (.ops [
              ⟨some 47, .mov (.tmp 11), none, false⟩,
              ⟨some 48, .bin .eql (.tmp 47) (.const (.int .u8 10)), none, false⟩,
              ⟨some 36, .mov (.tmp 48), none, false⟩] [0, 1, 2, 3, 9, 10, 11, 36])))
          (.cond (.tmp 36)
          (.seq (.ops [
              ⟨some 49, .mov (.tmp 0), none, false⟩,
              ⟨some 50, .mov (.tmp 9), none, false⟩,
              ⟨some 51, .nilCheck (.tmp 49), none, false⟩,
              ⟨some 52, .fieldAddr 1 (.tmp 51), none, false⟩,
              ⟨none, .store 1 (.tmp 52) (.tmp 50), none, false⟩] [])
            (.seq (.ops [
              ⟨some 8, .mov (.const (.int .i64 9)), none, false⟩] [8])
            .ret))
          (.seq (.ops [
              ⟨some 54, .mov (.tmp 11), none, false⟩,
              ⟨some 55, .mov (.tmp 2), none, false⟩,
              ⟨some 56, .bin .eql (.tmp 54) (.tmp 55), none, false⟩,
              ⟨some 53, .mov (.tmp 56), none, false⟩] [0, 1, 2, 3, 9, 10, 11, 53])
            (.cond (.tmp 53)
            (.seq (.ops [
                ⟨some 57, .mov (.tmp 0), none, false⟩,
                ⟨some 58, .nilCheck (.tmp 57), none, false⟩,
                ⟨some 59, .fieldAddr 1 (.tmp 58), none, false⟩,
                ⟨some 60, .load false 1 (.tmp 59), none, false⟩,
                ⟨some 61, .bin .add (.tmp 60) (.const (.int .i64 1)), none, false⟩,
                ⟨some 62, .nilCheck (.tmp 57), none, false⟩,
                ⟨some 63, .fieldAddr 1 (.tmp 62), none, false⟩,
                ⟨none, .store 1 (.tmp 63) (.tmp 61), none, false⟩] [0, 1, 9, 10])
              (.seq (.ops [
                ⟨some 64, .mov (.tmp 0), none, false⟩,
                ⟨some 65, .mov (.tmp 1), none, false⟩,
                ⟨some 66, .call 108 [(.tmp 10)], none, false⟩,
                ⟨some 67, .mov (.tmp 9), none, false⟩,
                ⟨some 68, .call 47 [(.tmp 64), (.tmp 65), (.tmp 66), (.tmp 67)], none, false⟩] [])
              (.seq (.ops [
                ⟨some 8, .mov (.const (.int .i64 0)), none, false⟩] [8])
              .ret)))
            (.seq (.ops [
                ⟨some 70, .mov (.tmp 11), none, false⟩,
                ⟨some 71, .bin .eql (.tmp 70) (.const (.int .u8 92)), none, false⟩,
                ⟨some 69, .mov (.tmp 71), none, false⟩] [0, 1, 2, 3, 9, 10, 11, 69])
              (.cond (.tmp 69)
              (.seq (.ops [
                  ⟨some 73, .mov (.tmp 3), none, false⟩,
                  ⟨some 74, .mov (.tmp 0), none, false⟩,
                  ⟨some 75, .call 77 [(.tmp 74), (.const (.int .i64 1))], none, false⟩,
                  ⟨some 76, .callv (.tmp 73) [(.tmp 75)], none, false⟩,
                  ⟨some 72, .mov (.tmp 76), none, false⟩,
                  ⟨some 77, .extract (.tmp 72) 0, none, false⟩,
                  ⟨some 78, .extract (.tmp 72) 1, none, false⟩,
                  ⟨some 12, .mov (.tmp 77), none, false⟩,
                  ⟨some 13, .mov (.tmp 78), none, false⟩] [0, 1, 2, 3, 9, 10, 12, 13])
                (.seq (.seq (.opsD [
                  (⟨some 79, .mov (.tmp 13), none, false⟩, []),
                  (⟨some 80, .un .not (.tmp 79), none, false⟩, []),
                  (⟨some 81, .mov (.tmp 80), none, false⟩, []),
                  (⟨some 82, .mov (.tmp 0), some (81, false), false⟩, []),
                  (⟨some 83, .nilCheck (.tmp 82), some (81, false), false⟩, []),
                  (⟨some 84, .fieldAddr 1 (.tmp 83), some (81, false), false⟩, []),
                  (⟨some 85, .load false 1 (.tmp 84), some (81, false), false⟩, []),
                  (⟨some 86, .bin .add (.tmp 85) (.const (.int .i64 1)), some (81, false), false⟩, []),
                  (⟨some 87, .mov (.tmp 0), some (81, false), false⟩, []),
                  (⟨some 88, .nilCheck (.tmp 87), some (81, false), false⟩, []),
                  (⟨some 89, .fieldAddr 0 (.tmp 88), some (81, false), false⟩, []),
                  (⟨some 90, .load false 1 (.tmp 89), some (81, false), false⟩, []),
                  (⟨some 91, .len .str (.tmp 90), some (81, false), false⟩, []),
                  (⟨some 92, .bin .geq (.tmp 86) (.tmp 91), some (81, false), false⟩, []),
                  (⟨some 93, .pick (.tmp 81) (.const (.bool true)) (.tmp 92), none, false⟩, [])] [0, 1, 2, 3, 9, 10, 12, 93])
                (.cond (.tmp 93)
                (.seq (.ops [
                    ⟨some 8, .mov (.const (.int .i64 9)), none, false⟩] [8])
                  .ret)
                .skip))
                (.seq (.ops [
                  ⟨some 94, .mov (.tmp 0), none, false⟩,
                  ⟨some 95, .nilCheck (.tmp 94), none, false⟩,
                  ⟨some 96, .fieldAddr 1 (.tmp 95), none, false⟩,
                  ⟨some 97, .load false 1 (.tmp 96), none, false⟩,
                  ⟨some 98, .bin .add (.tmp 97) (.const (.int .i64 1)), none, false⟩,
                  ⟨some 99, .nilCheck (.tmp 94), none, false⟩,
                  ⟨some 100, .fieldAddr 1 (.tmp 99), none, false⟩,
                  ⟨none, .store 1 (.tmp 100) (.tmp 98), none, false⟩] [0, 1, 2, 3, 9, 10, 12])
                (.ops [
                  ⟨some 101, .mov (.tmp 12), none, false⟩,
                  ⟨some 102, .call 109 [(.tmp 10), (.tmp 101)], none, false⟩] [0, 1, 2, 3, 9, 10]))))
              (.ops [
                  ⟨some 34, .mov (.tmp 11), none, false⟩,
                  ⟨some 35, .call 110 [(.tmp 10), (.tmp 34)], none, false⟩] [0, 1, 2, 3, 9, 10]))))))))))
      (.ops [
        ⟨some 25, .mov (.tmp 0), none, false⟩,
        ⟨some 26, .nilCheck (.tmp 25), none, false⟩,
        ⟨some 27, .fieldAddr 1 (.tmp 26), none, false⟩,
        ⟨some 28, .load false 1 (.tmp 27), none, false⟩,
        ⟨some 29, .bin .add (.tmp 28) (.const (.int .i64 1)), none, false⟩,
        ⟨some 30, .nilCheck (.tmp 25), none, false⟩,
        ⟨some 31, .fieldAddr 1 (.tmp 30), none, false⟩,
        ⟨none, .store 1 (.tmp 31) (.tmp 29), none, false⟩] [0, 1, 2, 3, 9, 10]))))))))⟩
/-- scribe/lex.inString -/
def af83 : AFunc := ⟨1, [.tmp 2, .tmp 3],
  (.seq (.ops [
    ⟨some 2, .mov (.const (.string ⟨#[]⟩)), none, false⟩,
    ⟨some 3, .mov (.const (.bool false)), none, false⟩] [0])
  (.seq (.seq (.ops [
    ⟨some 4, .mov (.tmp 0), none, false⟩] [0, 4])
  (.block 0
  (.seq (.ops [
      ⟨some 6, .bin .eql (.tmp 4) (.const (.int .u8 110)), none, false⟩,
      ⟨some 5, .mov (.tmp 6), none, false⟩] [0, 4, 5])
    (.cond (.tmp 5)
    (.seq (.ops [
        ⟨some 2, .mov (.const (.string ⟨#[10]⟩)), none, false⟩,
        ⟨some 3, .mov (.const (.bool true)), none, false⟩] [2, 3])
      .ret)
    (.seq (.ops [
        ⟨some 8, .bin .eql (.tmp 4) (.const (.int .u8 116)), none, false⟩,
        ⟨some 7, .mov (.tmp 8), none, false⟩] [0, 4, 7])
      (.cond (.tmp 7)
      (.seq (.ops [
          ⟨some 2, .mov (.const (.string ⟨#[9]⟩)), none, false⟩,
          ⟨some 3, .mov (.const (.bool true)), none, false⟩] [2, 3])
        .ret)
      (.seq (.seq (.ops [
          ⟨some 10, .bin .eql (.tmp 4) (.const (.int .u8 34)), none, false⟩,
          ⟨some 9, .mov (.tmp 10), none, false⟩] [0, 4, 9])
        (.cond (.tmp 9)
        .skip
        (.seq (.ops [
            ⟨some 11, .bin .eql (.tmp 4) (.const (.int .u8 92)), none, false⟩,
            ⟨some 9, .mov (.tmp 11), none, false⟩] [0, 4, 9])
          (.cond (.tmp 9)
          .skip
          (.ops [
              ⟨some 12, .bin .eql (.tmp 4) (.const (.int .u8 47)), none, false⟩,
              ⟨some 9, .mov (.tmp 12), none, false⟩] [0, 9])))))
        (.cond (.tmp 9)
        (.seq (.ops [
            ⟨some 13, .mov (.tmp 0), none, false⟩,
            ⟨some 14, .buildSlice true 5 1 1 [.int .u8 0] [(0, (.tmp 13))], none, false⟩,
            ⟨some 15, .bytesToStr (.tmp 14), none, false⟩,
            ⟨some 2, .mov (.tmp 15), none, false⟩,
            ⟨some 3, .mov (.const (.bool true)), none, false⟩] [2, 3])
          .ret)
        .skip))))))))
  (.seq (.ops [
    ⟨some 2, .mov (.const (.string ⟨#[]⟩)), none, false⟩,
    ⟨some 3, .mov (.const (.bool false)), none, false⟩] [2, 3])
  .ret)))⟩
/-- (*scribe/lex.lexer).slash -/
def af84 : AFunc := ⟨1, [.tmp 2],
  (.seq (.ops [
    ⟨some 2, .mov (.const (.bool false)), none, false⟩] [0])
  (.seq (.seq (.ops [
    ⟨some 4, .mov (.tmp 0), none, false⟩,
    ⟨some 5, .nilCheck (.tmp 4), none, false⟩,
    ⟨some 6, .fieldAddr 2 (.tmp 5), none, false⟩,
    ⟨some 7, .load false 1 (.tmp 6), none, false⟩,
    ⟨some 8, .len .slice (.tmp 7), none, false⟩,
    ⟨some 9, .bin .eql (.tmp 8) (.const (.int .i64 0)), none, false⟩] [0, 9])
  (.cond (.tmp 9)
  (.seq (.ops [
      ⟨some 2, .mov (.const (.bool true)), none, false⟩] [2])
    .ret)
  .skip))
  (.seq (.opsD [
    (⟨some 10, .mov (.tmp 0), none, false⟩, []),
    (⟨some 11, .nilCheck (.tmp 10), none, false⟩, []),
    (⟨some 12, .fieldAddr 2 (.tmp 11), none, false⟩, []),
    (⟨some 13, .load false 1 (.tmp 12), none, false⟩, []),
    (⟨some 14, .mov (.tmp 0), none, false⟩, []),
    (⟨some 15, .nilCheck (.tmp 14), none, false⟩, []),
    (⟨some 16, .fieldAddr 2 (.tmp 15), none, false⟩, []),
    (⟨some 17, .load false 1 (.tmp 16), none, false⟩, []),
    (⟨some 18, .len .slice (.tmp 17), none, false⟩, []),
    (⟨some 19, .bin .sub (.tmp 18) (.const (.int .i64 1)), none, false⟩, []),
    (⟨some 20, .indexAddr 3 (.tmp 13) (.tmp 19), none, false⟩, []),
    (⟨some 21, .load true 3 (.tmp 20), none, false⟩, []),
    (⟨some 3, .allocL 0 [.int .i64 0, .str [], .int .i64 0], none, false⟩, []),
    (⟨none, .storeL 3 (.tmp 3) (.tmp 21), none, false⟩, [])] [3])
  (.seq (.seq (.ops [
    ⟨some 22, .fieldL 0 (.tmp 3), none, false⟩,
    ⟨some 23, .loadL false 1 (.tmp 22), none, false⟩] [3, 23])
  (.block 0
  (.seq (.seq (.ops [
      ⟨some 25, .bin .eql (.tmp 23) (.const (.int .i64 2)), none, false⟩,
      ⟨some 24, .mov (.tmp 25), none, false⟩] [3, 23, 24])
    (.cond (.tmp 24)
    .skip
    (.seq (.ops [
        ⟨some 26, .bin .eql (.tmp 23) (.const (.int .i64 3)), none, false⟩,
        ⟨some 24, .mov (.tmp 26), none, false⟩] [3, 23, 24])
      (.cond (.tmp 24)
      .skip
      (.seq (.ops [
          ⟨some 27, .bin .eql (.tmp 23) (.const (.int .i64 4)), none, false⟩,
          ⟨some 24, .mov (.tmp 27), none, false⟩] [3, 23, 24])
        (.cond (.tmp 24)
        .skip
        (.ops [
            ⟨some 28, .bin .eql (.tmp 23) (.const (.int .i64 5)), none, false⟩,
            ⟨some 24, .mov (.tmp 28), none, false⟩] [3, 23, 24])))))))
    (.cond (.tmp 24)
    (.seq (.ops [
        ⟨some 2, .mov (.const (.bool false)), none, false⟩] [2])
      .ret)
    (.seq (.ops [
        ⟨some 30, .bin .eql (.tmp 23) (.const (.int .i64 9)), none, false⟩,
        ⟨some 29, .mov (.tmp 30), none, false⟩] [3, 23, 29])
      (.cond (.tmp 29)
      (.seq (.ops [
          ⟨some 31, .fieldL 1 (.tmp 3), none, false⟩,
          ⟨some 32, .loadL false 1 (.tmp 31), none, false⟩,
          ⟨some 33, .bin .neq (.tmp 32) (.const (.string ⟨#[108, 101, 110, 103, 116, 104]⟩)), none, false⟩,
          ⟨some 2, .mov (.tmp 33), none, false⟩] [2])
        .ret)
      (.seq (.ops [
          ⟨some 35, .bin .eql (.tmp 23) (.const (.int .i64 8)), none, false⟩,
          ⟨some 34, .mov (.tmp 35), none, false⟩] [3, 34])
        (.cond (.tmp 34)
        (.seq (.ops [
            ⟨some 36, .buildSlice true 9 1 4 [.str []] [(0, (.const (.string ⟨#[41]⟩))), (1, (.const (.string ⟨#[93]⟩))), (2, (.const (.string ⟨#[43, 43]⟩))), (3, (.const (.string ⟨#[45, 45]⟩)))], none, false⟩,
            ⟨some 37, .fieldL 1 (.tmp 3), none, false⟩,
            ⟨some 38, .loadL false 1 (.tmp 37), none, false⟩,
            ⟨some 39, .call 48 [(.tmp 36), (.tmp 38)], none, false⟩,
            ⟨some 40, .un .not (.tmp 39), none, false⟩,
            ⟨some 2, .mov (.tmp 40), none, false⟩] [2])
          .ret)
        .skip))))))))
  (.seq (.ops [
    ⟨some 2, .mov (.const (.bool true)), none, false⟩] [2])
  .ret)))))⟩
/-- scribe/lex.inRegex -/
def af85 : AFunc := ⟨1, [.tmp 2, .tmp 3],
  (.seq (.ops [
    ⟨some 2, .mov (.const (.string ⟨#[]⟩)), none, false⟩,
    ⟨some 3, .mov (.const (.bool false)), none, false⟩] [0])
  (.seq (.seq (.ops [
    ⟨some 4, .mov (.tmp 0), none, false⟩,
    ⟨some 5, .bin .eql (.tmp 4) (.const (.int .u8 47)), none, false⟩] [0, 5])
  (.cond (.tmp 5)
  (.seq (.ops [
      ⟨some 2, .mov (.const (.string ⟨#[47]⟩)), none, false⟩,
      ⟨some 3, .mov (.const (.bool true)), none, false⟩] [2, 3])
    .ret)
  .skip))
  (.seq (.ops [
    ⟨some 6, .mov (.tmp 0), none, false⟩,
    ⟨some 7, .buildSlice true 5 1 2 [.int .u8 0] [(0, (.const (.int .u8 92))), (1, (.tmp 6))], none, false⟩,
    ⟨some 8, .bytesToStr (.tmp 7), none, false⟩,
    ⟨some 9, .mov (.tmp 0), none, false⟩,
    ⟨some 10, .bin .neq (.tmp 9) (.const (.int .u8 10)), none, false⟩,
    ⟨some 2, .mov (.tmp 8), none, false⟩,
    ⟨some 3, .mov (.tmp 10), none, false⟩] [2, 3])
  .ret)))⟩
/-- (*scribe/lex.lexer).sign -/
def af86 : AFunc := ⟨1, [.tmp 2],
  (.seq (.ops [
    ⟨some 2, .mov (.const (.int .i64 0)), none, false⟩] [0])
  (.seq (.opsD [
    (⟨some 4, .mov (.tmp 0), none, false⟩, []),
    (⟨some 5, .nilCheck (.tmp 4), none, false⟩, []),
    (⟨some 6, .fieldAddr 0 (.tmp 5), none, false⟩, []),
    (⟨some 7, .load false 1 (.tmp 6), none, false⟩, []),
    (⟨some 8, .mov (.tmp 0), none, false⟩, []),
    (⟨some 9, .nilCheck (.tmp 8), none, false⟩, []),
    (⟨some 10, .fieldAddr 1 (.tmp 9), none, false⟩, []),
    (⟨some 11, .load false 1 (.tmp 10), none, false⟩, []),
    (⟨some 12, .mov (.tmp 0), none, false⟩, []),
    (⟨some 13, .nilCheck (.tmp 12), none, false⟩, []),
    (⟨some 14, .fieldAddr 1 (.tmp 13), none, false⟩, []),
    (⟨some 15, .load false 1 (.tmp 14), none, false⟩, []),
    (⟨some 16, .bin .add (.tmp 15) (.const (.int .i64 2)), none, false⟩, []),
    (⟨some 17, .mov (.tmp 0), none, false⟩, []),
    (⟨some 18, .nilCheck (.tmp 17), none, false⟩, []),
    (⟨some 19, .fieldAddr 0 (.tmp 18), none, false⟩, []),
    (⟨some 20, .load false 1 (.tmp 19), none, false⟩, []),
    (⟨some 21, .len .str (.tmp 20), none, false⟩, []),
    (⟨some 22, .min (.tmp 16) (.tmp 21), none, false⟩, []),
    (⟨some 23, .sliceStr (.tmp 7) (some (.tmp 11)) (some (.tmp 22)), none, false⟩, []),
    (⟨some 3, .mov (.tmp 23), none, false⟩, [])] [0, 3])
  (.seq (.seq (.ops [
    ⟨some 24, .mov (.tmp 3), none, false⟩,
    ⟨some 25, .len .str (.tmp 24), none, false⟩,
    ⟨some 26, .bin .eql (.tmp 25) (.const (.int .i64 2)), none, false⟩,
    ⟨some 27, .mov (.tmp 26), none, false⟩,
    ⟨some 28, .mov (.tmp 3), some (27, true), false⟩,
    ⟨some 29, .bin .add (.const (.string ⟨#[32]⟩)) (.tmp 28), some (27, true), false⟩,
    ⟨some 30, .bin .add (.tmp 29) (.const (.string ⟨#[32]⟩)), some (27, true), false⟩,
    ⟨some 31, .ext 111 [(.const (.string ⟨#[32, 43, 61, 32, 45, 61, 32, 42, 61, 32, 47, 61, 32, 37, 61, 32, 61, 61, 32, 60, 61, 32, 62, 61, 32, 33, 61, 32, 43, 43, 32, 45, 45, 32, 38, 38, 32, 124, 124, 32, 62, 62, 32, 33, 126, 32]⟩)), (.tmp 30)], some (27, true), false⟩,
    ⟨some 32, .pick (.tmp 27) (.tmp 31) (.const (.bool false)), none, false⟩] [0, 3, 32])
  (.cond (.tmp 32)
  (.seq (.ops [
      ⟨some 33, .mov (.tmp 0), none, false⟩,
      ⟨some 34, .mov (.tmp 3), none, false⟩,
      ⟨some 35, .mov (.tmp 0), none, false⟩,
      ⟨some 36, .nilCheck (.tmp 35), none, false⟩,
      ⟨some 37, .fieldAddr 1 (.tmp 36), none, false⟩,
      ⟨some 38, .load false 1 (.tmp 37), none, false⟩,
      ⟨some 39, .call 47 [(.tmp 33), (.const (.int .i64 8)), (.tmp 34), (.tmp 38)], none, false⟩] [0])
    (.seq (.ops [
      ⟨some 40, .mov (.tmp 0), none, false⟩,
      ⟨some 41, .nilCheck (.tmp 40), none, false⟩,
      ⟨some 42, .fieldAddr 1 (.tmp 41), none, false⟩,
      ⟨some 43, .load false 1 (.tmp 42), none, false⟩,
      ⟨some 44, .bin .add (.tmp 43) (.const (.int .i64 2)), none, false⟩,
      ⟨some 45, .nilCheck (.tmp 40), none, false⟩,
      ⟨some 46, .fieldAddr 1 (.tmp 45), none, false⟩,
      ⟨none, .store 1 (.tmp 46) (.tmp 44), none, false⟩] [])
    (.seq (.ops [
      ⟨some 2, .mov (.const (.int .i64 0)), none, false⟩] [2])
    .ret)))
  .skip))
  (.seq (.seq (.opsD [
    (⟨some 47, .mov (.tmp 0), none, false⟩, []),
    (⟨some 48, .nilCheck (.tmp 47), none, false⟩, []),
    (⟨some 49, .fieldAddr 0 (.tmp 48), none, false⟩, []),
    (⟨some 50, .load false 1 (.tmp 49), none, false⟩, []),
    (⟨some 51, .mov (.tmp 0), none, false⟩, []),
    (⟨some 52, .nilCheck (.tmp 51), none, false⟩, []),
    (⟨some 53, .fieldAddr 1 (.tmp 52), none, false⟩, []),
    (⟨some 54, .load false 1 (.tmp 53), none, false⟩, []),
    (⟨some 55, .indexStr (.tmp 50) (.tmp 54), none, false⟩, []),
    (⟨some 56, .ext 112 [(.const (.string ⟨#[123, 125, 40, 41, 91, 93, 59, 44, 43, 45, 42, 47, 37, 33, 62, 60, 124, 63, 58, 126, 36, 61]⟩)), (.tmp 55)], none, false⟩, []),
    (⟨some 57, .bin .lss (.tmp 56) (.const (.int .i64 0)), none, false⟩, [])] [0, 3, 57])
  (.cond (.tmp 57)
  (.seq (.ops [
      ⟨some 2, .mov (.const (.int .i64 9)), none, false⟩] [2])
    .ret)
  .skip))
  (.seq (.opsD [
    (⟨some 58, .mov (.tmp 0), none, false⟩, []),
    (⟨some 59, .mov (.tmp 3), none, false⟩, []),
    (⟨some 60, .sliceStr (.tmp 59) none (some (.const (.int .i64 1))), none, false⟩, []),
    (⟨some 61, .mov (.tmp 0), none, false⟩, []),
    (⟨some 62, .nilCheck (.tmp 61), none, false⟩, []),
    (⟨some 63, .fieldAddr 1 (.tmp 62), none, false⟩, []),
    (⟨some 64, .load false 1 (.tmp 63), none, false⟩, []),
    (⟨some 65, .call 47 [(.tmp 58), (.const (.int .i64 8)), (.tmp 60), (.tmp 64)], none, false⟩, [])] [0])
  (.seq (.ops [
    ⟨some 66, .mov (.tmp 0), none, false⟩,
    ⟨some 67, .nilCheck (.tmp 66), none, false⟩,
    ⟨some 68, .fieldAddr 1 (.tmp 67), none, false⟩,
    ⟨some 69, .load false 1 (.tmp 68), none, false⟩,
    ⟨some 70, .bin .add (.tmp 69) (.const (.int .i64 1)), none, false⟩,
    ⟨some 71, .nilCheck (.tmp 66), none, false⟩,
    ⟨some 72, .fieldAddr 1 (.tmp 71), none, false⟩,
    ⟨none, .store 1 (.tmp 72) (.tmp 70), none, false⟩] [])
  (.seq (.ops [
    ⟨some 2, .mov (.const (.int .i64 0)), none, false⟩] [2])
  .ret)))))))⟩
/-- slices.Index[[]string,string] -/
def af87 : AFunc := ⟨2, [.tmp 4],
  (.seq (.ops [
    ⟨some 4, .mov (.const (.int .i64 0)), none, false⟩] [0, 1])
  (.seq (.seq (.ops [
    ⟨some 6, .mov (.tmp 0), none, false⟩,
    ⟨some 7, .len .slice (.tmp 6), none, false⟩,
    ⟨some 8, .mov (.const (.int .i64 0)), none, false⟩] [0, 1, 7, 8])
  (.block 0
  (.loop [0, 1, 7, 8]
    (.seq (.ops [
        ⟨some 9, .bin .lss (.tmp 8) (.tmp 7), none, false⟩] [0, 1, 7, 8, 9])
      (.seq (.cond (.tmp 9)
      .skip
      (.exit 0))
      (.seq (.block 1
      (.seq (.ops [
          ⟨some 10, .mov (.tmp 8), none, false⟩,
          ⟨some 5, .mov (.tmp 10), none, false⟩] [0, 1, 5, 7, 8])
        (.seq (.ops [
          ⟨some 11, .mov (.tmp 1), none, false⟩,
          ⟨some 12, .mov (.tmp 0), none, false⟩,
          ⟨some 13, .mov (.tmp 5), none, false⟩,
          ⟨some 14, .indexAddr 1 (.tmp 12) (.tmp 13), none, false⟩,
          ⟨some 15, .load false 1 (.tmp 14), none, false⟩,
          ⟨some 16, .bin .eql (.tmp 11) (.tmp 15), none, false⟩] [0, 1, 5, 7, 8, 16])
        (.cond (.tmp 16)
        (.seq (.ops [
            ⟨some 17, .mov (.tmp 5), none, false⟩,
            ⟨some 4, .mov (.tmp 17), none, false⟩] [4])
          .ret)
        .skip))))
      (.ops [
        ⟨some 18, .bin .add (.tmp 8) (.const (.int .i64 1)), none, false⟩,
        ⟨some 8, .mov (.tmp 18), none, false⟩] [0, 1, 7, 8])))))))
  (.seq (.ops [
    ⟨some 4, .mov (.const (.int .i64 (-1))), none, false⟩] [4])
  .ret)))⟩
/-- (*scribe/parse.parser).stmt -/
def af88 : AFunc := ⟨1, [.cellL true 4 2],
  (.seq (.ops [
    ⟨some 2, .allocL 0 [.str [], .str [], .int .i64 0, .nilSlice], none, false⟩] [0, 2])
  (.seq (.ops [
    ⟨some 4, .mov (.tmp 0), none, false⟩,
    ⟨some 5, .call 90 [(.tmp 4)], none, false⟩] [0, 2])
  (.seq (.ops [
    ⟨some 6, .mov (.tmp 0), none, false⟩,
    ⟨none, .defer 91 [(.tmp 6)], none, false⟩] [0, 2])
  (.seq (.block 0
  (.seq (.ops [
      ⟨some 8, .mov (.tmp 0), none, false⟩,
      ⟨some 9, .buildSlice true 9 1 1 [.str []] [(0, (.const (.string ⟨#[123]⟩)))], none, false⟩,
      ⟨some 10, .call 29 [(.tmp 8), (.tmp 9)], none, false⟩,
      ⟨some 7, .mov (.tmp 10), none, false⟩] [0, 2, 7])
    (.cond (.tmp 7)
    (.seq (.ops [
        ⟨some 11, .mov (.tmp 0), none, false⟩,
        ⟨some 12, .call 50 [(.tmp 11)], none, false⟩,
        ⟨none, .storeL 4 (.tmp 2) (.tmp 12), none, false⟩] [2])
      .ret)
    (.seq (.ops [
        ⟨some 14, .mov (.tmp 0), none, false⟩,
        ⟨some 15, .call 49 [(.tmp 14), (.const (.string ⟨#[59]⟩))], none, false⟩,
        ⟨some 13, .mov (.tmp 15), none, false⟩] [0, 2, 13])
      (.cond (.tmp 13)
      (.seq (.ops [
          ⟨some 16, .call 28 [(.const (.string ⟨#[101, 109, 112, 116, 121]⟩)), (.const (.slice none 0 0))], none, false⟩,
          ⟨none, .storeL 4 (.tmp 2) (.tmp 16), none, false⟩] [2])
        .ret)
      (.seq (.ops [
          ⟨some 18, .mov (.tmp 0), none, false⟩,
          ⟨some 19, .call 49 [(.tmp 18), (.const (.string ⟨#[105, 102]⟩))], none, false⟩,
          ⟨some 17, .mov (.tmp 19), none, false⟩] [0, 2, 17])
        (.cond (.tmp 17)
        (.seq (.ops [
            ⟨some 20, .mov (.tmp 0), none, false⟩,
            ⟨some 21, .call 113 [(.tmp 20)], none, false⟩,
            ⟨none, .storeL 4 (.tmp 2) (.tmp 21), none, false⟩] [2])
          .ret)
        (.seq (.ops [
            ⟨some 23, .mov (.tmp 0), none, false⟩,
            ⟨some 24, .call 49 [(.tmp 23), (.const (.string ⟨#[119, 104, 105, 108, 101]⟩))], none, false⟩,
            ⟨some 22, .mov (.tmp 24), none, false⟩] [0, 2, 22])
          (.cond (.tmp 22)
          (.seq (.ops [
              ⟨some 25, .mov (.tmp 0), none, false⟩,
              ⟨some 26, .call 53 [(.tmp 25), (.const (.string ⟨#[40]⟩))], none, false⟩] [0, 2])
            (.seq (.ops [
              ⟨some 27, .mov (.tmp 0), none, false⟩,
              ⟨some 28, .call 114 [(.tmp 27), (.const (.string ⟨#[41]⟩))], none, false⟩,
              ⟨some 29, .mov (.tmp 0), none, false⟩,
              ⟨some 30, .call 115 [(.tmp 29)], none, false⟩,
              ⟨some 31, .buildSlice true 25 4 2 [.str [], .str [], .int .i64 0, .nilSlice] [(0, (.tmp 28)), (1, (.tmp 30))], none, false⟩,
              ⟨some 32, .call 28 [(.const (.string ⟨#[119, 104, 105, 108, 101]⟩)), (.tmp 31)], none, false⟩,
              ⟨none, .storeL 4 (.tmp 2) (.tmp 32), none, false⟩] [2])
            .ret))
          (.seq (.ops [
              ⟨some 34, .mov (.tmp 0), none, false⟩,
              ⟨some 35, .call 49 [(.tmp 34), (.const (.string ⟨#[102, 111, 114]⟩))], none, false⟩,
              ⟨some 33, .mov (.tmp 35), none, false⟩] [0, 2, 33])
            (.cond (.tmp 33)
            (.seq (.ops [
                ⟨some 36, .mov (.tmp 0), none, false⟩,
                ⟨some 37, .call 116 [(.tmp 36)], none, false⟩,
                ⟨none, .storeL 4 (.tmp 2) (.tmp 37), none, false⟩] [2])
              .ret)
            .skip)))))))))))
  (.seq (.ops [
    ⟨some 38, .mov (.tmp 0), none, false⟩,
    ⟨some 39, .call 117 [(.tmp 38)], none, false⟩,
    ⟨some 3, .allocL 0 [.str [], .str [], .int .i64 0, .nilSlice], none, false⟩,
    ⟨none, .storeL 4 (.tmp 3) (.tmp 39), none, false⟩] [0, 2, 3])
  (.seq (.ops [
    ⟨some 40, .mov (.tmp 0), none, false⟩,
    ⟨some 41, .call 118 [(.tmp 40)], none, false⟩] [2, 3])
  (.seq (.ops [
    ⟨some 42, .loadL true 4 (.tmp 3), none, false⟩,
    ⟨none, .storeL 4 (.tmp 2) (.tmp 42), none, false⟩] [2])
  .ret)))))))⟩
/-- slices.Contains[[]int,int] -/
def af89 : AFunc := ⟨2, [.tmp 4],
  (.seq (.ops [
    ⟨some 4, .mov (.const (.bool false)), none, false⟩] [0, 1])
  (.seq (.ops [
    ⟨some 5, .mov (.tmp 0), none, false⟩,
    ⟨some 6, .mov (.tmp 1), none, false⟩,
    ⟨some 7, .call 119 [(.tmp 5), (.tmp 6)], none, false⟩,
    ⟨some 8, .bin .geq (.tmp 7) (.const (.int .i64 0)), none, false⟩,
    ⟨some 4, .mov (.tmp 8), none, false⟩] [4])
  .ret))⟩
/-- (*scribe/parse.parser).down -/
def af90 : AFunc := ⟨1, [],
  (.seq (.ops [
    ⟨some 2, .mov (.tmp 0), none, false⟩,
    ⟨some 3, .nilCheck (.tmp 2), none, false⟩,
    ⟨some 4, .fieldAddr 2 (.tmp 3), none, false⟩,
    ⟨some 5, .load false 1 (.tmp 4), none, false⟩,
    ⟨some 6, .bin .add (.tmp 5) (.const (.int .i64 1)), none, false⟩,
    ⟨some 7, .nilCheck (.tmp 2), none, false⟩,
    ⟨some 8, .fieldAddr 2 (.tmp 7), none, false⟩,
    ⟨none, .store 1 (.tmp 8) (.tmp 6), none, false⟩] [0])
  (.seq (.ops [
    ⟨some 9, .mov (.tmp 0), none, false⟩,
    ⟨some 10, .nilCheck (.tmp 9), none, false⟩,
    ⟨some 11, .fieldAddr 2 (.tmp 10), none, false⟩,
    ⟨some 12, .load false 1 (.tmp 11), none, false⟩,
    ⟨some 13, .bin .gtr (.tmp 12) (.const (.int .i64 50)), none, false⟩,
    ⟨some 14, .mov (.tmp 13), none, false⟩,
    ⟨some 15, .mov (.tmp 0), some (14, true), false⟩,
    ⟨some 16, .nilCheck (.tmp 15), some (14, true), false⟩,
    ⟨some 17, .fieldAddr 4 (.tmp 16), some (14, true), false⟩,
    ⟨some 18, .load false 1 (.tmp 17), some (14, true), false⟩,
    ⟨some 19, .bin .eql (.tmp 18) (.const (.int .i64 0)), some (14, true), false⟩,
    ⟨some 20, .pick (.tmp 14) (.tmp 19) (.const (.bool false)), none, false⟩] [0, 20])
  (.cond (.tmp 20)
  (.ops [
      ⟨some 21, .mov (.tmp 0), none, false⟩,
      ⟨some 22, .mov (.tmp 0), none, false⟩,
      ⟨some 23, .mov (.tmp 0), none, false⟩,
      ⟨some 24, .call 30 [(.tmp 23)], none, false⟩,
      ⟨some 25, .field false 1 2 (.tmp 24), none, false⟩,
      ⟨some 26, .nilCheck (.tmp 21), none, false⟩,
      ⟨some 27, .fieldAddr 4 (.tmp 26), none, false⟩,
      ⟨none, .store 1 (.tmp 27) (.const (.int .i64 14)), none, false⟩,
      ⟨some 28, .nilCheck (.tmp 22), none, false⟩,
      ⟨some 29, .fieldAddr 5 (.tmp 28), none, false⟩,
      ⟨none, .store 1 (.tmp 29) (.tmp 25), none, false⟩] [])
  .skip)))⟩
/-- (*scribe/parse.parser).up -/
def af91 : AFunc := ⟨1, [],
  (.ops [
    ⟨some 2, .mov (.tmp 0), none, false⟩,
    ⟨some 3, .nilCheck (.tmp 2), none, false⟩,
    ⟨some 4, .fieldAddr 2 (.tmp 3), none, false⟩,
    ⟨some 5, .load false 1 (.tmp 4), none, false⟩,
    ⟨some 6, .bin .sub (.tmp 5) (.const (.int .i64 1)), none, false⟩,
    ⟨some 7, .nilCheck (.tmp 2), none, false⟩,
    ⟨some 8, .fieldAddr 2 (.tmp 7), none, false⟩,
    ⟨none, .store 1 (.tmp 8) (.tmp 6), none, false⟩] [])⟩
/-- (*scribe/parse.parser).or -/
def af92 : AFunc := ⟨1, [.cellL true 4 2],
  (.seq (.ops [
    ⟨some 2, .allocL 0 [.str [], .str [], .int .i64 0, .nilSlice], none, false⟩] [0, 2])
  (.seq (.ops [
    ⟨some 3, .mov (.tmp 0), none, false⟩,
    ⟨some 4, .mov (.tmp 0), none, false⟩,
    ⟨some 5, .clos 121 [(.tmp 4)] [], none, false⟩,
    ⟨some 6, .makeMap, none, false⟩,
    ⟨none, .mapUpdate (.cell .str) (.tmp 6) (.const (.string ⟨#[124, 124]⟩)) (.const (.string ⟨#[111, 114]⟩)), none, false⟩,
    ⟨some 7, .mov (.tmp 6), none, false⟩,
    ⟨some 8, .call 120 [(.tmp 3), (.tmp 5), (.const (.bool true)), (.tmp 7)], none, false⟩,
    ⟨none, .storeL 4 (.tmp 2) (.tmp 8), none, false⟩] [2])
  .ret))⟩
/-- scribe/parse.place -/
def af93 : AFunc := ⟨1, [.tmp 2],
  (.seq (.ops [
    ⟨some 1, .boxL 0 4 (.tmp 0), none, false⟩,
    ⟨some 2, .mov (.const (.bool false)), none, false⟩] [1])
  (.seq (.ops [
    ⟨some 3, .buildSlice true 9 1 3 [.str []] [(0, (.const (.string ⟨#[118, 97, 114]⟩))), (1, (.const (.string ⟨#[105, 110, 100, 101, 120]⟩))), (2, (.const (.string ⟨#[102, 105, 101, 108, 100]⟩)))], none, false⟩,
    ⟨some 4, .fieldL 0 (.tmp 1), none, false⟩,
    ⟨some 5, .loadL false 1 (.tmp 4), none, false⟩,
    ⟨some 6, .call 48 [(.tmp 3), (.tmp 5)], none, false⟩,
    ⟨some 2, .mov (.tmp 6), none, false⟩] [2])
  .ret))⟩
/-- (*scribe/resolve.resolver).name -/
def af94 : AFunc := ⟨4, [],
  (.seq (.ops [
    ⟨some 6, .boxL 0 4 (.tmp 2), none, false⟩] [0, 1, 3, 6])
  (.seq (.seq (.opsD [
    (⟨some 12, .mov (.tmp 0), none, false⟩, []),
    (⟨some 13, .nilCheck (.tmp 12), none, false⟩, []),
    (⟨some 14, .fieldAddr 0 (.tmp 13), none, false⟩, []),
    (⟨some 15, .load false 1 (.tmp 14), none, false⟩, []),
    (⟨some 16, .fieldL 1 (.tmp 6), none, false⟩, []),
    (⟨some 17, .loadL false 1 (.tmp 16), none, false⟩, []),
    (⟨some 18, .lookup (.cell .str) (.int .i64 0) True (.tmp 15) (.tmp 17), none, false⟩, []),
    (⟨some 11, .mov (.tmp 18), none, false⟩, []),
    (⟨some 19, .extract (.tmp 11) 0, none, false⟩, []),
    (⟨some 20, .extract (.tmp 11) 1, none, false⟩, []),
    (⟨some 8, .mov (.tmp 19), none, false⟩, []),
    (⟨some 9, .mov (.tmp 20), none, false⟩, [])] [0, 1, 3, 6, 9])
  (.seq (.ops [
    ⟨some 21, .mov (.tmp 9), none, false⟩] [0, 1, 3, 6, 21])
  (.cond (.tmp 21)
  (.seq (.ops [
      ⟨some 22, .mov (.tmp 0), none, false⟩,
      ⟨some 23, .fieldL 2 (.tmp 6), none, false⟩,
      ⟨some 24, .loadL false 1 (.tmp 23), none, false⟩,
      ⟨some 25, .call 62 [(.tmp 22), (.tmp 24), (.const (.int .i64 11))], none, false⟩] [])
    .ret)
  .skip)))
  (.seq (.ops [
    ⟨some 26, .mov (.tmp 0), none, false⟩,
    ⟨some 27, .mov (.tmp 1), none, false⟩,
    ⟨some 28, .fieldL 1 (.tmp 6), none, false⟩,
    ⟨some 29, .loadL false 1 (.tmp 28), none, false⟩,
    ⟨some 30, .call 60 [(.tmp 26), (.tmp 27), (.tmp 29)], none, false⟩,
    ⟨some 10, .allocL 0 [.int .i64 0, .str []], none, false⟩,
    ⟨none, .storeL 2 (.tmp 10) (.tmp 30), none, false⟩] [0, 3, 6, 10])
  (.seq (.seq (.opsD [
    (⟨some 31, .mov (.tmp 0), none, false⟩, []),
    (⟨some 32, .nilCheck (.tmp 31), none, false⟩, []),
    (⟨some 33, .fieldAddr 2 (.tmp 32), none, false⟩, []),
    (⟨some 34, .load false 1 (.tmp 33), none, false⟩, []),
    (⟨some 35, .loadL true 2 (.tmp 10), none, false⟩, []),
    (⟨some 36, .lookup (.agg [.int, .str]) (.bool false) False (.tmp 34) (.tmp 35), none, false⟩, []),
    (⟨some 37, .mov (.tmp 3), none, false⟩, []),
    (⟨some 38, .binB .neq (.tmp 36) (.tmp 37), none, false⟩, []),
    (⟨some 39, .mov (.tmp 38), none, false⟩, []),
    (⟨some 40, .mov (.tmp 3), some (39, false), false⟩, []),
    (⟨some 41, .mov (.tmp 40), some (39, false), false⟩, []),
    (⟨some 42, .fieldL 0 (.tmp 10), some (41, true), false⟩, []),
    (⟨some 43, .loadL false 1 (.tmp 42), some (41, true), false⟩, []),
    (⟨some 44, .bin .lss (.tmp 43) (.const (.int .i64 0)), some (41, true), false⟩, []),
    (⟨some 45, .pick (.tmp 41) (.tmp 44) (.const (.bool false)), some (39, false), false⟩, []),
    (⟨some 46, .mov (.tmp 45), some (39, false), false⟩, []),
    (⟨some 47, .load false 1 (.global 2), some (46, true), false⟩, []),
    (⟨some 48, .fieldL 1 (.tmp 6), some (46, true), false⟩, []),
    (⟨some 49, .loadL false 1 (.tmp 48), some (46, true), false⟩, []),
    (⟨some 50, .call 48 [(.tmp 47), (.tmp 49)], some (46, true), false⟩, []),
    (⟨some 51, .pick (.tmp 46) (.tmp 50) (.const (.bool false)), some (39, false), false⟩, []),
    (⟨some 52, .pick (.tmp 39) (.const (.bool true)) (.tmp 51), none, false⟩, [])] [0, 6, 10, 52])
  (.cond (.tmp 52)
  (.ops [
      ⟨some 53, .mov (.tmp 0), none, false⟩,
      ⟨some 54, .fieldL 2 (.tmp 6), none, false⟩,
      ⟨some 55, .loadL false 1 (.tmp 54), none, false⟩,
      ⟨some 56, .call 62 [(.tmp 53), (.tmp 55), (.const (.int .i64 11))], none, false⟩] [0, 6, 10])
  .skip))
  (.seq (.opsD [
    (⟨some 57, .fieldL 0 (.tmp 10), none, false⟩, []),
    (⟨some 58, .loadL false 1 (.tmp 57), none, false⟩, []),
    (⟨some 59, .bin .lss (.tmp 58) (.const (.int .i64 0)), none, false⟩, []),
    (⟨some 60, .mov (.tmp 59), none, false⟩, []),
    (⟨some 61, .mov (.tmp 0), some (60, true), false⟩, []),
    (⟨some 62, .nilCheck (.tmp 61), some (60, true), false⟩, []),
    (⟨some 63, .fieldAddr 3 (.tmp 62), some (60, true), false⟩, []),
    (⟨some 64, .load false 1 (.tmp 63), some (60, true), false⟩, []),
    (⟨some 65, .fieldL 1 (.tmp 6), some (60, true), false⟩, []),
    (⟨some 66, .loadL false 1 (.tmp 65), some (60, true), false⟩, []),
    (⟨some 67, .call 48 [(.tmp 64), (.tmp 66)], some (60, true), false⟩, []),
    (⟨some 68, .un .not (.tmp 67), some (60, true), false⟩, []),
    (⟨some 69, .pick (.tmp 60) (.tmp 68) (.const (.bool false)), none, false⟩, [])] [0, 6, 69])
  (.cond (.tmp 69)
  (.opsD [
      (⟨some 70, .mov (.tmp 0), none, false⟩, []),
      (⟨some 71, .mov (.tmp 0), none, false⟩, []),
      (⟨some 72, .nilCheck (.tmp 71), none, false⟩, []),
      (⟨some 73, .fieldAddr 3 (.tmp 72), none, false⟩, []),
      (⟨some 74, .load false 1 (.tmp 73), none, false⟩, []),
      (⟨some 75, .fieldL 1 (.tmp 6), none, false⟩, []),
      (⟨some 76, .loadL false 1 (.tmp 75), none, false⟩, []),
      (⟨some 77, .buildSlice true 9 1 1 [.str []] [(0, (.tmp 76))], none, false⟩, []),
      (⟨some 78, .append false 9 1 16 (.tmp 74) (.tmp 77), none, false⟩, []),
      (⟨some 79, .nilCheck (.tmp 70), none, false⟩, []),
      (⟨some 80, .fieldAddr 3 (.tmp 79), none, false⟩, []),
      (⟨none, .store 1 (.tmp 80) (.tmp 78), none, false⟩, [])] [])
  .skip))))))⟩
/-- (*scribe/resolve.resolver).call -/
def af95 : AFunc := ⟨4, [],
  (.seq (.ops [
    ⟨some 6, .boxL 0 4 (.tmp 2), none, false⟩,
    ⟨some 7, .boxL 1 3 (.tmp 3), none, false⟩] [0, 1, 6, 7])
  (.seq (.opsD [
    (⟨some 13, .mov (.tmp 0), none, false⟩, []),
    (⟨some 14, .nilCheck (.tmp 13), none, false⟩, []),
    (⟨some 15, .fieldAddr 0 (.tmp 14), none, false⟩, []),
    (⟨some 16, .load false 1 (.tmp 15), none, false⟩, []),
    (⟨some 17, .fieldL 1 (.tmp 6), none, false⟩, []),
    (⟨some 18, .loadL false 1 (.tmp 17), none, false⟩, []),
    (⟨some 19, .lookup (.cell .str) (.int .i64 0) True (.tmp 16) (.tmp 18), none, false⟩, []),
    (⟨some 12, .mov (.tmp 19), none, false⟩, []),
    (⟨some 20, .extract (.tmp 12) 0, none, false⟩, []),
    (⟨some 21, .extract (.tmp 12) 1, none, false⟩, []),
    (⟨some 8, .mov (.tmp 20), none, false⟩, []),
    (⟨some 9, .mov (.tmp 21), none, false⟩, [])] [0, 1, 6, 7, 8, 9])
  (.seq (.seq (.opsD [
    (⟨some 22, .mov (.tmp 9), none, false⟩, []),
    (⟨some 23, .un .not (.tmp 22), none, false⟩, []),
    (⟨some 24, .mov (.tmp 23), none, false⟩, []),
    (⟨some 25, .fieldL 3 (.tmp 6), some (24, false), false⟩, []),
    (⟨some 26, .loadL false 1 (.tmp 25), some (24, false), false⟩, []),
    (⟨some 27, .len .slice (.tmp 26), some (24, false), false⟩, []),
    (⟨some 28, .mov (.tmp 0), some (24, false), false⟩, []),
    (⟨some 29, .nilCheck (.tmp 28), some (24, false), false⟩, []),
    (⟨some 30, .fieldAddr 1 (.tmp 29), some (24, false), false⟩, []),
    (⟨some 31, .load false 1 (.tmp 30), some (24, false), false⟩, []),
    (⟨some 32, .nilCheck (.tmp 31), some (24, false), false⟩, []),
    (⟨some 33, .fieldAddr 0 (.tmp 32), some (24, false), false⟩, []),
    (⟨some 34, .load false 1 (.tmp 33), some (24, false), false⟩, []),
    (⟨some 35, .mov (.tmp 8), some (24, false), false⟩, []),
    (⟨some 36, .indexAddr 7 (.tmp 34) (.tmp 35), some (24, false), false⟩, []),
    (⟨some 37, .fieldAddr 1 (.tmp 36), some (24, false), false⟩, []),
    (⟨some 38, .load false 1 (.tmp 37), some (24, false), false⟩, []),
    (⟨some 39, .len .slice (.tmp 38), some (24, false), false⟩, []),
    (⟨some 40, .bin .gtr (.tmp 27) (.tmp 39), some (24, false), false⟩, []),
    (⟨some 41, .pick (.tmp 24) (.const (.bool true)) (.tmp 40), none, false⟩, [])] [0, 1, 6, 7, 8, 41])
  (.cond (.tmp 41)
  (.seq (.ops [
      ⟨some 42, .mov (.tmp 0), none, false⟩,
      ⟨some 43, .fieldL 2 (.tmp 6), none, false⟩,
      ⟨some 44, .loadL false 1 (.tmp 43), none, false⟩,
      ⟨some 45, .call 62 [(.tmp 42), (.tmp 44), (.const (.int .i64 11))], none, false⟩] [])
    .ret)
  .skip))
  (.seq (.ops [
    ⟨some 46, .fieldL 3 (.tmp 6), none, false⟩,
    ⟨some 47, .loadL false 1 (.tmp 46), none, false⟩,
    ⟨some 48, .len .slice (.tmp 47), none, false⟩,
    ⟨some 49, .mov (.const (.int .i64 0)), none, false⟩] [0, 1, 6, 7, 8, 47, 48, 49])
  (.block 0
  (.loop [0, 1, 6, 7, 8, 47, 48, 49]
    (.seq (.ops [
        ⟨some 50, .bin .lss (.tmp 49) (.tmp 48), none, false⟩] [0, 1, 6, 7, 8, 47, 48, 49, 50])
      (.seq (.cond (.tmp 50)
      .skip
      (.exit 0))
      (.seq (.block 1
      (.seq (.ops [
          ⟨some 51, .mov (.tmp 49), none, false⟩,
          ⟨some 52, .indexAddr 4 (.tmp 47) (.tmp 49), none, false⟩,
          ⟨some 53, .load true 4 (.tmp 52), none, false⟩,
          ⟨some 11, .allocL 0 [.str [], .str [], .int .i64 0, .nilSlice], none, false⟩,
          ⟨some 10, .mov (.tmp 51), none, false⟩,
          ⟨none, .storeL 4 (.tmp 11) (.tmp 53), none, false⟩] [0, 1, 6, 7, 8, 10, 11, 47, 48, 49])
        (.seq (.seq (.opsD [
          (⟨some 54, .mov (.tmp 0), none, false⟩, []),
          (⟨some 55, .nilCheck (.tmp 54), none, false⟩, []),
          (⟨some 56, .fieldAddr 2 (.tmp 55), none, false⟩, []),
          (⟨some 57, .load false 1 (.tmp 56), none, false⟩, []),
          (⟨some 58, .mov (.tmp 8), none, false⟩, []),
          (⟨some 59, .mov (.tmp 0), none, false⟩, []),
          (⟨some 60, .nilCheck (.tmp 59), none, false⟩, []),
          (⟨some 61, .fieldAddr 1 (.tmp 60), none, false⟩, []),
          (⟨some 62, .load false 1 (.tmp 61), none, false⟩, []),
          (⟨some 63, .nilCheck (.tmp 62), none, false⟩, []),
          (⟨some 64, .fieldAddr 0 (.tmp 63), none, false⟩, []),
          (⟨some 65, .load false 1 (.tmp 64), none, false⟩, []),
          (⟨some 66, .mov (.tmp 8), none, false⟩, []),
          (⟨some 67, .indexAddr 7 (.tmp 65) (.tmp 66), none, false⟩, []),
          (⟨some 68, .fieldAddr 1 (.tmp 67), none, false⟩, []),
          (⟨some 69, .load false 1 (.tmp 68), none, false⟩, []),
          (⟨some 70, .mov (.tmp 10), none, false⟩, []),
          (⟨some 71, .indexAddr 1 (.tmp 69) (.tmp 70), none, false⟩, []),
          (⟨some 72, .load false 1 (.tmp 71), none, false⟩, []),
          (⟨some 73, .build [.int .i64 0, .str []] [(0, 1, (.tmp 58)), (1, 1, (.tmp 72))], none, false⟩, []),
          (⟨some 74, .lookup (.agg [.int, .str]) (.bool false) False (.tmp 57) (.tmp 73), none, false⟩, []),
          (⟨some 75, .un .not (.tmp 74), none, false⟩, [])] [0, 1, 6, 7, 8, 11, 47, 48, 49, 75])
        (.cond (.tmp 75)
        (.seq (.ops [
            ⟨some 76, .mov (.tmp 0), none, false⟩,
            ⟨some 77, .mov (.tmp 1), none, false⟩,
            ⟨some 78, .loadL true 4 (.tmp 11), none, false⟩,
            ⟨some 79, .loadL true 3 (.tmp 7), none, false⟩,
            ⟨some 80, .call 61 [(.tmp 76), (.tmp 77), (.tmp 78), (.tmp 79)], none, false⟩] [0, 1, 6, 7, 8, 47, 48, 49])
          (.exit 1))
        .skip))
        (.seq (.seq (.ops [
          ⟨some 81, .fieldL 0 (.tmp 11), none, false⟩,
          ⟨some 82, .loadL false 1 (.tmp 81), none, false⟩,
          ⟨some 83, .bin .neq (.tmp 82) (.const (.string ⟨#[118, 97, 114]⟩)), none, false⟩] [0, 1, 6, 7, 8, 11, 47, 48, 49, 83])
        (.cond (.tmp 83)
        (.seq (.ops [
            ⟨some 84, .mov (.tmp 0), none, false⟩,
            ⟨some 85, .fieldL 2 (.tmp 6), none, false⟩,
            ⟨some 86, .loadL false 1 (.tmp 85), none, false⟩,
            ⟨some 87, .call 62 [(.tmp 84), (.tmp 86), (.const (.int .i64 11))], none, false⟩] [])
          .ret)
        .skip))
        (.ops [
          ⟨some 88, .mov (.tmp 0), none, false⟩,
          ⟨some 89, .mov (.tmp 1), none, false⟩,
          ⟨some 90, .loadL true 4 (.tmp 11), none, false⟩,
          ⟨some 91, .call 94 [(.tmp 88), (.tmp 89), (.tmp 90), (.const (.bool true))], none, false⟩] [0, 1, 6, 7, 8, 47, 48, 49])))))
      (.ops [
        ⟨some 92, .bin .add (.tmp 49) (.const (.int .i64 1)), none, false⟩,
        ⟨some 49, .mov (.tmp 92), none, false⟩] [0, 1, 6, 7, 8, 47, 48, 49]))))))))))⟩
/-- (*scribe/lex.lexer).word$1 -/
def af107 : AFunc := ⟨1, [.tmp 2],
  (.seq (.ops [
    ⟨some 2, .mov (.const (.bool false)), none, false⟩] [0])
  (.seq (.ops [
    ⟨some 3, .mov (.tmp 0), none, false⟩,
    ⟨some 4, .call 80 [(.tmp 3)], none, false⟩,
    ⟨some 5, .mov (.tmp 4), none, false⟩,
    ⟨some 6, .mov (.tmp 0), some (5, false), false⟩,
    ⟨some 7, .call 78 [(.tmp 6)], some (5, false), false⟩,
    ⟨some 8, .pick (.tmp 5) (.const (.bool true)) (.tmp 7), none, false⟩,
    ⟨some 2, .mov (.tmp 8), none, false⟩] [2])
  .ret))⟩
/-- (*strings.Builder).String -/
def af108 : AFunc := ⟨1, [.tmp 2],
  (.seq (.ops [
    ⟨some 2, .mov (.const (.string ⟨#[]⟩)), none, false⟩] [0])
  (.seq (.opsD [
    (⟨some 3, .mov (.tmp 0), none, false⟩, []),
    (⟨some 4, .nilCheck (.tmp 3), none, false⟩, []),
    (⟨some 5, .fieldAddr 1 (.tmp 4), none, false⟩, []),
    (⟨some 6, .load false 1 (.tmp 5), none, false⟩, []),
    (⟨some 7, .sliceData (.tmp 6), none, false⟩, []),
    (⟨some 8, .mov (.tmp 0), none, false⟩, []),
    (⟨some 9, .nilCheck (.tmp 8), none, false⟩, []),
    (⟨some 10, .fieldAddr 1 (.tmp 9), none, false⟩, []),
    (⟨some 11, .load false 1 (.tmp 10), none, false⟩, []),
    (⟨some 12, .len .slice (.tmp 11), none, false⟩, []),
    (⟨some 13, .unsafeStr 5 (.tmp 7) (.tmp 12), none, false⟩, []),
    (⟨some 2, .mov (.tmp 13), none, false⟩, [])] [2])
  .ret))⟩
/-- (*strings.Builder).WriteString -/
def af109 : AFunc := ⟨2, [.tmp 4, .tmp 5],
  (.seq (.ops [
    ⟨some 4, .mov (.const (.int .i64 0)), none, false⟩,
    ⟨some 5, .mov (.const .nilIface), none, false⟩] [0, 1])
  (.seq (.ops [
    ⟨some 6, .mov (.tmp 0), none, false⟩,
    ⟨some 7, .call 131 [(.tmp 6)], none, false⟩] [0, 1])
  (.seq (.ops [
    ⟨some 8, .mov (.tmp 0), none, false⟩,
    ⟨some 9, .mov (.tmp 0), none, false⟩,
    ⟨some 10, .nilCheck (.tmp 9), none, false⟩,
    ⟨some 11, .fieldAddr 1 (.tmp 10), none, false⟩,
    ⟨some 12, .load false 1 (.tmp 11), none, false⟩,
    ⟨some 13, .mov (.tmp 1), none, false⟩,
    ⟨some 14, .append false 5 1 1 (.tmp 12) (.tmp 13), none, false⟩,
    ⟨some 15, .nilCheck (.tmp 8), none, false⟩,
    ⟨some 16, .fieldAddr 1 (.tmp 15), none, false⟩,
    ⟨none, .store 1 (.tmp 16) (.tmp 14), none, false⟩] [1])
  (.seq (.ops [
    ⟨some 17, .mov (.tmp 1), none, false⟩,
    ⟨some 18, .len .str (.tmp 17), none, false⟩,
    ⟨some 4, .mov (.tmp 18), none, false⟩,
    ⟨some 5, .mov (.const .nilIface), none, false⟩] [4, 5])
  .ret))))⟩
/-- (*strings.Builder).WriteByte -/
def af110 : AFunc := ⟨2, [.tmp 4],
  (.seq (.ops [
    ⟨some 4, .mov (.const .nilIface), none, false⟩] [0, 1])
  (.seq (.ops [
    ⟨some 5, .mov (.tmp 0), none, false⟩,
    ⟨some 6, .call 131 [(.tmp 5)], none, false⟩] [0, 1])
  (.seq (.ops [
    ⟨some 7, .mov (.tmp 0), none, false⟩,
    ⟨some 8, .mov (.tmp 0), none, false⟩,
    ⟨some 9, .nilCheck (.tmp 8), none, false⟩,
    ⟨some 10, .fieldAddr 1 (.tmp 9), none, false⟩,
    ⟨some 11, .load false 1 (.tmp 10), none, false⟩,
    ⟨some 12, .mov (.tmp 1), none, false⟩,
    ⟨some 13, .buildSlice true 5 1 1 [.int .u8 0] [(0, (.tmp 12))], none, false⟩,
    ⟨some 14, .append false 5 1 1 (.tmp 11) (.tmp 13), none, false⟩,
    ⟨some 15, .nilCheck (.tmp 7), none, false⟩,
    ⟨some 16, .fieldAddr 1 (.tmp 15), none, false⟩,
    ⟨none, .store 1 (.tmp 16) (.tmp 14), none, false⟩] [])
  (.seq (.ops [
    ⟨some 4, .mov (.const .nilIface), none, false⟩] [4])
  .ret))))⟩
/-- (*scribe/parse.parser).choice -/
def af113 : AFunc := ⟨1, [.cellL true 4 2],
  (.seq (.ops [
    ⟨some 2, .allocL 0 [.str [], .str [], .int .i64 0, .nilSlice], none, false⟩] [0, 2])
  (.seq (.ops [
    ⟨some 5, .mov (.tmp 0), none, false⟩,
    ⟨some 6, .call 53 [(.tmp 5), (.const (.string ⟨#[40]⟩))], none, false⟩] [0, 2])
  (.seq (.ops [
    ⟨some 7, .mov (.tmp 0), none, false⟩,
    ⟨some 8, .call 114 [(.tmp 7), (.const (.string ⟨#[41]⟩))], none, false⟩,
    ⟨some 9, .mov (.tmp 0), none, false⟩,
    ⟨some 10, .call 115 [(.tmp 9)], none, false⟩,
    ⟨some 11, .buildSlice true 25 4 2 [.str [], .str [], .int .i64 0, .nilSlice] [(0, (.tmp 8)), (1, (.tmp 10))], none, false⟩,
    ⟨some 12, .call 28 [(.const (.string ⟨#[105, 102]⟩)), (.tmp 11)], none, false⟩,
    ⟨some 3, .allocL 0 [.str [], .str [], .int .i64 0, .nilSlice], none, false⟩,
    ⟨none, .storeL 4 (.tmp 3) (.tmp 12), none, false⟩] [0, 2, 3])
  (.seq (.ops [
    ⟨some 13, .mov (.tmp 0), none, false⟩,
    ⟨some 14, .nilCheck (.tmp 13), none, false⟩,
    ⟨some 15, .fieldAddr 1 (.tmp 14), none, false⟩,
    ⟨some 16, .load false 1 (.tmp 15), none, false⟩,
    ⟨some 4, .mov (.tmp 16), none, false⟩] [0, 2, 3, 4])
  (.seq (.ops [
    ⟨some 17, .mov (.tmp 0), none, false⟩,
    ⟨some 18, .call 54 [(.tmp 17)], none, false⟩] [0, 2, 3, 4])
  (.seq (.seq (.ops [
    ⟨some 19, .mov (.tmp 0), none, false⟩,
    ⟨some 20, .call 49 [(.tmp 19), (.const (.string ⟨#[59]⟩))], none, false⟩] [0, 2, 3, 4, 20])
  (.cond (.tmp 20)
  (.ops [
      ⟨some 21, .mov (.tmp 0), none, false⟩,
      ⟨some 22, .call 54 [(.tmp 21)], none, false⟩] [0, 2, 3, 4])
  .skip))
  (.seq (.seq (.ops [
    ⟨some 23, .mov (.tmp 0), none, false⟩,
    ⟨some 24, .call 49 [(.tmp 23), (.const (.string ⟨#[101, 108, 115, 101]⟩))], none, false⟩] [0, 2, 3, 4, 24])
  (.cond (.tmp 24)
  (.opsD [
      (⟨some 25, .fieldL 3 (.tmp 3), none, false⟩, []),
      (⟨some 26, .loadL false 1 (.tmp 25), none, false⟩, []),
      (⟨some 27, .mov (.tmp 0), none, false⟩, []),
      (⟨some 28, .call 115 [(.tmp 27)], none, false⟩, []),
      (⟨some 29, .buildSlice true 25 4 1 [.str [], .str [], .int .i64 0, .nilSlice] [(0, (.tmp 28))], none, false⟩, []),
      (⟨some 30, .append false 25 4 64 (.tmp 26) (.tmp 29), none, false⟩, []),
      (⟨some 31, .fieldL 3 (.tmp 3), none, false⟩, []),
      (⟨none, .storeL 1 (.tmp 31) (.tmp 30), none, false⟩, [])] [2, 3])
  (.seq (.ops [
      ⟨some 32, .mov (.tmp 0), none, false⟩,
      ⟨some 33, .nilCheck (.tmp 32), none, false⟩,
      ⟨some 34, .fieldAddr 4 (.tmp 33), none, false⟩,
      ⟨some 35, .load false 1 (.tmp 34), none, false⟩,
      ⟨some 36, .bin .eql (.tmp 35) (.const (.int .i64 0)), none, false⟩] [0, 2, 3, 4, 36])
    (.cond (.tmp 36)
    (.ops [
        ⟨some 37, .mov (.tmp 0), none, false⟩,
        ⟨some 38, .mov (.tmp 4), none, false⟩,
        ⟨some 39, .nilCheck (.tmp 37), none, false⟩,
        ⟨some 40, .fieldAddr 1 (.tmp 39), none, false⟩,
        ⟨none, .store 1 (.tmp 40) (.tmp 38), none, false⟩] [2, 3])
    .skip))))
  (.seq (.ops [
    ⟨some 41, .loadL true 4 (.tmp 3), none, false⟩,
    ⟨none, .storeL 4 (.tmp 2) (.tmp 41), none, false⟩] [2])
  .ret))))))))⟩
/-- (*scribe/parse.parser).inside -/
def af114 : AFunc := ⟨2, [.cellL true 4 4],
  (.seq (.ops [
    ⟨some 4, .allocL 0 [.str [], .str [], .int .i64 0, .nilSlice], none, false⟩] [0, 1, 4])
  (.seq (.ops [
    ⟨some 7, .mov (.tmp 0), none, false⟩,
    ⟨some 8, .nilCheck (.tmp 7), none, false⟩,
    ⟨some 9, .fieldAddr 3 (.tmp 8), none, false⟩,
    ⟨some 10, .load false 1 (.tmp 9), none, false⟩,
    ⟨some 5, .mov (.tmp 10), none, false⟩] [0, 1, 4, 5])
  (.seq (.ops [
    ⟨some 11, .mov (.tmp 0), none, false⟩,
    ⟨some 12, .nilCheck (.tmp 11), none, false⟩,
    ⟨some 13, .fieldAddr 3 (.tmp 12), none, false⟩,
    ⟨none, .store 1 (.tmp 13) (.const (.bool false)), none, false⟩] [0, 1, 4, 5])
  (.seq (.ops [
    ⟨some 14, .mov (.tmp 0), none, false⟩,
    ⟨some 15, .call 54 [(.tmp 14)], none, false⟩] [0, 1, 4, 5])
  (.seq (.ops [
    ⟨some 16, .mov (.tmp 0), none, false⟩,
    ⟨some 17, .call 55 [(.tmp 16)], none, false⟩,
    ⟨some 6, .allocL 0 [.str [], .str [], .int .i64 0, .nilSlice], none, false⟩,
    ⟨none, .storeL 4 (.tmp 6) (.tmp 17), none, false⟩] [0, 1, 4, 5, 6])
  (.seq (.ops [
    ⟨some 18, .mov (.tmp 0), none, false⟩,
    ⟨some 19, .call 54 [(.tmp 18)], none, false⟩] [0, 1, 4, 5, 6])
  (.seq (.ops [
    ⟨some 20, .mov (.tmp 0), none, false⟩,
    ⟨some 21, .mov (.tmp 1), none, false⟩,
    ⟨some 22, .call 53 [(.tmp 20), (.tmp 21)], none, false⟩] [0, 4, 5, 6])
  (.seq (.ops [
    ⟨some 23, .mov (.tmp 0), none, false⟩,
    ⟨some 24, .mov (.tmp 5), none, false⟩,
    ⟨some 25, .nilCheck (.tmp 23), none, false⟩,
    ⟨some 26, .fieldAddr 3 (.tmp 25), none, false⟩,
    ⟨none, .store 1 (.tmp 26) (.tmp 24), none, false⟩] [4, 6])
  (.seq (.ops [
    ⟨some 27, .loadL true 4 (.tmp 6), none, false⟩,
    ⟨none, .storeL 4 (.tmp 4) (.tmp 27), none, false⟩] [4])
  .ret)))))))))⟩
/-- (*scribe/parse.parser).body -/
def af115 : AFunc := ⟨1, [.cellL true 4 2],
  (.seq (.ops [
    ⟨some 2, .allocL 0 [.str [], .str [], .int .i64 0, .nilSlice], none, false⟩] [0, 2])
  (.seq (.ops [
    ⟨some 3, .mov (.tmp 0), none, false⟩,
    ⟨some 4, .call 54 [(.tmp 3)], none, false⟩] [0, 2])
  (.seq (.ops [
    ⟨some 5, .mov (.tmp 0), none, false⟩,
    ⟨some 6, .call 88 [(.tmp 5)], none, false⟩,
    ⟨none, .storeL 4 (.tmp 2) (.tmp 6), none, false⟩] [2])
  .ret)))⟩
/-- (*scribe/parse.parser).loop -/
def af116 : AFunc := ⟨1, [.cellL true 4 2],
  (.seq (.ops [
    ⟨some 2, .allocL 0 [.str [], .str [], .int .i64 0, .nilSlice], none, false⟩] [0, 2])
  (.seq (.ops [
    ⟨some 7, .mov (.tmp 0), none, false⟩,
    ⟨some 8, .call 53 [(.tmp 7), (.const (.string ⟨#[40]⟩))], none, false⟩] [0, 2])
  (.seq (.seq (.ops [
    ⟨some 9, .mov (.tmp 0), none, false⟩,
    ⟨some 10, .call 134 [(.tmp 9), (.const (.int .i64 3))], none, false⟩,
    ⟨some 3, .allocL 0 [.int .i64 0, .str [], .int .i64 0], none, false⟩,
    ⟨none, .storeL 3 (.tmp 3) (.tmp 10), none, false⟩] [0, 2, 3])
  (.seq (.ops [
    ⟨some 11, .mov (.tmp 0), none, false⟩,
    ⟨some 12, .call 30 [(.tmp 11)], none, false⟩,
    ⟨some 13, .field false 1 0 (.tmp 12), none, false⟩,
    ⟨some 14, .bin .eql (.tmp 13) (.const (.int .i64 5)), none, false⟩,
    ⟨some 15, .mov (.tmp 14), none, false⟩,
    ⟨some 16, .mov (.tmp 0), some (15, true), false⟩,
    ⟨some 17, .call 134 [(.tmp 16), (.const (.int .i64 1))], some (15, true), false⟩,
    ⟨some 18, .field false 1 0 (.tmp 17), some (15, true), false⟩,
    ⟨some 19, .bin .eql (.tmp 18) (.const (.int .i64 7)), some (15, true), false⟩,
    ⟨some 20, .pick (.tmp 15) (.tmp 19) (.const (.bool false)), none, false⟩,
    ⟨some 21, .mov (.tmp 20), none, false⟩,
    ⟨some 22, .mov (.tmp 0), some (21, true), false⟩,
    ⟨some 23, .call 134 [(.tmp 22), (.const (.int .i64 1))], some (21, true), false⟩,
    ⟨some 24, .field false 1 1 (.tmp 23), some (21, true), false⟩,
    ⟨some 25, .bin .eql (.tmp 24) (.const (.string ⟨#[105, 110]⟩)), some (21, true), false⟩,
    ⟨some 26, .pick (.tmp 21) (.tmp 25) (.const (.bool false)), none, false⟩,
    ⟨some 27, .mov (.tmp 26), none, false⟩,
    ⟨some 28, .mov (.tmp 0), some (27, true), false⟩,
    ⟨some 29, .call 134 [(.tmp 28), (.const (.int .i64 2))], some (27, true), false⟩,
    ⟨some 30, .field false 1 0 (.tmp 29), some (27, true), false⟩,
    ⟨some 31, .bin .eql (.tmp 30) (.const (.int .i64 5)), some (27, true), false⟩,
    ⟨some 32, .pick (.tmp 27) (.tmp 31) (.const (.bool false)), none, false⟩,
    ⟨some 33, .mov (.tmp 32), none, false⟩,
    ⟨some 34, .fieldL 0 (.tmp 3), some (33, true), false⟩,
    ⟨some 35, .loadL false 1 (.tmp 34), some (33, true), false⟩,
    ⟨some 36, .bin .eql (.tmp 35) (.const (.int .i64 8)), some (33, true), false⟩,
    ⟨some 37, .pick (.tmp 33) (.tmp 36) (.const (.bool false)), none, false⟩,
    ⟨some 38, .mov (.tmp 37), none, false⟩,
    ⟨some 39, .fieldL 1 (.tmp 3), some (38, true), false⟩,
    ⟨some 40, .loadL false 1 (.tmp 39), some (38, true), false⟩,
    ⟨some 41, .bin .eql (.tmp 40) (.const (.string ⟨#[41]⟩)), some (38, true), false⟩,
    ⟨some 42, .pick (.tmp 38) (.tmp 41) (.const (.bool false)), none, false⟩] [0, 2, 42])
  (.cond (.tmp 42)
  (.seq (.ops [
      ⟨some 43, .mov (.tmp 0), none, false⟩,
      ⟨some 44, .buildSlice true 3 1 1 [.int .i64 0] [(0, (.const (.int .i64 5)))], none, false⟩,
      ⟨some 45, .call 52 [(.tmp 43), (.tmp 44)], none, false⟩,
      ⟨some 4, .allocL 0 [.int .i64 0, .str [], .int .i64 0], none, false⟩,
      ⟨none, .storeL 3 (.tmp 4) (.tmp 45), none, false⟩] [0, 2, 4])
    (.seq (.ops [
      ⟨some 46, .mov (.tmp 0), none, false⟩,
      ⟨some 47, .call 31 [(.tmp 46)], none, false⟩] [0, 2, 4])
    (.seq (.ops [
      ⟨some 48, .mov (.tmp 0), none, false⟩,
      ⟨some 49, .buildSlice true 3 1 1 [.int .i64 0] [(0, (.const (.int .i64 5)))], none, false⟩,
      ⟨some 50, .call 52 [(.tmp 48), (.tmp 49)], none, false⟩,
      ⟨some 51, .call 51 [(.const (.string ⟨#[110, 97, 109, 101]⟩)), (.tmp 50), (.const (.slice none 0 0))], none, false⟩,
      ⟨some 5, .allocL 0 [.str [], .str [], .int .i64 0, .nilSlice], none, false⟩,
      ⟨none, .storeL 4 (.tmp 5) (.tmp 51), none, false⟩] [0, 2, 4, 5])
    (.seq (.ops [
      ⟨some 52, .mov (.tmp 0), none, false⟩,
      ⟨some 53, .call 31 [(.tmp 52)], none, false⟩] [0, 2, 4, 5])
    (.seq (.opsD [
      (⟨some 54, .loadL true 3 (.tmp 4), none, false⟩, []),
      (⟨some 55, .loadL true 4 (.tmp 5), none, false⟩, []),
      (⟨some 56, .mov (.tmp 0), none, false⟩, []),
      (⟨some 57, .call 115 [(.tmp 56)], none, false⟩, []),
      (⟨some 58, .buildSlice true 25 4 2 [.str [], .str [], .int .i64 0, .nilSlice] [(0, (.tmp 55)), (1, (.tmp 57))], none, false⟩, []),
      (⟨some 59, .call 51 [(.const (.string ⟨#[102, 111, 114, 105, 110]⟩)), (.tmp 54), (.tmp 58)], none, false⟩, []),
      (⟨none, .storeL 4 (.tmp 2) (.tmp 59), none, false⟩, [])] [2])
    .ret)))))
  .skip)))
  (.seq (.ops [
    ⟨some 60, .call 28 [(.const (.string ⟨#[110, 111, 110, 101]⟩)), (.const (.slice none 0 0))], none, false⟩,
    ⟨some 61, .call 28 [(.const (.string ⟨#[110, 111, 110, 101]⟩)), (.const (.slice none 0 0))], none, false⟩,
    ⟨some 62, .call 28 [(.const (.string ⟨#[110, 111, 110, 101]⟩)), (.const (.slice none 0 0))], none, false⟩,
    ⟨some 63, .build [.str [], .str [], .int .i64 0, .nilSlice, .str [], .str [], .int .i64 0, .nilSlice, .str [], .str [], .int .i64 0, .nilSlice] [(0, 4, (.tmp 60)), (4, 4, (.tmp 61)), (8, 4, (.tmp 62))], none, false⟩,
    ⟨some 6, .allocL 0 [.str [], .str [], .int .i64 0, .nilSlice, .str [], .str [], .int .i64 0, .nilSlice, .str [], .str [], .int .i64 0, .nilSlice], none, false⟩,
    ⟨none, .storeL 12 (.tmp 6) (.tmp 63), none, false⟩] [0, 2, 6])
  (.seq (.seq (.ops [
    ⟨some 64, .mov (.tmp 0), none, false⟩,
    ⟨some 65, .buildSlice true 9 1 1 [.str []] [(0, (.const (.string ⟨#[59]⟩)))], none, false⟩,
    ⟨some 66, .call 29 [(.tmp 64), (.tmp 65)], none, false⟩,
    ⟨some 67, .un .not (.tmp 66), none, false⟩] [0, 2, 6, 67])
  (.cond (.tmp 67)
  (.ops [
      ⟨some 68, .mov (.tmp 0), none, false⟩,
      ⟨some 69, .call 117 [(.tmp 68)], none, false⟩,
      ⟨some 70, .idxL 4 3 (.tmp 6) (.const (.int .i64 0)), none, false⟩,
      ⟨none, .storeL 4 (.tmp 70) (.tmp 69), none, false⟩] [0, 2, 6])
  .skip))
  (.seq (.ops [
    ⟨some 71, .mov (.tmp 0), none, false⟩,
    ⟨some 72, .call 53 [(.tmp 71), (.const (.string ⟨#[59]⟩))], none, false⟩] [0, 2, 6])
  (.seq (.ops [
    ⟨some 73, .mov (.tmp 0), none, false⟩,
    ⟨some 74, .call 54 [(.tmp 73)], none, false⟩] [0, 2, 6])
  (.seq (.seq (.ops [
    ⟨some 75, .mov (.tmp 0), none, false⟩,
    ⟨some 76, .buildSlice true 9 1 1 [.str []] [(0, (.const (.string ⟨#[59]⟩)))], none, false⟩,
    ⟨some 77, .call 29 [(.tmp 75), (.tmp 76)], none, false⟩,
    ⟨some 78, .un .not (.tmp 77), none, false⟩] [0, 2, 6, 78])
  (.cond (.tmp 78)
  (.ops [
      ⟨some 79, .mov (.tmp 0), none, false⟩,
      ⟨some 80, .call 55 [(.tmp 79)], none, false⟩,
      ⟨some 81, .idxL 4 3 (.tmp 6) (.const (.int .i64 1)), none, false⟩,
      ⟨none, .storeL 4 (.tmp 81) (.tmp 80), none, false⟩] [0, 2, 6])
  .skip))
  (.seq (.ops [
    ⟨some 82, .mov (.tmp 0), none, false⟩,
    ⟨some 83, .call 53 [(.tmp 82), (.const (.string ⟨#[59]⟩))], none, false⟩] [0, 2, 6])
  (.seq (.ops [
    ⟨some 84, .mov (.tmp 0), none, false⟩,
    ⟨some 85, .call 54 [(.tmp 84)], none, false⟩] [0, 2, 6])
  (.seq (.seq (.ops [
    ⟨some 86, .mov (.tmp 0), none, false⟩,
    ⟨some 87, .buildSlice true 9 1 1 [.str []] [(0, (.const (.string ⟨#[41]⟩)))], none, false⟩,
    ⟨some 88, .call 29 [(.tmp 86), (.tmp 87)], none, false⟩,
    ⟨some 89, .un .not (.tmp 88), none, false⟩] [0, 2, 6, 89])
  (.cond (.tmp 89)
  (.ops [
      ⟨some 90, .mov (.tmp 0), none, false⟩,
      ⟨some 91, .call 117 [(.tmp 90)], none, false⟩,
      ⟨some 92, .idxL 4 3 (.tmp 6) (.const (.int .i64 2)), none, false⟩,
      ⟨none, .storeL 4 (.tmp 92) (.tmp 91), none, false⟩] [0, 2, 6])
  .skip))
  (.seq (.ops [
    ⟨some 93, .mov (.tmp 0), none, false⟩,
    ⟨some 94, .call 53 [(.tmp 93), (.const (.string ⟨#[41]⟩))], none, false⟩] [0, 2, 6])
  (.seq (.opsD [
    (⟨some 95, .idxL 4 3 (.tmp 6) (.const (.int .i64 0)), none, false⟩, []),
    (⟨some 96, .loadL true 4 (.tmp 95), none, false⟩, []),
    (⟨some 97, .idxL 4 3 (.tmp 6) (.const (.int .i64 1)), none, false⟩, []),
    (⟨some 98, .loadL true 4 (.tmp 97), none, false⟩, []),
    (⟨some 99, .idxL 4 3 (.tmp 6) (.const (.int .i64 2)), none, false⟩, []),
    (⟨some 100, .loadL true 4 (.tmp 99), none, false⟩, []),
    (⟨some 101, .mov (.tmp 0), none, false⟩, []),
    (⟨some 102, .call 115 [(.tmp 101)], none, false⟩, []),
    (⟨some 103, .buildSlice true 25 4 4 [.str [], .str [], .int .i64 0, .nilSlice] [(0, (.tmp 96)), (1, (.tmp 98)), (2, (.tmp 100)), (3, (.tmp 102))], none, false⟩, []),
    (⟨some 104, .call 28 [(.const (.string ⟨#[102, 111, 114]⟩)), (.tmp 103)], none, false⟩, []),
    (⟨none, .storeL 4 (.tmp 2) (.tmp 104), none, false⟩, [])] [2])
  .ret)))))))))))))⟩
/-- (*scribe/parse.parser).simple -/
def af117 : AFunc := ⟨1, [.cellL true 4 2],
  (.seq (.ops [
    ⟨some 2, .allocL 0 [.str [], .str [], .int .i64 0, .nilSlice], none, false⟩] [0, 2])
  (.seq (.ops [
    ⟨some 6, .mov (.tmp 0), none, false⟩,
    ⟨some 7, .call 30 [(.tmp 6)], none, false⟩,
    ⟨some 3, .allocL 0 [.int .i64 0, .str [], .int .i64 0], none, false⟩,
    ⟨none, .storeL 3 (.tmp 3) (.tmp 7), none, false⟩] [0, 2, 3])
  (.seq (.seq (.ops [
    ⟨some 8, .fieldL 0 (.tmp 3), none, false⟩,
    ⟨some 9, .loadL false 1 (.tmp 8), none, false⟩,
    ⟨some 10, .bin .neq (.tmp 9) (.const (.int .i64 7)), none, false⟩] [0, 2, 3, 10])
  (.cond (.tmp 10)
  (.seq (.ops [
      ⟨some 11, .mov (.tmp 0), none, false⟩,
      ⟨some 12, .call 55 [(.tmp 11)], none, false⟩,
      ⟨some 13, .buildSlice true 25 4 1 [.str [], .str [], .int .i64 0, .nilSlice] [(0, (.tmp 12))], none, false⟩,
      ⟨some 14, .call 28 [(.const (.string ⟨#[101, 120, 112, 114]⟩)), (.tmp 13)], none, false⟩,
      ⟨none, .storeL 4 (.tmp 2) (.tmp 14), none, false⟩] [2])
    .ret)
  .skip))
  (.seq (.seq (.ops [
    ⟨some 15, .fieldL 1 (.tmp 3), none, false⟩,
    ⟨some 16, .loadL false 1 (.tmp 15), none, false⟩] [0, 2, 3, 16])
  (.block 0
  (.seq (.seq (.ops [
      ⟨some 18, .bin .eql (.tmp 16) (.const (.string ⟨#[98, 114, 101, 97, 107]⟩)), none, false⟩,
      ⟨some 17, .mov (.tmp 18), none, false⟩] [0, 2, 3, 16, 17])
    (.cond (.tmp 17)
    .skip
    (.seq (.ops [
        ⟨some 19, .bin .eql (.tmp 16) (.const (.string ⟨#[99, 111, 110, 116, 105, 110, 117, 101]⟩)), none, false⟩,
        ⟨some 17, .mov (.tmp 19), none, false⟩] [0, 2, 3, 16, 17])
      (.cond (.tmp 17)
      .skip
      (.ops [
          ⟨some 20, .bin .eql (.tmp 16) (.const (.string ⟨#[110, 101, 120, 116]⟩)), none, false⟩,
          ⟨some 17, .mov (.tmp 20), none, false⟩] [0, 2, 3, 16, 17])))))
    (.cond (.tmp 17)
    (.seq (.ops [
        ⟨some 21, .mov (.tmp 0), none, false⟩,
        ⟨some 22, .call 31 [(.tmp 21)], none, false⟩] [2, 3])
      (.seq (.ops [
        ⟨some 23, .fieldL 1 (.tmp 3), none, false⟩,
        ⟨some 24, .loadL false 1 (.tmp 23), none, false⟩,
        ⟨some 25, .fieldL 2 (.tmp 3), none, false⟩,
        ⟨some 26, .loadL false 1 (.tmp 25), none, false⟩,
        ⟨some 27, .build [.str [], .str [], .int .i64 0, .nilSlice] [(0, 1, (.tmp 24)), (2, 1, (.tmp 26))], none, false⟩,
        ⟨none, .storeL 4 (.tmp 2) (.tmp 27), none, false⟩] [2])
      .ret))
    (.seq (.seq (.ops [
        ⟨some 29, .bin .eql (.tmp 16) (.const (.string ⟨#[101, 120, 105, 116]⟩)), none, false⟩,
        ⟨some 28, .mov (.tmp 29), none, false⟩] [0, 2, 3, 16, 28])
      (.cond (.tmp 28)
      .skip
      (.ops [
          ⟨some 30, .bin .eql (.tmp 16) (.const (.string ⟨#[114, 101, 116, 117, 114, 110]⟩)), none, false⟩,
          ⟨some 28, .mov (.tmp 30), none, false⟩] [0, 2, 3, 16, 28])))
      (.cond (.tmp 28)
      (.seq (.ops [
          ⟨some 31, .mov (.tmp 0), none, false⟩,
          ⟨some 32, .call 31 [(.tmp 31)], none, false⟩] [0, 2, 3])
        (.seq (.ops [
          ⟨some 33, .fieldL 1 (.tmp 3), none, false⟩,
          ⟨some 34, .loadL false 1 (.tmp 33), none, false⟩,
          ⟨some 35, .fieldL 2 (.tmp 3), none, false⟩,
          ⟨some 36, .loadL false 1 (.tmp 35), none, false⟩,
          ⟨some 37, .build [.str [], .str [], .int .i64 0, .nilSlice] [(0, 1, (.tmp 34)), (2, 1, (.tmp 36))], none, false⟩,
          ⟨some 4, .allocL 0 [.str [], .str [], .int .i64 0, .nilSlice], none, false⟩,
          ⟨none, .storeL 4 (.tmp 4) (.tmp 37), none, false⟩] [0, 2, 4])
        (.seq (.seq (.ops [
          ⟨some 38, .mov (.tmp 0), none, false⟩,
          ⟨some 39, .call 135 [(.tmp 38)], none, false⟩,
          ⟨some 40, .un .not (.tmp 39), none, false⟩] [0, 2, 4, 40])
        (.cond (.tmp 40)
        (.ops [
            ⟨some 41, .mov (.tmp 0), none, false⟩,
            ⟨some 42, .call 55 [(.tmp 41)], none, false⟩,
            ⟨some 43, .buildSlice true 25 4 1 [.str [], .str [], .int .i64 0, .nilSlice] [(0, (.tmp 42))], none, false⟩,
            ⟨some 44, .fieldL 3 (.tmp 4), none, false⟩,
            ⟨none, .storeL 1 (.tmp 44) (.tmp 43), none, false⟩] [2, 4])
        .skip))
        (.seq (.ops [
          ⟨some 45, .loadL true 4 (.tmp 4), none, false⟩,
          ⟨none, .storeL 4 (.tmp 2) (.tmp 45), none, false⟩] [2])
        .ret))))
      (.seq (.ops [
          ⟨some 47, .bin .eql (.tmp 16) (.const (.string ⟨#[100, 101, 108, 101, 116, 101]⟩)), none, false⟩,
          ⟨some 46, .mov (.tmp 47), none, false⟩] [0, 2, 3, 16, 46])
        (.cond (.tmp 46)
        (.seq (.ops [
            ⟨some 48, .mov (.tmp 0), none, false⟩,
            ⟨some 49, .call 31 [(.tmp 48)], none, false⟩] [0, 2])
          (.seq (.ops [
            ⟨some 50, .mov (.tmp 0), none, false⟩,
            ⟨some 51, .buildSlice true 3 1 1 [.int .i64 0] [(0, (.const (.int .i64 5)))], none, false⟩,
            ⟨some 52, .call 52 [(.tmp 50), (.tmp 51)], none, false⟩,
            ⟨some 5, .allocL 0 [.int .i64 0, .str [], .int .i64 0], none, false⟩,
            ⟨none, .storeL 3 (.tmp 5) (.tmp 52), none, false⟩] [0, 2, 5])
          (.seq (.seq (.ops [
            ⟨some 53, .mov (.tmp 0), none, false⟩,
            ⟨some 54, .call 49 [(.tmp 53), (.const (.string ⟨#[91]⟩))], none, false⟩] [0, 2, 5, 54])
          (.cond (.tmp 54)
          (.seq (.opsD [
              (⟨some 55, .loadL true 3 (.tmp 5), none, false⟩, []),
              (⟨some 56, .mov (.tmp 0), none, false⟩, []),
              (⟨some 57, .call 114 [(.tmp 56), (.const (.string ⟨#[93]⟩))], none, false⟩, []),
              (⟨some 58, .buildSlice true 25 4 1 [.str [], .str [], .int .i64 0, .nilSlice] [(0, (.tmp 57))], none, false⟩, []),
              (⟨some 59, .call 51 [(.const (.string ⟨#[105, 110, 100, 101, 120]⟩)), (.tmp 55), (.tmp 58)], none, false⟩, []),
              (⟨some 60, .buildSlice true 25 4 1 [.str [], .str [], .int .i64 0, .nilSlice] [(0, (.tmp 59))], none, false⟩, []),
              (⟨some 61, .call 28 [(.const (.string ⟨#[100, 101, 108, 101, 116, 101]⟩)), (.tmp 60)], none, false⟩, []),
              (⟨none, .storeL 4 (.tmp 2) (.tmp 61), none, false⟩, [])] [2])
            .ret)
          .skip))
          (.seq (.ops [
            ⟨some 62, .loadL true 3 (.tmp 5), none, false⟩,
            ⟨some 63, .call 51 [(.const (.string ⟨#[110, 97, 109, 101]⟩)), (.tmp 62), (.const (.slice none 0 0))], none, false⟩,
            ⟨some 64, .buildSlice true 25 4 1 [.str [], .str [], .int .i64 0, .nilSlice] [(0, (.tmp 63))], none, false⟩,
            ⟨some 65, .call 28 [(.const (.string ⟨#[100, 101, 108, 101, 116, 101]⟩)), (.tmp 64)], none, false⟩,
            ⟨none, .storeL 4 (.tmp 2) (.tmp 65), none, false⟩] [2])
          .ret))))
        (.seq (.seq (.ops [
            ⟨some 67, .bin .eql (.tmp 16) (.const (.string ⟨#[112, 114, 105, 110, 116]⟩)), none, false⟩,
            ⟨some 66, .mov (.tmp 67), none, false⟩] [0, 2, 3, 16, 66])
          (.cond (.tmp 66)
          .skip
          (.ops [
              ⟨some 68, .bin .eql (.tmp 16) (.const (.string ⟨#[112, 114, 105, 110, 116, 102]⟩)), none, false⟩,
              ⟨some 66, .mov (.tmp 68), none, false⟩] [0, 2, 3, 66])))
          (.cond (.tmp 66)
          (.seq (.ops [
              ⟨some 69, .mov (.tmp 0), none, false⟩,
              ⟨some 70, .call 31 [(.tmp 69)], none, false⟩] [0, 2, 3])
            (.seq (.ops [
              ⟨some 71, .mov (.tmp 0), none, false⟩,
              ⟨some 72, .fieldL 1 (.tmp 3), none, false⟩,
              ⟨some 73, .loadL false 1 (.tmp 72), none, false⟩,
              ⟨some 74, .call 136 [(.tmp 71), (.tmp 73)], none, false⟩,
              ⟨none, .storeL 4 (.tmp 2) (.tmp 74), none, false⟩] [2])
            .ret))
          .skip))))))))))
  (.seq (.ops [
    ⟨some 75, .mov (.tmp 0), none, false⟩,
    ⟨some 76, .call 56 [(.tmp 75)], none, false⟩] [2])
  (.seq (.ops [
    ⟨some 77, .build [.str [], .str [], .int .i64 0, .nilSlice] [], none, false⟩,
    ⟨none, .storeL 4 (.tmp 2) (.tmp 77), none, false⟩] [2])
  .ret))))))⟩
/-- (*scribe/parse.parser).end -/
def af118 : AFunc := ⟨1, [],
  (.block 0
  (.seq (.seq (.ops [
      ⟨some 5, .mov (.tmp 0), none, false⟩,
      ⟨some 6, .call 49 [(.tmp 5), (.const (.string ⟨#[59]⟩))], none, false⟩,
      ⟨some 4, .mov (.tmp 6), none, false⟩] [0, 4])
    (.cond (.tmp 4)
    .skip
    (.ops [
        ⟨some 7, .mov (.tmp 0), none, false⟩,
        ⟨some 8, .buildSlice true 9 1 1 [.str []] [(0, (.const (.string ⟨#[125]⟩)))], none, false⟩,
        ⟨some 9, .call 29 [(.tmp 7), (.tmp 8)], none, false⟩,
        ⟨some 4, .mov (.tmp 9), none, false⟩] [0, 4])))
    (.cond (.tmp 4)
    .skip
    (.seq (.ops [
        ⟨some 11, .mov (.tmp 0), none, false⟩,
        ⟨some 12, .call 30 [(.tmp 11)], none, false⟩,
        ⟨some 13, .field false 1 0 (.tmp 12), none, false⟩,
        ⟨some 14, .bin .eql (.tmp 13) (.const (.int .i64 1)), none, false⟩,
        ⟨some 10, .mov (.tmp 14), none, false⟩] [0, 10])
      (.cond (.tmp 10)
      (.ops [
          ⟨some 15, .mov (.tmp 0), none, false⟩,
          ⟨some 16, .call 31 [(.tmp 15)], none, false⟩] [])
      (.ops [
          ⟨some 2, .mov (.tmp 0), none, false⟩,
          ⟨some 3, .call 56 [(.tmp 2)], none, false⟩] []))))))⟩
/-- slices.Index[[]int,int] -/
def af119 : AFunc := ⟨2, [.tmp 4],
  (.seq (.ops [
    ⟨some 4, .mov (.const (.int .i64 0)), none, false⟩] [0, 1])
  (.seq (.seq (.ops [
    ⟨some 6, .mov (.tmp 0), none, false⟩,
    ⟨some 7, .len .slice (.tmp 6), none, false⟩,
    ⟨some 8, .mov (.const (.int .i64 0)), none, false⟩] [0, 1, 7, 8])
  (.block 0
  (.loop [0, 1, 7, 8]
    (.seq (.ops [
        ⟨some 9, .bin .lss (.tmp 8) (.tmp 7), none, false⟩] [0, 1, 7, 8, 9])
      (.seq (.cond (.tmp 9)
      .skip
      (.exit 0))
      (.seq (.block 1
      (.seq (.ops [
          ⟨some 10, .mov (.tmp 8), none, false⟩,
          ⟨some 5, .mov (.tmp 10), none, false⟩] [0, 1, 5, 7, 8])
        (.seq (.ops [
          ⟨some 11, .mov (.tmp 1), none, false⟩,
          ⟨some 12, .mov (.tmp 0), none, false⟩,
          ⟨some 13, .mov (.tmp 5), none, false⟩,
          ⟨some 14, .indexAddr 1 (.tmp 12) (.tmp 13), none, false⟩,
          ⟨some 15, .load false 1 (.tmp 14), none, false⟩,
          ⟨some 16, .bin .eql (.tmp 11) (.tmp 15), none, false⟩] [0, 1, 5, 7, 8, 16])
        (.cond (.tmp 16)
        (.seq (.ops [
            ⟨some 17, .mov (.tmp 5), none, false⟩,
            ⟨some 4, .mov (.tmp 17), none, false⟩] [4])
          .ret)
        .skip))))
      (.ops [
        ⟨some 18, .bin .add (.tmp 8) (.const (.int .i64 1)), none, false⟩,
        ⟨some 8, .mov (.tmp 18), none, false⟩] [0, 1, 7, 8])))))))
  (.seq (.ops [
    ⟨some 4, .mov (.const (.int .i64 (-1))), none, false⟩] [4])
  .ret)))⟩
/-- (*scribe/parse.parser).chain -/
def af120 : AFunc := ⟨4, [.cellL true 4 8],
  (.seq (.ops [
    ⟨some 8, .allocL 0 [.str [], .str [], .int .i64 0, .nilSlice], none, false⟩] [0, 1, 2, 3, 8])
  (.seq (.ops [
    ⟨some 12, .mov (.tmp 1), none, false⟩,
    ⟨some 13, .callv (.tmp 12) [], none, false⟩,
    ⟨some 9, .allocL 0 [.str [], .str [], .int .i64 0, .nilSlice], none, false⟩,
    ⟨none, .storeL 4 (.tmp 9) (.tmp 13), none, false⟩] [0, 1, 2, 3, 8, 9])
  (.block 0
  (.loop [0, 1, 2, 3, 8, 9]
    (.block 1
      (.seq (.ops [
          ⟨some 14, .mov (.tmp 0), none, false⟩,
          ⟨some 15, .call 30 [(.tmp 14)], none, false⟩,
          ⟨some 10, .allocL 0 [.int .i64 0, .str [], .int .i64 0], none, false⟩,
          ⟨none, .storeL 3 (.tmp 10) (.tmp 15), none, false⟩] [0, 1, 2, 3, 8, 9, 10])
        (.seq (.ops [
          ⟨some 16, .mov (.tmp 3), none, false⟩,
          ⟨some 17, .fieldL 1 (.tmp 10), none, false⟩,
          ⟨some 18, .loadL false 1 (.tmp 17), none, false⟩,
          ⟨some 19, .lookup (.cell .str) (.str []) False (.tmp 16) (.tmp 18), none, false⟩,
          ⟨some 11, .mov (.tmp 19), none, false⟩] [0, 1, 2, 3, 8, 9, 10, 11])
        (.seq (.seq (.ops [
          ⟨some 20, .fieldL 0 (.tmp 10), none, false⟩,
          ⟨some 21, .loadL false 1 (.tmp 20), none, false⟩,
          ⟨some 22, .bin .neq (.tmp 21) (.const (.int .i64 8)), none, false⟩,
          ⟨some 23, .mov (.tmp 22), none, false⟩,
          ⟨some 24, .mov (.tmp 11), some (23, false), false⟩,
          ⟨some 25, .bin .eql (.tmp 24) (.const (.string ⟨#[]⟩)), some (23, false), false⟩,
          ⟨some 26, .pick (.tmp 23) (.const (.bool true)) (.tmp 25), none, false⟩] [0, 1, 2, 3, 8, 9, 11, 26])
        (.cond (.tmp 26)
        (.seq (.ops [
            ⟨some 27, .loadL true 4 (.tmp 9), none, false⟩,
            ⟨none, .storeL 4 (.tmp 8) (.tmp 27), none, false⟩] [8])
          .ret)
        .skip))
        (.seq (.ops [
          ⟨some 28, .mov (.tmp 0), none, false⟩,
          ⟨some 29, .call 31 [(.tmp 28)], none, false⟩] [0, 1, 2, 3, 8, 9, 11])
        (.seq (.seq (.ops [
          ⟨some 30, .mov (.tmp 2), none, false⟩] [0, 1, 2, 3, 8, 9, 11, 30])
        (.cond (.tmp 30)
        (.ops [
            ⟨some 31, .mov (.tmp 0), none, false⟩,
            ⟨some 32, .call 54 [(.tmp 31)], none, false⟩] [0, 1, 2, 3, 8, 9, 11])
        .skip))
        (.opsD [
          (⟨some 33, .mov (.tmp 11), none, false⟩, []),
          (⟨some 34, .loadL true 4 (.tmp 9), none, false⟩, []),
          (⟨some 35, .mov (.tmp 1), none, false⟩, []),
          (⟨some 36, .callv (.tmp 35) [], none, false⟩, []),
          (⟨some 37, .buildSlice true 25 4 2 [.str [], .str [], .int .i64 0, .nilSlice] [(0, (.tmp 34)), (1, (.tmp 36))], none, false⟩, []),
          (⟨some 38, .call 28 [(.tmp 33), (.tmp 37)], none, false⟩, []),
          (⟨none, .storeL 4 (.tmp 9) (.tmp 38), none, false⟩, [])] [0, 1, 2, 3, 8, 9])))))))))))⟩
/-- (*scribe/parse.parser).and -/
def af121 : AFunc := ⟨1, [.cellL true 4 2],
  (.seq (.ops [
    ⟨some 2, .allocL 0 [.str [], .str [], .int .i64 0, .nilSlice], none, false⟩] [0, 2])
  (.seq (.ops [
    ⟨some 3, .mov (.tmp 0), none, false⟩,
    ⟨some 4, .mov (.tmp 0), none, false⟩,
    ⟨some 5, .clos 137 [(.tmp 4)] [], none, false⟩,
    ⟨some 6, .makeMap, none, false⟩,
    ⟨none, .mapUpdate (.cell .str) (.tmp 6) (.const (.string ⟨#[38, 38]⟩)) (.const (.string ⟨#[97, 110, 100]⟩)), none, false⟩,
    ⟨some 7, .mov (.tmp 6), none, false⟩,
    ⟨some 8, .call 120 [(.tmp 3), (.tmp 5), (.const (.bool true)), (.tmp 7)], none, false⟩,
    ⟨none, .storeL 4 (.tmp 2) (.tmp 8), none, false⟩] [2])
  .ret))⟩
/-- (*strings.Builder).copyCheck -/
def af131 : AFunc := ⟨1, [],
  (.seq (.ops [
    ⟨some 2, .mov (.tmp 0), none, false⟩,
    ⟨some 3, .nilCheck (.tmp 2), none, false⟩,
    ⟨some 4, .fieldAddr 0 (.tmp 3), none, false⟩,
    ⟨some 5, .load false 1 (.tmp 4), none, false⟩,
    ⟨some 6, .eqNil .ptr false (.tmp 5) (.const (.pointer none)), none, false⟩] [0, 6])
  (.cond (.tmp 6)
  (.ops [
      ⟨some 7, .mov (.tmp 0), none, false⟩,
      ⟨some 8, .mov (.tmp 0), none, false⟩,
      ⟨some 9, .convPtr 180 2 (.tmp 8), none, false⟩,
      ⟨some 10, .ext 140 [(.tmp 9)], none, false⟩,
      ⟨some 11, .convPtr 180 2 (.tmp 10), none, false⟩,
      ⟨some 12, .nilCheck (.tmp 7), none, false⟩,
      ⟨some 13, .fieldAddr 0 (.tmp 12), none, false⟩,
      ⟨none, .store 1 (.tmp 13) (.tmp 11), none, false⟩] [])
  (.seq (.ops [
      ⟨some 14, .mov (.tmp 0), none, false⟩,
      ⟨some 15, .nilCheck (.tmp 14), none, false⟩,
      ⟨some 16, .fieldAddr 0 (.tmp 15), none, false⟩,
      ⟨some 17, .load false 1 (.tmp 16), none, false⟩,
      ⟨some 18, .mov (.tmp 0), none, false⟩,
      ⟨some 19, .eqNil .ptr true (.tmp 17) (.tmp 18), none, false⟩] [19])
    (.cond (.tmp 19)
    .fail
    .skip))))⟩
/-- (*scribe/parse.parser).ahead -/
def af134 : AFunc := ⟨2, [.cellL true 3 4],
  (.seq (.ops [
    ⟨some 4, .allocL 0 [.int .i64 0, .str [], .int .i64 0], none, false⟩] [0, 1, 4])
  (.seq (.seq (.opsD [
    (⟨some 5, .mov (.tmp 0), none, false⟩, []),
    (⟨some 6, .nilCheck (.tmp 5), none, false⟩, []),
    (⟨some 7, .fieldAddr 4 (.tmp 6), none, false⟩, []),
    (⟨some 8, .load false 1 (.tmp 7), none, false⟩, []),
    (⟨some 9, .bin .neq (.tmp 8) (.const (.int .i64 0)), none, false⟩, []),
    (⟨some 10, .mov (.tmp 9), none, false⟩, []),
    (⟨some 11, .mov (.tmp 0), some (10, false), false⟩, []),
    (⟨some 12, .nilCheck (.tmp 11), some (10, false), false⟩, []),
    (⟨some 13, .fieldAddr 1 (.tmp 12), some (10, false), false⟩, []),
    (⟨some 14, .load false 1 (.tmp 13), some (10, false), false⟩, []),
    (⟨some 15, .mov (.tmp 1), some (10, false), false⟩, []),
    (⟨some 16, .bin .add (.tmp 14) (.tmp 15), some (10, false), false⟩, []),
    (⟨some 17, .mov (.tmp 0), some (10, false), false⟩, []),
    (⟨some 18, .nilCheck (.tmp 17), some (10, false), false⟩, []),
    (⟨some 19, .fieldAddr 0 (.tmp 18), some (10, false), false⟩, []),
    (⟨some 20, .load false 1 (.tmp 19), some (10, false), false⟩, []),
    (⟨some 21, .len .slice (.tmp 20), some (10, false), false⟩, []),
    (⟨some 22, .bin .geq (.tmp 16) (.tmp 21), some (10, false), false⟩, []),
    (⟨some 23, .pick (.tmp 10) (.const (.bool true)) (.tmp 22), none, false⟩, [])] [0, 1, 4, 23])
  (.cond (.tmp 23)
  (.seq (.ops [
      ⟨some 24, .build [.int .i64 0, .str [], .int .i64 0] [], none, false⟩,
      ⟨none, .storeL 3 (.tmp 4) (.tmp 24), none, false⟩] [4])
    .ret)
  .skip))
  (.seq (.opsD [
    (⟨some 25, .mov (.tmp 0), none, false⟩, []),
    (⟨some 26, .nilCheck (.tmp 25), none, false⟩, []),
    (⟨some 27, .fieldAddr 0 (.tmp 26), none, false⟩, []),
    (⟨some 28, .load false 1 (.tmp 27), none, false⟩, []),
    (⟨some 29, .mov (.tmp 0), none, false⟩, []),
    (⟨some 30, .nilCheck (.tmp 29), none, false⟩, []),
    (⟨some 31, .fieldAddr 1 (.tmp 30), none, false⟩, []),
    (⟨some 32, .load false 1 (.tmp 31), none, false⟩, []),
    (⟨some 33, .mov (.tmp 1), none, false⟩, []),
    (⟨some 34, .bin .add (.tmp 32) (.tmp 33), none, false⟩, []),
    (⟨some 35, .indexAddr 3 (.tmp 28) (.tmp 34), none, false⟩, []),
    (⟨some 36, .load true 3 (.tmp 35), none, false⟩, []),
    (⟨none, .storeL 3 (.tmp 4) (.tmp 36), none, false⟩, [])] [4])
  .ret)))⟩
/-- (*scribe/parse.parser).over -/
def af135 : AFunc := ⟨1, [.tmp 2],
  (.seq (.ops [
    ⟨some 2, .mov (.const (.bool false)), none, false⟩] [0])
  (.seq (.ops [
    ⟨some 3, .mov (.tmp 0), none, false⟩,
    ⟨some 4, .buildSlice true 9 1 3 [.str []] [(0, (.const (.string ⟨#[59]⟩))), (1, (.const (.string ⟨#[125]⟩))), (2, (.const (.string ⟨#[41]⟩)))], none, false⟩,
    ⟨some 5, .call 29 [(.tmp 3), (.tmp 4)], none, false⟩,
    ⟨some 6, .mov (.tmp 5), none, false⟩,
    ⟨some 7, .mov (.tmp 0), some (6, false), false⟩,
    ⟨some 8, .call 30 [(.tmp 7)], some (6, false), false⟩,
    ⟨some 9, .field false 1 0 (.tmp 8), some (6, false), false⟩,
    ⟨some 10, .bin .eql (.tmp 9) (.const (.int .i64 1)), some (6, false), false⟩,
    ⟨some 11, .pick (.tmp 6) (.const (.bool true)) (.tmp 10), none, false⟩,
    ⟨some 12, .mov (.tmp 11), none, false⟩,
    ⟨some 13, .mov (.tmp 0), some (12, false), false⟩,
    ⟨some 14, .call 30 [(.tmp 13)], some (12, false), false⟩,
    ⟨some 15, .field false 1 0 (.tmp 14), some (12, false), false⟩,
    ⟨some 16, .bin .eql (.tmp 15) (.const (.int .i64 0)), some (12, false), false⟩,
    ⟨some 17, .pick (.tmp 12) (.const (.bool true)) (.tmp 16), none, false⟩,
    ⟨some 2, .mov (.tmp 17), none, false⟩] [2])
  .ret))⟩
/-- (*scribe/parse.parser).output -/
def af136 : AFunc := ⟨2, [.cellL true 4 4],
  (.seq (.ops [
    ⟨some 4, .allocL 0 [.str [], .str [], .int .i64 0, .nilSlice], none, false⟩] [0, 1, 4])
  (.seq (.ops [
    ⟨some 9, .mov (.tmp 0), none, false⟩,
    ⟨some 10, .nilCheck (.tmp 9), none, false⟩,
    ⟨some 11, .fieldAddr 3 (.tmp 10), none, false⟩,
    ⟨none, .store 1 (.tmp 11) (.const (.bool true)), none, false⟩] [0, 1, 4])
  (.seq (.ops [
    ⟨some 5, .mov (.const (.slice none 0 0)), none, false⟩] [0, 1, 4, 5])
  (.seq (.seq (.ops [
    ⟨some 12, .mov (.tmp 0), none, false⟩,
    ⟨some 13, .call 143 [(.tmp 12)], none, false⟩] [0, 1, 4, 5, 13])
  (.cond (.tmp 13)
  (.seq (.ops [
      ⟨some 14, .mov (.tmp 0), none, false⟩,
      ⟨some 15, .call 31 [(.tmp 14)], none, false⟩] [0, 1, 4])
    (.ops [
      ⟨some 16, .mov (.tmp 0), none, false⟩,
      ⟨some 17, .call 144 [(.tmp 16), (.const (.string ⟨#[41]⟩))], none, false⟩,
      ⟨some 5, .mov (.tmp 17), none, false⟩] [0, 1, 4, 5]))
  (.block 0
    (.loop [0, 1, 4, 5]
      (.seq (.seq (.ops [
          ⟨some 18, .mov (.tmp 0), none, false⟩,
          ⟨some 19, .nilCheck (.tmp 18), none, false⟩,
          ⟨some 20, .fieldAddr 4 (.tmp 19), none, false⟩,
          ⟨some 21, .load false 1 (.tmp 20), none, false⟩,
          ⟨some 22, .bin .eql (.tmp 21) (.const (.int .i64 0)), none, false⟩,
          ⟨some 23, .mov (.tmp 22), none, false⟩,
          ⟨some 24, .mov (.tmp 0), some (23, true), false⟩,
          ⟨some 25, .call 135 [(.tmp 24)], some (23, true), false⟩,
          ⟨some 26, .un .not (.tmp 25), some (23, true), false⟩,
          ⟨some 27, .pick (.tmp 23) (.tmp 26) (.const (.bool false)), none, false⟩,
          ⟨some 28, .mov (.tmp 27), none, false⟩,
          ⟨some 29, .mov (.tmp 0), some (28, true), false⟩,
          ⟨some 30, .buildSlice true 9 1 2 [.str []] [(0, (.const (.string ⟨#[62]⟩))), (1, (.const (.string ⟨#[62, 62]⟩)))], some (28, true), false⟩,
          ⟨some 31, .call 29 [(.tmp 29), (.tmp 30)], some (28, true), false⟩,
          ⟨some 32, .un .not (.tmp 31), some (28, true), false⟩,
          ⟨some 33, .pick (.tmp 28) (.tmp 32) (.const (.bool false)), none, false⟩] [0, 1, 4, 5, 33])
        (.cond (.tmp 33)
        .skip
        (.exit 0)))
        (.block 1
        (.seq (.seq (.ops [
            ⟨some 34, .mov (.tmp 5), none, false⟩,
            ⟨some 35, .len .slice (.tmp 34), none, false⟩,
            ⟨some 36, .bin .gtr (.tmp 35) (.const (.int .i64 0)), none, false⟩] [0, 1, 4, 5, 36])
          (.cond (.tmp 36)
          (.seq (.ops [
              ⟨some 37, .mov (.tmp 0), none, false⟩,
              ⟨some 38, .call 53 [(.tmp 37), (.const (.string ⟨#[44]⟩))], none, false⟩] [0, 1, 4, 5])
            (.ops [
              ⟨some 39, .mov (.tmp 0), none, false⟩,
              ⟨some 40, .call 54 [(.tmp 39)], none, false⟩] [0, 1, 4, 5]))
          .skip))
          (.ops [
            ⟨some 41, .mov (.tmp 5), none, false⟩,
            ⟨some 42, .mov (.tmp 0), none, false⟩,
            ⟨some 43, .call 55 [(.tmp 42)], none, false⟩,
            ⟨some 44, .buildSlice true 25 4 1 [.str [], .str [], .int .i64 0, .nilSlice] [(0, (.tmp 43))], none, false⟩,
            ⟨some 45, .append false 25 4 64 (.tmp 41) (.tmp 44), none, false⟩,
            ⟨some 5, .mov (.tmp 45), none, false⟩] [0, 1, 4, 5]))))))))
  (.seq (.ops [
    ⟨some 46, .call 28 [(.const (.string ⟨#[110, 111, 110, 101]⟩)), (.const (.slice none 0 0))], none, false⟩,
    ⟨some 6, .allocL 0 [.str [], .str [], .int .i64 0, .nilSlice], none, false⟩,
    ⟨none, .storeL 4 (.tmp 6) (.tmp 46), none, false⟩] [0, 1, 4, 5, 6])
  (.seq (.seq (.ops [
    ⟨some 47, .makeMap, none, false⟩,
    ⟨none, .mapUpdate (.cell .str) (.tmp 47) (.const (.string ⟨#[62]⟩)) (.const (.string ⟨#[116, 111]⟩)), none, false⟩,
    ⟨none, .mapUpdate (.cell .str) (.tmp 47) (.const (.string ⟨#[62, 62]⟩)) (.const (.string ⟨#[97, 112, 112, 101, 110, 100]⟩)), none, false⟩,
    ⟨some 48, .mov (.tmp 47), none, false⟩,
    ⟨some 49, .range (.tmp 48), none, false⟩] [0, 1, 4, 5, 6, 49])
  (.mblock 2 49 100 [0, 1, 4, 5, 6]
  (.loop [0, 1, 4, 5, 6, 49]
    (.seq (.ops [
        ⟨some 50, .next (.tmp 49), none, false⟩,
        ⟨some 51, .extract (.tmp 50) 0, none, false⟩] [0, 1, 4, 5, 6, 49, 51])
      (.seq (.cond (.tmp 51)
      .skip
      (.exit 2))
      (.block 3
      (.seq (.ops [
          ⟨some 52, .entry (.tmp 49), none, false⟩,
          ⟨some 53, .extract (.tmp 52) 0, none, false⟩,
          ⟨some 54, .extract (.tmp 52) 1, none, false⟩,
          ⟨some 7, .mov (.tmp 53), none, false⟩,
          ⟨some 8, .mov (.tmp 54), none, false⟩] [0, 1, 4, 5, 6, 7, 8, 49])
        (.seq (.ops [
          ⟨some 55, .mov (.tmp 0), none, false⟩,
          ⟨some 56, .mov (.tmp 7), none, false⟩,
          ⟨some 57, .call 49 [(.tmp 55), (.tmp 56)], none, false⟩] [0, 1, 4, 5, 6, 8, 49, 57])
        (.cond (.tmp 57)
        (.seq (.ops [
            ⟨some 58, .mov (.tmp 8), none, false⟩,
            ⟨some 59, .mov (.tmp 0), none, false⟩,
            ⟨some 60, .call 145 [(.tmp 59)], none, false⟩,
            ⟨some 61, .buildSlice true 25 4 1 [.str [], .str [], .int .i64 0, .nilSlice] [(0, (.tmp 60))], none, false⟩,
            ⟨some 62, .call 28 [(.tmp 58), (.tmp 61)], none, false⟩,
            ⟨none, .storeL 4 (.tmp 6) (.tmp 62), none, false⟩] [0, 1, 4, 5, 6])
          (.exit 2))
        .skip)))))))))
  (.seq (.ops [
    ⟨some 63, .mov (.tmp 0), none, false⟩,
    ⟨some 64, .nilCheck (.tmp 63), none, false⟩,
    ⟨some 65, .fieldAddr 3 (.tmp 64), none, false⟩,
    ⟨none, .store 1 (.tmp 65) (.const (.bool false)), none, false⟩] [0, 1, 4, 5, 6])
  (.seq (.seq (.ops [
    ⟨some 66, .mov (.tmp 1), none, false⟩,
    ⟨some 67, .bin .eql (.tmp 66) (.const (.string ⟨#[112, 114, 105, 110, 116, 102]⟩)), none, false⟩,
    ⟨some 68, .mov (.tmp 67), none, false⟩,
    ⟨some 69, .mov (.tmp 5), some (68, true), false⟩,
    ⟨some 70, .len .slice (.tmp 69), some (68, true), false⟩,
    ⟨some 71, .bin .eql (.tmp 70) (.const (.int .i64 0)), some (68, true), false⟩,
    ⟨some 72, .pick (.tmp 68) (.tmp 71) (.const (.bool false)), none, false⟩] [0, 1, 4, 5, 6, 72])
  (.cond (.tmp 72)
  (.ops [
      ⟨some 73, .mov (.tmp 0), none, false⟩,
      ⟨some 74, .call 56 [(.tmp 73)], none, false⟩] [1, 4, 5, 6])
  .skip))
  (.seq (.ops [
    ⟨some 75, .mov (.tmp 1), none, false⟩,
    ⟨some 76, .loadL true 4 (.tmp 6), none, false⟩,
    ⟨some 77, .buildSlice true 25 4 1 [.str [], .str [], .int .i64 0, .nilSlice] [(0, (.tmp 76))], none, false⟩,
    ⟨some 78, .mov (.tmp 5), none, false⟩,
    ⟨some 79, .append false 25 4 64 (.tmp 77) (.tmp 78), none, false⟩,
    ⟨some 80, .call 28 [(.tmp 75), (.tmp 79)], none, false⟩,
    ⟨none, .storeL 4 (.tmp 4) (.tmp 80), none, false⟩] [4])
  .ret)))))))))⟩
end Go.Proofs.YtjbkcboklccmeaaGreatDoor.Abs.R2
