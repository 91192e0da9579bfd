/-
  Functions of the program as abstract code: printed by a program of mine.
-/
import Derived.Test.YtjbkcboklccmeaaGreatDoorGa
set_option linter.unusedVariables false
set_option linter.unusedSimpArgs false
set_option maxRecDepth 100000
namespace Go.Proofs.YtjbkcboklccmeaaGreatDoor.Abs.R1
/-- scribe/scribelaw14.ResolveTold -/
def af3 : AFunc := ⟨1, [.cellH false 1 2],
  (.seq (.ops [
    ⟨some 2, .allocH 4 [.bool false], none, false⟩] [0, 2])
  (.seq (.ops [
    ⟨some 13, .mov (.tmp 0), none, false⟩,
    ⟨some 14, .call 10 [(.tmp 13), (.const (.int .i64 400))], none, false⟩,
    ⟨some 0, .mov (.tmp 14), none, false⟩] [0, 2])
  (.seq (.ops [
    ⟨some 16, .mov (.tmp 0), none, false⟩,
    ⟨some 17, .call 11 [(.tmp 16)], none, false⟩,
    ⟨some 15, .mov (.tmp 17), none, false⟩,
    ⟨some 18, .extract (.tmp 15) 0, none, false⟩,
    ⟨some 19, .extract (.tmp 15) 1, none, false⟩,
    ⟨some 20, .extract (.tmp 15) 2, none, false⟩,
    ⟨some 3, .allocL 0 [.str [], .str [], .int .i64 0, .nilSlice], none, false⟩,
    ⟨none, .storeL 4 (.tmp 3) (.tmp 18), none, false⟩,
    ⟨some 4, .mov (.tmp 19), none, false⟩,
    ⟨some 5, .mov (.tmp 20), none, false⟩] [2, 3, 5])
  (.seq (.seq (.ops [
    ⟨some 21, .mov (.tmp 5), none, false⟩,
    ⟨some 22, .bin .neq (.tmp 21) (.const (.int .i64 0)), none, false⟩] [2, 3, 22])
  (.cond (.tmp 22)
  (.seq (.ops [
      ⟨some 23, .call 12 [], none, false⟩,
      ⟨none, .store 1 (.tmp 2) (.tmp 23), none, false⟩] [2])
    .ret)
  .skip))
  (.seq (.ops [
    ⟨some 25, .loadL true 4 (.tmp 3), none, false⟩,
    ⟨some 26, .call 13 [(.tmp 25)], none, false⟩,
    ⟨some 24, .mov (.tmp 26), none, false⟩,
    ⟨some 27, .extract (.tmp 24) 0, none, false⟩,
    ⟨some 28, .extract (.tmp 24) 1, none, false⟩,
    ⟨some 29, .extract (.tmp 24) 2, none, false⟩,
    ⟨some 6, .allocH 30 [.nil], none, false⟩,
    ⟨some 7, .allocH 3 [.int .i64 0], none, false⟩,
    ⟨some 8, .allocH 26 [.int .i64 0], none, false⟩,
    ⟨none, .store 1 (.tmp 6) (.tmp 27), none, false⟩,
    ⟨none, .store 1 (.tmp 7) (.tmp 28), none, false⟩,
    ⟨none, .store 1 (.tmp 8) (.tmp 29), none, false⟩] [2, 3, 6, 7, 8])
  (.seq (.seq (.ops [
    ⟨some 30, .load false 1 (.tmp 8), none, false⟩,
    ⟨some 31, .bin .neq (.tmp 30) (.const (.int .i64 0)), none, false⟩] [2, 3, 6, 7, 8, 31])
  (.cond (.tmp 31)
  (.seq (.seq (.ops [
      ⟨some 32, .loadL true 4 (.tmp 3), none, false⟩,
      ⟨some 33, .call 14 [(.tmp 32)], none, false⟩] [2, 6, 7, 8, 33])
    (.block 0
    (.rangeFunc (.tmp 33) [34, 35]
      (.ops [
          ⟨some 10, .allocL 0 [.str [], .str [], .int .i64 0, .nilSlice], none, false⟩,
          ⟨none, .storeL 4 (.tmp 10) (.tmp 35), none, false⟩] [2, 6, 7, 8, 10])
      (.block 1
        (.seq (.ops [
            ⟨some 36, .fieldL 2 (.tmp 10), none, false⟩,
            ⟨some 37, .loadL false 1 (.tmp 36), none, false⟩,
            ⟨some 38, .load false 1 (.tmp 7), none, false⟩,
            ⟨some 39, .bin .eql (.tmp 37) (.tmp 38), none, false⟩,
            ⟨some 40, .mov (.tmp 39), none, false⟩,
            ⟨some 41, .load false 1 (.tmp 8), some (40, true), false⟩,
            ⟨some 42, .bin .eql (.tmp 41) (.const (.int .i64 11)), some (40, true), false⟩,
            ⟨some 43, .mov (.tmp 42), some (40, true), false⟩,
            ⟨some 44, .fieldL 1 (.tmp 10), some (43, true), false⟩,
            ⟨some 45, .loadL false 1 (.tmp 44), some (43, true), false⟩,
            ⟨some 46, .bin .neq (.tmp 45) (.const (.string ⟨#[]⟩)), some (43, true), false⟩,
            ⟨some 47, .pick (.tmp 43) (.tmp 46) (.const (.bool false)), some (40, true), false⟩,
            ⟨some 48, .mov (.tmp 47), some (40, true), false⟩,
            ⟨some 49, .load false 1 (.tmp 8), some (48, false), false⟩,
            ⟨some 50, .bin .eql (.tmp 49) (.const (.int .i64 9)), some (48, false), false⟩,
            ⟨some 51, .mov (.tmp 50), some (48, false), false⟩,
            ⟨some 52, .fieldL 1 (.tmp 10), some (51, true), false⟩,
            ⟨some 53, .loadL false 1 (.tmp 52), some (51, true), false⟩,
            ⟨some 54, .bin .eql (.tmp 53) (.const (.string ⟨#[]⟩)), some (51, true), false⟩,
            ⟨some 55, .pick (.tmp 51) (.tmp 54) (.const (.bool false)), some (48, false), false⟩,
            ⟨some 56, .pick (.tmp 48) (.const (.bool true)) (.tmp 55), some (40, true), false⟩,
            ⟨some 57, .pick (.tmp 40) (.tmp 56) (.const (.bool false)), none, false⟩] [2, 6, 57])
          (.cond (.tmp 57)
          (.seq (.ops [
              ⟨some 58, .call 12 [], none, false⟩,
              ⟨some 59, .mov (.tmp 58), none, false⟩,
              ⟨some 60, .load false 1 (.tmp 6), some (59, true), false⟩,
              ⟨some 61, .eqNil .ptr false (.tmp 60) (.const (.pointer none)), some (59, true), false⟩,
              ⟨some 62, .pick (.tmp 59) (.tmp 61) (.const (.bool false)), none, false⟩,
              ⟨none, .store 1 (.tmp 2) (.tmp 62), none, false⟩] [])
            .ret)
          .skip))) [2, 6, 7, 8])))
    (.seq (.ops [
      ⟨none, .store 1 (.tmp 2) (.const (.bool false)), none, false⟩] [2])
    .ret))
  .skip))
  (.seq (.seq (.opsD [
    (⟨some 63, .load false 1 (.tmp 6), none, false⟩, []),
    (⟨some 64, .eqNil .ptr false (.tmp 63) (.const (.pointer none)), none, false⟩, []),
    (⟨some 65, .mov (.tmp 64), none, false⟩, []),
    (⟨some 66, .load false 1 (.tmp 6), some (65, false), false⟩, []),
    (⟨some 67, .nilCheck (.tmp 66), some (65, false), false⟩, []),
    (⟨some 68, .fieldAddr 1 (.tmp 67), some (65, false), false⟩, []),
    (⟨some 69, .load false 1 (.tmp 68), some (65, false), false⟩, []),
    (⟨some 70, .len .slice (.tmp 69), some (65, false), false⟩, []),
    (⟨some 71, .load false 1 (.tmp 6), some (65, false), false⟩, []),
    (⟨some 72, .nilCheck (.tmp 71), some (65, false), false⟩, []),
    (⟨some 73, .fieldAddr 2 (.tmp 72), some (65, false), false⟩, []),
    (⟨some 74, .load false 1 (.tmp 73), some (65, false), false⟩, []),
    (⟨some 75, .len .slice (.tmp 74), some (65, false), false⟩, []),
    (⟨some 76, .bin .neq (.tmp 70) (.tmp 75), some (65, false), false⟩, []),
    (⟨some 77, .pick (.tmp 65) (.const (.bool true)) (.tmp 76), none, false⟩, [])] [2, 6, 77])
  (.cond (.tmp 77)
  (.seq (.ops [
      ⟨none, .store 1 (.tmp 2) (.const (.bool false)), none, false⟩] [2])
    .ret)
  .skip))
  (.seq (.seq (.ops [
    ⟨some 78, .load false 1 (.tmp 6), none, false⟩,
    ⟨some 79, .nilCheck (.tmp 78), none, false⟩,
    ⟨some 80, .fieldAddr 1 (.tmp 79), none, false⟩,
    ⟨some 81, .load false 1 (.tmp 80), none, false⟩,
    ⟨some 82, .len .slice (.tmp 81), none, false⟩,
    ⟨some 83, .mov (.const (.int .i64 0)), none, false⟩] [2, 6, 82, 83])
  (.block 2
  (.loop [2, 6, 82, 83]
    (.seq (.ops [
        ⟨some 84, .bin .lss (.tmp 83) (.tmp 82), none, false⟩] [2, 6, 82, 83, 84])
      (.seq (.cond (.tmp 84)
      .skip
      (.exit 2))
      (.seq (.block 3
      (.seq (.ops [
          ⟨some 85, .mov (.tmp 83), none, false⟩,
          ⟨some 11, .mov (.tmp 85), none, false⟩] [2, 6, 11, 82, 83])
        (.seq (.ops [
          ⟨some 86, .load false 1 (.tmp 6), none, false⟩,
          ⟨some 87, .nilCheck (.tmp 86), none, false⟩,
          ⟨some 88, .fieldAddr 1 (.tmp 87), none, false⟩,
          ⟨some 89, .load false 1 (.tmp 88), none, false⟩,
          ⟨some 90, .mov (.tmp 11), none, false⟩,
          ⟨some 91, .slice 1 (.tmp 89) none (some (.tmp 90)), none, false⟩,
          ⟨some 92, .len .slice (.tmp 91), none, false⟩,
          ⟨some 93, .mov (.const (.int .i64 0)), none, false⟩] [2, 6, 11, 82, 83, 92, 93])
        (.block 4
        (.loop [2, 6, 11, 82, 83, 92, 93]
          (.seq (.ops [
              ⟨some 94, .bin .lss (.tmp 93) (.tmp 92), none, false⟩] [2, 6, 11, 82, 83, 92, 93, 94])
            (.seq (.cond (.tmp 94)
            .skip
            (.exit 4))
            (.seq (.block 5
            (.seq (.ops [
                ⟨some 95, .mov (.tmp 93), none, false⟩,
                ⟨some 12, .mov (.tmp 95), none, false⟩] [2, 6, 11, 12, 82, 83, 92, 93])
              (.seq (.opsD [
                (⟨some 96, .load false 1 (.tmp 6), none, false⟩, []),
                (⟨some 97, .nilCheck (.tmp 96), none, false⟩, []),
                (⟨some 98, .fieldAddr 1 (.tmp 97), none, false⟩, []),
                (⟨some 99, .load false 1 (.tmp 98), none, false⟩, []),
                (⟨some 100, .mov (.tmp 11), none, false⟩, []),
                (⟨some 101, .indexAddr 1 (.tmp 99) (.tmp 100), none, false⟩, []),
                (⟨some 102, .load false 1 (.tmp 101), none, false⟩, []),
                (⟨some 103, .load false 1 (.tmp 6), none, false⟩, []),
                (⟨some 104, .nilCheck (.tmp 103), none, false⟩, []),
                (⟨some 105, .fieldAddr 1 (.tmp 104), none, false⟩, []),
                (⟨some 106, .load false 1 (.tmp 105), none, false⟩, []),
                (⟨some 107, .mov (.tmp 12), none, false⟩, []),
                (⟨some 108, .indexAddr 1 (.tmp 106) (.tmp 107), none, false⟩, []),
                (⟨some 109, .load false 1 (.tmp 108), none, false⟩, []),
                (⟨some 110, .bin .eql (.tmp 102) (.tmp 109), none, false⟩, [])] [2, 6, 11, 82, 83, 92, 93, 110])
              (.cond (.tmp 110)
              (.seq (.ops [
                  ⟨none, .store 1 (.tmp 2) (.const (.bool false)), none, false⟩] [2])
                .ret)
              .skip))))
            (.ops [
              ⟨some 111, .bin .add (.tmp 93) (.const (.int .i64 1)), none, false⟩,
              ⟨some 93, .mov (.tmp 111), none, false⟩] [2, 6, 11, 82, 83, 92, 93])))))))))
      (.ops [
        ⟨some 112, .bin .add (.tmp 83) (.const (.int .i64 1)), none, false⟩,
        ⟨some 83, .mov (.tmp 112), none, false⟩] [2, 6, 82, 83])))))))
  (.seq (.ops [
    ⟨some 113, .call 12 [], none, false⟩,
    ⟨none, .store 1 (.tmp 2) (.tmp 113), none, false⟩] [2])
  .ret)))))))))⟩
/-- scribe/scribelaw14.ResolveTwice -/
def af4 : AFunc := ⟨1, [.tmp 2],
  (.seq (.ops [
    ⟨some 2, .mov (.const (.bool false)), none, false⟩] [0])
  (.seq (.ops [
    ⟨some 15, .mov (.tmp 0), none, false⟩,
    ⟨some 16, .call 10 [(.tmp 15), (.const (.int .i64 300))], none, false⟩,
    ⟨some 0, .mov (.tmp 16), none, false⟩] [0])
  (.seq (.ops [
    ⟨some 18, .mov (.tmp 0), none, false⟩,
    ⟨some 19, .call 11 [(.tmp 18)], none, false⟩,
    ⟨some 17, .mov (.tmp 19), none, false⟩,
    ⟨some 20, .extract (.tmp 17) 0, none, false⟩,
    ⟨some 21, .extract (.tmp 17) 1, none, false⟩,
    ⟨some 22, .extract (.tmp 17) 2, none, false⟩,
    ⟨some 3, .allocL 0 [.str [], .str [], .int .i64 0, .nilSlice], none, false⟩,
    ⟨none, .storeL 4 (.tmp 3) (.tmp 20), none, false⟩,
    ⟨some 4, .mov (.tmp 21), none, false⟩,
    ⟨some 5, .mov (.tmp 22), none, false⟩] [3, 5])
  (.seq (.seq (.ops [
    ⟨some 23, .mov (.tmp 5), none, false⟩,
    ⟨some 24, .bin .neq (.tmp 23) (.const (.int .i64 0)), none, false⟩] [3, 24])
  (.cond (.tmp 24)
  (.seq (.ops [
      ⟨some 25, .call 12 [], none, false⟩,
      ⟨some 2, .mov (.tmp 25), none, false⟩] [2])
    .ret)
  .skip))
  (.seq (.ops [
    ⟨some 26, .buildSlice true 25 4 0 [.str [], .str [], .int .i64 0, .nilSlice] [], none, false⟩,
    ⟨some 27, .fieldL 3 (.tmp 3), none, false⟩,
    ⟨some 28, .loadL false 1 (.tmp 27), none, false⟩,
    ⟨some 29, .append false 25 4 64 (.tmp 26) (.tmp 28), none, false⟩,
    ⟨some 30, .build [.str [], .str [], .int .i64 0, .nilSlice] [(0, 1, (.const (.string ⟨#[112, 114, 111, 103, 114, 97, 109]⟩))), (3, 1, (.tmp 29))], none, false⟩,
    ⟨some 6, .allocL 0 [.str [], .str [], .int .i64 0, .nilSlice], none, false⟩,
    ⟨none, .storeL 4 (.tmp 6) (.tmp 30), none, false⟩] [3, 6])
  (.seq (.seq (.ops [
    ⟨some 31, .fieldL 3 (.tmp 3), none, false⟩,
    ⟨some 32, .loadL false 1 (.tmp 31), none, false⟩,
    ⟨some 33, .len .slice (.tmp 32), none, false⟩,
    ⟨some 34, .mov (.const (.int .i64 0)), none, false⟩] [3, 6, 32, 33, 34])
  (.block 0
  (.loop [3, 6, 32, 33, 34]
    (.seq (.ops [
        ⟨some 35, .bin .lss (.tmp 34) (.tmp 33), none, false⟩] [3, 6, 32, 33, 34, 35])
      (.seq (.cond (.tmp 35)
      .skip
      (.exit 0))
      (.seq (.block 1
      (.seq (.ops [
          ⟨some 36, .indexAddr 4 (.tmp 32) (.tmp 34), none, false⟩,
          ⟨some 37, .load true 4 (.tmp 36), none, false⟩,
          ⟨some 8, .allocL 0 [.str [], .str [], .int .i64 0, .nilSlice], none, false⟩,
          ⟨none, .storeL 4 (.tmp 8) (.tmp 37), none, false⟩] [3, 6, 8, 32, 33, 34])
        (.seq (.ops [
          ⟨some 38, .fieldL 0 (.tmp 8), none, false⟩,
          ⟨some 39, .loadL false 1 (.tmp 38), none, false⟩,
          ⟨some 40, .bin .neq (.tmp 39) (.const (.string ⟨#[102, 117, 110, 99]⟩)), none, false⟩] [3, 6, 8, 32, 33, 34, 40])
        (.cond (.tmp 40)
        (.ops [
            ⟨some 41, .fieldL 3 (.tmp 6), none, false⟩,
            ⟨some 42, .loadL false 1 (.tmp 41), none, false⟩,
            ⟨some 43, .loadL true 4 (.tmp 8), none, false⟩,
            ⟨some 44, .buildSlice true 25 4 1 [.str [], .str [], .int .i64 0, .nilSlice] [(0, (.tmp 43))], none, false⟩,
            ⟨some 45, .append false 25 4 64 (.tmp 42) (.tmp 44), none, false⟩,
            ⟨some 46, .fieldL 3 (.tmp 6), none, false⟩,
            ⟨none, .storeL 1 (.tmp 46) (.tmp 45), none, false⟩] [3, 6, 32, 33, 34])
        .skip))))
      (.ops [
        ⟨some 47, .bin .add (.tmp 34) (.const (.int .i64 1)), none, false⟩,
        ⟨some 34, .mov (.tmp 47), none, false⟩] [3, 6, 32, 33, 34])))))))
  (.seq (.ops [
    ⟨some 49, .loadL true 4 (.tmp 3), none, false⟩,
    ⟨some 50, .call 13 [(.tmp 49)], none, false⟩,
    ⟨some 48, .mov (.tmp 50), none, false⟩,
    ⟨some 51, .extract (.tmp 48) 0, none, false⟩,
    ⟨some 52, .extract (.tmp 48) 1, none, false⟩,
    ⟨some 53, .extract (.tmp 48) 2, none, false⟩,
    ⟨some 9, .mov (.tmp 51), none, false⟩,
    ⟨some 10, .mov (.tmp 52), none, false⟩,
    ⟨some 11, .mov (.tmp 53), none, false⟩] [6, 9, 10, 11])
  (.seq (.ops [
    ⟨some 55, .loadL true 4 (.tmp 6), none, false⟩,
    ⟨some 56, .call 13 [(.tmp 55)], none, false⟩,
    ⟨some 54, .mov (.tmp 56), none, false⟩,
    ⟨some 57, .extract (.tmp 54) 0, none, false⟩,
    ⟨some 58, .extract (.tmp 54) 1, none, false⟩,
    ⟨some 59, .extract (.tmp 54) 2, none, false⟩,
    ⟨some 12, .mov (.tmp 57), none, false⟩,
    ⟨some 13, .mov (.tmp 58), none, false⟩,
    ⟨some 14, .mov (.tmp 59), none, false⟩] [9, 10, 11, 12, 13, 14])
  (.seq (.seq (.ops [
    ⟨some 60, .mov (.tmp 11), none, false⟩,
    ⟨some 61, .mov (.tmp 14), none, false⟩,
    ⟨some 62, .bin .neq (.tmp 60) (.tmp 61), none, false⟩,
    ⟨some 63, .mov (.tmp 62), none, false⟩,
    ⟨some 64, .mov (.tmp 10), some (63, false), false⟩,
    ⟨some 65, .mov (.tmp 13), some (63, false), false⟩,
    ⟨some 66, .bin .neq (.tmp 64) (.tmp 65), some (63, false), false⟩,
    ⟨some 67, .pick (.tmp 63) (.const (.bool true)) (.tmp 66), none, false⟩,
    ⟨some 68, .mov (.tmp 67), none, false⟩,
    ⟨some 69, .mov (.tmp 9), some (68, false), false⟩,
    ⟨some 70, .eqNil .ptr false (.tmp 69) (.const (.pointer none)), some (68, false), false⟩,
    ⟨some 71, .mov (.tmp 12), some (68, false), false⟩,
    ⟨some 72, .eqNil .ptr false (.tmp 71) (.const (.pointer none)), some (68, false), false⟩,
    ⟨some 73, .binB .neq (.tmp 70) (.tmp 72), some (68, false), false⟩,
    ⟨some 74, .pick (.tmp 68) (.const (.bool true)) (.tmp 73), none, false⟩] [9, 12, 74])
  (.cond (.tmp 74)
  (.seq (.ops [
      ⟨some 2, .mov (.const (.bool false)), none, false⟩] [2])
    .ret)
  .skip))
  (.seq (.opsD [
    (⟨some 75, .call 12 [], none, false⟩, []),
    (⟨some 76, .mov (.tmp 75), none, false⟩, []),
    (⟨some 77, .mov (.tmp 9), some (76, true), false⟩, []),
    (⟨some 78, .eqNil .ptr false (.tmp 77) (.const (.pointer none)), some (76, true), false⟩, []),
    (⟨some 79, .mov (.tmp 78), some (76, true), false⟩, []),
    (⟨some 80, .mov (.tmp 9), some (79, false), false⟩, []),
    (⟨some 81, .nilCheck (.tmp 80), some (79, false), false⟩, []),
    (⟨some 82, .fieldAddr 1 (.tmp 81), some (79, false), false⟩, []),
    (⟨some 83, .load false 1 (.tmp 82), some (79, false), false⟩, []),
    (⟨some 84, .mov (.tmp 12), some (79, false), false⟩, []),
    (⟨some 85, .nilCheck (.tmp 84), some (79, false), false⟩, []),
    (⟨some 86, .fieldAddr 1 (.tmp 85), some (79, false), false⟩, []),
    (⟨some 87, .load false 1 (.tmp 86), some (79, false), false⟩, []),
    (⟨some 88, .call 15 [(.tmp 83), (.tmp 87)], some (79, false), false⟩, []),
    (⟨some 89, .mov (.tmp 88), some (79, false), false⟩, []),
    (⟨some 90, .mov (.tmp 9), some (89, true), false⟩, []),
    (⟨some 91, .nilCheck (.tmp 90), some (89, true), false⟩, []),
    (⟨some 92, .fieldAddr 2 (.tmp 91), some (89, true), false⟩, []),
    (⟨some 93, .load false 1 (.tmp 92), some (89, true), false⟩, []),
    (⟨some 94, .mov (.tmp 12), some (89, true), false⟩, []),
    (⟨some 95, .nilCheck (.tmp 94), some (89, true), false⟩, []),
    (⟨some 96, .fieldAddr 2 (.tmp 95), some (89, true), false⟩, []),
    (⟨some 97, .load false 1 (.tmp 96), some (89, true), false⟩, []),
    (⟨some 98, .call 16 [(.tmp 93), (.tmp 97)], some (89, true), false⟩, []),
    (⟨some 99, .pick (.tmp 89) (.tmp 98) (.const (.bool false)), some (79, false), false⟩, []),
    (⟨some 100, .mov (.tmp 99), some (79, false), false⟩, []),
    (⟨some 101, .mov (.tmp 9), some (100, true), false⟩, []),
    (⟨some 102, .nilCheck (.tmp 101), some (100, true), false⟩, []),
    (⟨some 103, .fieldAddr 0 (.tmp 102), some (100, true), false⟩, []),
    (⟨some 104, .load false 1 (.tmp 103), some (100, true), false⟩, []),
    (⟨some 105, .len .slice (.tmp 104), some (100, true), false⟩, []),
    (⟨some 106, .mov (.tmp 12), some (100, true), false⟩, []),
    (⟨some 107, .nilCheck (.tmp 106), some (100, true), false⟩, []),
    (⟨some 108, .fieldAddr 0 (.tmp 107), some (100, true), false⟩, []),
    (⟨some 109, .load false 1 (.tmp 108), some (100, true), false⟩, []),
    (⟨some 110, .len .slice (.tmp 109), some (100, true), false⟩, []),
    (⟨some 111, .bin .eql (.tmp 105) (.tmp 110), some (100, true), false⟩, []),
    (⟨some 112, .pick (.tmp 100) (.tmp 111) (.const (.bool false)), some (79, false), false⟩, []),
    (⟨some 113, .pick (.tmp 79) (.const (.bool true)) (.tmp 112), some (76, true), false⟩, []),
    (⟨some 114, .pick (.tmp 76) (.tmp 113) (.const (.bool false)), none, false⟩, []),
    (⟨some 2, .mov (.tmp 114), none, false⟩, [])] [2])
  .ret))))))))))⟩
/-- scribe/scribelaw14.ResolveStray -/
def af5 : AFunc := ⟨1, [.tmp 2],
  (.seq (.ops [
    ⟨some 2, .mov (.const (.bool false)), none, false⟩] [0])
  (.seq (.ops [
    ⟨some 10, .buildSlice true 9 1 6 [.str []] [(0, (.const (.string ⟨#[66, 69, 71, 73, 78, 123, 98, 114, 101, 97, 107, 125]⟩))), (1, (.const (.string ⟨#[123, 105, 102, 40, 49, 41, 99, 111, 110, 116, 105, 110, 117, 101, 125]⟩))), (2, (.const (.string ⟨#[123, 114, 101, 116, 117, 114, 110, 125]⟩))), (3, (.const (.string ⟨#[66, 69, 71, 73, 78, 123, 110, 101, 120, 116, 125]⟩))), (4, (.const (.string ⟨#[102, 117, 110, 99, 116, 105, 111, 110, 32, 102, 40, 41, 123, 110, 101, 120, 116, 125]⟩))), (5, (.const (.string ⟨#[69, 78, 68, 123, 119, 104, 105, 108, 101, 40, 49, 41, 98, 114, 101, 97, 107, 59, 98, 114, 101, 97, 107, 125]⟩)))], none, false⟩,
    ⟨some 3, .mov (.tmp 10), none, false⟩] [0, 3])
  (.seq (.seq (.ops [
    ⟨some 11, .mov (.tmp 0), none, false⟩,
    ⟨some 12, .bin .lss (.tmp 11) (.const (.int .i64 0)), none, false⟩,
    ⟨some 13, .mov (.tmp 12), none, false⟩,
    ⟨some 14, .mov (.tmp 0), some (13, false), false⟩,
    ⟨some 15, .mov (.tmp 3), some (13, false), false⟩,
    ⟨some 16, .len .slice (.tmp 15), some (13, false), false⟩,
    ⟨some 17, .bin .geq (.tmp 14) (.tmp 16), some (13, false), false⟩,
    ⟨some 18, .pick (.tmp 13) (.const (.bool true)) (.tmp 17), none, false⟩] [0, 3, 18])
  (.cond (.tmp 18)
  (.seq (.ops [
      ⟨some 19, .call 12 [], none, false⟩,
      ⟨some 2, .mov (.tmp 19), none, false⟩] [2])
    .ret)
  .skip))
  (.seq (.ops [
    ⟨some 21, .mov (.tmp 3), none, false⟩,
    ⟨some 22, .mov (.tmp 0), none, false⟩,
    ⟨some 23, .indexAddr 1 (.tmp 21) (.tmp 22), none, false⟩,
    ⟨some 24, .load false 1 (.tmp 23), none, false⟩,
    ⟨some 25, .call 17 [(.tmp 24)], none, false⟩,
    ⟨some 20, .mov (.tmp 25), none, false⟩,
    ⟨some 26, .extract (.tmp 20) 0, none, false⟩,
    ⟨some 27, .extract (.tmp 20) 1, none, false⟩,
    ⟨some 28, .extract (.tmp 20) 2, none, false⟩,
    ⟨some 4, .mov (.tmp 26), none, false⟩,
    ⟨some 5, .mov (.tmp 27), none, false⟩,
    ⟨some 6, .mov (.tmp 28), none, false⟩] [4, 6])
  (.seq (.ops [
    ⟨some 30, .call 17 [(.const (.string ⟨#[102, 117, 110, 99, 116, 105, 111, 110, 32, 102, 40, 41, 123, 119, 104, 105, 108, 101, 40, 49, 41, 123, 98, 114, 101, 97, 107, 125, 114, 101, 116, 117, 114, 110, 32, 49, 125, 32, 123, 102, 111, 114, 40, 59, 59, 41, 99, 111, 110, 116, 105, 110, 117, 101, 59, 110, 101, 120, 116, 125]⟩))], none, false⟩,
    ⟨some 29, .mov (.tmp 30), none, false⟩,
    ⟨some 31, .extract (.tmp 29) 0, none, false⟩,
    ⟨some 32, .extract (.tmp 29) 1, none, false⟩,
    ⟨some 33, .extract (.tmp 29) 2, none, false⟩,
    ⟨some 7, .mov (.tmp 31), none, false⟩,
    ⟨some 8, .mov (.tmp 32), none, false⟩,
    ⟨some 9, .mov (.tmp 33), none, false⟩] [4, 6, 7, 9])
  (.seq (.ops [
    ⟨some 34, .call 12 [], none, false⟩,
    ⟨some 35, .mov (.tmp 34), none, false⟩,
    ⟨some 36, .mov (.tmp 6), some (35, true), false⟩,
    ⟨some 37, .bin .eql (.tmp 36) (.const (.int .i64 9)), some (35, true), false⟩,
    ⟨some 38, .pick (.tmp 35) (.tmp 37) (.const (.bool false)), none, false⟩,
    ⟨some 39, .mov (.tmp 38), none, false⟩,
    ⟨some 40, .mov (.tmp 4), some (39, true), false⟩,
    ⟨some 41, .eqNil .ptr false (.tmp 40) (.const (.pointer none)), some (39, true), false⟩,
    ⟨some 42, .pick (.tmp 39) (.tmp 41) (.const (.bool false)), none, false⟩,
    ⟨some 43, .mov (.tmp 42), none, false⟩,
    ⟨some 44, .mov (.tmp 9), some (43, true), false⟩,
    ⟨some 45, .bin .eql (.tmp 44) (.const (.int .i64 0)), some (43, true), false⟩,
    ⟨some 46, .pick (.tmp 43) (.tmp 45) (.const (.bool false)), none, false⟩,
    ⟨some 47, .mov (.tmp 46), none, false⟩,
    ⟨some 48, .mov (.tmp 7), some (47, true), false⟩,
    ⟨some 49, .eqNil .ptr true (.tmp 48) (.const (.pointer none)), some (47, true), false⟩,
    ⟨some 50, .pick (.tmp 47) (.tmp 49) (.const (.bool false)), none, false⟩,
    ⟨some 2, .mov (.tmp 50), none, false⟩] [2])
  .ret))))))⟩
/-- scribe/scribelaw15.CodeBent -/
def af6 : AFunc := ⟨5, [.tmp 10],
  (.seq (.ops [
    ⟨some 10, .mov (.const (.bool false)), none, false⟩] [0, 1, 2, 3, 4])
  (.seq (.ops [
    ⟨some 22, .mov (.tmp 0), none, false⟩,
    ⟨some 23, .call 10 [(.tmp 22), (.const (.int .i64 300))], none, false⟩,
    ⟨some 24, .call 18 [(.tmp 23)], none, false⟩,
    ⟨some 21, .mov (.tmp 24), none, false⟩,
    ⟨some 25, .extract (.tmp 21) 0, none, false⟩,
    ⟨some 26, .extract (.tmp 21) 1, none, false⟩,
    ⟨some 27, .extract (.tmp 21) 2, none, false⟩,
    ⟨some 11, .mov (.tmp 25), none, false⟩,
    ⟨some 12, .mov (.tmp 26), none, false⟩,
    ⟨some 13, .mov (.tmp 27), none, false⟩] [1, 2, 3, 4, 11, 13])
  (.seq (.seq (.ops [
    ⟨some 28, .mov (.tmp 13), none, false⟩,
    ⟨some 29, .bin .neq (.tmp 28) (.const (.int .i64 0)), none, false⟩,
    ⟨some 30, .mov (.tmp 29), none, false⟩,
    ⟨some 31, .mov (.tmp 11), some (30, false), false⟩,
    ⟨some 32, .eqNil .ptr false (.tmp 31) (.const (.pointer none)), some (30, false), false⟩,
    ⟨some 33, .pick (.tmp 30) (.const (.bool true)) (.tmp 32), none, false⟩] [1, 2, 3, 4, 11, 33])
  (.cond (.tmp 33)
  (.seq (.ops [
      ⟨some 34, .call 19 [], none, false⟩,
      ⟨some 10, .mov (.tmp 34), none, false⟩] [10])
    .ret)
  .skip))
  (.seq (.seq (.ops [
    ⟨some 35, .mov (.tmp 1), none, false⟩,
    ⟨some 36, .bin .geq (.tmp 35) (.const (.int .i64 0)), none, false⟩,
    ⟨some 37, .mov (.tmp 36), none, false⟩,
    ⟨some 38, .mov (.tmp 1), some (37, true), false⟩,
    ⟨some 39, .mov (.tmp 11), some (37, true), false⟩,
    ⟨some 40, .nilCheck (.tmp 39), some (37, true), false⟩,
    ⟨some 41, .fieldAddr 0 (.tmp 40), some (37, true), false⟩,
    ⟨some 42, .load false 1 (.tmp 41), some (37, true), false⟩,
    ⟨some 43, .len .slice (.tmp 42), some (37, true), false⟩,
    ⟨some 44, .bin .lss (.tmp 38) (.tmp 43), some (37, true), false⟩,
    ⟨some 45, .pick (.tmp 37) (.tmp 44) (.const (.bool false)), none, false⟩] [1, 2, 3, 4, 11, 45])
  (.cond (.tmp 45)
  (.ops [
      ⟨some 46, .mov (.tmp 11), none, false⟩,
      ⟨some 47, .nilCheck (.tmp 46), none, false⟩,
      ⟨some 48, .fieldAddr 0 (.tmp 47), none, false⟩,
      ⟨some 49, .load false 1 (.tmp 48), none, false⟩,
      ⟨some 50, .mov (.tmp 1), none, false⟩,
      ⟨some 51, .mov (.tmp 2), none, false⟩,
      ⟨some 52, .mov (.tmp 3), none, false⟩,
      ⟨some 53, .mov (.tmp 4), none, false⟩,
      ⟨some 54, .build [.int .i64 0, .int .i64 0, .int .i64 0] [(0, 1, (.tmp 51)), (1, 1, (.tmp 52)), (2, 1, (.tmp 53))], none, false⟩,
      ⟨some 55, .indexAddr 3 (.tmp 49) (.tmp 50), none, false⟩,
      ⟨none, .store 3 (.tmp 55) (.tmp 54), none, false⟩] [11])
  .skip))
  (.seq (.opsD [
    (⟨some 56, .mov (.tmp 11), none, false⟩, []),
    (⟨some 57, .nilCheck (.tmp 56), none, false⟩, []),
    (⟨some 58, .fieldAddr 2 (.tmp 57), none, false⟩, []),
    (⟨some 59, .load false 1 (.tmp 58), none, false⟩, []),
    (⟨some 60, .len .slice (.tmp 59), none, false⟩, []),
    (⟨some 61, .mov (.tmp 11), none, false⟩, []),
    (⟨some 62, .nilCheck (.tmp 61), none, false⟩, []),
    (⟨some 63, .fieldAddr 4 (.tmp 62), none, false⟩, []),
    (⟨some 64, .load false 1 (.tmp 63), none, false⟩, []),
    (⟨some 65, .mov (.tmp 11), none, false⟩, []),
    (⟨some 66, .nilCheck (.tmp 65), none, false⟩, []),
    (⟨some 67, .fieldAddr 5 (.tmp 66), none, false⟩, []),
    (⟨some 68, .load false 1 (.tmp 67), none, false⟩, []),
    (⟨some 69, .mov (.tmp 11), none, false⟩, []),
    (⟨some 70, .nilCheck (.tmp 69), none, false⟩, []),
    (⟨some 71, .fieldAddr 6 (.tmp 70), none, false⟩, []),
    (⟨some 72, .load false 1 (.tmp 71), none, false⟩, []),
    (⟨some 73, .mov (.tmp 11), none, false⟩, []),
    (⟨some 74, .nilCheck (.tmp 73), none, false⟩, []),
    (⟨some 75, .fieldAddr 7 (.tmp 74), none, false⟩, []),
    (⟨some 76, .load false 1 (.tmp 75), none, false⟩, []),
    (⟨some 77, .mov (.tmp 11), none, false⟩, []),
    (⟨some 78, .nilCheck (.tmp 77), none, false⟩, []),
    (⟨some 79, .fieldAddr 8 (.tmp 78), none, false⟩, []),
    (⟨some 80, .load false 1 (.tmp 79), none, false⟩, []),
    (⟨some 81, .build [.nilSlice, .nilSlice, .int .i64 0, .nilSlice, .nilSlice, .nilSlice, .int .i64 0, .int .i64 0, .int .i64 0] [(2, 1, (.tmp 60)), (4, 1, (.tmp 64)), (5, 1, (.tmp 68)), (6, 1, (.tmp 72)), (7, 1, (.tmp 76)), (8, 1, (.tmp 80))], none, false⟩, []),
    (⟨some 14, .allocL 0 [.nilSlice, .nilSlice, .int .i64 0, .nilSlice, .nilSlice, .nilSlice, .int .i64 0, .int .i64 0, .int .i64 0], none, false⟩, []),
    (⟨none, .storeL 9 (.tmp 14) (.tmp 81), none, false⟩, [])] [11, 14])
  (.seq (.seq (.ops [
    ⟨some 82, .mov (.tmp 11), none, false⟩,
    ⟨some 83, .nilCheck (.tmp 82), none, false⟩,
    ⟨some 84, .fieldAddr 0 (.tmp 83), none, false⟩,
    ⟨some 85, .load false 1 (.tmp 84), none, false⟩,
    ⟨some 86, .len .slice (.tmp 85), none, false⟩,
    ⟨some 87, .mov (.const (.int .i64 0)), none, false⟩] [11, 14, 85, 86, 87])
  (.block 0
  (.loop [11, 14, 85, 86, 87]
    (.seq (.ops [
        ⟨some 88, .bin .lss (.tmp 87) (.tmp 86), none, false⟩] [11, 14, 85, 86, 87, 88])
      (.seq (.cond (.tmp 88)
      .skip
      (.exit 0))
      (.seq (.block 1
      (.seq (.ops [
          ⟨some 89, .indexAddr 3 (.tmp 85) (.tmp 87), none, false⟩,
          ⟨some 90, .load true 3 (.tmp 89), none, false⟩,
          ⟨some 16, .allocL 0 [.int .i64 0, .int .i64 0, .int .i64 0], none, false⟩,
          ⟨none, .storeL 3 (.tmp 16) (.tmp 90), none, false⟩] [11, 14, 16, 85, 86, 87])
        (.ops [
          ⟨some 91, .fieldL 0 (.tmp 14), none, false⟩,
          ⟨some 92, .loadL false 1 (.tmp 91), none, false⟩,
          ⟨some 93, .loadL true 3 (.tmp 16), none, false⟩,
          ⟨some 94, .buildSlice true 61 3 1 [.int .i64 0, .int .i64 0, .int .i64 0] [(0, (.tmp 93))], none, false⟩,
          ⟨some 95, .append false 61 3 24 (.tmp 92) (.tmp 94), none, false⟩,
          ⟨some 96, .fieldL 0 (.tmp 14), none, false⟩,
          ⟨none, .storeL 1 (.tmp 96) (.tmp 95), none, false⟩] [11, 14, 85, 86, 87])))
      (.ops [
        ⟨some 97, .bin .add (.tmp 87) (.const (.int .i64 1)), none, false⟩,
        ⟨some 87, .mov (.tmp 97), none, false⟩] [11, 14, 85, 86, 87])))))))
  (.seq (.seq (.ops [
    ⟨some 98, .mov (.tmp 11), none, false⟩,
    ⟨some 99, .nilCheck (.tmp 98), none, false⟩,
    ⟨some 100, .fieldAddr 1 (.tmp 99), none, false⟩,
    ⟨some 101, .load false 1 (.tmp 100), none, false⟩,
    ⟨some 102, .len .slice (.tmp 101), none, false⟩,
    ⟨some 103, .mov (.const (.int .i64 0)), none, false⟩] [11, 14, 101, 102, 103])
  (.block 2
  (.loop [11, 14, 101, 102, 103]
    (.seq (.ops [
        ⟨some 104, .bin .lss (.tmp 103) (.tmp 102), none, false⟩] [11, 14, 101, 102, 103, 104])
      (.seq (.cond (.tmp 104)
      .skip
      (.exit 2))
      (.seq (.block 3
      (.seq (.ops [
          ⟨some 105, .indexAddr 1 (.tmp 101) (.tmp 103), none, false⟩,
          ⟨some 106, .load false 1 (.tmp 105), none, false⟩,
          ⟨some 18, .mov (.tmp 106), none, false⟩] [11, 14, 18, 101, 102, 103])
        (.ops [
          ⟨some 107, .fieldL 1 (.tmp 14), none, false⟩,
          ⟨some 108, .loadL false 1 (.tmp 107), none, false⟩,
          ⟨some 109, .mov (.tmp 18), none, false⟩,
          ⟨some 110, .buildSlice true 2 1 1 [.int .i64 0] [(0, (.tmp 109))], none, false⟩,
          ⟨some 111, .append false 2 1 8 (.tmp 108) (.tmp 110), none, false⟩,
          ⟨some 112, .fieldL 1 (.tmp 14), none, false⟩,
          ⟨none, .storeL 1 (.tmp 112) (.tmp 111), none, false⟩] [11, 14, 101, 102, 103])))
      (.ops [
        ⟨some 113, .bin .add (.tmp 103) (.const (.int .i64 1)), none, false⟩,
        ⟨some 103, .mov (.tmp 113), none, false⟩] [11, 14, 101, 102, 103])))))))
  (.seq (.seq (.ops [
    ⟨some 114, .mov (.tmp 11), none, false⟩,
    ⟨some 115, .nilCheck (.tmp 114), none, false⟩,
    ⟨some 116, .fieldAddr 3 (.tmp 115), none, false⟩,
    ⟨some 117, .load false 1 (.tmp 116), none, false⟩,
    ⟨some 118, .len .slice (.tmp 117), none, false⟩,
    ⟨some 119, .mov (.const (.int .i64 0)), none, false⟩] [11, 14, 117, 118, 119])
  (.block 4
  (.loop [11, 14, 117, 118, 119]
    (.seq (.ops [
        ⟨some 120, .bin .lss (.tmp 119) (.tmp 118), none, false⟩] [11, 14, 117, 118, 119, 120])
      (.seq (.cond (.tmp 120)
      .skip
      (.exit 4))
      (.seq (.block 5
      (.seq (.ops [
          ⟨some 121, .indexAddr 2 (.tmp 117) (.tmp 119), none, false⟩,
          ⟨some 122, .load true 2 (.tmp 121), none, false⟩,
          ⟨some 20, .allocL 0 [.int .i64 0, .nilSlice], none, false⟩,
          ⟨none, .storeL 2 (.tmp 20) (.tmp 122), none, false⟩] [11, 14, 20, 117, 118, 119])
        (.ops [
          ⟨some 123, .fieldL 3 (.tmp 14), none, false⟩,
          ⟨some 124, .loadL false 1 (.tmp 123), none, false⟩,
          ⟨some 125, .loadL true 2 (.tmp 20), none, false⟩,
          ⟨some 126, .buildSlice true 65 2 1 [.int .i64 0, .nilSlice] [(0, (.tmp 125))], none, false⟩,
          ⟨some 127, .append false 65 2 32 (.tmp 124) (.tmp 126), none, false⟩,
          ⟨some 128, .fieldL 3 (.tmp 14), none, false⟩,
          ⟨none, .storeL 1 (.tmp 128) (.tmp 127), none, false⟩] [11, 14, 117, 118, 119])))
      (.ops [
        ⟨some 129, .bin .add (.tmp 119) (.const (.int .i64 1)), none, false⟩,
        ⟨some 119, .mov (.tmp 129), none, false⟩] [11, 14, 117, 118, 119])))))))
  (.seq (.opsD [
    (⟨some 130, .call 19 [], none, false⟩, []),
    (⟨some 131, .mov (.tmp 130), none, false⟩, []),
    (⟨some 132, .mov (.tmp 11), some (131, true), false⟩, []),
    (⟨some 133, .call 20 [(.tmp 132)], some (131, true), false⟩, []),
    (⟨some 134, .bin .eql (.tmp 133) (.const (.int .i64 0)), some (131, true), false⟩, []),
    (⟨some 135, .loadL true 9 (.tmp 14), some (131, true), false⟩, []),
    (⟨some 136, .call 21 [(.tmp 135)], some (131, true), false⟩, []),
    (⟨some 137, .binB .eql (.tmp 134) (.tmp 136), some (131, true), false⟩, []),
    (⟨some 138, .pick (.tmp 131) (.tmp 137) (.const (.bool false)), none, false⟩, []),
    (⟨some 10, .mov (.tmp 138), none, false⟩, [])] [10])
  .ret)))))))))⟩
/-- scribe/scribelaw15.CodeTwice -/
def af7 : AFunc := ⟨1, [.tmp 2],
  (.seq (.ops [
    ⟨some 2, .mov (.const (.bool false)), none, false⟩] [0])
  (.seq (.ops [
    ⟨some 10, .mov (.tmp 0), none, false⟩,
    ⟨some 11, .call 10 [(.tmp 10), (.const (.int .i64 400))], none, false⟩,
    ⟨some 0, .mov (.tmp 11), none, false⟩] [0])
  (.seq (.ops [
    ⟨some 13, .mov (.tmp 0), none, false⟩,
    ⟨some 14, .call 18 [(.tmp 13)], none, false⟩,
    ⟨some 12, .mov (.tmp 14), none, false⟩,
    ⟨some 15, .extract (.tmp 12) 0, none, false⟩,
    ⟨some 16, .extract (.tmp 12) 1, none, false⟩,
    ⟨some 17, .extract (.tmp 12) 2, none, false⟩,
    ⟨some 3, .mov (.tmp 15), none, false⟩,
    ⟨some 4, .mov (.tmp 16), none, false⟩,
    ⟨some 5, .mov (.tmp 17), none, false⟩] [0, 3, 4, 5])
  (.seq (.ops [
    ⟨some 19, .mov (.tmp 0), none, false⟩,
    ⟨some 20, .call 18 [(.tmp 19)], none, false⟩,
    ⟨some 18, .mov (.tmp 20), none, false⟩,
    ⟨some 21, .extract (.tmp 18) 0, none, false⟩,
    ⟨some 22, .extract (.tmp 18) 1, none, false⟩,
    ⟨some 23, .extract (.tmp 18) 2, none, false⟩,
    ⟨some 6, .mov (.tmp 21), none, false⟩,
    ⟨some 7, .mov (.tmp 22), none, false⟩,
    ⟨some 8, .mov (.tmp 23), none, false⟩] [3, 4, 5, 6, 7, 8])
  (.seq (.seq (.ops [
    ⟨some 24, .mov (.tmp 5), none, false⟩,
    ⟨some 25, .mov (.tmp 8), none, false⟩,
    ⟨some 26, .bin .neq (.tmp 24) (.tmp 25), none, false⟩,
    ⟨some 27, .mov (.tmp 26), none, false⟩,
    ⟨some 28, .mov (.tmp 4), some (27, false), false⟩,
    ⟨some 29, .mov (.tmp 7), some (27, false), false⟩,
    ⟨some 30, .bin .neq (.tmp 28) (.tmp 29), some (27, false), false⟩,
    ⟨some 31, .pick (.tmp 27) (.const (.bool true)) (.tmp 30), none, false⟩,
    ⟨some 32, .mov (.tmp 31), none, false⟩,
    ⟨some 33, .mov (.tmp 3), some (32, false), false⟩,
    ⟨some 34, .eqNil .ptr false (.tmp 33) (.const (.pointer none)), some (32, false), false⟩,
    ⟨some 35, .mov (.tmp 6), some (32, false), false⟩,
    ⟨some 36, .eqNil .ptr false (.tmp 35) (.const (.pointer none)), some (32, false), false⟩,
    ⟨some 37, .binB .neq (.tmp 34) (.tmp 36), some (32, false), false⟩,
    ⟨some 38, .pick (.tmp 32) (.const (.bool true)) (.tmp 37), none, false⟩] [3, 6, 38])
  (.cond (.tmp 38)
  (.seq (.ops [
      ⟨some 2, .mov (.const (.bool false)), none, false⟩] [2])
    .ret)
  .skip))
  (.seq (.seq (.ops [
    ⟨some 39, .mov (.tmp 3), none, false⟩,
    ⟨some 40, .eqNil .ptr false (.tmp 39) (.const (.pointer none)), none, false⟩] [3, 6, 40])
  (.cond (.tmp 40)
  (.seq (.ops [
      ⟨some 41, .call 19 [], none, false⟩,
      ⟨some 2, .mov (.tmp 41), none, false⟩] [2])
    .ret)
  .skip))
  (.seq (.seq (.opsD [
    (⟨some 42, .mov (.tmp 3), none, false⟩, []),
    (⟨some 43, .nilCheck (.tmp 42), none, false⟩, []),
    (⟨some 44, .fieldAddr 0 (.tmp 43), none, false⟩, []),
    (⟨some 45, .load false 1 (.tmp 44), none, false⟩, []),
    (⟨some 46, .len .slice (.tmp 45), none, false⟩, []),
    (⟨some 47, .mov (.tmp 6), none, false⟩, []),
    (⟨some 48, .nilCheck (.tmp 47), none, false⟩, []),
    (⟨some 49, .fieldAddr 0 (.tmp 48), none, false⟩, []),
    (⟨some 50, .load false 1 (.tmp 49), none, false⟩, []),
    (⟨some 51, .len .slice (.tmp 50), none, false⟩, []),
    (⟨some 52, .bin .neq (.tmp 46) (.tmp 51), none, false⟩, []),
    (⟨some 53, .mov (.tmp 52), none, false⟩, []),
    (⟨some 54, .mov (.tmp 3), some (53, false), false⟩, []),
    (⟨some 55, .nilCheck (.tmp 54), some (53, false), false⟩, []),
    (⟨some 56, .fieldAddr 1 (.tmp 55), some (53, false), false⟩, []),
    (⟨some 57, .load false 1 (.tmp 56), some (53, false), false⟩, []),
    (⟨some 58, .len .slice (.tmp 57), some (53, false), false⟩, []),
    (⟨some 59, .mov (.tmp 6), some (53, false), false⟩, []),
    (⟨some 60, .nilCheck (.tmp 59), some (53, false), false⟩, []),
    (⟨some 61, .fieldAddr 1 (.tmp 60), some (53, false), false⟩, []),
    (⟨some 62, .load false 1 (.tmp 61), some (53, false), false⟩, []),
    (⟨some 63, .len .slice (.tmp 62), some (53, false), false⟩, []),
    (⟨some 64, .bin .neq (.tmp 58) (.tmp 63), some (53, false), false⟩, []),
    (⟨some 65, .pick (.tmp 53) (.const (.bool true)) (.tmp 64), none, false⟩, []),
    (⟨some 66, .mov (.tmp 65), none, false⟩, []),
    (⟨some 67, .mov (.tmp 3), some (66, false), false⟩, []),
    (⟨some 68, .nilCheck (.tmp 67), some (66, false), false⟩, []),
    (⟨some 69, .fieldAddr 2 (.tmp 68), some (66, false), false⟩, []),
    (⟨some 70, .load false 1 (.tmp 69), some (66, false), false⟩, []),
    (⟨some 71, .len .slice (.tmp 70), some (66, false), false⟩, []),
    (⟨some 72, .mov (.tmp 6), some (66, false), false⟩, []),
    (⟨some 73, .nilCheck (.tmp 72), some (66, false), false⟩, []),
    (⟨some 74, .fieldAddr 2 (.tmp 73), some (66, false), false⟩, []),
    (⟨some 75, .load false 1 (.tmp 74), some (66, false), false⟩, []),
    (⟨some 76, .len .slice (.tmp 75), some (66, false), false⟩, []),
    (⟨some 77, .bin .neq (.tmp 71) (.tmp 76), some (66, false), false⟩, []),
    (⟨some 78, .pick (.tmp 66) (.const (.bool true)) (.tmp 77), none, false⟩, []),
    (⟨some 79, .mov (.tmp 78), none, false⟩, []),
    (⟨some 80, .mov (.tmp 3), some (79, false), false⟩, []),
    (⟨some 81, .nilCheck (.tmp 80), some (79, false), false⟩, []),
    (⟨some 82, .fieldAddr 6 (.tmp 81), some (79, false), false⟩, []),
    (⟨some 83, .load false 1 (.tmp 82), some (79, false), false⟩, []),
    (⟨some 84, .mov (.tmp 6), some (79, false), false⟩, []),
    (⟨some 85, .nilCheck (.tmp 84), some (79, false), false⟩, []),
    (⟨some 86, .fieldAddr 6 (.tmp 85), some (79, false), false⟩, []),
    (⟨some 87, .load false 1 (.tmp 86), some (79, false), false⟩, []),
    (⟨some 88, .bin .neq (.tmp 83) (.tmp 87), some (79, false), false⟩, []),
    (⟨some 89, .pick (.tmp 79) (.const (.bool true)) (.tmp 88), none, false⟩, []),
    (⟨some 90, .mov (.tmp 89), none, false⟩, []),
    (⟨some 91, .mov (.tmp 3), some (90, false), false⟩, []),
    (⟨some 92, .nilCheck (.tmp 91), some (90, false), false⟩, []),
    (⟨some 93, .fieldAddr 7 (.tmp 92), some (90, false), false⟩, []),
    (⟨some 94, .load false 1 (.tmp 93), some (90, false), false⟩, []),
    (⟨some 95, .mov (.tmp 6), some (90, false), false⟩, []),
    (⟨some 96, .nilCheck (.tmp 95), some (90, false), false⟩, []),
    (⟨some 97, .fieldAddr 7 (.tmp 96), some (90, false), false⟩, []),
    (⟨some 98, .load false 1 (.tmp 97), some (90, false), false⟩, []),
    (⟨some 99, .bin .neq (.tmp 94) (.tmp 98), some (90, false), false⟩, []),
    (⟨some 100, .pick (.tmp 90) (.const (.bool true)) (.tmp 99), none, false⟩, []),
    (⟨some 101, .mov (.tmp 100), none, false⟩, []),
    (⟨some 102, .mov (.tmp 3), some (101, false), false⟩, []),
    (⟨some 103, .nilCheck (.tmp 102), some (101, false), false⟩, []),
    (⟨some 104, .fieldAddr 8 (.tmp 103), some (101, false), false⟩, []),
    (⟨some 105, .load false 1 (.tmp 104), some (101, false), false⟩, []),
    (⟨some 106, .mov (.tmp 6), some (101, false), false⟩, []),
    (⟨some 107, .nilCheck (.tmp 106), some (101, false), false⟩, []),
    (⟨some 108, .fieldAddr 8 (.tmp 107), some (101, false), false⟩, []),
    (⟨some 109, .load false 1 (.tmp 108), some (101, false), false⟩, []),
    (⟨some 110, .bin .neq (.tmp 105) (.tmp 109), some (101, false), false⟩, []),
    (⟨some 111, .pick (.tmp 101) (.const (.bool true)) (.tmp 110), none, false⟩, [])] [3, 6, 111])
  (.cond (.tmp 111)
  (.seq (.ops [
      ⟨some 2, .mov (.const (.bool false)), none, false⟩] [2])
    .ret)
  .skip))
  (.seq (.seq (.ops [
    ⟨some 112, .mov (.tmp 3), none, false⟩,
    ⟨some 113, .nilCheck (.tmp 112), none, false⟩,
    ⟨some 114, .fieldAddr 0 (.tmp 113), none, false⟩,
    ⟨some 115, .load false 1 (.tmp 114), none, false⟩,
    ⟨some 116, .len .slice (.tmp 115), none, false⟩,
    ⟨some 117, .mov (.const (.int .i64 0)), none, false⟩] [3, 6, 116, 117])
  (.block 0
  (.loop [3, 6, 116, 117]
    (.seq (.ops [
        ⟨some 118, .bin .lss (.tmp 117) (.tmp 116), none, false⟩] [3, 6, 116, 117, 118])
      (.seq (.cond (.tmp 118)
      .skip
      (.exit 0))
      (.seq (.block 1
      (.seq (.ops [
          ⟨some 119, .mov (.tmp 117), none, false⟩,
          ⟨some 9, .mov (.tmp 119), none, false⟩] [3, 6, 9, 116, 117])
        (.seq (.opsD [
          (⟨some 120, .mov (.tmp 3), none, false⟩, []),
          (⟨some 121, .nilCheck (.tmp 120), none, false⟩, []),
          (⟨some 122, .fieldAddr 0 (.tmp 121), none, false⟩, []),
          (⟨some 123, .load false 1 (.tmp 122), none, false⟩, []),
          (⟨some 124, .mov (.tmp 9), none, false⟩, []),
          (⟨some 125, .indexAddr 3 (.tmp 123) (.tmp 124), none, false⟩, []),
          (⟨some 126, .load true 3 (.tmp 125), none, false⟩, []),
          (⟨some 127, .mov (.tmp 6), none, false⟩, []),
          (⟨some 128, .nilCheck (.tmp 127), none, false⟩, []),
          (⟨some 129, .fieldAddr 0 (.tmp 128), none, false⟩, []),
          (⟨some 130, .load false 1 (.tmp 129), none, false⟩, []),
          (⟨some 131, .mov (.tmp 9), none, false⟩, []),
          (⟨some 132, .indexAddr 3 (.tmp 130) (.tmp 131), none, false⟩, []),
          (⟨some 133, .load true 3 (.tmp 132), none, false⟩, []),
          (⟨some 134, .eqAgg true [.int, .int, .int] (.tmp 126) (.tmp 133), none, false⟩, [])] [3, 6, 116, 117, 134])
        (.cond (.tmp 134)
        (.seq (.ops [
            ⟨some 2, .mov (.const (.bool false)), none, false⟩] [2])
          .ret)
        .skip))))
      (.ops [
        ⟨some 135, .bin .add (.tmp 117) (.const (.int .i64 1)), none, false⟩,
        ⟨some 117, .mov (.tmp 135), none, false⟩] [3, 6, 116, 117])))))))
  (.seq (.ops [
    ⟨some 136, .call 19 [], none, false⟩,
    ⟨some 2, .mov (.tmp 136), none, false⟩] [2])
  .ret)))))))))⟩
/-- scribe/scribelaw15.CodeNames -/
def af8 : AFunc := ⟨1, [.tmp 2],
  (.seq (.ops [
    ⟨some 2, .mov (.const (.bool false)), none, false⟩] [0])
  (.seq (.ops [
    ⟨some 5, .call 22 [], none, false⟩,
    ⟨some 3, .mov (.tmp 5), none, false⟩] [0, 3])
  (.seq (.ops [
    ⟨some 4, .mov (.const (.string ⟨#[]⟩)), none, false⟩] [0, 3, 4])
  (.seq (.seq (.ops [
    ⟨some 6, .mov (.tmp 0), none, false⟩,
    ⟨some 7, .bin .geq (.tmp 6) (.const (.int .i64 0)), none, false⟩,
    ⟨some 8, .mov (.tmp 7), none, false⟩,
    ⟨some 9, .mov (.tmp 0), some (8, true), false⟩,
    ⟨some 10, .mov (.tmp 3), some (8, true), false⟩,
    ⟨some 11, .len .slice (.tmp 10), some (8, true), false⟩,
    ⟨some 12, .bin .lss (.tmp 9) (.tmp 11), some (8, true), false⟩,
    ⟨some 13, .pick (.tmp 8) (.tmp 12) (.const (.bool false)), none, false⟩] [0, 3, 4, 13])
  (.cond (.tmp 13)
  (.ops [
      ⟨some 14, .mov (.tmp 3), none, false⟩,
      ⟨some 15, .mov (.tmp 0), none, false⟩,
      ⟨some 16, .indexAddr 1 (.tmp 14) (.tmp 15), none, false⟩,
      ⟨some 17, .load false 1 (.tmp 16), none, false⟩,
      ⟨some 4, .mov (.tmp 17), none, false⟩] [0, 4])
  .skip))
  (.seq (.ops [
    ⟨some 18, .call 19 [], none, false⟩,
    ⟨some 19, .mov (.tmp 18), none, false⟩,
    ⟨some 20, .mov (.tmp 0), some (19, true), false⟩,
    ⟨some 21, .call 23 [(.tmp 20)], some (19, true), false⟩,
    ⟨some 22, .mov (.tmp 4), some (19, true), false⟩,
    ⟨some 23, .bin .eql (.tmp 21) (.tmp 22), some (19, true), false⟩,
    ⟨some 24, .pick (.tmp 19) (.tmp 23) (.const (.bool false)), none, false⟩,
    ⟨some 2, .mov (.tmp 24), none, false⟩] [2])
  .ret)))))⟩
/-- scribe/scribelaw15.CodeChecks -/
def af9 : AFunc := ⟨1, [.tmp 2],
  (.seq (.ops [
    ⟨some 1, .boxL 0 9 (.tmp 0), none, false⟩,
    ⟨some 2, .mov (.const (.bool false)), none, false⟩] [1])
  (.seq (.ops [
    ⟨some 11, .loadL true 9 (.tmp 1), none, false⟩,
    ⟨some 12, .call 24 [(.tmp 11)], none, false⟩,
    ⟨some 10, .mov (.tmp 12), none, false⟩,
    ⟨some 13, .extract (.tmp 10) 0, none, false⟩,
    ⟨some 14, .extract (.tmp 10) 1, none, false⟩,
    ⟨some 4, .allocL 0 [.nilSlice, .nilSlice, .int .i64 0, .nilSlice, .nilSlice, .nilSlice, .int .i64 0, .int .i64 0, .int .i64 0], none, false⟩,
    ⟨some 3, .mov (.tmp 13), none, false⟩,
    ⟨none, .storeL 9 (.tmp 4) (.tmp 14), none, false⟩] [3, 4])
  (.seq (.ops [
    ⟨some 5, .mov (.const (.int .i64 3)), none, false⟩] [3, 4, 5])
  (.seq (.seq (.ops [
    ⟨some 15, .loadL true 9 (.tmp 4), none, false⟩,
    ⟨some 16, .call 21 [(.tmp 15)], none, false⟩] [3, 4, 5, 16])
  (.cond (.tmp 16)
  (.ops [
      ⟨some 5, .mov (.const (.int .i64 0)), none, false⟩] [3, 4, 5])
  .skip))
  (.seq (.ops [
    ⟨some 17, .mov (.tmp 3), none, false⟩,
    ⟨some 18, .call 25 [(.tmp 17)], none, false⟩,
    ⟨some 6, .mov (.tmp 18), none, false⟩] [3, 4, 5, 6])
  (.seq (.seq (.ops [
    ⟨some 19, .mov (.tmp 5), none, false⟩,
    ⟨some 20, .bin .neq (.tmp 19) (.const (.int .i64 0)), none, false⟩] [3, 4, 5, 6, 20])
  (.cond (.tmp 20)
  (.seq (.ops [
      ⟨some 21, .call 19 [], none, false⟩,
      ⟨some 22, .mov (.tmp 21), none, false⟩,
      ⟨some 23, .mov (.tmp 3), some (22, true), false⟩,
      ⟨some 24, .call 20 [(.tmp 23)], some (22, true), false⟩,
      ⟨some 25, .mov (.tmp 5), some (22, true), false⟩,
      ⟨some 26, .bin .eql (.tmp 24) (.tmp 25), some (22, true), false⟩,
      ⟨some 27, .pick (.tmp 22) (.tmp 26) (.const (.bool false)), none, false⟩,
      ⟨some 28, .mov (.tmp 27), none, false⟩,
      ⟨some 29, .mov (.tmp 6), some (28, true), false⟩,
      ⟨some 30, .len .slice (.tmp 29), some (28, true), false⟩,
      ⟨some 31, .bin .eql (.tmp 30) (.const (.int .i64 0)), some (28, true), false⟩,
      ⟨some 32, .pick (.tmp 28) (.tmp 31) (.const (.bool false)), none, false⟩,
      ⟨some 2, .mov (.tmp 32), none, false⟩] [2])
    .ret)
  .skip))
  (.seq (.ops [
    ⟨some 33, .loadL true 9 (.tmp 4), none, false⟩,
    ⟨some 34, .call 26 [(.tmp 33)], none, false⟩,
    ⟨some 7, .mov (.tmp 34), none, false⟩] [3, 5, 6, 7])
  (.seq (.seq (.ops [
    ⟨some 35, .call 19 [], none, false⟩,
    ⟨some 36, .un .not (.tmp 35), none, false⟩,
    ⟨some 37, .mov (.tmp 36), none, false⟩,
    ⟨some 38, .mov (.tmp 3), some (37, false), false⟩,
    ⟨some 39, .call 20 [(.tmp 38)], some (37, false), false⟩,
    ⟨some 40, .mov (.tmp 5), some (37, false), false⟩,
    ⟨some 41, .bin .neq (.tmp 39) (.tmp 40), some (37, false), false⟩,
    ⟨some 42, .pick (.tmp 37) (.const (.bool true)) (.tmp 41), none, false⟩,
    ⟨some 43, .mov (.tmp 42), none, false⟩,
    ⟨some 44, .mov (.tmp 6), some (43, false), false⟩,
    ⟨some 45, .len .slice (.tmp 44), some (43, false), false⟩,
    ⟨some 46, .mov (.tmp 7), some (43, false), false⟩,
    ⟨some 47, .len .slice (.tmp 46), some (43, false), false⟩,
    ⟨some 48, .bin .neq (.tmp 45) (.tmp 47), some (43, false), false⟩,
    ⟨some 49, .pick (.tmp 43) (.const (.bool true)) (.tmp 48), none, false⟩] [6, 7, 49])
  (.cond (.tmp 49)
  (.seq (.ops [
      ⟨some 2, .mov (.const (.bool false)), none, false⟩] [2])
    .ret)
  .skip))
  (.seq (.seq (.ops [
    ⟨some 50, .mov (.tmp 7), none, false⟩,
    ⟨some 51, .len .slice (.tmp 50), none, false⟩,
    ⟨some 52, .mov (.const (.int .i64 0)), none, false⟩] [6, 50, 51, 52])
  (.block 0
  (.loop [6, 50, 51, 52]
    (.seq (.ops [
        ⟨some 53, .bin .lss (.tmp 52) (.tmp 51), none, false⟩] [6, 50, 51, 52, 53])
      (.seq (.cond (.tmp 53)
      .skip
      (.exit 0))
      (.seq (.block 1
      (.seq (.ops [
          ⟨some 54, .mov (.tmp 52), none, false⟩,
          ⟨some 55, .indexAddr 4 (.tmp 50) (.tmp 52), none, false⟩,
          ⟨some 56, .load true 4 (.tmp 55), none, false⟩,
          ⟨some 9, .allocL 0 [.bool false, .int .i64 0, .int .i64 0, .str []], none, false⟩,
          ⟨some 8, .mov (.tmp 54), none, false⟩,
          ⟨none, .storeL 4 (.tmp 9) (.tmp 56), none, false⟩] [6, 8, 9, 50, 51, 52])
        (.seq (.opsD [
          (⟨some 57, .fieldL 0 (.tmp 9), none, false⟩, []),
          (⟨some 58, .loadL false 1 (.tmp 57), none, false⟩, []),
          (⟨some 59, .mov (.tmp 6), none, false⟩, []),
          (⟨some 60, .mov (.tmp 8), none, false⟩, []),
          (⟨some 61, .indexAddr 4 (.tmp 59) (.tmp 60), none, false⟩, []),
          (⟨some 62, .fieldAddr 0 (.tmp 61), none, false⟩, []),
          (⟨some 63, .load false 1 (.tmp 62), none, false⟩, []),
          (⟨some 64, .binB .neq (.tmp 58) (.tmp 63), none, false⟩, []),
          (⟨some 65, .mov (.tmp 64), none, false⟩, []),
          (⟨some 66, .fieldL 1 (.tmp 9), some (65, false), false⟩, []),
          (⟨some 67, .loadL false 1 (.tmp 66), some (65, false), false⟩, []),
          (⟨some 68, .mov (.tmp 6), some (65, false), false⟩, []),
          (⟨some 69, .mov (.tmp 8), some (65, false), false⟩, []),
          (⟨some 70, .indexAddr 4 (.tmp 68) (.tmp 69), some (65, false), false⟩, []),
          (⟨some 71, .fieldAddr 1 (.tmp 70), some (65, false), false⟩, []),
          (⟨some 72, .load false 1 (.tmp 71), some (65, false), false⟩, []),
          (⟨some 73, .bin .neq (.tmp 67) (.tmp 72), some (65, false), false⟩, []),
          (⟨some 74, .pick (.tmp 65) (.const (.bool true)) (.tmp 73), none, false⟩, []),
          (⟨some 75, .mov (.tmp 74), none, false⟩, []),
          (⟨some 76, .fieldL 3 (.tmp 9), some (75, false), false⟩, []),
          (⟨some 77, .loadL false 1 (.tmp 76), some (75, false), false⟩, []),
          (⟨some 78, .mov (.tmp 6), some (75, false), false⟩, []),
          (⟨some 79, .mov (.tmp 8), some (75, false), false⟩, []),
          (⟨some 80, .indexAddr 4 (.tmp 78) (.tmp 79), some (75, false), false⟩, []),
          (⟨some 81, .fieldAddr 2 (.tmp 80), some (75, false), false⟩, []),
          (⟨some 82, .load false 1 (.tmp 81), some (75, false), false⟩, []),
          (⟨some 83, .bin .neq (.tmp 77) (.tmp 82), some (75, false), false⟩, []),
          (⟨some 84, .pick (.tmp 75) (.const (.bool true)) (.tmp 83), none, false⟩, []),
          (⟨some 85, .mov (.tmp 84), none, false⟩, []),
          (⟨some 86, .fieldL 2 (.tmp 9), some (85, false), false⟩, []),
          (⟨some 87, .loadL false 1 (.tmp 86), some (85, false), false⟩, []),
          (⟨some 88, .mov (.tmp 6), some (85, false), false⟩, []),
          (⟨some 89, .mov (.tmp 8), some (85, false), false⟩, []),
          (⟨some 90, .indexAddr 4 (.tmp 88) (.tmp 89), some (85, false), false⟩, []),
          (⟨some 91, .fieldAddr 3 (.tmp 90), some (85, false), false⟩, []),
          (⟨some 92, .load false 1 (.tmp 91), some (85, false), false⟩, []),
          (⟨some 93, .bin .neq (.tmp 87) (.tmp 92), some (85, false), false⟩, []),
          (⟨some 94, .pick (.tmp 85) (.const (.bool true)) (.tmp 93), none, false⟩, [])] [6, 50, 51, 52, 94])
        (.cond (.tmp 94)
        (.seq (.ops [
            ⟨some 2, .mov (.const (.bool false)), none, false⟩] [2])
          .ret)
        .skip))))
      (.ops [
        ⟨some 95, .bin .add (.tmp 52) (.const (.int .i64 1)), none, false⟩,
        ⟨some 52, .mov (.tmp 95), none, false⟩] [6, 50, 51, 52])))))))
  (.seq (.ops [
    ⟨some 2, .mov (.const (.bool true)), none, false⟩] [2])
  .ret))))))))))⟩
/-- scribe/scribelaw01.Cut -/
def af10 : AFunc := ⟨2, [.tmp 4],
  (.seq (.ops [
    ⟨some 4, .mov (.const (.string ⟨#[]⟩)), none, false⟩] [0, 1])
  (.seq (.seq (.ops [
    ⟨some 5, .mov (.tmp 0), none, false⟩,
    ⟨some 6, .len .str (.tmp 5), none, false⟩,
    ⟨some 7, .mov (.tmp 1), none, false⟩,
    ⟨some 8, .bin .gtr (.tmp 6) (.tmp 7), none, false⟩] [0, 1, 8])
  (.cond (.tmp 8)
  (.seq (.ops [
      ⟨some 9, .mov (.tmp 0), none, false⟩,
      ⟨some 10, .mov (.tmp 1), none, false⟩,
      ⟨some 11, .sliceStr (.tmp 9) none (some (.tmp 10)), none, false⟩,
      ⟨some 4, .mov (.tmp 11), none, false⟩] [4])
    .ret)
  .skip))
  (.seq (.ops [
    ⟨some 12, .mov (.tmp 0), none, false⟩,
    ⟨some 4, .mov (.tmp 12), none, false⟩] [4])
  .ret)))⟩
/-- scribe/parse.Parse -/
def af11 : AFunc := ⟨1, [.cellL true 4 2, .tmp 3, .tmp 4],
  (.seq (.ops [
    ⟨some 2, .allocL 0 [.str [], .str [], .int .i64 0, .nilSlice], none, false⟩,
    ⟨some 3, .mov (.const (.int .i64 0)), none, false⟩,
    ⟨some 4, .mov (.const (.int .i64 0)), none, false⟩] [0, 2])
  (.seq (.ops [
    ⟨some 11, .mov (.tmp 0), none, false⟩,
    ⟨some 12, .call 27 [(.tmp 11)], none, false⟩,
    ⟨some 10, .mov (.tmp 12), none, false⟩,
    ⟨some 13, .extract (.tmp 10) 0, none, false⟩,
    ⟨some 14, .extract (.tmp 10) 1, none, false⟩,
    ⟨some 15, .extract (.tmp 10) 2, none, false⟩,
    ⟨some 5, .mov (.tmp 13), none, false⟩,
    ⟨some 6, .mov (.tmp 14), none, false⟩,
    ⟨some 7, .mov (.tmp 15), none, false⟩] [2, 5, 6, 7])
  (.seq (.seq (.ops [
    ⟨some 16, .mov (.tmp 7), none, false⟩,
    ⟨some 17, .bin .neq (.tmp 16) (.const (.int .i64 0)), none, false⟩] [2, 5, 6, 7, 17])
  (.cond (.tmp 17)
  (.seq (.ops [
      ⟨some 18, .build [.str [], .str [], .int .i64 0, .nilSlice] [], none, false⟩,
      ⟨some 19, .mov (.tmp 6), none, false⟩,
      ⟨some 20, .mov (.tmp 7), none, false⟩,
      ⟨none, .storeL 4 (.tmp 2) (.tmp 18), none, false⟩,
      ⟨some 3, .mov (.tmp 19), none, false⟩,
      ⟨some 4, .mov (.tmp 20), none, false⟩] [2, 3, 4])
    .ret)
  .skip))
  (.seq (.ops [
    ⟨some 21, .mov (.tmp 5), none, false⟩,
    ⟨some 22, .build [.nilSlice, .int .i64 0, .int .i64 0, .bool false, .int .i64 0, .int .i64 0] [(0, 1, (.tmp 21))], none, false⟩,
    ⟨some 23, .boxH 91 6 (.tmp 22), none, false⟩,
    ⟨some 8, .mov (.tmp 23), none, false⟩] [2, 8])
  (.seq (.ops [
    ⟨some 24, .call 28 [(.const (.string ⟨#[112, 114, 111, 103, 114, 97, 109]⟩)), (.const (.slice none 0 0))], none, false⟩,
    ⟨some 9, .allocL 0 [.str [], .str [], .int .i64 0, .nilSlice], none, false⟩,
    ⟨none, .storeL 4 (.tmp 9) (.tmp 24), none, false⟩] [2, 8, 9])
  (.seq (.block 0
  (.loop [2, 8, 9]
    (.seq (.seq (.ops [
        ⟨some 25, .mov (.tmp 8), none, false⟩,
        ⟨some 26, .nilCheck (.tmp 25), none, false⟩,
        ⟨some 27, .fieldAddr 4 (.tmp 26), none, false⟩,
        ⟨some 28, .load false 1 (.tmp 27), none, false⟩,
        ⟨some 29, .bin .eql (.tmp 28) (.const (.int .i64 0)), none, false⟩] [2, 8, 9, 29])
      (.cond (.tmp 29)
      .skip
      (.exit 0)))
      (.block 1
      (.seq (.block 2
        (.loop [2, 8, 9]
          (.seq (.seq (.ops [
              ⟨some 30, .mov (.tmp 8), none, false⟩,
              ⟨some 31, .buildSlice true 9 1 1 [.str []] [(0, (.const (.string ⟨#[59]⟩)))], none, false⟩,
              ⟨some 32, .call 29 [(.tmp 30), (.tmp 31)], none, false⟩,
              ⟨some 33, .mov (.tmp 32), none, false⟩,
              ⟨some 34, .mov (.tmp 8), some (33, false), false⟩,
              ⟨some 35, .call 30 [(.tmp 34)], some (33, false), false⟩,
              ⟨some 36, .field false 1 0 (.tmp 35), some (33, false), false⟩,
              ⟨some 37, .bin .eql (.tmp 36) (.const (.int .i64 1)), some (33, false), false⟩,
              ⟨some 38, .pick (.tmp 33) (.const (.bool true)) (.tmp 37), none, false⟩] [2, 8, 9, 38])
            (.cond (.tmp 38)
            .skip
            (.exit 2)))
            (.block 3
            (.ops [
                ⟨some 39, .mov (.tmp 8), none, false⟩,
                ⟨some 40, .call 31 [(.tmp 39)], none, false⟩] [2, 8, 9])))))
        (.seq (.seq (.ops [
          ⟨some 41, .mov (.tmp 8), none, false⟩,
          ⟨some 42, .call 30 [(.tmp 41)], none, false⟩,
          ⟨some 43, .field false 1 0 (.tmp 42), none, false⟩,
          ⟨some 44, .bin .eql (.tmp 43) (.const (.int .i64 0)), none, false⟩] [2, 8, 9, 44])
        (.cond (.tmp 44)
        (.exit 0)
        .skip))
        (.opsD [
          (⟨some 45, .fieldL 3 (.tmp 9), none, false⟩, []),
          (⟨some 46, .loadL false 1 (.tmp 45), none, false⟩, []),
          (⟨some 47, .mov (.tmp 8), none, false⟩, []),
          (⟨some 48, .call 32 [(.tmp 47)], none, false⟩, []),
          (⟨some 49, .buildSlice true 25 4 1 [.str [], .str [], .int .i64 0, .nilSlice] [(0, (.tmp 48))], none, false⟩, []),
          (⟨some 50, .append false 25 4 64 (.tmp 46) (.tmp 49), none, false⟩, []),
          (⟨some 51, .fieldL 3 (.tmp 9), none, false⟩, []),
          (⟨none, .storeL 1 (.tmp 51) (.tmp 50), none, false⟩, [])] [2, 8, 9])))))))
  (.seq (.seq (.ops [
    ⟨some 52, .mov (.tmp 8), none, false⟩,
    ⟨some 53, .nilCheck (.tmp 52), none, false⟩,
    ⟨some 54, .fieldAddr 4 (.tmp 53), none, false⟩,
    ⟨some 55, .load false 1 (.tmp 54), none, false⟩,
    ⟨some 56, .bin .neq (.tmp 55) (.const (.int .i64 0)), none, false⟩] [2, 8, 9, 56])
  (.cond (.tmp 56)
  (.seq (.opsD [
      (⟨some 57, .build [.str [], .str [], .int .i64 0, .nilSlice] [], none, false⟩, []),
      (⟨some 58, .mov (.tmp 8), none, false⟩, []),
      (⟨some 59, .nilCheck (.tmp 58), none, false⟩, []),
      (⟨some 60, .fieldAddr 5 (.tmp 59), none, false⟩, []),
      (⟨some 61, .load false 1 (.tmp 60), none, false⟩, []),
      (⟨some 62, .mov (.tmp 8), none, false⟩, []),
      (⟨some 63, .nilCheck (.tmp 62), none, false⟩, []),
      (⟨some 64, .fieldAddr 4 (.tmp 63), none, false⟩, []),
      (⟨some 65, .load false 1 (.tmp 64), none, false⟩, []),
      (⟨none, .storeL 4 (.tmp 2) (.tmp 57), none, false⟩, []),
      (⟨some 3, .mov (.tmp 61), none, false⟩, []),
      (⟨some 4, .mov (.tmp 65), none, false⟩, [])] [2, 3, 4])
    .ret)
  .skip))
  (.seq (.ops [
    ⟨some 66, .loadL true 4 (.tmp 9), none, false⟩,
    ⟨none, .storeL 4 (.tmp 2) (.tmp 66), none, false⟩,
    ⟨some 3, .mov (.const (.int .i64 0)), none, false⟩,
    ⟨some 4, .mov (.const (.int .i64 0)), none, false⟩] [2, 3, 4])
  .ret))))))))⟩
/-- scribe/scribelaw14.awake -/
def af12 : AFunc := ⟨0, [.tmp 0],
  (.seq (.ops [
    ⟨some 0, .mov (.const (.bool false)), none, false⟩] [])
  (.seq (.ops [
    ⟨some 8, .call 17 [(.const (.string ⟨#[102, 117, 110, 99, 116, 105, 111, 110, 32, 102, 40, 97, 41, 123, 97, 91, 49, 93, 61, 49, 125, 32, 66, 69, 71, 73, 78, 123, 102, 40, 120, 41, 59, 112, 114, 105, 110, 116, 32, 120, 91, 49, 93, 125]⟩))], none, false⟩,
    ⟨some 7, .mov (.tmp 8), none, false⟩,
    ⟨some 9, .extract (.tmp 7) 0, none, false⟩,
    ⟨some 10, .extract (.tmp 7) 1, none, false⟩,
    ⟨some 11, .extract (.tmp 7) 2, none, false⟩,
    ⟨some 1, .mov (.tmp 9), none, false⟩,
    ⟨some 2, .mov (.tmp 10), none, false⟩,
    ⟨some 3, .mov (.tmp 11), none, false⟩] [1, 3])
  (.seq (.ops [
    ⟨some 13, .call 17 [(.const (.string ⟨#[102, 117, 110, 99, 116, 105, 111, 110, 32, 102, 40, 97, 41, 123, 97, 91, 49, 93, 61, 49, 125, 32, 66, 69, 71, 73, 78, 123, 102, 40, 120, 41, 59, 112, 114, 105, 110, 116, 32, 120, 125]⟩))], none, false⟩,
    ⟨some 12, .mov (.tmp 13), none, false⟩,
    ⟨some 14, .extract (.tmp 12) 0, none, false⟩,
    ⟨some 15, .extract (.tmp 12) 1, none, false⟩,
    ⟨some 16, .extract (.tmp 12) 2, none, false⟩,
    ⟨some 4, .mov (.tmp 14), none, false⟩,
    ⟨some 5, .mov (.tmp 15), none, false⟩,
    ⟨some 6, .mov (.tmp 16), none, false⟩] [1, 3, 5, 6])
  (.seq (.ops [
    ⟨some 17, .mov (.tmp 3), none, false⟩,
    ⟨some 18, .bin .eql (.tmp 17) (.const (.int .i64 0)), none, false⟩,
    ⟨some 19, .mov (.tmp 18), none, false⟩,
    ⟨some 20, .mov (.tmp 1), some (19, true), false⟩,
    ⟨some 21, .eqNil .ptr true (.tmp 20) (.const (.pointer none)), some (19, true), false⟩,
    ⟨some 22, .pick (.tmp 19) (.tmp 21) (.const (.bool false)), none, false⟩,
    ⟨some 23, .mov (.tmp 22), none, false⟩,
    ⟨some 24, .mov (.tmp 1), some (23, true), false⟩,
    ⟨some 25, .nilCheck (.tmp 24), some (23, true), false⟩,
    ⟨some 26, .fieldAddr 0 (.tmp 25), some (23, true), false⟩,
    ⟨some 27, .load false 1 (.tmp 26), some (23, true), false⟩,
    ⟨some 28, .len .slice (.tmp 27), some (23, true), false⟩,
    ⟨some 29, .bin .eql (.tmp 28) (.const (.int .i64 1)), some (23, true), false⟩,
    ⟨some 30, .pick (.tmp 23) (.tmp 29) (.const (.bool false)), none, false⟩,
    ⟨some 31, .mov (.tmp 30), none, false⟩,
    ⟨some 32, .mov (.tmp 1), some (31, true), false⟩,
    ⟨some 33, .nilCheck (.tmp 32), some (31, true), false⟩,
    ⟨some 34, .fieldAddr 0 (.tmp 33), some (31, true), false⟩,
    ⟨some 35, .load false 1 (.tmp 34), some (31, true), false⟩,
    ⟨some 36, .indexAddr 7 (.tmp 35) (.const (.int .i64 0)), some (31, true), false⟩,
    ⟨some 37, .fieldAddr 2 (.tmp 36), some (31, true), false⟩,
    ⟨some 38, .load false 1 (.tmp 37), some (31, true), false⟩,
    ⟨some 39, .len .slice (.tmp 38), some (31, true), false⟩,
    ⟨some 40, .bin .eql (.tmp 39) (.const (.int .i64 1)), some (31, true), false⟩,
    ⟨some 41, .pick (.tmp 31) (.tmp 40) (.const (.bool false)), none, false⟩,
    ⟨some 42, .mov (.tmp 41), none, false⟩,
    ⟨some 43, .mov (.tmp 1), some (42, true), false⟩,
    ⟨some 44, .nilCheck (.tmp 43), some (42, true), false⟩,
    ⟨some 45, .fieldAddr 0 (.tmp 44), some (42, true), false⟩,
    ⟨some 46, .load false 1 (.tmp 45), some (42, true), false⟩,
    ⟨some 47, .indexAddr 7 (.tmp 46) (.const (.int .i64 0)), some (42, true), false⟩,
    ⟨some 48, .fieldAddr 2 (.tmp 47), some (42, true), false⟩,
    ⟨some 49, .load false 1 (.tmp 48), some (42, true), false⟩,
    ⟨some 50, .indexAddr 1 (.tmp 49) (.const (.int .i64 0)), some (42, true), false⟩,
    ⟨some 51, .load false 1 (.tmp 50), some (42, true), false⟩,
    ⟨some 52, .pick (.tmp 42) (.tmp 51) (.const (.bool false)), none, false⟩,
    ⟨some 53, .mov (.tmp 52), none, false⟩,
    ⟨some 54, .mov (.tmp 1), some (53, true), false⟩,
    ⟨some 55, .nilCheck (.tmp 54), some (53, true), false⟩,
    ⟨some 56, .fieldAddr 1 (.tmp 55), some (53, true), false⟩,
    ⟨some 57, .load false 1 (.tmp 56), some (53, true), false⟩,
    ⟨some 58, .len .slice (.tmp 57), some (53, true), false⟩,
    ⟨some 59, .bin .eql (.tmp 58) (.const (.int .i64 1)), some (53, true), false⟩,
    ⟨some 60, .pick (.tmp 53) (.tmp 59) (.const (.bool false)), none, false⟩,
    ⟨some 61, .mov (.tmp 60), none, false⟩,
    ⟨some 62, .mov (.tmp 1), some (61, true), false⟩,
    ⟨some 63, .nilCheck (.tmp 62), some (61, true), false⟩,
    ⟨some 64, .fieldAddr 1 (.tmp 63), some (61, true), false⟩,
    ⟨some 65, .load false 1 (.tmp 64), some (61, true), false⟩,
    ⟨some 66, .indexAddr 1 (.tmp 65) (.const (.int .i64 0)), some (61, true), false⟩,
    ⟨some 67, .load false 1 (.tmp 66), some (61, true), false⟩,
    ⟨some 68, .bin .eql (.tmp 67) (.const (.string ⟨#[120]⟩)), some (61, true), false⟩,
    ⟨some 69, .pick (.tmp 61) (.tmp 68) (.const (.bool false)), none, false⟩,
    ⟨some 70, .mov (.tmp 69), none, false⟩,
    ⟨some 71, .mov (.tmp 1), some (70, true), false⟩,
    ⟨some 72, .nilCheck (.tmp 71), some (70, true), false⟩,
    ⟨some 73, .fieldAddr 2 (.tmp 72), some (70, true), false⟩,
    ⟨some 74, .load false 1 (.tmp 73), some (70, true), false⟩,
    ⟨some 75, .indexAddr 1 (.tmp 74) (.const (.int .i64 0)), some (70, true), false⟩,
    ⟨some 76, .load false 1 (.tmp 75), some (70, true), false⟩,
    ⟨some 77, .pick (.tmp 70) (.tmp 76) (.const (.bool false)), none, false⟩,
    ⟨some 78, .mov (.tmp 77), none, false⟩,
    ⟨some 79, .mov (.tmp 6), some (78, true), false⟩,
    ⟨some 80, .bin .eql (.tmp 79) (.const (.int .i64 11)), some (78, true), false⟩,
    ⟨some 81, .pick (.tmp 78) (.tmp 80) (.const (.bool false)), none, false⟩,
    ⟨some 82, .mov (.tmp 81), none, false⟩,
    ⟨some 83, .mov (.tmp 5), some (82, true), false⟩,
    ⟨some 84, .bin .eql (.tmp 83) (.const (.int .i64 39)), some (82, true), false⟩,
    ⟨some 85, .pick (.tmp 82) (.tmp 84) (.const (.bool false)), none, false⟩,
    ⟨some 0, .mov (.tmp 85), none, false⟩] [0])
  .ret))))⟩
/-- scribe/resolve.Resolve -/
def af13 : AFunc := ⟨1, [.tmp 2, .tmp 3, .tmp 4],
  (.seq (.ops [
    ⟨some 1, .boxL 0 4 (.tmp 0), none, false⟩,
    ⟨some 2, .mov (.const (.pointer none)), none, false⟩,
    ⟨some 3, .mov (.const (.int .i64 0)), none, false⟩,
    ⟨some 4, .mov (.const (.int .i64 0)), none, false⟩] [1])
  (.seq (.ops [
    ⟨some 15, .makeMap, none, false⟩,
    ⟨some 16, .build [.nilSlice, .nilSlice, .nilSlice] [], none, false⟩,
    ⟨some 17, .boxH 40 3 (.tmp 16), none, false⟩,
    ⟨some 18, .makeMap, none, false⟩,
    ⟨some 19, .build [.nilMap, .nil, .nilMap, .nilSlice, .int .i64 0, .int .i64 0] [(0, 1, (.tmp 15)), (1, 1, (.tmp 17)), (2, 1, (.tmp 18))], none, false⟩,
    ⟨some 20, .boxH 104 6 (.tmp 19), none, false⟩,
    ⟨some 5, .mov (.tmp 20), none, false⟩] [1, 5])
  (.seq (.ops [
    ⟨some 21, .mov (.tmp 5), none, false⟩,
    ⟨some 22, .fieldL 3 (.tmp 1), none, false⟩,
    ⟨some 23, .loadL false 1 (.tmp 22), none, false⟩,
    ⟨some 24, .call 33 [(.tmp 21), (.tmp 23)], none, false⟩] [1, 5])
  (.seq (.ops [
    ⟨some 25, .mov (.tmp 5), none, false⟩,
    ⟨some 26, .fieldL 3 (.tmp 1), none, false⟩,
    ⟨some 27, .loadL false 1 (.tmp 26), none, false⟩,
    ⟨some 28, .call 34 [(.tmp 25), (.tmp 27)], none, false⟩] [1, 5])
  (.seq (.ops [
    ⟨some 6, .mov (.const (.int .i64 0)), none, false⟩] [1, 5, 6])
  (.seq (.seq (.ops [
    ⟨some 29, .fieldL 3 (.tmp 1), none, false⟩,
    ⟨some 30, .loadL false 1 (.tmp 29), none, false⟩,
    ⟨some 31, .len .slice (.tmp 30), none, false⟩,
    ⟨some 32, .mov (.const (.int .i64 0)), none, false⟩] [5, 6, 30, 31, 32])
  (.block 0
  (.loop [5, 6, 30, 31, 32]
    (.seq (.ops [
        ⟨some 33, .bin .lss (.tmp 32) (.tmp 31), none, false⟩] [5, 6, 30, 31, 32, 33])
      (.seq (.cond (.tmp 33)
      .skip
      (.exit 0))
      (.seq (.block 1
      (.seq (.ops [
          ⟨some 34, .indexAddr 4 (.tmp 30) (.tmp 32), none, false⟩,
          ⟨some 35, .load true 4 (.tmp 34), none, false⟩,
          ⟨some 8, .allocL 0 [.str [], .str [], .int .i64 0, .nilSlice], none, false⟩,
          ⟨none, .storeL 4 (.tmp 8) (.tmp 35), none, false⟩] [5, 6, 8, 30, 31, 32])
        (.seq (.ops [
          ⟨some 36, .mov (.tmp 5), none, false⟩,
          ⟨some 37, .loadL true 4 (.tmp 8), none, false⟩,
          ⟨some 38, .mov (.tmp 6), none, false⟩,
          ⟨some 39, .call 35 [(.tmp 36), (.tmp 37), (.tmp 38)], none, false⟩] [5, 6, 8, 30, 31, 32])
        (.seq (.ops [
          ⟨some 40, .fieldL 0 (.tmp 8), none, false⟩,
          ⟨some 41, .loadL false 1 (.tmp 40), none, false⟩,
          ⟨some 42, .bin .eql (.tmp 41) (.const (.string ⟨#[102, 117, 110, 99]⟩)), none, false⟩] [5, 6, 30, 31, 32, 42])
        (.cond (.tmp 42)
        (.ops [
            ⟨some 43, .mov (.tmp 6), none, false⟩,
            ⟨some 44, .bin .add (.tmp 43) (.const (.int .i64 1)), none, false⟩,
            ⟨some 6, .mov (.tmp 44), none, false⟩] [5, 6, 30, 31, 32])
        .skip)))))
      (.ops [
        ⟨some 45, .bin .add (.tmp 32) (.const (.int .i64 1)), none, false⟩,
        ⟨some 32, .mov (.tmp 45), none, false⟩] [5, 6, 30, 31, 32])))))))
  (.seq (.seq (.ops [
    ⟨some 46, .mov (.tmp 5), none, false⟩,
    ⟨some 47, .nilCheck (.tmp 46), none, false⟩,
    ⟨some 48, .fieldAddr 5 (.tmp 47), none, false⟩,
    ⟨some 49, .load false 1 (.tmp 48), none, false⟩,
    ⟨some 50, .bin .neq (.tmp 49) (.const (.int .i64 0)), none, false⟩] [5, 50])
  (.cond (.tmp 50)
  (.seq (.opsD [
      (⟨some 51, .mov (.tmp 5), none, false⟩, []),
      (⟨some 52, .nilCheck (.tmp 51), none, false⟩, []),
      (⟨some 53, .fieldAddr 4 (.tmp 52), none, false⟩, []),
      (⟨some 54, .load false 1 (.tmp 53), none, false⟩, []),
      (⟨some 55, .mov (.tmp 5), none, false⟩, []),
      (⟨some 56, .nilCheck (.tmp 55), none, false⟩, []),
      (⟨some 57, .fieldAddr 5 (.tmp 56), none, false⟩, []),
      (⟨some 58, .load false 1 (.tmp 57), none, false⟩, []),
      (⟨some 2, .mov (.const (.pointer none)), none, false⟩, []),
      (⟨some 3, .mov (.tmp 54), none, false⟩, []),
      (⟨some 4, .mov (.tmp 58), none, false⟩, [])] [2, 3, 4])
    .ret)
  .skip))
  (.seq (.seq (.ops [
    ⟨some 59, .mov (.tmp 5), none, false⟩,
    ⟨some 60, .nilCheck (.tmp 59), none, false⟩,
    ⟨some 61, .fieldAddr 1 (.tmp 60), none, false⟩,
    ⟨some 62, .load false 1 (.tmp 61), none, false⟩,
    ⟨some 63, .nilCheck (.tmp 62), none, false⟩,
    ⟨some 64, .fieldAddr 0 (.tmp 63), none, false⟩,
    ⟨some 65, .load false 1 (.tmp 64), none, false⟩,
    ⟨some 66, .len .slice (.tmp 65), none, false⟩,
    ⟨some 67, .mov (.const (.int .i64 0)), none, false⟩] [5, 65, 66, 67])
  (.block 2
  (.loop [5, 65, 66, 67]
    (.seq (.ops [
        ⟨some 68, .bin .lss (.tmp 67) (.tmp 66), none, false⟩] [5, 65, 66, 67, 68])
      (.seq (.cond (.tmp 68)
      .skip
      (.exit 2))
      (.seq (.block 3
      (.seq (.ops [
          ⟨some 69, .mov (.tmp 67), none, false⟩,
          ⟨some 70, .indexAddr 7 (.tmp 65) (.tmp 67), none, false⟩,
          ⟨some 71, .load true 7 (.tmp 70), none, false⟩,
          ⟨some 10, .allocL 0 [.str [], .nilSlice, .nilSlice, .str [], .str [], .int .i64 0, .nilSlice], none, false⟩,
          ⟨some 9, .mov (.tmp 69), none, false⟩,
          ⟨none, .storeL 7 (.tmp 10) (.tmp 71), none, false⟩] [5, 9, 10, 65, 66, 67])
        (.seq (.ops [
          ⟨some 72, .fieldL 1 (.tmp 10), none, false⟩,
          ⟨some 73, .loadL false 1 (.tmp 72), none, false⟩,
          ⟨some 74, .len .slice (.tmp 73), none, false⟩,
          ⟨some 75, .mov (.const (.int .i64 0)), none, false⟩] [5, 9, 65, 66, 67, 73, 74, 75])
        (.block 4
        (.loop [5, 9, 65, 66, 67, 73, 74, 75]
          (.seq (.ops [
              ⟨some 76, .bin .lss (.tmp 75) (.tmp 74), none, false⟩] [5, 9, 65, 66, 67, 73, 74, 75, 76])
            (.seq (.cond (.tmp 76)
            .skip
            (.exit 4))
            (.seq (.block 5
            (.seq (.ops [
                ⟨some 77, .indexAddr 1 (.tmp 73) (.tmp 75), none, false⟩,
                ⟨some 78, .load false 1 (.tmp 77), none, false⟩,
                ⟨some 12, .mov (.tmp 78), none, false⟩] [5, 9, 12, 65, 66, 67, 73, 74, 75])
              (.opsD [
                (⟨some 79, .mov (.tmp 5), none, false⟩, []),
                (⟨some 80, .nilCheck (.tmp 79), none, false⟩, []),
                (⟨some 81, .fieldAddr 1 (.tmp 80), none, false⟩, []),
                (⟨some 82, .load false 1 (.tmp 81), none, false⟩, []),
                (⟨some 83, .nilCheck (.tmp 82), none, false⟩, []),
                (⟨some 84, .fieldAddr 0 (.tmp 83), none, false⟩, []),
                (⟨some 85, .load false 1 (.tmp 84), none, false⟩, []),
                (⟨some 86, .mov (.tmp 9), none, false⟩, []),
                (⟨some 87, .mov (.tmp 5), none, false⟩, []),
                (⟨some 88, .nilCheck (.tmp 87), none, false⟩, []),
                (⟨some 89, .fieldAddr 1 (.tmp 88), none, false⟩, []),
                (⟨some 90, .load false 1 (.tmp 89), none, false⟩, []),
                (⟨some 91, .nilCheck (.tmp 90), none, false⟩, []),
                (⟨some 92, .fieldAddr 0 (.tmp 91), none, false⟩, []),
                (⟨some 93, .load false 1 (.tmp 92), none, false⟩, []),
                (⟨some 94, .mov (.tmp 9), none, false⟩, []),
                (⟨some 95, .indexAddr 7 (.tmp 93) (.tmp 94), none, false⟩, []),
                (⟨some 96, .fieldAddr 2 (.tmp 95), none, false⟩, []),
                (⟨some 97, .load false 1 (.tmp 96), none, false⟩, []),
                (⟨some 98, .mov (.tmp 5), none, false⟩, []),
                (⟨some 99, .nilCheck (.tmp 98), none, false⟩, []),
                (⟨some 100, .fieldAddr 2 (.tmp 99), none, false⟩, []),
                (⟨some 101, .load false 1 (.tmp 100), none, false⟩, []),
                (⟨some 102, .mov (.tmp 9), none, false⟩, []),
                (⟨some 103, .mov (.tmp 12), none, false⟩, []),
                (⟨some 104, .build [.int .i64 0, .str []] [(0, 1, (.tmp 102)), (1, 1, (.tmp 103))], none, false⟩, []),
                (⟨some 105, .lookup (.agg [.int, .str]) (.bool false) False (.tmp 101) (.tmp 104), none, false⟩, []),
                (⟨some 106, .buildSlice true 4 1 1 [.bool false] [(0, (.tmp 105))], none, false⟩, []),
                (⟨some 107, .append false 4 1 1 (.tmp 97) (.tmp 106), none, false⟩, [(82, .load false 1 (.tmp 81)), (85, .load false 1 (.tmp 84))]),
                (⟨some 108, .indexAddr 7 (.tmp 85) (.tmp 86), none, false⟩, []),
                (⟨some 109, .fieldAddr 2 (.tmp 108), none, false⟩, []),
                (⟨none, .store 1 (.tmp 109) (.tmp 107), none, false⟩, [])] [5, 9, 65, 66, 67, 73, 74, 75])))
            (.ops [
              ⟨some 110, .bin .add (.tmp 75) (.const (.int .i64 1)), none, false⟩,
              ⟨some 75, .mov (.tmp 110), none, false⟩] [5, 9, 65, 66, 67, 73, 74, 75])))))))))
      (.ops [
        ⟨some 111, .bin .add (.tmp 67) (.const (.int .i64 1)), none, false⟩,
        ⟨some 67, .mov (.tmp 111), none, false⟩] [5, 65, 66, 67])))))))
  (.seq (.opsD [
    (⟨some 112, .mov (.tmp 5), none, false⟩, []),
    (⟨some 113, .nilCheck (.tmp 112), none, false⟩, []),
    (⟨some 114, .fieldAddr 1 (.tmp 113), none, false⟩, []),
    (⟨some 115, .load false 1 (.tmp 114), none, false⟩, []),
    (⟨some 116, .mov (.tmp 5), none, false⟩, []),
    (⟨some 117, .nilCheck (.tmp 116), none, false⟩, []),
    (⟨some 118, .fieldAddr 3 (.tmp 117), none, false⟩, []),
    (⟨some 119, .load false 1 (.tmp 118), none, false⟩, []),
    (⟨some 120, .nilCheck (.tmp 115), none, false⟩, []),
    (⟨some 121, .fieldAddr 1 (.tmp 120), none, false⟩, []),
    (⟨none, .store 1 (.tmp 121) (.tmp 119), none, false⟩, [])] [5])
  (.seq (.seq (.ops [
    ⟨some 122, .mov (.tmp 5), none, false⟩,
    ⟨some 123, .nilCheck (.tmp 122), none, false⟩,
    ⟨some 124, .fieldAddr 3 (.tmp 123), none, false⟩,
    ⟨some 125, .load false 1 (.tmp 124), none, false⟩,
    ⟨some 126, .len .slice (.tmp 125), none, false⟩,
    ⟨some 127, .mov (.const (.int .i64 0)), none, false⟩] [5, 125, 126, 127])
  (.block 6
  (.loop [5, 125, 126, 127]
    (.seq (.ops [
        ⟨some 128, .bin .lss (.tmp 127) (.tmp 126), none, false⟩] [5, 125, 126, 127, 128])
      (.seq (.cond (.tmp 128)
      .skip
      (.exit 6))
      (.seq (.block 7
      (.seq (.ops [
          ⟨some 129, .indexAddr 1 (.tmp 125) (.tmp 127), none, false⟩,
          ⟨some 130, .load false 1 (.tmp 129), none, false⟩,
          ⟨some 14, .mov (.tmp 130), none, false⟩] [5, 14, 125, 126, 127])
        (.opsD [
          (⟨some 131, .mov (.tmp 5), none, false⟩, []),
          (⟨some 132, .nilCheck (.tmp 131), none, false⟩, []),
          (⟨some 133, .fieldAddr 1 (.tmp 132), none, false⟩, []),
          (⟨some 134, .load false 1 (.tmp 133), none, false⟩, []),
          (⟨some 135, .mov (.tmp 5), none, false⟩, []),
          (⟨some 136, .nilCheck (.tmp 135), none, false⟩, []),
          (⟨some 137, .fieldAddr 1 (.tmp 136), none, false⟩, []),
          (⟨some 138, .load false 1 (.tmp 137), none, false⟩, []),
          (⟨some 139, .nilCheck (.tmp 138), none, false⟩, []),
          (⟨some 140, .fieldAddr 2 (.tmp 139), none, false⟩, []),
          (⟨some 141, .load false 1 (.tmp 140), none, false⟩, []),
          (⟨some 142, .mov (.tmp 5), none, false⟩, []),
          (⟨some 143, .nilCheck (.tmp 142), none, false⟩, []),
          (⟨some 144, .fieldAddr 2 (.tmp 143), none, false⟩, []),
          (⟨some 145, .load false 1 (.tmp 144), none, false⟩, []),
          (⟨some 146, .mov (.tmp 14), none, false⟩, []),
          (⟨some 147, .build [.int .i64 0, .str []] [(0, 1, (.const (.int .i64 (-1)))), (1, 1, (.tmp 146))], none, false⟩, []),
          (⟨some 148, .lookup (.agg [.int, .str]) (.bool false) False (.tmp 145) (.tmp 147), none, false⟩, []),
          (⟨some 149, .buildSlice true 4 1 1 [.bool false] [(0, (.tmp 148))], none, false⟩, []),
          (⟨some 150, .append false 4 1 1 (.tmp 141) (.tmp 149), none, false⟩, [(134, .load false 1 (.tmp 133))]),
          (⟨some 151, .nilCheck (.tmp 134), none, false⟩, []),
          (⟨some 152, .fieldAddr 2 (.tmp 151), none, false⟩, []),
          (⟨none, .store 1 (.tmp 152) (.tmp 150), none, false⟩, [])] [5, 125, 126, 127])))
      (.ops [
        ⟨some 153, .bin .add (.tmp 127) (.const (.int .i64 1)), none, false⟩,
        ⟨some 127, .mov (.tmp 153), none, false⟩] [5, 125, 126, 127])))))))
  (.seq (.ops [
    ⟨some 154, .mov (.tmp 5), none, false⟩,
    ⟨some 155, .nilCheck (.tmp 154), none, false⟩,
    ⟨some 156, .fieldAddr 1 (.tmp 155), none, false⟩,
    ⟨some 157, .load false 1 (.tmp 156), none, false⟩,
    ⟨some 2, .mov (.tmp 157), none, false⟩,
    ⟨some 3, .mov (.const (.int .i64 0)), none, false⟩,
    ⟨some 4, .mov (.const (.int .i64 0)), none, false⟩] [2, 3, 4])
  .ret)))))))))))⟩
/-- scribe/ast.All -/
def af14 : AFunc := ⟨1, [.tmp 2],
  (.seq (.ops [
    ⟨some 1, .boxH 25 4 (.tmp 0), none, false⟩,
    ⟨some 2, .mov (.const .nilFunc), none, false⟩] [1])
  (.seq (.ops [
    ⟨some 3, .clos 36 [] [(.tmp 1)], none, false⟩,
    ⟨some 2, .mov (.tmp 3), none, false⟩] [2])
  .ret))⟩
/-- scribe/scribelaw14.texts -/
def af15 : AFunc := ⟨2, [.tmp 4],
  (.seq (.ops [
    ⟨some 4, .mov (.const (.bool false)), none, false⟩] [0, 1])
  (.seq (.seq (.ops [
    ⟨some 6, .mov (.tmp 0), none, false⟩,
    ⟨some 7, .len .slice (.tmp 6), none, false⟩,
    ⟨some 8, .mov (.tmp 1), none, false⟩,
    ⟨some 9, .len .slice (.tmp 8), none, false⟩,
    ⟨some 10, .bin .neq (.tmp 7) (.tmp 9), none, false⟩] [0, 1, 10])
  (.cond (.tmp 10)
  (.seq (.ops [
      ⟨some 4, .mov (.const (.bool false)), none, false⟩] [4])
    .ret)
  .skip))
  (.seq (.seq (.ops [
    ⟨some 11, .mov (.tmp 0), none, false⟩,
    ⟨some 12, .len .slice (.tmp 11), none, false⟩,
    ⟨some 13, .mov (.const (.int .i64 0)), none, false⟩] [0, 1, 12, 13])
  (.block 0
  (.loop [0, 1, 12, 13]
    (.seq (.ops [
        ⟨some 14, .bin .lss (.tmp 13) (.tmp 12), none, false⟩] [0, 1, 12, 13, 14])
      (.seq (.cond (.tmp 14)
      .skip
      (.exit 0))
      (.seq (.block 1
      (.seq (.ops [
          ⟨some 15, .mov (.tmp 13), none, false⟩,
          ⟨some 5, .mov (.tmp 15), none, false⟩] [0, 1, 5, 12, 13])
        (.seq (.opsD [
          (⟨some 16, .mov (.tmp 0), none, false⟩, []),
          (⟨some 17, .mov (.tmp 5), none, false⟩, []),
          (⟨some 18, .indexAddr 1 (.tmp 16) (.tmp 17), none, false⟩, []),
          (⟨some 19, .load false 1 (.tmp 18), none, false⟩, []),
          (⟨some 20, .mov (.tmp 1), none, false⟩, []),
          (⟨some 21, .mov (.tmp 5), none, false⟩, []),
          (⟨some 22, .indexAddr 1 (.tmp 20) (.tmp 21), none, false⟩, []),
          (⟨some 23, .load false 1 (.tmp 22), none, false⟩, []),
          (⟨some 24, .bin .neq (.tmp 19) (.tmp 23), none, false⟩, [])] [0, 1, 12, 13, 24])
        (.cond (.tmp 24)
        (.seq (.ops [
            ⟨some 4, .mov (.const (.bool false)), none, false⟩] [4])
          .ret)
        .skip))))
      (.ops [
        ⟨some 25, .bin .add (.tmp 13) (.const (.int .i64 1)), none, false⟩,
        ⟨some 13, .mov (.tmp 25), none, false⟩] [0, 1, 12, 13])))))))
  (.seq (.ops [
    ⟨some 4, .mov (.const (.bool true)), none, false⟩] [4])
  .ret))))⟩
/-- scribe/scribelaw14.bools -/
def af16 : AFunc := ⟨2, [.tmp 4],
  (.seq (.ops [
    ⟨some 4, .mov (.const (.bool false)), none, false⟩] [0, 1])
  (.seq (.seq (.ops [
    ⟨some 6, .mov (.tmp 0), none, false⟩,
    ⟨some 7, .len .slice (.tmp 6), none, false⟩,
    ⟨some 8, .mov (.tmp 1), none, false⟩,
    ⟨some 9, .len .slice (.tmp 8), none, false⟩,
    ⟨some 10, .bin .neq (.tmp 7) (.tmp 9), none, false⟩] [0, 1, 10])
  (.cond (.tmp 10)
  (.seq (.ops [
      ⟨some 4, .mov (.const (.bool false)), none, false⟩] [4])
    .ret)
  .skip))
  (.seq (.seq (.ops [
    ⟨some 11, .mov (.tmp 0), none, false⟩,
    ⟨some 12, .len .slice (.tmp 11), none, false⟩,
    ⟨some 13, .mov (.const (.int .i64 0)), none, false⟩] [0, 1, 12, 13])
  (.block 0
  (.loop [0, 1, 12, 13]
    (.seq (.ops [
        ⟨some 14, .bin .lss (.tmp 13) (.tmp 12), none, false⟩] [0, 1, 12, 13, 14])
      (.seq (.cond (.tmp 14)
      .skip
      (.exit 0))
      (.seq (.block 1
      (.seq (.ops [
          ⟨some 15, .mov (.tmp 13), none, false⟩,
          ⟨some 5, .mov (.tmp 15), none, false⟩] [0, 1, 5, 12, 13])
        (.seq (.opsD [
          (⟨some 16, .mov (.tmp 0), none, false⟩, []),
          (⟨some 17, .mov (.tmp 5), none, false⟩, []),
          (⟨some 18, .indexAddr 1 (.tmp 16) (.tmp 17), none, false⟩, []),
          (⟨some 19, .load false 1 (.tmp 18), none, false⟩, []),
          (⟨some 20, .mov (.tmp 1), none, false⟩, []),
          (⟨some 21, .mov (.tmp 5), none, false⟩, []),
          (⟨some 22, .indexAddr 1 (.tmp 20) (.tmp 21), none, false⟩, []),
          (⟨some 23, .load false 1 (.tmp 22), none, false⟩, []),
          (⟨some 24, .binB .neq (.tmp 19) (.tmp 23), none, false⟩, [])] [0, 1, 12, 13, 24])
        (.cond (.tmp 24)
        (.seq (.ops [
            ⟨some 4, .mov (.const (.bool false)), none, false⟩] [4])
          .ret)
        .skip))))
      (.ops [
        ⟨some 25, .bin .add (.tmp 13) (.const (.int .i64 1)), none, false⟩,
        ⟨some 13, .mov (.tmp 25), none, false⟩] [0, 1, 12, 13])))))))
  (.seq (.ops [
    ⟨some 4, .mov (.const (.bool true)), none, false⟩] [4])
  .ret))))⟩
/-- scribe/scribelaw14.of -/
def af17 : AFunc := ⟨1, [.tmp 2, .tmp 3, .tmp 4],
  (.seq (.ops [
    ⟨some 2, .mov (.const (.pointer none)), none, false⟩,
    ⟨some 3, .mov (.const (.int .i64 0)), none, false⟩,
    ⟨some 4, .mov (.const (.int .i64 0)), none, false⟩] [0])
  (.seq (.ops [
    ⟨some 9, .mov (.tmp 0), none, false⟩,
    ⟨some 10, .call 11 [(.tmp 9)], none, false⟩,
    ⟨some 8, .mov (.tmp 10), none, false⟩,
    ⟨some 11, .extract (.tmp 8) 0, none, false⟩,
    ⟨some 12, .extract (.tmp 8) 1, none, false⟩,
    ⟨some 13, .extract (.tmp 8) 2, none, false⟩,
    ⟨some 5, .allocL 0 [.str [], .str [], .int .i64 0, .nilSlice], none, false⟩,
    ⟨none, .storeL 4 (.tmp 5) (.tmp 11), none, false⟩,
    ⟨some 6, .mov (.tmp 12), none, false⟩,
    ⟨some 7, .mov (.tmp 13), none, false⟩] [5, 6, 7])
  (.seq (.seq (.ops [
    ⟨some 14, .mov (.tmp 7), none, false⟩,
    ⟨some 15, .bin .neq (.tmp 14) (.const (.int .i64 0)), none, false⟩,
    ⟨some 16, .mov (.tmp 15), none, false⟩,
    ⟨some 17, .fieldL 0 (.tmp 5), some (16, false), false⟩,
    ⟨some 18, .loadL false 1 (.tmp 17), some (16, false), false⟩,
    ⟨some 19, .bin .neq (.tmp 18) (.const (.string ⟨#[112, 114, 111, 103, 114, 97, 109]⟩)), some (16, false), false⟩,
    ⟨some 20, .pick (.tmp 16) (.const (.bool true)) (.tmp 19), none, false⟩] [5, 6, 7, 20])
  (.cond (.tmp 20)
  (.seq (.ops [
      ⟨some 21, .mov (.tmp 6), none, false⟩,
      ⟨some 22, .mov (.tmp 7), none, false⟩,
      ⟨some 2, .mov (.const (.pointer none)), none, false⟩,
      ⟨some 3, .mov (.tmp 21), none, false⟩,
      ⟨some 4, .mov (.tmp 22), none, false⟩] [2, 3, 4])
    .ret)
  .skip))
  (.seq (.ops [
    ⟨some 23, .loadL true 4 (.tmp 5), none, false⟩,
    ⟨some 24, .call 13 [(.tmp 23)], none, false⟩,
    ⟨some 25, .extract (.tmp 24) 0, none, false⟩,
    ⟨some 26, .extract (.tmp 24) 1, none, false⟩,
    ⟨some 27, .extract (.tmp 24) 2, none, false⟩,
    ⟨some 2, .mov (.tmp 25), none, false⟩,
    ⟨some 3, .mov (.tmp 26), none, false⟩,
    ⟨some 4, .mov (.tmp 27), none, false⟩] [2, 3, 4])
  .ret))))⟩
/-- scribe/code.Compile -/
def af18 : AFunc := ⟨1, [.tmp 2, .tmp 3, .tmp 4],
  (.seq (.ops [
    ⟨some 2, .mov (.const (.pointer none)), none, false⟩,
    ⟨some 3, .mov (.const (.int .i64 0)), none, false⟩,
    ⟨some 4, .mov (.const (.int .i64 0)), none, false⟩] [0])
  (.seq (.ops [
    ⟨some 15, .mov (.tmp 0), none, false⟩,
    ⟨some 16, .call 11 [(.tmp 15)], none, false⟩,
    ⟨some 14, .mov (.tmp 16), none, false⟩,
    ⟨some 17, .extract (.tmp 14) 0, none, false⟩,
    ⟨some 18, .extract (.tmp 14) 1, none, false⟩,
    ⟨some 19, .extract (.tmp 14) 2, none, false⟩,
    ⟨some 5, .allocL 0 [.str [], .str [], .int .i64 0, .nilSlice], none, false⟩,
    ⟨none, .storeL 4 (.tmp 5) (.tmp 17), none, false⟩,
    ⟨some 6, .mov (.tmp 18), none, false⟩,
    ⟨some 7, .mov (.tmp 19), none, false⟩] [5, 6, 7])
  (.seq (.seq (.ops [
    ⟨some 20, .mov (.tmp 7), none, false⟩,
    ⟨some 21, .bin .neq (.tmp 20) (.const (.int .i64 0)), none, false⟩] [5, 6, 7, 21])
  (.cond (.tmp 21)
  (.seq (.ops [
      ⟨some 22, .mov (.tmp 6), none, false⟩,
      ⟨some 23, .mov (.tmp 7), none, false⟩,
      ⟨some 2, .mov (.const (.pointer none)), none, false⟩,
      ⟨some 3, .mov (.tmp 22), none, false⟩,
      ⟨some 4, .mov (.tmp 23), none, false⟩] [2, 3, 4])
    .ret)
  .skip))
  (.seq (.ops [
    ⟨some 25, .loadL true 4 (.tmp 5), none, false⟩,
    ⟨some 26, .call 13 [(.tmp 25)], none, false⟩,
    ⟨some 24, .mov (.tmp 26), none, false⟩,
    ⟨some 27, .extract (.tmp 24) 0, none, false⟩,
    ⟨some 28, .extract (.tmp 24) 1, none, false⟩,
    ⟨some 29, .extract (.tmp 24) 2, none, false⟩,
    ⟨some 8, .mov (.tmp 27), none, false⟩,
    ⟨some 6, .mov (.tmp 28), none, false⟩,
    ⟨some 7, .mov (.tmp 29), none, false⟩] [5, 6, 7, 8])
  (.seq (.seq (.ops [
    ⟨some 30, .mov (.tmp 7), none, false⟩,
    ⟨some 31, .bin .neq (.tmp 30) (.const (.int .i64 0)), none, false⟩] [5, 6, 7, 8, 31])
  (.cond (.tmp 31)
  (.seq (.ops [
      ⟨some 32, .mov (.tmp 6), none, false⟩,
      ⟨some 33, .mov (.tmp 7), none, false⟩,
      ⟨some 2, .mov (.const (.pointer none)), none, false⟩,
      ⟨some 3, .mov (.tmp 32), none, false⟩,
      ⟨some 4, .mov (.tmp 33), none, false⟩] [2, 3, 4])
    .ret)
  .skip))
  (.seq (.ops [
    ⟨some 34, .build [.nilSlice, .nilSlice, .nilSlice, .nilSlice, .nilSlice, .nilSlice, .int .i64 0, .int .i64 0, .int .i64 0] [], none, false⟩,
    ⟨some 35, .boxH 53 9 (.tmp 34), none, false⟩,
    ⟨some 36, .mov (.tmp 8), none, false⟩,
    ⟨some 37, .build [.nil, .nil, .int .i64 0, .nilSlice] [(0, 1, (.tmp 35)), (1, 1, (.tmp 36)), (2, 1, (.const (.int .i64 (-1))))], none, false⟩,
    ⟨some 38, .boxH 114 4 (.tmp 37), none, false⟩,
    ⟨some 9, .mov (.tmp 38), none, false⟩] [5, 8, 9])
  (.seq (.opsD [
    (⟨some 39, .mov (.tmp 9), none, false⟩, []),
    (⟨some 40, .nilCheck (.tmp 39), none, false⟩, []),
    (⟨some 41, .fieldAddr 0 (.tmp 40), none, false⟩, []),
    (⟨some 42, .load false 1 (.tmp 41), none, false⟩, []),
    (⟨some 43, .mov (.tmp 9), none, false⟩, []),
    (⟨some 44, .nilCheck (.tmp 43), none, false⟩, []),
    (⟨some 45, .fieldAddr 0 (.tmp 44), none, false⟩, []),
    (⟨some 46, .load false 1 (.tmp 45), none, false⟩, []),
    (⟨some 47, .nilCheck (.tmp 46), none, false⟩, []),
    (⟨some 48, .fieldAddr 4 (.tmp 47), none, false⟩, []),
    (⟨some 49, .load false 1 (.tmp 48), none, false⟩, []),
    (⟨some 50, .load false 1 (.global 0), none, false⟩, []),
    (⟨some 51, .append false 9 1 16 (.tmp 49) (.tmp 50), none, false⟩, [(42, .load false 1 (.tmp 41))]),
    (⟨some 52, .nilCheck (.tmp 42), none, false⟩, []),
    (⟨some 53, .fieldAddr 4 (.tmp 52), none, false⟩, []),
    (⟨none, .store 1 (.tmp 53) (.tmp 51), none, false⟩, [])] [5, 8, 9])
  (.seq (.opsD [
    (⟨some 54, .mov (.tmp 9), none, false⟩, []),
    (⟨some 55, .nilCheck (.tmp 54), none, false⟩, []),
    (⟨some 56, .fieldAddr 0 (.tmp 55), none, false⟩, []),
    (⟨some 57, .load false 1 (.tmp 56), none, false⟩, []),
    (⟨some 58, .load false 1 (.global 0), none, false⟩, []),
    (⟨some 59, .len .slice (.tmp 58), none, false⟩, []),
    (⟨some 60, .makeSlice 4 1 1 [.bool false] (.tmp 59) (.tmp 59), none, false⟩, [(57, .load false 1 (.tmp 56))]),
    (⟨some 61, .nilCheck (.tmp 57), none, false⟩, []),
    (⟨some 62, .fieldAddr 5 (.tmp 61), none, false⟩, []),
    (⟨none, .store 1 (.tmp 62) (.tmp 60), none, false⟩, [])] [5, 8, 9])
  (.seq (.seq (.ops [
    ⟨some 63, .mov (.tmp 8), none, false⟩,
    ⟨some 64, .nilCheck (.tmp 63), none, false⟩,
    ⟨some 65, .fieldAddr 1 (.tmp 64), none, false⟩,
    ⟨some 66, .load false 1 (.tmp 65), none, false⟩,
    ⟨some 67, .len .slice (.tmp 66), none, false⟩,
    ⟨some 68, .mov (.const (.int .i64 0)), none, false⟩] [5, 8, 9, 66, 67, 68])
  (.block 0
  (.loop [5, 8, 9, 66, 67, 68]
    (.seq (.ops [
        ⟨some 69, .bin .lss (.tmp 68) (.tmp 67), none, false⟩] [5, 8, 9, 66, 67, 68, 69])
      (.seq (.cond (.tmp 69)
      .skip
      (.exit 0))
      (.seq (.block 1
      (.seq (.ops [
          ⟨some 70, .mov (.tmp 68), none, false⟩,
          ⟨some 71, .indexAddr 1 (.tmp 66) (.tmp 68), none, false⟩,
          ⟨some 72, .load false 1 (.tmp 71), none, false⟩,
          ⟨some 10, .mov (.tmp 70), none, false⟩,
          ⟨some 11, .mov (.tmp 72), none, false⟩] [5, 8, 9, 10, 11, 66, 67, 68])
        (.seq (.ops [
          ⟨some 73, .load false 1 (.global 0), none, false⟩,
          ⟨some 74, .mov (.tmp 11), none, false⟩,
          ⟨some 75, .call 38 [(.tmp 73), (.tmp 74)], none, false⟩,
          ⟨some 76, .bin .lss (.tmp 75) (.const (.int .i64 0)), none, false⟩] [5, 8, 9, 10, 11, 66, 67, 68, 76])
        (.cond (.tmp 76)
        (.seq (.opsD [
            (⟨some 77, .mov (.tmp 9), none, false⟩, []),
            (⟨some 78, .nilCheck (.tmp 77), none, false⟩, []),
            (⟨some 79, .fieldAddr 0 (.tmp 78), none, false⟩, []),
            (⟨some 80, .load false 1 (.tmp 79), none, false⟩, []),
            (⟨some 81, .mov (.tmp 9), none, false⟩, []),
            (⟨some 82, .nilCheck (.tmp 81), none, false⟩, []),
            (⟨some 83, .fieldAddr 0 (.tmp 82), none, false⟩, []),
            (⟨some 84, .load false 1 (.tmp 83), none, false⟩, []),
            (⟨some 85, .nilCheck (.tmp 84), none, false⟩, []),
            (⟨some 86, .fieldAddr 4 (.tmp 85), none, false⟩, []),
            (⟨some 87, .load false 1 (.tmp 86), none, false⟩, []),
            (⟨some 88, .mov (.tmp 11), none, false⟩, []),
            (⟨some 89, .buildSlice true 9 1 1 [.str []] [(0, (.tmp 88))], none, false⟩, []),
            (⟨some 90, .append false 9 1 16 (.tmp 87) (.tmp 89), none, false⟩, [(80, .load false 1 (.tmp 79))]),
            (⟨some 91, .nilCheck (.tmp 80), none, false⟩, []),
            (⟨some 92, .fieldAddr 4 (.tmp 91), none, false⟩, []),
            (⟨none, .store 1 (.tmp 92) (.tmp 90), none, false⟩, [])] [5, 8, 9, 10, 66, 67, 68])
          (.opsD [
            (⟨some 93, .mov (.tmp 9), none, false⟩, []),
            (⟨some 94, .nilCheck (.tmp 93), none, false⟩, []),
            (⟨some 95, .fieldAddr 0 (.tmp 94), none, false⟩, []),
            (⟨some 96, .load false 1 (.tmp 95), none, false⟩, []),
            (⟨some 97, .mov (.tmp 9), none, false⟩, []),
            (⟨some 98, .nilCheck (.tmp 97), none, false⟩, []),
            (⟨some 99, .fieldAddr 0 (.tmp 98), none, false⟩, []),
            (⟨some 100, .load false 1 (.tmp 99), none, false⟩, []),
            (⟨some 101, .nilCheck (.tmp 100), none, false⟩, []),
            (⟨some 102, .fieldAddr 5 (.tmp 101), none, false⟩, []),
            (⟨some 103, .load false 1 (.tmp 102), none, false⟩, []),
            (⟨some 104, .mov (.tmp 8), none, false⟩, []),
            (⟨some 105, .nilCheck (.tmp 104), none, false⟩, []),
            (⟨some 106, .fieldAddr 2 (.tmp 105), none, false⟩, []),
            (⟨some 107, .load false 1 (.tmp 106), none, false⟩, []),
            (⟨some 108, .mov (.tmp 10), none, false⟩, []),
            (⟨some 109, .indexAddr 1 (.tmp 107) (.tmp 108), none, false⟩, []),
            (⟨some 110, .load false 1 (.tmp 109), none, false⟩, []),
            (⟨some 111, .buildSlice true 4 1 1 [.bool false] [(0, (.tmp 110))], none, false⟩, []),
            (⟨some 112, .append false 4 1 1 (.tmp 103) (.tmp 111), none, false⟩, [(96, .load false 1 (.tmp 95))]),
            (⟨some 113, .nilCheck (.tmp 96), none, false⟩, []),
            (⟨some 114, .fieldAddr 5 (.tmp 113), none, false⟩, []),
            (⟨none, .store 1 (.tmp 114) (.tmp 112), none, false⟩, [])] [5, 8, 9, 66, 67, 68]))
        .skip))))
      (.ops [
        ⟨some 115, .bin .add (.tmp 68) (.const (.int .i64 1)), none, false⟩,
        ⟨some 68, .mov (.tmp 115), none, false⟩] [5, 8, 9, 66, 67, 68])))))))
  (.seq (.opsD [
    (⟨some 116, .mov (.tmp 9), none, false⟩, []),
    (⟨some 117, .nilCheck (.tmp 116), none, false⟩, []),
    (⟨some 118, .fieldAddr 0 (.tmp 117), none, false⟩, []),
    (⟨some 119, .load false 1 (.tmp 118), none, false⟩, []),
    (⟨some 120, .mov (.tmp 9), none, false⟩, []),
    (⟨some 121, .fieldL 3 (.tmp 5), none, false⟩, []),
    (⟨some 122, .loadL false 1 (.tmp 121), none, false⟩, []),
    (⟨some 123, .call 39 [(.tmp 120), (.tmp 122), (.const (.string ⟨#[98, 101, 103, 105, 110]⟩))], none, false⟩, [(119, .load false 1 (.tmp 118))]),
    (⟨some 124, .nilCheck (.tmp 119), none, false⟩, []),
    (⟨some 125, .fieldAddr 6 (.tmp 124), none, false⟩, []),
    (⟨none, .store 1 (.tmp 125) (.tmp 123), none, false⟩, [])] [5, 8, 9])
  (.seq (.opsD [
    (⟨some 126, .mov (.tmp 9), none, false⟩, []),
    (⟨some 127, .nilCheck (.tmp 126), none, false⟩, []),
    (⟨some 128, .fieldAddr 0 (.tmp 127), none, false⟩, []),
    (⟨some 129, .load false 1 (.tmp 128), none, false⟩, []),
    (⟨some 130, .mov (.tmp 9), none, false⟩, []),
    (⟨some 131, .fieldL 3 (.tmp 5), none, false⟩, []),
    (⟨some 132, .loadL false 1 (.tmp 131), none, false⟩, []),
    (⟨some 133, .call 39 [(.tmp 130), (.tmp 132), (.const (.string ⟨#[114, 117, 108, 101]⟩))], none, false⟩, [(129, .load false 1 (.tmp 128))]),
    (⟨some 134, .nilCheck (.tmp 129), none, false⟩, []),
    (⟨some 135, .fieldAddr 7 (.tmp 134), none, false⟩, []),
    (⟨none, .store 1 (.tmp 135) (.tmp 133), none, false⟩, [])] [5, 8, 9])
  (.seq (.opsD [
    (⟨some 136, .mov (.tmp 9), none, false⟩, []),
    (⟨some 137, .nilCheck (.tmp 136), none, false⟩, []),
    (⟨some 138, .fieldAddr 0 (.tmp 137), none, false⟩, []),
    (⟨some 139, .load false 1 (.tmp 138), none, false⟩, []),
    (⟨some 140, .mov (.tmp 9), none, false⟩, []),
    (⟨some 141, .fieldL 3 (.tmp 5), none, false⟩, []),
    (⟨some 142, .loadL false 1 (.tmp 141), none, false⟩, []),
    (⟨some 143, .call 39 [(.tmp 140), (.tmp 142), (.const (.string ⟨#[101, 110, 100]⟩))], none, false⟩, [(139, .load false 1 (.tmp 138))]),
    (⟨some 144, .nilCheck (.tmp 139), none, false⟩, []),
    (⟨some 145, .fieldAddr 8 (.tmp 144), none, false⟩, []),
    (⟨none, .store 1 (.tmp 145) (.tmp 143), none, false⟩, [])] [8, 9])
  (.seq (.seq (.ops [
    ⟨some 146, .mov (.tmp 8), none, false⟩,
    ⟨some 147, .nilCheck (.tmp 146), none, false⟩,
    ⟨some 148, .fieldAddr 0 (.tmp 147), none, false⟩,
    ⟨some 149, .load false 1 (.tmp 148), none, false⟩,
    ⟨some 150, .len .slice (.tmp 149), none, false⟩,
    ⟨some 151, .mov (.const (.int .i64 0)), none, false⟩] [9, 149, 150, 151])
  (.block 2
  (.loop [9, 149, 150, 151]
    (.seq (.ops [
        ⟨some 152, .bin .lss (.tmp 151) (.tmp 150), none, false⟩] [9, 149, 150, 151, 152])
      (.seq (.cond (.tmp 152)
      .skip
      (.exit 2))
      (.seq (.block 3
      (.seq (.ops [
          ⟨some 153, .mov (.tmp 151), none, false⟩,
          ⟨some 154, .indexAddr 7 (.tmp 149) (.tmp 151), none, false⟩,
          ⟨some 155, .load true 7 (.tmp 154), none, false⟩,
          ⟨some 13, .allocL 0 [.str [], .nilSlice, .nilSlice, .str [], .str [], .int .i64 0, .nilSlice], none, false⟩,
          ⟨some 12, .mov (.tmp 153), none, false⟩,
          ⟨none, .storeL 7 (.tmp 13) (.tmp 155), none, false⟩] [9, 12, 13, 149, 150, 151])
        (.seq (.ops [
          ⟨some 156, .mov (.tmp 9), none, false⟩,
          ⟨some 157, .mov (.tmp 12), none, false⟩,
          ⟨some 158, .nilCheck (.tmp 156), none, false⟩,
          ⟨some 159, .fieldAddr 2 (.tmp 158), none, false⟩,
          ⟨none, .store 1 (.tmp 159) (.tmp 157), none, false⟩] [9, 13, 149, 150, 151])
        (.seq (.opsD [
          (⟨some 160, .mov (.tmp 9), none, false⟩, []),
          (⟨some 161, .nilCheck (.tmp 160), none, false⟩, []),
          (⟨some 162, .fieldAddr 0 (.tmp 161), none, false⟩, []),
          (⟨some 163, .load false 1 (.tmp 162), none, false⟩, []),
          (⟨some 164, .mov (.tmp 9), none, false⟩, []),
          (⟨some 165, .nilCheck (.tmp 164), none, false⟩, []),
          (⟨some 166, .fieldAddr 0 (.tmp 165), none, false⟩, []),
          (⟨some 167, .load false 1 (.tmp 166), none, false⟩, []),
          (⟨some 168, .nilCheck (.tmp 167), none, false⟩, []),
          (⟨some 169, .fieldAddr 3 (.tmp 168), none, false⟩, []),
          (⟨some 170, .load false 1 (.tmp 169), none, false⟩, []),
          (⟨some 171, .mov (.tmp 9), none, false⟩, []),
          (⟨some 172, .nilCheck (.tmp 171), none, false⟩, []),
          (⟨some 173, .fieldAddr 0 (.tmp 172), none, false⟩, []),
          (⟨some 174, .load false 1 (.tmp 173), none, false⟩, []),
          (⟨some 175, .nilCheck (.tmp 174), none, false⟩, []),
          (⟨some 176, .fieldAddr 0 (.tmp 175), none, false⟩, []),
          (⟨some 177, .load false 1 (.tmp 176), none, false⟩, []),
          (⟨some 178, .len .slice (.tmp 177), none, false⟩, []),
          (⟨some 179, .buildSlice true 4 1 0 [.bool false] [], none, false⟩, []),
          (⟨some 180, .fieldL 2 (.tmp 13), none, false⟩, []),
          (⟨some 181, .loadL false 1 (.tmp 180), none, false⟩, []),
          (⟨some 182, .append false 4 1 1 (.tmp 179) (.tmp 181), none, false⟩, [(163, .load false 1 (.tmp 162)), (167, .load false 1 (.tmp 166)), (170, .load false 1 (.tmp 169)), (174, .load false 1 (.tmp 173)), (177, .load false 1 (.tmp 176))]),
          (⟨some 183, .build [.int .i64 0, .nilSlice] [(0, 1, (.tmp 178)), (1, 1, (.tmp 182))], none, false⟩, []),
          (⟨some 184, .buildSlice true 64 2 1 [.int .i64 0, .nilSlice] [(0, (.tmp 183))], none, false⟩, []),
          (⟨some 185, .append false 64 2 32 (.tmp 170) (.tmp 184), none, false⟩, [(163, .load false 1 (.tmp 162))]),
          (⟨some 186, .nilCheck (.tmp 163), none, false⟩, []),
          (⟨some 187, .fieldAddr 3 (.tmp 186), none, false⟩, []),
          (⟨none, .store 1 (.tmp 187) (.tmp 185), none, false⟩, [])] [9, 13, 149, 150, 151])
        (.seq (.ops [
          ⟨some 188, .mov (.tmp 9), none, false⟩,
          ⟨some 189, .fieldL 3 (.tmp 13), none, false⟩,
          ⟨some 190, .loadL true 4 (.tmp 189), none, false⟩,
          ⟨some 191, .call 40 [(.tmp 188), (.tmp 190)], none, false⟩] [9, 149, 150, 151])
        (.seq (.ops [
          ⟨some 192, .mov (.tmp 9), none, false⟩,
          ⟨some 193, .call 41 [(.tmp 192), (.const (.string ⟨#[]⟩))], none, false⟩] [9, 149, 150, 151])
        (.ops [
          ⟨some 194, .mov (.tmp 9), none, false⟩,
          ⟨some 195, .call 42 [(.tmp 194), (.const (.int .i64 23)), (.const (.int .i64 0)), (.const (.int .i64 0))], none, false⟩] [9, 149, 150, 151])))))))
      (.ops [
        ⟨some 196, .bin .add (.tmp 151) (.const (.int .i64 1)), none, false⟩,
        ⟨some 151, .mov (.tmp 196), none, false⟩] [9, 149, 150, 151])))))))
  (.seq (.ops [
    ⟨some 197, .mov (.tmp 9), none, false⟩,
    ⟨some 198, .nilCheck (.tmp 197), none, false⟩,
    ⟨some 199, .fieldAddr 0 (.tmp 198), none, false⟩,
    ⟨some 200, .load false 1 (.tmp 199), none, false⟩,
    ⟨some 2, .mov (.tmp 200), none, false⟩,
    ⟨some 3, .mov (.const (.int .i64 0)), none, false⟩,
    ⟨some 4, .mov (.const (.int .i64 0)), none, false⟩] [2, 3, 4])
  .ret))))))))))))))⟩
/-- scribe/scribelaw15.awake -/
def af19 : AFunc := ⟨0, [.tmp 0],
  (.seq (.ops [
    ⟨some 0, .mov (.const (.bool false)), none, false⟩] [])
  (.seq (.ops [
    ⟨some 8, .call 18 [(.const (.string ⟨#[66, 69, 71, 73, 78, 123, 120, 61, 49, 125]⟩))], none, false⟩,
    ⟨some 7, .mov (.tmp 8), none, false⟩,
    ⟨some 9, .extract (.tmp 7) 0, none, false⟩,
    ⟨some 10, .extract (.tmp 7) 1, none, false⟩,
    ⟨some 11, .extract (.tmp 7) 2, none, false⟩,
    ⟨some 1, .mov (.tmp 9), none, false⟩,
    ⟨some 2, .mov (.tmp 10), none, false⟩,
    ⟨some 3, .mov (.tmp 11), none, false⟩] [1, 3])
  (.seq (.ops [
    ⟨some 13, .call 18 [(.const (.string ⟨#[66, 69, 71, 73, 78, 123, 120, 61, 125]⟩))], none, false⟩,
    ⟨some 12, .mov (.tmp 13), none, false⟩,
    ⟨some 14, .extract (.tmp 12) 0, none, false⟩,
    ⟨some 15, .extract (.tmp 12) 1, none, false⟩,
    ⟨some 16, .extract (.tmp 12) 2, none, false⟩,
    ⟨some 4, .mov (.tmp 14), none, false⟩,
    ⟨some 5, .mov (.tmp 15), none, false⟩,
    ⟨some 6, .mov (.tmp 16), none, false⟩] [1, 3, 5, 6])
  (.seq (.seq (.ops [
    ⟨some 17, .mov (.tmp 3), none, false⟩,
    ⟨some 18, .bin .neq (.tmp 17) (.const (.int .i64 0)), none, false⟩,
    ⟨some 19, .mov (.tmp 18), none, false⟩,
    ⟨some 20, .mov (.tmp 1), some (19, false), false⟩,
    ⟨some 21, .eqNil .ptr false (.tmp 20) (.const (.pointer none)), some (19, false), false⟩,
    ⟨some 22, .pick (.tmp 19) (.const (.bool true)) (.tmp 21), none, false⟩,
    ⟨some 23, .mov (.tmp 22), none, false⟩,
    ⟨some 24, .mov (.tmp 1), some (23, false), false⟩,
    ⟨some 25, .nilCheck (.tmp 24), some (23, false), false⟩,
    ⟨some 26, .fieldAddr 4 (.tmp 25), some (23, false), false⟩,
    ⟨some 27, .load false 1 (.tmp 26), some (23, false), false⟩,
    ⟨some 28, .len .slice (.tmp 27), some (23, false), false⟩,
    ⟨some 29, .bin .neq (.tmp 28) (.const (.int .i64 9)), some (23, false), false⟩,
    ⟨some 30, .pick (.tmp 23) (.const (.bool true)) (.tmp 29), none, false⟩,
    ⟨some 31, .mov (.tmp 30), none, false⟩,
    ⟨some 32, .mov (.tmp 1), some (31, false), false⟩,
    ⟨some 33, .nilCheck (.tmp 32), some (31, false), false⟩,
    ⟨some 34, .fieldAddr 4 (.tmp 33), some (31, false), false⟩,
    ⟨some 35, .load false 1 (.tmp 34), some (31, false), false⟩,
    ⟨some 36, .indexAddr 1 (.tmp 35) (.const (.int .i64 8)), some (31, false), false⟩,
    ⟨some 37, .load false 1 (.tmp 36), some (31, false), false⟩,
    ⟨some 38, .bin .neq (.tmp 37) (.const (.string ⟨#[120]⟩)), some (31, false), false⟩,
    ⟨some 39, .pick (.tmp 31) (.const (.bool true)) (.tmp 38), none, false⟩,
    ⟨some 40, .mov (.tmp 39), none, false⟩,
    ⟨some 41, .mov (.tmp 1), some (40, false), false⟩,
    ⟨some 42, .call 20 [(.tmp 41)], some (40, false), false⟩,
    ⟨some 43, .bin .neq (.tmp 42) (.const (.int .i64 0)), some (40, false), false⟩,
    ⟨some 44, .pick (.tmp 40) (.const (.bool true)) (.tmp 43), none, false⟩,
    ⟨some 45, .mov (.tmp 44), none, false⟩,
    ⟨some 46, .mov (.tmp 6), some (45, false), false⟩,
    ⟨some 47, .bin .neq (.tmp 46) (.const (.int .i64 9)), some (45, false), false⟩,
    ⟨some 48, .pick (.tmp 45) (.const (.bool true)) (.tmp 47), none, false⟩,
    ⟨some 49, .mov (.tmp 48), none, false⟩,
    ⟨some 50, .mov (.tmp 5), some (49, false), false⟩,
    ⟨some 51, .bin .neq (.tmp 50) (.const (.int .i64 8)), some (49, false), false⟩,
    ⟨some 52, .pick (.tmp 49) (.const (.bool true)) (.tmp 51), none, false⟩] [52])
  (.cond (.tmp 52)
  (.seq (.ops [
      ⟨some 0, .mov (.const (.bool false)), none, false⟩] [0])
    .ret)
  .skip))
  (.seq (.ops [
    ⟨some 53, .call 23 [(.const (.int .i64 0))], none, false⟩,
    ⟨some 54, .bin .eql (.tmp 53) (.const (.string ⟨#[108, 101, 110, 103, 116, 104]⟩)), none, false⟩,
    ⟨some 55, .mov (.tmp 54), none, false⟩,
    ⟨some 56, .call 23 [(.const (.int .i64 11))], some (55, true), false⟩,
    ⟨some 57, .bin .eql (.tmp 56) (.const (.string ⟨#[]⟩)), some (55, true), false⟩,
    ⟨some 58, .pick (.tmp 55) (.tmp 57) (.const (.bool false)), none, false⟩,
    ⟨some 0, .mov (.tmp 58), none, false⟩] [0])
  .ret)))))⟩
/-- scribe/code.Check -/
def af20 : AFunc := ⟨1, [.tmp 2],
  (.seq (.ops [
    ⟨some 2, .mov (.const (.int .i64 0)), none, false⟩] [0])
  (.seq (.ops [
    ⟨some 6, .mov (.tmp 0), none, false⟩,
    ⟨some 7, .call 43 [(.tmp 6)], none, false⟩,
    ⟨some 5, .mov (.tmp 7), none, false⟩,
    ⟨some 8, .extract (.tmp 5) 0, none, false⟩,
    ⟨some 9, .extract (.tmp 5) 1, none, false⟩,
    ⟨some 3, .mov (.tmp 8), none, false⟩,
    ⟨some 4, .mov (.tmp 9), none, false⟩] [4])
  (.seq (.ops [
    ⟨some 10, .mov (.tmp 4), none, false⟩,
    ⟨some 2, .mov (.tmp 10), none, false⟩] [2])
  .ret)))⟩
/-- scribe/scriberef15.Check -/
def af21 : AFunc := ⟨1, [.tmp 2],
  (.seq (.ops [
    ⟨some 1, .boxL 0 9 (.tmp 0), none, false⟩,
    ⟨some 2, .mov (.const (.bool false)), none, false⟩] [1])
  (.seq (.ops [
    ⟨some 6, .loadL true 9 (.tmp 1), none, false⟩,
    ⟨some 7, .call 44 [(.tmp 6)], none, false⟩,
    ⟨some 5, .mov (.tmp 7), none, false⟩,
    ⟨some 8, .extract (.tmp 5) 0, none, false⟩,
    ⟨some 9, .extract (.tmp 5) 1, none, false⟩,
    ⟨some 3, .mov (.tmp 8), none, false⟩,
    ⟨some 4, .mov (.tmp 9), none, false⟩] [4])
  (.seq (.ops [
    ⟨some 10, .mov (.tmp 4), none, false⟩,
    ⟨some 2, .mov (.tmp 10), none, false⟩] [2])
  .ret)))⟩
/-- scribe/scriberef15.Builtins -/
def af22 : AFunc := ⟨0, [.tmp 0],
  (.seq (.ops [
    ⟨some 0, .mov (.const (.slice none 0 0)), none, false⟩] [])
  (.seq (.ops [
    ⟨some 1, .buildSlice true 9 1 11 [.str []] [(0, (.const (.string ⟨#[108, 101, 110, 103, 116, 104]⟩))), (1, (.const (.string ⟨#[115, 117, 98, 115, 116, 114]⟩))), (2, (.const (.string ⟨#[105, 110, 100, 101, 120]⟩))), (3, (.const (.string ⟨#[115, 112, 108, 105, 116]⟩))), (4, (.const (.string ⟨#[109, 97, 116, 99, 104]⟩))), (5, (.const (.string ⟨#[116, 111, 108, 111, 119, 101, 114]⟩))), (6, (.const (.string ⟨#[116, 111, 117, 112, 112, 101, 114]⟩))), (7, (.const (.string ⟨#[105, 110, 116]⟩))), (8, (.const (.string ⟨#[115, 112, 114, 105, 110, 116, 102]⟩))), (9, (.const (.string ⟨#[114, 97, 110, 100]⟩))), (10, (.const (.string ⟨#[115, 114, 97, 110, 100]⟩)))], none, false⟩,
    ⟨some 0, .mov (.tmp 1), none, false⟩] [0])
  .ret))⟩
/-- scribe/code.Name -/
def af23 : AFunc := ⟨1, [.tmp 2],
  (.seq (.ops [
    ⟨some 2, .mov (.const (.string ⟨#[]⟩)), none, false⟩] [0])
  (.seq (.seq (.ops [
    ⟨some 3, .mov (.tmp 0), none, false⟩,
    ⟨some 4, .bin .lss (.tmp 3) (.const (.int .i64 0)), none, false⟩,
    ⟨some 5, .mov (.tmp 4), none, false⟩,
    ⟨some 6, .mov (.tmp 0), some (5, false), false⟩,
    ⟨some 7, .load false 1 (.global 1), some (5, false), false⟩,
    ⟨some 8, .len .slice (.tmp 7), some (5, false), false⟩,
    ⟨some 9, .bin .geq (.tmp 6) (.tmp 8), some (5, false), false⟩,
    ⟨some 10, .pick (.tmp 5) (.const (.bool true)) (.tmp 9), none, false⟩] [0, 10])
  (.cond (.tmp 10)
  (.seq (.ops [
      ⟨some 2, .mov (.const (.string ⟨#[]⟩)), none, false⟩] [2])
    .ret)
  .skip))
  (.seq (.ops [
    ⟨some 11, .load false 1 (.global 1), none, false⟩,
    ⟨some 12, .mov (.tmp 0), none, false⟩,
    ⟨some 13, .indexAddr 1 (.tmp 11) (.tmp 12), none, false⟩,
    ⟨some 14, .load false 1 (.tmp 13), none, false⟩,
    ⟨some 2, .mov (.tmp 14), none, false⟩] [2])
  .ret)))⟩
/-- scribe/scribelaw15.made -/
def af24 : AFunc := ⟨1, [.tmp 2, .cellL true 9 3],
  (.seq (.ops [
    ⟨some 1, .boxL 0 9 (.tmp 0), none, false⟩,
    ⟨some 2, .mov (.const (.pointer none)), none, false⟩,
    ⟨some 3, .allocL 1 [.nilSlice, .nilSlice, .int .i64 0, .nilSlice, .nilSlice, .nilSlice, .int .i64 0, .int .i64 0, .int .i64 0], none, false⟩] [1, 3])
  (.seq (.ops [
    ⟨some 14, .fieldL 6 (.tmp 1), none, false⟩,
    ⟨some 15, .loadL false 1 (.tmp 14), none, false⟩,
    ⟨some 16, .fieldL 7 (.tmp 1), none, false⟩,
    ⟨some 17, .loadL false 1 (.tmp 16), none, false⟩,
    ⟨some 18, .fieldL 8 (.tmp 1), none, false⟩,
    ⟨some 19, .loadL false 1 (.tmp 18), none, false⟩,
    ⟨some 20, .build [.nilSlice, .nilSlice, .nilSlice, .nilSlice, .nilSlice, .nilSlice, .int .i64 0, .int .i64 0, .int .i64 0] [(6, 1, (.tmp 15)), (7, 1, (.tmp 17)), (8, 1, (.tmp 19))], none, false⟩,
    ⟨some 21, .boxH 53 9 (.tmp 20), none, false⟩,
    ⟨some 4, .mov (.tmp 21), none, false⟩] [1, 3, 4])
  (.seq (.ops [
    ⟨some 22, .fieldL 6 (.tmp 1), none, false⟩,
    ⟨some 23, .loadL false 1 (.tmp 22), none, false⟩,
    ⟨some 24, .fieldL 7 (.tmp 1), none, false⟩,
    ⟨some 25, .loadL false 1 (.tmp 24), none, false⟩,
    ⟨some 26, .fieldL 8 (.tmp 1), none, false⟩,
    ⟨some 27, .loadL false 1 (.tmp 26), none, false⟩,
    ⟨some 28, .build [.nilSlice, .nilSlice, .int .i64 0, .nilSlice, .nilSlice, .nilSlice, .int .i64 0, .int .i64 0, .int .i64 0] [(6, 1, (.tmp 23)), (7, 1, (.tmp 25)), (8, 1, (.tmp 27))], none, false⟩,
    ⟨some 5, .allocL 0 [.nilSlice, .nilSlice, .int .i64 0, .nilSlice, .nilSlice, .nilSlice, .int .i64 0, .int .i64 0, .int .i64 0], none, false⟩,
    ⟨none, .storeL 9 (.tmp 5) (.tmp 28), none, false⟩] [1, 3, 4, 5])
  (.seq (.seq (.ops [
    ⟨some 6, .mov (.const (.int .i64 0)), none, false⟩] [1, 3, 4, 5, 6])
  (.block 0
  (.loop [1, 3, 4, 5, 6]
    (.seq (.seq (.ops [
        ⟨some 29, .mov (.tmp 6), none, false⟩,
        ⟨some 30, .fieldL 0 (.tmp 1), none, false⟩,
        ⟨some 31, .loadL false 1 (.tmp 30), none, false⟩,
        ⟨some 32, .len .slice (.tmp 31), none, false⟩,
        ⟨some 33, .bin .lss (.tmp 29) (.tmp 32), none, false⟩,
        ⟨some 34, .mov (.tmp 33), none, false⟩,
        ⟨some 35, .mov (.tmp 6), some (34, true), false⟩,
        ⟨some 36, .bin .lss (.tmp 35) (.const (.int .i64 60)), some (34, true), false⟩,
        ⟨some 37, .pick (.tmp 34) (.tmp 36) (.const (.bool false)), none, false⟩] [1, 3, 4, 5, 6, 37])
      (.cond (.tmp 37)
      .skip
      (.exit 0)))
      (.seq (.block 1
      (.seq (.opsD [
          (⟨some 40, .mov (.tmp 4), none, false⟩, []),
          (⟨some 41, .mov (.tmp 4), none, false⟩, []),
          (⟨some 42, .nilCheck (.tmp 41), none, false⟩, []),
          (⟨some 43, .fieldAddr 0 (.tmp 42), none, false⟩, []),
          (⟨some 44, .load false 1 (.tmp 43), none, false⟩, []),
          (⟨some 45, .fieldL 0 (.tmp 1), none, false⟩, []),
          (⟨some 46, .loadL false 1 (.tmp 45), none, false⟩, []),
          (⟨some 47, .mov (.tmp 6), none, false⟩, []),
          (⟨some 48, .indexAddr 3 (.tmp 46) (.tmp 47), none, false⟩, []),
          (⟨some 49, .indexArr 1 3 (.tmp 48) (.const (.int .i64 0)), none, false⟩, []),
          (⟨some 50, .load false 1 (.tmp 49), none, false⟩, []),
          (⟨some 51, .fieldL 0 (.tmp 1), none, false⟩, []),
          (⟨some 52, .loadL false 1 (.tmp 51), none, false⟩, []),
          (⟨some 53, .mov (.tmp 6), none, false⟩, []),
          (⟨some 54, .indexAddr 3 (.tmp 52) (.tmp 53), none, false⟩, []),
          (⟨some 55, .indexArr 1 3 (.tmp 54) (.const (.int .i64 1)), none, false⟩, []),
          (⟨some 56, .load false 1 (.tmp 55), none, false⟩, []),
          (⟨some 57, .fieldL 0 (.tmp 1), none, false⟩, []),
          (⟨some 58, .loadL false 1 (.tmp 57), none, false⟩, []),
          (⟨some 59, .mov (.tmp 6), none, false⟩, []),
          (⟨some 60, .indexAddr 3 (.tmp 58) (.tmp 59), none, false⟩, []),
          (⟨some 61, .indexArr 1 3 (.tmp 60) (.const (.int .i64 2)), none, false⟩, []),
          (⟨some 62, .load false 1 (.tmp 61), none, false⟩, []),
          (⟨some 63, .build [.int .i64 0, .int .i64 0, .int .i64 0] [(0, 1, (.tmp 50)), (1, 1, (.tmp 56)), (2, 1, (.tmp 62))], none, false⟩, []),
          (⟨some 64, .buildSlice true 55 3 1 [.int .i64 0, .int .i64 0, .int .i64 0] [(0, (.tmp 63))], none, false⟩, []),
          (⟨some 65, .append false 55 3 24 (.tmp 44) (.tmp 64), none, false⟩, []),
          (⟨some 66, .nilCheck (.tmp 40), none, false⟩, []),
          (⟨some 67, .fieldAddr 0 (.tmp 66), none, false⟩, []),
          (⟨none, .store 1 (.tmp 67) (.tmp 65), none, false⟩, [])] [1, 3, 4, 5, 6])
        (.opsD [
          (⟨some 68, .fieldL 0 (.tmp 5), none, false⟩, []),
          (⟨some 69, .loadL false 1 (.tmp 68), none, false⟩, []),
          (⟨some 70, .fieldL 0 (.tmp 1), none, false⟩, []),
          (⟨some 71, .loadL false 1 (.tmp 70), none, false⟩, []),
          (⟨some 72, .mov (.tmp 6), none, false⟩, []),
          (⟨some 73, .indexAddr 3 (.tmp 71) (.tmp 72), none, false⟩, []),
          (⟨some 74, .indexArr 1 3 (.tmp 73) (.const (.int .i64 0)), none, false⟩, []),
          (⟨some 75, .load false 1 (.tmp 74), none, false⟩, []),
          (⟨some 76, .fieldL 0 (.tmp 1), none, false⟩, []),
          (⟨some 77, .loadL false 1 (.tmp 76), none, false⟩, []),
          (⟨some 78, .mov (.tmp 6), none, false⟩, []),
          (⟨some 79, .indexAddr 3 (.tmp 77) (.tmp 78), none, false⟩, []),
          (⟨some 80, .indexArr 1 3 (.tmp 79) (.const (.int .i64 1)), none, false⟩, []),
          (⟨some 81, .load false 1 (.tmp 80), none, false⟩, []),
          (⟨some 82, .fieldL 0 (.tmp 1), none, false⟩, []),
          (⟨some 83, .loadL false 1 (.tmp 82), none, false⟩, []),
          (⟨some 84, .mov (.tmp 6), none, false⟩, []),
          (⟨some 85, .indexAddr 3 (.tmp 83) (.tmp 84), none, false⟩, []),
          (⟨some 86, .indexArr 1 3 (.tmp 85) (.const (.int .i64 2)), none, false⟩, []),
          (⟨some 87, .load false 1 (.tmp 86), none, false⟩, []),
          (⟨some 88, .build [.int .i64 0, .int .i64 0, .int .i64 0] [(0, 1, (.tmp 75)), (1, 1, (.tmp 81)), (2, 1, (.tmp 87))], none, false⟩, []),
          (⟨some 89, .buildSlice true 61 3 1 [.int .i64 0, .int .i64 0, .int .i64 0] [(0, (.tmp 88))], none, false⟩, []),
          (⟨some 90, .append false 61 3 24 (.tmp 69) (.tmp 89), none, false⟩, []),
          (⟨some 91, .fieldL 0 (.tmp 5), none, false⟩, []),
          (⟨none, .storeL 1 (.tmp 91) (.tmp 90), none, false⟩, [])] [1, 3, 4, 5, 6])))
      (.ops [
        ⟨some 38, .mov (.tmp 6), none, false⟩,
        ⟨some 39, .bin .add (.tmp 38) (.const (.int .i64 1)), none, false⟩,
        ⟨some 6, .mov (.tmp 39), none, false⟩] [1, 3, 4, 5, 6]))))))
  (.seq (.seq (.ops [
    ⟨some 7, .mov (.const (.int .i64 0)), none, false⟩] [1, 3, 4, 5, 7])
  (.block 2
  (.loop [1, 3, 4, 5, 7]
    (.seq (.seq (.ops [
        ⟨some 92, .mov (.tmp 7), none, false⟩,
        ⟨some 93, .fieldL 1 (.tmp 1), none, false⟩,
        ⟨some 94, .loadL false 1 (.tmp 93), none, false⟩,
        ⟨some 95, .len .slice (.tmp 94), none, false⟩,
        ⟨some 96, .bin .lss (.tmp 92) (.tmp 95), none, false⟩,
        ⟨some 97, .mov (.tmp 96), none, false⟩,
        ⟨some 98, .mov (.tmp 7), some (97, true), false⟩,
        ⟨some 99, .bin .lss (.tmp 98) (.const (.int .i64 10)), some (97, true), false⟩,
        ⟨some 100, .pick (.tmp 97) (.tmp 99) (.const (.bool false)), none, false⟩] [1, 3, 4, 5, 7, 100])
      (.cond (.tmp 100)
      .skip
      (.exit 2)))
      (.seq (.block 3
      (.seq (.opsD [
          (⟨some 103, .mov (.tmp 4), none, false⟩, []),
          (⟨some 104, .mov (.tmp 4), none, false⟩, []),
          (⟨some 105, .nilCheck (.tmp 104), none, false⟩, []),
          (⟨some 106, .fieldAddr 1 (.tmp 105), none, false⟩, []),
          (⟨some 107, .load false 1 (.tmp 106), none, false⟩, []),
          (⟨some 108, .fieldL 1 (.tmp 1), none, false⟩, []),
          (⟨some 109, .loadL false 1 (.tmp 108), none, false⟩, []),
          (⟨some 110, .mov (.tmp 7), none, false⟩, []),
          (⟨some 111, .indexAddr 1 (.tmp 109) (.tmp 110), none, false⟩, []),
          (⟨some 112, .load false 1 (.tmp 111), none, false⟩, []),
          (⟨some 113, .buildSlice true 62 1 1 [.int .i64 0] [(0, (.tmp 112))], none, false⟩, []),
          (⟨some 114, .append false 62 1 8 (.tmp 107) (.tmp 113), none, false⟩, []),
          (⟨some 115, .nilCheck (.tmp 103), none, false⟩, []),
          (⟨some 116, .fieldAddr 1 (.tmp 115), none, false⟩, []),
          (⟨none, .store 1 (.tmp 116) (.tmp 114), none, false⟩, [])] [1, 3, 4, 5, 7])
        (.opsD [
          (⟨some 117, .fieldL 1 (.tmp 5), none, false⟩, []),
          (⟨some 118, .loadL false 1 (.tmp 117), none, false⟩, []),
          (⟨some 119, .fieldL 1 (.tmp 1), none, false⟩, []),
          (⟨some 120, .loadL false 1 (.tmp 119), none, false⟩, []),
          (⟨some 121, .mov (.tmp 7), none, false⟩, []),
          (⟨some 122, .indexAddr 1 (.tmp 120) (.tmp 121), none, false⟩, []),
          (⟨some 123, .load false 1 (.tmp 122), none, false⟩, []),
          (⟨some 124, .buildSlice true 2 1 1 [.int .i64 0] [(0, (.tmp 123))], none, false⟩, []),
          (⟨some 125, .append false 2 1 8 (.tmp 118) (.tmp 124), none, false⟩, []),
          (⟨some 126, .fieldL 1 (.tmp 5), none, false⟩, []),
          (⟨none, .storeL 1 (.tmp 126) (.tmp 125), none, false⟩, [])] [1, 3, 4, 5, 7])))
      (.ops [
        ⟨some 101, .mov (.tmp 7), none, false⟩,
        ⟨some 102, .bin .add (.tmp 101) (.const (.int .i64 1)), none, false⟩,
        ⟨some 7, .mov (.tmp 102), none, false⟩] [1, 3, 4, 5, 7]))))))
  (.seq (.block 4
  (.loop [1, 3, 4, 5]
    (.seq (.seq (.ops [
        ⟨some 127, .fieldL 2 (.tmp 5), none, false⟩,
        ⟨some 128, .loadL false 1 (.tmp 127), none, false⟩,
        ⟨some 129, .fieldL 2 (.tmp 1), none, false⟩,
        ⟨some 130, .loadL false 1 (.tmp 129), none, false⟩,
        ⟨some 131, .bin .lss (.tmp 128) (.tmp 130), none, false⟩,
        ⟨some 132, .mov (.tmp 131), none, false⟩,
        ⟨some 133, .fieldL 2 (.tmp 5), some (132, true), false⟩,
        ⟨some 134, .loadL false 1 (.tmp 133), some (132, true), false⟩,
        ⟨some 135, .bin .lss (.tmp 134) (.const (.int .i64 10)), some (132, true), false⟩,
        ⟨some 136, .pick (.tmp 132) (.tmp 135) (.const (.bool false)), none, false⟩] [1, 3, 4, 5, 136])
      (.cond (.tmp 136)
      .skip
      (.exit 4)))
      (.block 5
      (.seq (.ops [
          ⟨some 137, .mov (.tmp 4), none, false⟩,
          ⟨some 138, .mov (.tmp 4), none, false⟩,
          ⟨some 139, .nilCheck (.tmp 138), none, false⟩,
          ⟨some 140, .fieldAddr 2 (.tmp 139), none, false⟩,
          ⟨some 141, .load false 1 (.tmp 140), none, false⟩,
          ⟨some 142, .buildSlice true 9 1 1 [.str []] [(0, (.const (.string ⟨#[120]⟩)))], none, false⟩,
          ⟨some 143, .append false 9 1 16 (.tmp 141) (.tmp 142), none, false⟩,
          ⟨some 144, .nilCheck (.tmp 137), none, false⟩,
          ⟨some 145, .fieldAddr 2 (.tmp 144), none, false⟩,
          ⟨none, .store 1 (.tmp 145) (.tmp 143), none, false⟩] [1, 3, 4, 5])
        (.ops [
          ⟨some 146, .fieldL 2 (.tmp 5), none, false⟩,
          ⟨some 147, .loadL false 1 (.tmp 146), none, false⟩,
          ⟨some 148, .bin .add (.tmp 147) (.const (.int .i64 1)), none, false⟩,
          ⟨some 149, .fieldL 2 (.tmp 5), none, false⟩,
          ⟨none, .storeL 1 (.tmp 149) (.tmp 148), none, false⟩] [1, 3, 4, 5]))))))
  (.seq (.seq (.ops [
    ⟨some 8, .mov (.const (.int .i64 0)), none, false⟩] [1, 3, 4, 5, 8])
  (.block 6
  (.loop [1, 3, 4, 5, 8]
    (.seq (.seq (.ops [
        ⟨some 150, .mov (.tmp 8), none, false⟩,
        ⟨some 151, .fieldL 3 (.tmp 1), none, false⟩,
        ⟨some 152, .loadL false 1 (.tmp 151), none, false⟩,
        ⟨some 153, .len .slice (.tmp 152), none, false⟩,
        ⟨some 154, .bin .lss (.tmp 150) (.tmp 153), none, false⟩,
        ⟨some 155, .mov (.tmp 154), none, false⟩,
        ⟨some 156, .mov (.tmp 8), some (155, true), false⟩,
        ⟨some 157, .fieldL 4 (.tmp 1), some (155, true), false⟩,
        ⟨some 158, .loadL false 1 (.tmp 157), some (155, true), false⟩,
        ⟨some 159, .len .slice (.tmp 158), some (155, true), false⟩,
        ⟨some 160, .bin .lss (.tmp 156) (.tmp 159), some (155, true), false⟩,
        ⟨some 161, .pick (.tmp 155) (.tmp 160) (.const (.bool false)), none, false⟩,
        ⟨some 162, .mov (.tmp 161), none, false⟩,
        ⟨some 163, .mov (.tmp 8), some (162, true), false⟩,
        ⟨some 164, .bin .lss (.tmp 163) (.const (.int .i64 5)), some (162, true), false⟩,
        ⟨some 165, .pick (.tmp 162) (.tmp 164) (.const (.bool false)), none, false⟩] [1, 3, 4, 5, 8, 165])
      (.cond (.tmp 165)
      .skip
      (.exit 6)))
      (.seq (.block 7
      (.seq (.ops [
          ⟨some 168, .buildSlice true 4 1 0 [.bool false] [], none, false⟩,
          ⟨some 9, .mov (.tmp 168), none, false⟩] [1, 3, 4, 5, 8, 9])
        (.seq (.seq (.ops [
          ⟨some 10, .mov (.const (.int .i64 0)), none, false⟩] [1, 3, 4, 5, 8, 9, 10])
        (.block 8
        (.loop [1, 3, 4, 5, 8, 9, 10]
          (.seq (.seq (.ops [
              ⟨some 169, .mov (.tmp 10), none, false⟩,
              ⟨some 170, .bin .lss (.tmp 169) (.const (.int .i64 4)), none, false⟩] [1, 3, 4, 5, 8, 9, 10, 170])
            (.cond (.tmp 170)
            .skip
            (.exit 8)))
            (.seq (.block 9
            (.seq (.ops [
                ⟨some 173, .fieldL 4 (.tmp 1), none, false⟩,
                ⟨some 174, .loadL false 1 (.tmp 173), none, false⟩,
                ⟨some 175, .mov (.tmp 8), none, false⟩,
                ⟨some 176, .indexAddr 1 (.tmp 174) (.tmp 175), none, false⟩,
                ⟨some 177, .load false 1 (.tmp 176), none, false⟩,
                ⟨some 178, .mov (.tmp 10), none, false⟩,
                ⟨some 179, .bin .shr (.tmp 177) (.tmp 178), none, false⟩,
                ⟨some 180, .bin .and (.tmp 179) (.const (.int .i64 1)), none, false⟩,
                ⟨some 181, .bin .eql (.tmp 180) (.const (.int .i64 1)), none, false⟩] [1, 3, 4, 5, 8, 9, 10, 181])
              (.cond (.tmp 181)
              (.ops [
                  ⟨some 182, .mov (.tmp 9), none, false⟩,
                  ⟨some 183, .fieldL 4 (.tmp 1), none, false⟩,
                  ⟨some 184, .loadL false 1 (.tmp 183), none, false⟩,
                  ⟨some 185, .mov (.tmp 8), none, false⟩,
                  ⟨some 186, .indexAddr 1 (.tmp 184) (.tmp 185), none, false⟩,
                  ⟨some 187, .load false 1 (.tmp 186), none, false⟩,
                  ⟨some 188, .mov (.tmp 10), none, false⟩,
                  ⟨some 189, .bin .add (.tmp 188) (.const (.int .i64 4)), none, false⟩,
                  ⟨some 190, .bin .shr (.tmp 187) (.tmp 189), none, false⟩,
                  ⟨some 191, .bin .and (.tmp 190) (.const (.int .i64 1)), none, false⟩,
                  ⟨some 192, .bin .eql (.tmp 191) (.const (.int .i64 1)), none, false⟩,
                  ⟨some 193, .buildSlice true 4 1 1 [.bool false] [(0, (.tmp 192))], none, false⟩,
                  ⟨some 194, .append false 4 1 1 (.tmp 182) (.tmp 193), none, false⟩,
                  ⟨some 9, .mov (.tmp 194), none, false⟩] [1, 3, 4, 5, 8, 9, 10])
              .skip)))
            (.ops [
              ⟨some 171, .mov (.tmp 10), none, false⟩,
              ⟨some 172, .bin .add (.tmp 171) (.const (.int .i64 1)), none, false⟩,
              ⟨some 10, .mov (.tmp 172), none, false⟩] [1, 3, 4, 5, 8, 9, 10]))))))
        (.seq (.opsD [
          (⟨some 195, .mov (.tmp 4), none, false⟩, []),
          (⟨some 196, .mov (.tmp 4), none, false⟩, []),
          (⟨some 197, .nilCheck (.tmp 196), none, false⟩, []),
          (⟨some 198, .fieldAddr 3 (.tmp 197), none, false⟩, []),
          (⟨some 199, .load false 1 (.tmp 198), none, false⟩, []),
          (⟨some 200, .fieldL 3 (.tmp 1), none, false⟩, []),
          (⟨some 201, .loadL false 1 (.tmp 200), none, false⟩, []),
          (⟨some 202, .mov (.tmp 8), none, false⟩, []),
          (⟨some 203, .indexAddr 1 (.tmp 201) (.tmp 202), none, false⟩, []),
          (⟨some 204, .load false 1 (.tmp 203), none, false⟩, []),
          (⟨some 205, .mov (.tmp 9), none, false⟩, []),
          (⟨some 206, .build [.int .i64 0, .nilSlice] [(0, 1, (.tmp 204)), (1, 1, (.tmp 205))], none, false⟩, []),
          (⟨some 207, .buildSlice true 64 2 1 [.int .i64 0, .nilSlice] [(0, (.tmp 206))], none, false⟩, []),
          (⟨some 208, .append false 64 2 32 (.tmp 199) (.tmp 207), none, false⟩, []),
          (⟨some 209, .nilCheck (.tmp 195), none, false⟩, []),
          (⟨some 210, .fieldAddr 3 (.tmp 209), none, false⟩, []),
          (⟨none, .store 1 (.tmp 210) (.tmp 208), none, false⟩, [])] [1, 3, 4, 5, 8, 9])
        (.opsD [
          (⟨some 211, .fieldL 3 (.tmp 5), none, false⟩, []),
          (⟨some 212, .loadL false 1 (.tmp 211), none, false⟩, []),
          (⟨some 213, .fieldL 3 (.tmp 1), none, false⟩, []),
          (⟨some 214, .loadL false 1 (.tmp 213), none, false⟩, []),
          (⟨some 215, .mov (.tmp 8), none, false⟩, []),
          (⟨some 216, .indexAddr 1 (.tmp 214) (.tmp 215), none, false⟩, []),
          (⟨some 217, .load false 1 (.tmp 216), none, false⟩, []),
          (⟨some 218, .mov (.tmp 9), none, false⟩, []),
          (⟨some 219, .build [.int .i64 0, .nilSlice] [(0, 1, (.tmp 217)), (1, 1, (.tmp 218))], none, false⟩, []),
          (⟨some 220, .buildSlice true 65 2 1 [.int .i64 0, .nilSlice] [(0, (.tmp 219))], none, false⟩, []),
          (⟨some 221, .append false 65 2 32 (.tmp 212) (.tmp 220), none, false⟩, []),
          (⟨some 222, .fieldL 3 (.tmp 5), none, false⟩, []),
          (⟨none, .storeL 1 (.tmp 222) (.tmp 221), none, false⟩, [])] [1, 3, 4, 5, 8])))))
      (.ops [
        ⟨some 166, .mov (.tmp 8), none, false⟩,
        ⟨some 167, .bin .add (.tmp 166) (.const (.int .i64 1)), none, false⟩,
        ⟨some 8, .mov (.tmp 167), none, false⟩] [1, 3, 4, 5, 8]))))))
  (.seq (.ops [
    ⟨some 223, .call 45 [], none, false⟩,
    ⟨some 11, .mov (.tmp 223), none, false⟩] [1, 3, 4, 5, 11])
  (.seq (.ops [
    ⟨some 224, .makeSlice 4 1 1 [.bool false] (.const (.int .i64 8)) (.const (.int .i64 8)), none, false⟩,
    ⟨some 12, .mov (.tmp 224), none, false⟩] [1, 3, 4, 5, 11, 12])
  (.seq (.seq (.ops [
    ⟨some 13, .mov (.const (.int .i64 0)), none, false⟩] [1, 3, 4, 5, 11, 12, 13])
  (.block 10
  (.loop [1, 3, 4, 5, 11, 12, 13]
    (.seq (.seq (.ops [
        ⟨some 225, .mov (.tmp 13), none, false⟩,
        ⟨some 226, .fieldL 5 (.tmp 1), none, false⟩,
        ⟨some 227, .loadL false 1 (.tmp 226), none, false⟩,
        ⟨some 228, .len .slice (.tmp 227), none, false⟩,
        ⟨some 229, .bin .lss (.tmp 225) (.tmp 228), none, false⟩,
        ⟨some 230, .mov (.tmp 229), none, false⟩,
        ⟨some 231, .mov (.tmp 13), some (230, true), false⟩,
        ⟨some 232, .bin .lss (.tmp 231) (.const (.int .i64 6)), some (230, true), false⟩,
        ⟨some 233, .pick (.tmp 230) (.tmp 232) (.const (.bool false)), none, false⟩] [1, 3, 4, 5, 11, 12, 13, 233])
      (.cond (.tmp 233)
      .skip
      (.exit 10)))
      (.seq (.block 11
      (.seq (.ops [
          ⟨some 236, .mov (.tmp 11), none, false⟩,
          ⟨some 237, .mov (.tmp 13), none, false⟩,
          ⟨some 238, .bin .add (.const (.int .i64 97)) (.tmp 237), none, false⟩,
          ⟨some 239, .convInt .u8 (.tmp 238), none, false⟩,
          ⟨some 240, .buildSlice true 5 1 1 [.int .u8 0] [(0, (.tmp 239))], none, false⟩,
          ⟨some 241, .bytesToStr (.tmp 240), none, false⟩,
          ⟨some 242, .buildSlice true 9 1 1 [.str []] [(0, (.tmp 241))], none, false⟩,
          ⟨some 243, .append false 9 1 16 (.tmp 236) (.tmp 242), none, false⟩,
          ⟨some 11, .mov (.tmp 243), none, false⟩] [1, 3, 4, 5, 11, 12, 13])
        (.ops [
          ⟨some 244, .mov (.tmp 12), none, false⟩,
          ⟨some 245, .fieldL 5 (.tmp 1), none, false⟩,
          ⟨some 246, .loadL false 1 (.tmp 245), none, false⟩,
          ⟨some 247, .mov (.tmp 13), none, false⟩,
          ⟨some 248, .indexAddr 1 (.tmp 246) (.tmp 247), none, false⟩,
          ⟨some 249, .load false 1 (.tmp 248), none, false⟩,
          ⟨some 250, .buildSlice true 4 1 1 [.bool false] [(0, (.tmp 249))], none, false⟩,
          ⟨some 251, .append false 4 1 1 (.tmp 244) (.tmp 250), none, false⟩,
          ⟨some 12, .mov (.tmp 251), none, false⟩] [1, 3, 4, 5, 11, 12, 13])))
      (.ops [
        ⟨some 234, .mov (.tmp 13), none, false⟩,
        ⟨some 235, .bin .add (.tmp 234) (.const (.int .i64 1)), none, false⟩,
        ⟨some 13, .mov (.tmp 235), none, false⟩] [1, 3, 4, 5, 11, 12, 13]))))))
  (.seq (.ops [
    ⟨some 252, .mov (.tmp 4), none, false⟩,
    ⟨some 253, .mov (.tmp 11), none, false⟩,
    ⟨some 254, .nilCheck (.tmp 252), none, false⟩,
    ⟨some 255, .fieldAddr 4 (.tmp 254), none, false⟩,
    ⟨none, .store 1 (.tmp 255) (.tmp 253), none, false⟩] [3, 4, 5, 11, 12])
  (.seq (.ops [
    ⟨some 256, .mov (.tmp 4), none, false⟩,
    ⟨some 257, .mov (.tmp 12), none, false⟩,
    ⟨some 258, .nilCheck (.tmp 256), none, false⟩,
    ⟨some 259, .fieldAddr 5 (.tmp 258), none, false⟩,
    ⟨none, .store 1 (.tmp 259) (.tmp 257), none, false⟩] [3, 4, 5, 11, 12])
  (.seq (.ops [
    ⟨some 260, .mov (.tmp 11), none, false⟩,
    ⟨some 261, .fieldL 4 (.tmp 5), none, false⟩,
    ⟨none, .storeL 1 (.tmp 261) (.tmp 260), none, false⟩] [3, 4, 5, 12])
  (.seq (.ops [
    ⟨some 262, .mov (.tmp 12), none, false⟩,
    ⟨some 263, .fieldL 5 (.tmp 5), none, false⟩,
    ⟨none, .storeL 1 (.tmp 263) (.tmp 262), none, false⟩] [3, 4, 5])
  (.seq (.opsD [
    (⟨some 264, .mov (.tmp 4), none, false⟩, []),
    (⟨some 265, .loadL true 9 (.tmp 5), none, false⟩, []),
    (⟨some 2, .mov (.tmp 264), none, false⟩, []),
    (⟨none, .storeL 9 (.tmp 3) (.tmp 265), none, false⟩, [])] [2, 3])
  .ret)))))))))))))))⟩
/-- scribe/code.Shapes -/
def af25 : AFunc := ⟨1, [.tmp 2],
  (.seq (.ops [
    ⟨some 2, .mov (.const (.slice none 0 0)), none, false⟩] [0])
  (.seq (.ops [
    ⟨some 9, .mov (.tmp 0), none, false⟩,
    ⟨some 10, .call 43 [(.tmp 9)], none, false⟩,
    ⟨some 8, .mov (.tmp 10), none, false⟩,
    ⟨some 11, .extract (.tmp 8) 0, none, false⟩,
    ⟨some 12, .extract (.tmp 8) 1, none, false⟩,
    ⟨some 3, .mov (.tmp 11), none, false⟩,
    ⟨some 4, .mov (.tmp 12), none, false⟩] [0, 3, 4])
  (.seq (.seq (.ops [
    ⟨some 13, .mov (.tmp 4), none, false⟩,
    ⟨some 14, .bin .neq (.tmp 13) (.const (.int .i64 0)), none, false⟩] [0, 3, 14])
  (.cond (.tmp 14)
  (.seq (.ops [
      ⟨some 2, .mov (.const (.slice none 0 0)), none, false⟩] [2])
    .ret)
  .skip))
  (.seq (.ops [
    ⟨some 15, .mov (.tmp 0), none, false⟩,
    ⟨some 16, .nilCheck (.tmp 15), none, false⟩,
    ⟨some 17, .fieldAddr 0 (.tmp 16), none, false⟩,
    ⟨some 18, .load false 1 (.tmp 17), none, false⟩,
    ⟨some 19, .len .slice (.tmp 18), none, false⟩,
    ⟨some 20, .makeSlice 84 4 40 [.bool false, .int .i64 0, .str [], .int .i64 0] (.tmp 19) (.tmp 19), none, false⟩,
    ⟨some 5, .mov (.tmp 20), none, false⟩] [3, 5])
  (.seq (.seq (.ops [
    ⟨some 21, .mov (.tmp 3), none, false⟩,
    ⟨some 22, .nilCheck (.tmp 21), none, false⟩,
    ⟨some 23, .fieldAddr 1 (.tmp 22), none, false⟩,
    ⟨some 24, .load false 1 (.tmp 23), none, false⟩,
    ⟨some 25, .range (.tmp 24), none, false⟩] [5, 25])
  (.block 0
  (.loop [5, 25]
    (.seq (.ops [
        ⟨some 26, .next (.tmp 25), none, false⟩,
        ⟨some 27, .extract (.tmp 26) 0, none, false⟩] [5, 25, 27])
      (.seq (.cond (.tmp 27)
      .skip
      (.exit 0))
      (.block 1
      (.seq (.ops [
          ⟨some 28, .entry (.tmp 25), none, false⟩,
          ⟨some 29, .extract (.tmp 28) 0, none, false⟩,
          ⟨some 30, .extract (.tmp 28) 1, none, false⟩,
          ⟨some 7, .allocL 0 [.int .i64 0, .str [], .int .i64 0], none, false⟩,
          ⟨some 6, .mov (.tmp 29), none, false⟩,
          ⟨none, .storeL 3 (.tmp 7) (.tmp 30), none, false⟩] [5, 6, 7, 25])
        (.ops [
          ⟨some 31, .mov (.tmp 5), none, false⟩,
          ⟨some 32, .mov (.tmp 6), none, false⟩,
          ⟨some 33, .fieldL 0 (.tmp 7), none, false⟩,
          ⟨some 34, .loadL false 1 (.tmp 33), none, false⟩,
          ⟨some 35, .fieldL 1 (.tmp 7), none, false⟩,
          ⟨some 36, .loadL false 1 (.tmp 35), none, false⟩,
          ⟨some 37, .fieldL 2 (.tmp 7), none, false⟩,
          ⟨some 38, .loadL false 1 (.tmp 37), none, false⟩,
          ⟨some 39, .build [.bool false, .int .i64 0, .str [], .int .i64 0] [(0, 1, (.const (.bool true))), (1, 1, (.tmp 34)), (2, 1, (.tmp 36)), (3, 1, (.tmp 38))], none, false⟩,
          ⟨some 40, .indexAddr 4 (.tmp 31) (.tmp 32), none, false⟩,
          ⟨none, .store 4 (.tmp 40) (.tmp 39), none, false⟩] [5, 25]))))))))
  (.seq (.ops [
    ⟨some 41, .mov (.tmp 5), none, false⟩,
    ⟨some 2, .mov (.tmp 41), none, false⟩] [2])
  .ret))))))⟩
/-- scribe/scriberef15.Shapes -/
def af26 : AFunc := ⟨1, [.tmp 2],
  (.seq (.ops [
    ⟨some 1, .boxL 0 9 (.tmp 0), none, false⟩,
    ⟨some 2, .mov (.const (.slice none 0 0)), none, false⟩] [1])
  (.seq (.ops [
    ⟨some 6, .loadL true 9 (.tmp 1), none, false⟩,
    ⟨some 7, .call 44 [(.tmp 6)], none, false⟩,
    ⟨some 5, .mov (.tmp 7), none, false⟩,
    ⟨some 8, .extract (.tmp 5) 0, none, false⟩,
    ⟨some 9, .extract (.tmp 5) 1, none, false⟩,
    ⟨some 3, .mov (.tmp 8), none, false⟩,
    ⟨some 4, .mov (.tmp 9), none, false⟩] [3])
  (.seq (.ops [
    ⟨some 10, .mov (.tmp 3), none, false⟩,
    ⟨some 2, .mov (.tmp 10), none, false⟩] [2])
  .ret)))⟩
/-- scribe/lex.Lex -/
def af27 : AFunc := ⟨1, [.tmp 2, .tmp 3, .tmp 4],
  (.seq (.ops [
    ⟨some 2, .mov (.const (.slice none 0 0)), none, false⟩,
    ⟨some 3, .mov (.const (.int .i64 0)), none, false⟩,
    ⟨some 4, .mov (.const (.int .i64 0)), none, false⟩] [0])
  (.seq (.seq (.ops [
    ⟨some 7, .mov (.tmp 0), none, false⟩,
    ⟨some 8, .len .str (.tmp 7), none, false⟩,
    ⟨some 9, .bin .gtr (.tmp 8) (.const (.int .i64 4000)), none, false⟩] [0, 9])
  (.cond (.tmp 9)
  (.seq (.ops [
      ⟨some 2, .mov (.const (.slice none 0 0)), none, false⟩,
      ⟨some 3, .mov (.const (.int .i64 0)), none, false⟩,
      ⟨some 4, .mov (.const (.int .i64 12)), none, false⟩] [2, 3, 4])
    .ret)
  .skip))
  (.seq (.ops [
    ⟨some 10, .mov (.tmp 0), none, false⟩,
    ⟨some 11, .build [.str [], .int .i64 0, .nilSlice] [(0, 1, (.tmp 10))], none, false⟩,
    ⟨some 12, .boxH 134 3 (.tmp 11), none, false⟩,
    ⟨some 5, .mov (.tmp 12), none, false⟩] [0, 5])
  (.seq (.block 0
  (.loop [0, 5]
    (.seq (.seq (.ops [
        ⟨some 13, .mov (.tmp 5), none, false⟩,
        ⟨some 14, .nilCheck (.tmp 13), none, false⟩,
        ⟨some 15, .fieldAddr 1 (.tmp 14), none, false⟩,
        ⟨some 16, .load false 1 (.tmp 15), none, false⟩,
        ⟨some 17, .mov (.tmp 0), none, false⟩,
        ⟨some 18, .len .str (.tmp 17), none, false⟩,
        ⟨some 19, .bin .lss (.tmp 16) (.tmp 18), none, false⟩] [0, 5, 19])
      (.cond (.tmp 19)
      .skip
      (.exit 0)))
      (.block 1
      (.seq (.ops [
          ⟨some 20, .mov (.tmp 5), none, false⟩,
          ⟨some 21, .call 46 [(.tmp 20)], none, false⟩,
          ⟨some 6, .mov (.tmp 21), none, false⟩] [0, 5, 6])
        (.seq (.ops [
          ⟨some 22, .mov (.tmp 6), none, false⟩,
          ⟨some 23, .bin .neq (.tmp 22) (.const (.int .i64 0)), none, false⟩] [0, 5, 6, 23])
        (.cond (.tmp 23)
        (.seq (.opsD [
            (⟨some 24, .mov (.tmp 5), none, false⟩, []),
            (⟨some 25, .nilCheck (.tmp 24), none, false⟩, []),
            (⟨some 26, .fieldAddr 1 (.tmp 25), none, false⟩, []),
            (⟨some 27, .load false 1 (.tmp 26), none, false⟩, []),
            (⟨some 28, .mov (.tmp 6), none, false⟩, []),
            (⟨some 2, .mov (.const (.slice none 0 0)), none, false⟩, []),
            (⟨some 3, .mov (.tmp 27), none, false⟩, []),
            (⟨some 4, .mov (.tmp 28), none, false⟩, [])] [2, 3, 4])
          .ret)
        .skip)))))))
  (.seq (.ops [
    ⟨some 29, .mov (.tmp 5), none, false⟩,
    ⟨some 30, .mov (.tmp 5), none, false⟩,
    ⟨some 31, .nilCheck (.tmp 30), none, false⟩,
    ⟨some 32, .fieldAddr 1 (.tmp 31), none, false⟩,
    ⟨some 33, .load false 1 (.tmp 32), none, false⟩,
    ⟨some 34, .call 47 [(.tmp 29), (.const (.int .i64 0)), (.const (.string ⟨#[]⟩)), (.tmp 33)], none, false⟩] [5])
  (.seq (.ops [
    ⟨some 35, .mov (.tmp 5), none, false⟩,
    ⟨some 36, .nilCheck (.tmp 35), none, false⟩,
    ⟨some 37, .fieldAddr 2 (.tmp 36), none, false⟩,
    ⟨some 38, .load false 1 (.tmp 37), none, false⟩,
    ⟨some 2, .mov (.tmp 38), none, false⟩,
    ⟨some 3, .mov (.const (.int .i64 0)), none, false⟩,
    ⟨some 4, .mov (.const (.int .i64 0)), none, false⟩] [2, 3, 4])
  .ret))))))⟩
/-- scribe/parse.node -/
def af28 : AFunc := ⟨2, [.cellL true 4 4],
  (.seq (.ops [
    ⟨some 4, .allocL 0 [.str [], .str [], .int .i64 0, .nilSlice], none, false⟩] [0, 1, 4])
  (.seq (.ops [
    ⟨some 5, .mov (.tmp 0), none, false⟩,
    ⟨some 6, .mov (.tmp 1), none, false⟩,
    ⟨some 7, .build [.str [], .str [], .int .i64 0, .nilSlice] [(0, 1, (.tmp 5)), (3, 1, (.tmp 6))], none, false⟩,
    ⟨none, .storeL 4 (.tmp 4) (.tmp 7), none, false⟩] [4])
  .ret))⟩
/-- (*scribe/parse.parser).at -/
def af29 : AFunc := ⟨2, [.tmp 4],
  (.seq (.ops [
    ⟨some 4, .mov (.const (.bool false)), none, false⟩] [0, 1])
  (.seq (.ops [
    ⟨some 6, .mov (.tmp 0), none, false⟩,
    ⟨some 7, .call 30 [(.tmp 6)], none, false⟩,
    ⟨some 5, .allocL 0 [.int .i64 0, .str [], .int .i64 0], none, false⟩,
    ⟨none, .storeL 3 (.tmp 5) (.tmp 7), none, false⟩] [1, 5])
  (.seq (.ops [
    ⟨some 8, .fieldL 0 (.tmp 5), none, false⟩,
    ⟨some 9, .loadL false 1 (.tmp 8), none, false⟩,
    ⟨some 10, .bin .eql (.tmp 9) (.const (.int .i64 8)), none, false⟩,
    ⟨some 11, .mov (.tmp 10), none, false⟩,
    ⟨some 12, .fieldL 0 (.tmp 5), some (11, false), false⟩,
    ⟨some 13, .loadL false 1 (.tmp 12), some (11, false), false⟩,
    ⟨some 14, .bin .eql (.tmp 13) (.const (.int .i64 7)), some (11, false), false⟩,
    ⟨some 15, .pick (.tmp 11) (.const (.bool true)) (.tmp 14), none, false⟩,
    ⟨some 16, .mov (.tmp 15), none, false⟩,
    ⟨some 17, .mov (.tmp 1), some (16, true), false⟩,
    ⟨some 18, .fieldL 1 (.tmp 5), some (16, true), false⟩,
    ⟨some 19, .loadL false 1 (.tmp 18), some (16, true), false⟩,
    ⟨some 20, .call 48 [(.tmp 17), (.tmp 19)], some (16, true), false⟩,
    ⟨some 21, .pick (.tmp 16) (.tmp 20) (.const (.bool false)), none, false⟩,
    ⟨some 4, .mov (.tmp 21), none, false⟩] [4])
  .ret)))⟩
/-- (*scribe/parse.parser).cur -/
def af30 : AFunc := ⟨1, [.cellL true 3 2],
  (.seq (.ops [
    ⟨some 2, .allocL 0 [.int .i64 0, .str [], .int .i64 0], none, false⟩] [0, 2])
  (.seq (.seq (.ops [
    ⟨some 3, .mov (.tmp 0), none, false⟩,
    ⟨some 4, .nilCheck (.tmp 3), none, false⟩,
    ⟨some 5, .fieldAddr 4 (.tmp 4), none, false⟩,
    ⟨some 6, .load false 1 (.tmp 5), none, false⟩,
    ⟨some 7, .bin .neq (.tmp 6) (.const (.int .i64 0)), none, false⟩] [0, 2, 7])
  (.cond (.tmp 7)
  (.seq (.ops [
      ⟨some 8, .build [.int .i64 0, .str [], .int .i64 0] [], none, false⟩,
      ⟨none, .storeL 3 (.tmp 2) (.tmp 8), none, false⟩] [2])
    .ret)
  .skip))
  (.seq (.opsD [
    (⟨some 9, .mov (.tmp 0), none, false⟩, []),
    (⟨some 10, .nilCheck (.tmp 9), none, false⟩, []),
    (⟨some 11, .fieldAddr 0 (.tmp 10), none, false⟩, []),
    (⟨some 12, .load false 1 (.tmp 11), none, false⟩, []),
    (⟨some 13, .mov (.tmp 0), none, false⟩, []),
    (⟨some 14, .nilCheck (.tmp 13), none, false⟩, []),
    (⟨some 15, .fieldAddr 1 (.tmp 14), none, false⟩, []),
    (⟨some 16, .load false 1 (.tmp 15), none, false⟩, []),
    (⟨some 17, .indexAddr 3 (.tmp 12) (.tmp 16), none, false⟩, []),
    (⟨some 18, .load true 3 (.tmp 17), none, false⟩, []),
    (⟨none, .storeL 3 (.tmp 2) (.tmp 18), none, false⟩, [])] [2])
  .ret)))⟩
/-- (*scribe/parse.parser).step -/
def af31 : AFunc := ⟨1, [],
  (.seq (.opsD [
    (⟨some 2, .mov (.tmp 0), none, false⟩, []),
    (⟨some 3, .nilCheck (.tmp 2), none, false⟩, []),
    (⟨some 4, .fieldAddr 4 (.tmp 3), none, false⟩, []),
    (⟨some 5, .load false 1 (.tmp 4), none, false⟩, []),
    (⟨some 6, .bin .eql (.tmp 5) (.const (.int .i64 0)), none, false⟩, []),
    (⟨some 7, .mov (.tmp 6), none, false⟩, []),
    (⟨some 8, .mov (.tmp 0), some (7, true), false⟩, []),
    (⟨some 9, .nilCheck (.tmp 8), some (7, true), false⟩, []),
    (⟨some 10, .fieldAddr 1 (.tmp 9), some (7, true), false⟩, []),
    (⟨some 11, .load false 1 (.tmp 10), some (7, true), false⟩, []),
    (⟨some 12, .mov (.tmp 0), some (7, true), false⟩, []),
    (⟨some 13, .nilCheck (.tmp 12), some (7, true), false⟩, []),
    (⟨some 14, .fieldAddr 0 (.tmp 13), some (7, true), false⟩, []),
    (⟨some 15, .load false 1 (.tmp 14), some (7, true), false⟩, []),
    (⟨some 16, .len .slice (.tmp 15), some (7, true), false⟩, []),
    (⟨some 17, .bin .sub (.tmp 16) (.const (.int .i64 1)), some (7, true), false⟩, []),
    (⟨some 18, .bin .lss (.tmp 11) (.tmp 17), some (7, true), false⟩, []),
    (⟨some 19, .pick (.tmp 7) (.tmp 18) (.const (.bool false)), none, false⟩, [])] [0, 19])
  (.cond (.tmp 19)
  (.ops [
      ⟨some 20, .mov (.tmp 0), none, false⟩,
      ⟨some 21, .nilCheck (.tmp 20), none, false⟩,
      ⟨some 22, .fieldAddr 1 (.tmp 21), none, false⟩,
      ⟨some 23, .load false 1 (.tmp 22), none, false⟩,
      ⟨some 24, .bin .add (.tmp 23) (.const (.int .i64 1)), none, false⟩,
      ⟨some 25, .nilCheck (.tmp 20), none, false⟩,
      ⟨some 26, .fieldAddr 1 (.tmp 25), none, false⟩,
      ⟨none, .store 1 (.tmp 26) (.tmp 24), none, false⟩] [])
  .skip))⟩
/-- (*scribe/parse.parser).item -/
def af32 : AFunc := ⟨1, [.cellL true 4 2],
  (.seq (.ops [
    ⟨some 2, .allocL 0 [.str [], .str [], .int .i64 0, .nilSlice], none, false⟩] [0, 2])
  (.seq (.block 0
  (.seq (.ops [
      ⟨some 7, .mov (.tmp 0), none, false⟩,
      ⟨some 8, .call 49 [(.tmp 7), (.const (.string ⟨#[66, 69, 71, 73, 78]⟩))], none, false⟩,
      ⟨some 6, .mov (.tmp 8), none, false⟩] [0, 2, 6])
    (.cond (.tmp 6)
    (.seq (.ops [
        ⟨some 9, .mov (.tmp 0), none, false⟩,
        ⟨some 10, .call 50 [(.tmp 9)], none, false⟩,
        ⟨some 11, .buildSlice true 25 4 1 [.str [], .str [], .int .i64 0, .nilSlice] [(0, (.tmp 10))], none, false⟩,
        ⟨some 12, .call 28 [(.const (.string ⟨#[98, 101, 103, 105, 110]⟩)), (.tmp 11)], none, false⟩,
        ⟨none, .storeL 4 (.tmp 2) (.tmp 12), none, false⟩] [2])
      .ret)
    (.seq (.ops [
        ⟨some 14, .mov (.tmp 0), none, false⟩,
        ⟨some 15, .call 49 [(.tmp 14), (.const (.string ⟨#[69, 78, 68]⟩))], none, false⟩,
        ⟨some 13, .mov (.tmp 15), none, false⟩] [0, 2, 13])
      (.cond (.tmp 13)
      (.seq (.ops [
          ⟨some 16, .mov (.tmp 0), none, false⟩,
          ⟨some 17, .call 50 [(.tmp 16)], none, false⟩,
          ⟨some 18, .buildSlice true 25 4 1 [.str [], .str [], .int .i64 0, .nilSlice] [(0, (.tmp 17))], none, false⟩,
          ⟨some 19, .call 28 [(.const (.string ⟨#[101, 110, 100]⟩)), (.tmp 18)], none, false⟩,
          ⟨none, .storeL 4 (.tmp 2) (.tmp 19), none, false⟩] [2])
        .ret)
      (.seq (.ops [
          ⟨some 21, .mov (.tmp 0), none, false⟩,
          ⟨some 22, .call 49 [(.tmp 21), (.const (.string ⟨#[102, 117, 110, 99, 116, 105, 111, 110]⟩))], none, false⟩,
          ⟨some 20, .mov (.tmp 22), none, false⟩] [0, 2, 20])
        (.cond (.tmp 20)
        (.seq (.ops [
            ⟨some 23, .mov (.tmp 0), none, false⟩,
            ⟨some 24, .buildSlice true 3 1 2 [.int .i64 0] [(0, (.const (.int .i64 5))), (1, (.const (.int .i64 6)))], none, false⟩,
            ⟨some 25, .call 52 [(.tmp 23), (.tmp 24)], none, false⟩,
            ⟨some 26, .call 51 [(.const (.string ⟨#[102, 117, 110, 99]⟩)), (.tmp 25), (.const (.slice none 0 0))], none, false⟩,
            ⟨some 3, .allocL 0 [.str [], .str [], .int .i64 0, .nilSlice], none, false⟩,
            ⟨none, .storeL 4 (.tmp 3) (.tmp 26), none, false⟩] [0, 2, 3])
          (.seq (.ops [
            ⟨some 27, .mov (.tmp 0), none, false⟩,
            ⟨some 28, .call 53 [(.tmp 27), (.const (.string ⟨#[40]⟩))], none, false⟩] [0, 2, 3])
          (.seq (.ops [
            ⟨some 29, .mov (.tmp 0), none, false⟩,
            ⟨some 30, .call 54 [(.tmp 29)], none, false⟩] [0, 2, 3])
          (.seq (.block 1
          (.loop [0, 2, 3]
            (.seq (.seq (.ops [
                ⟨some 31, .mov (.tmp 0), none, false⟩,
                ⟨some 32, .nilCheck (.tmp 31), none, false⟩,
                ⟨some 33, .fieldAddr 4 (.tmp 32), none, false⟩,
                ⟨some 34, .load false 1 (.tmp 33), none, false⟩,
                ⟨some 35, .bin .eql (.tmp 34) (.const (.int .i64 0)), none, false⟩,
                ⟨some 36, .mov (.tmp 35), none, false⟩,
                ⟨some 37, .mov (.tmp 0), some (36, true), false⟩,
                ⟨some 38, .buildSlice true 9 1 1 [.str []] [(0, (.const (.string ⟨#[41]⟩)))], some (36, true), false⟩,
                ⟨some 39, .call 29 [(.tmp 37), (.tmp 38)], some (36, true), false⟩,
                ⟨some 40, .un .not (.tmp 39), some (36, true), false⟩,
                ⟨some 41, .pick (.tmp 36) (.tmp 40) (.const (.bool false)), none, false⟩] [0, 2, 3, 41])
              (.cond (.tmp 41)
              .skip
              (.exit 1)))
              (.block 2
              (.seq (.seq (.ops [
                  ⟨some 42, .fieldL 3 (.tmp 3), none, false⟩,
                  ⟨some 43, .loadL false 1 (.tmp 42), none, false⟩,
                  ⟨some 44, .len .slice (.tmp 43), none, false⟩,
                  ⟨some 45, .bin .gtr (.tmp 44) (.const (.int .i64 0)), none, false⟩] [0, 2, 3, 45])
                (.cond (.tmp 45)
                (.seq (.ops [
                    ⟨some 46, .mov (.tmp 0), none, false⟩,
                    ⟨some 47, .call 53 [(.tmp 46), (.const (.string ⟨#[44]⟩))], none, false⟩] [0, 2, 3])
                  (.ops [
                    ⟨some 48, .mov (.tmp 0), none, false⟩,
                    ⟨some 49, .call 54 [(.tmp 48)], none, false⟩] [0, 2, 3]))
                .skip))
                (.seq (.opsD [
                  (⟨some 50, .fieldL 3 (.tmp 3), none, false⟩, []),
                  (⟨some 51, .loadL false 1 (.tmp 50), none, false⟩, []),
                  (⟨some 52, .mov (.tmp 0), none, false⟩, []),
                  (⟨some 53, .buildSlice true 3 1 1 [.int .i64 0] [(0, (.const (.int .i64 5)))], none, false⟩, []),
                  (⟨some 54, .call 52 [(.tmp 52), (.tmp 53)], none, false⟩, []),
                  (⟨some 55, .call 51 [(.const (.string ⟨#[112, 97, 114, 97, 109]⟩)), (.tmp 54), (.const (.slice none 0 0))], none, false⟩, []),
                  (⟨some 56, .buildSlice true 25 4 1 [.str [], .str [], .int .i64 0, .nilSlice] [(0, (.tmp 55))], none, false⟩, []),
                  (⟨some 57, .append false 25 4 64 (.tmp 51) (.tmp 56), none, false⟩, []),
                  (⟨some 58, .fieldL 3 (.tmp 3), none, false⟩, []),
                  (⟨none, .storeL 1 (.tmp 58) (.tmp 57), none, false⟩, [])] [0, 2, 3])
                (.ops [
                  ⟨some 59, .mov (.tmp 0), none, false⟩,
                  ⟨some 60, .call 54 [(.tmp 59)], none, false⟩] [0, 2, 3])))))))
          (.seq (.ops [
            ⟨some 61, .mov (.tmp 0), none, false⟩,
            ⟨some 62, .call 53 [(.tmp 61), (.const (.string ⟨#[41]⟩))], none, false⟩] [0, 2, 3])
          (.seq (.ops [
            ⟨some 63, .mov (.tmp 0), none, false⟩,
            ⟨some 64, .call 54 [(.tmp 63)], none, false⟩] [0, 2, 3])
          (.seq (.opsD [
            (⟨some 65, .fieldL 3 (.tmp 3), none, false⟩, []),
            (⟨some 66, .loadL false 1 (.tmp 65), none, false⟩, []),
            (⟨some 67, .mov (.tmp 0), none, false⟩, []),
            (⟨some 68, .call 50 [(.tmp 67)], none, false⟩, []),
            (⟨some 69, .buildSlice true 25 4 1 [.str [], .str [], .int .i64 0, .nilSlice] [(0, (.tmp 68))], none, false⟩, []),
            (⟨some 70, .append false 25 4 64 (.tmp 66) (.tmp 69), none, false⟩, []),
            (⟨some 71, .fieldL 3 (.tmp 3), none, false⟩, []),
            (⟨none, .storeL 1 (.tmp 71) (.tmp 70), none, false⟩, [])] [2, 3])
          (.seq (.ops [
            ⟨some 72, .loadL true 4 (.tmp 3), none, false⟩,
            ⟨none, .storeL 4 (.tmp 2) (.tmp 72), none, false⟩] [2])
          .ret))))))))
        (.seq (.ops [
            ⟨some 74, .mov (.tmp 0), none, false⟩,
            ⟨some 75, .buildSlice true 9 1 1 [.str []] [(0, (.const (.string ⟨#[123]⟩)))], none, false⟩,
            ⟨some 76, .call 29 [(.tmp 74), (.tmp 75)], none, false⟩,
            ⟨some 73, .mov (.tmp 76), none, false⟩] [0, 2, 73])
          (.cond (.tmp 73)
          (.seq (.ops [
              ⟨some 77, .call 28 [(.const (.string ⟨#[97, 108, 119, 97, 121, 115]⟩)), (.const (.slice none 0 0))], none, false⟩,
              ⟨some 78, .mov (.tmp 0), none, false⟩,
              ⟨some 79, .call 50 [(.tmp 78)], none, false⟩,
              ⟨some 80, .buildSlice true 25 4 2 [.str [], .str [], .int .i64 0, .nilSlice] [(0, (.tmp 77)), (1, (.tmp 79))], none, false⟩,
              ⟨some 81, .call 28 [(.const (.string ⟨#[114, 117, 108, 101]⟩)), (.tmp 80)], none, false⟩,
              ⟨none, .storeL 4 (.tmp 2) (.tmp 81), none, false⟩] [2])
            .ret)
          .skip)))))))))
  (.seq (.ops [
    ⟨some 82, .mov (.tmp 0), none, false⟩,
    ⟨some 83, .call 55 [(.tmp 82)], none, false⟩,
    ⟨some 84, .buildSlice true 25 4 1 [.str [], .str [], .int .i64 0, .nilSlice] [(0, (.tmp 83))], none, false⟩,
    ⟨some 85, .call 28 [(.const (.string ⟨#[114, 117, 108, 101]⟩)), (.tmp 84)], none, false⟩,
    ⟨some 4, .allocL 0 [.str [], .str [], .int .i64 0, .nilSlice], none, false⟩,
    ⟨none, .storeL 4 (.tmp 4) (.tmp 85), none, false⟩] [0, 2, 4])
  (.seq (.seq (.ops [
    ⟨some 86, .mov (.tmp 0), none, false⟩,
    ⟨some 87, .buildSlice true 9 1 1 [.str []] [(0, (.const (.string ⟨#[123]⟩)))], none, false⟩,
    ⟨some 88, .call 29 [(.tmp 86), (.tmp 87)], none, false⟩] [0, 2, 4, 88])
  (.cond (.tmp 88)
  (.seq (.opsD [
      (⟨some 89, .fieldL 3 (.tmp 4), none, false⟩, []),
      (⟨some 90, .loadL false 1 (.tmp 89), none, false⟩, []),
      (⟨some 91, .mov (.tmp 0), none, false⟩, []),
      (⟨some 92, .call 50 [(.tmp 91)], none, false⟩, []),
      (⟨some 93, .buildSlice true 25 4 1 [.str [], .str [], .int .i64 0, .nilSlice] [(0, (.tmp 92))], none, false⟩, []),
      (⟨some 94, .append false 25 4 64 (.tmp 90) (.tmp 93), none, false⟩, []),
      (⟨some 95, .fieldL 3 (.tmp 4), none, false⟩, []),
      (⟨none, .storeL 1 (.tmp 95) (.tmp 94), none, false⟩, [])] [2, 4])
    (.seq (.ops [
      ⟨some 96, .loadL true 4 (.tmp 4), none, false⟩,
      ⟨none, .storeL 4 (.tmp 2) (.tmp 96), none, false⟩] [2])
    .ret))
  .skip))
  (.seq (.seq (.ops [
    ⟨some 97, .mov (.tmp 0), none, false⟩,
    ⟨some 98, .call 30 [(.tmp 97)], none, false⟩,
    ⟨some 5, .allocL 0 [.int .i64 0, .str [], .int .i64 0], none, false⟩,
    ⟨none, .storeL 3 (.tmp 5) (.tmp 98), none, false⟩] [0, 2, 4, 5])
  (.seq (.ops [
    ⟨some 99, .fieldL 0 (.tmp 5), none, false⟩,
    ⟨some 100, .loadL false 1 (.tmp 99), none, false⟩,
    ⟨some 101, .bin .neq (.tmp 100) (.const (.int .i64 1)), none, false⟩,
    ⟨some 102, .mov (.tmp 101), none, false⟩,
    ⟨some 103, .fieldL 0 (.tmp 5), some (102, true), false⟩,
    ⟨some 104, .loadL false 1 (.tmp 103), some (102, true), false⟩,
    ⟨some 105, .bin .neq (.tmp 104) (.const (.int .i64 0)), some (102, true), false⟩,
    ⟨some 106, .pick (.tmp 102) (.tmp 105) (.const (.bool false)), none, false⟩,
    ⟨some 107, .mov (.tmp 106), none, false⟩,
    ⟨some 108, .mov (.tmp 0), some (107, true), false⟩,
    ⟨some 109, .buildSlice true 9 1 1 [.str []] [(0, (.const (.string ⟨#[59]⟩)))], some (107, true), false⟩,
    ⟨some 110, .call 29 [(.tmp 108), (.tmp 109)], some (107, true), false⟩,
    ⟨some 111, .un .not (.tmp 110), some (107, true), false⟩,
    ⟨some 112, .pick (.tmp 107) (.tmp 111) (.const (.bool false)), none, false⟩] [0, 2, 4, 112])
  (.cond (.tmp 112)
  (.ops [
      ⟨some 113, .mov (.tmp 0), none, false⟩,
      ⟨some 114, .call 56 [(.tmp 113)], none, false⟩] [2, 4])
  .skip)))
  (.seq (.opsD [
    (⟨some 115, .fieldL 3 (.tmp 4), none, false⟩, []),
    (⟨some 116, .loadL false 1 (.tmp 115), none, false⟩, []),
    (⟨some 117, .call 28 [(.const (.string ⟨#[100, 101, 102, 97, 117, 108, 116]⟩)), (.const (.slice none 0 0))], none, false⟩, []),
    (⟨some 118, .buildSlice true 25 4 1 [.str [], .str [], .int .i64 0, .nilSlice] [(0, (.tmp 117))], none, false⟩, []),
    (⟨some 119, .append false 25 4 64 (.tmp 116) (.tmp 118), none, false⟩, []),
    (⟨some 120, .fieldL 3 (.tmp 4), none, false⟩, []),
    (⟨none, .storeL 1 (.tmp 120) (.tmp 119), none, false⟩, [])] [2, 4])
  (.seq (.ops [
    ⟨some 121, .loadL true 4 (.tmp 4), none, false⟩,
    ⟨none, .storeL 4 (.tmp 2) (.tmp 121), none, false⟩] [2])
  .ret)))))))⟩
/-- (*scribe/resolve.resolver).collect -/
def af33 : AFunc := ⟨2, [],
  (.seq (.ops [
    ⟨some 11, .mov (.tmp 1), none, false⟩,
    ⟨some 12, .len .slice (.tmp 11), none, false⟩,
    ⟨some 13, .mov (.const (.int .i64 0)), none, false⟩] [0, 11, 12, 13])
  (.block 0
  (.loop [0, 11, 12, 13]
    (.seq (.ops [
        ⟨some 14, .bin .lss (.tmp 13) (.tmp 12), none, false⟩] [0, 11, 12, 13, 14])
      (.seq (.cond (.tmp 14)
      .skip
      (.exit 0))
      (.seq (.block 1
      (.seq (.ops [
          ⟨some 15, .indexAddr 4 (.tmp 11) (.tmp 13), none, false⟩,
          ⟨some 16, .load true 4 (.tmp 15), none, false⟩,
          ⟨some 5, .allocL 0 [.str [], .str [], .int .i64 0, .nilSlice], none, false⟩,
          ⟨none, .storeL 4 (.tmp 5) (.tmp 16), none, false⟩] [0, 5, 11, 12, 13])
        (.seq (.seq (.ops [
          ⟨some 17, .fieldL 0 (.tmp 5), none, false⟩,
          ⟨some 18, .loadL false 1 (.tmp 17), none, false⟩,
          ⟨some 19, .bin .neq (.tmp 18) (.const (.string ⟨#[102, 117, 110, 99]⟩)), none, false⟩] [0, 5, 11, 12, 13, 19])
        (.cond (.tmp 19)
        (.exit 1)
        .skip))
        (.seq (.opsD [
          (⟨some 20, .fieldL 1 (.tmp 5), none, false⟩, []),
          (⟨some 21, .loadL false 1 (.tmp 20), none, false⟩, []),
          (⟨some 22, .fieldL 3 (.tmp 5), none, false⟩, []),
          (⟨some 23, .loadL false 1 (.tmp 22), none, false⟩, []),
          (⟨some 24, .fieldL 3 (.tmp 5), none, false⟩, []),
          (⟨some 25, .loadL false 1 (.tmp 24), none, false⟩, []),
          (⟨some 26, .len .slice (.tmp 25), none, false⟩, []),
          (⟨some 27, .bin .sub (.tmp 26) (.const (.int .i64 1)), none, false⟩, []),
          (⟨some 28, .indexAddr 4 (.tmp 23) (.tmp 27), none, false⟩, []),
          (⟨some 29, .load true 4 (.tmp 28), none, false⟩, []),
          (⟨some 30, .build [.str [], .nilSlice, .nilSlice, .str [], .str [], .int .i64 0, .nilSlice] [(0, 1, (.tmp 21)), (3, 4, (.tmp 29))], none, false⟩, []),
          (⟨some 6, .allocL 0 [.str [], .nilSlice, .nilSlice, .str [], .str [], .int .i64 0, .nilSlice], none, false⟩, []),
          (⟨none, .storeL 7 (.tmp 6) (.tmp 30), none, false⟩, [])] [0, 5, 6, 11, 12, 13])
        (.seq (.seq (.ops [
          ⟨some 31, .fieldL 3 (.tmp 5), none, false⟩,
          ⟨some 32, .loadL false 1 (.tmp 31), none, false⟩,
          ⟨some 33, .fieldL 3 (.tmp 5), none, false⟩,
          ⟨some 34, .loadL false 1 (.tmp 33), none, false⟩,
          ⟨some 35, .len .slice (.tmp 34), none, false⟩,
          ⟨some 36, .bin .sub (.tmp 35) (.const (.int .i64 1)), none, false⟩,
          ⟨some 37, .slice 4 (.tmp 32) none (some (.tmp 36)), none, false⟩,
          ⟨some 38, .len .slice (.tmp 37), none, false⟩,
          ⟨some 39, .mov (.const (.int .i64 0)), none, false⟩] [0, 5, 6, 11, 12, 13, 37, 38, 39])
        (.block 2
        (.loop [0, 5, 6, 11, 12, 13, 37, 38, 39]
          (.seq (.ops [
              ⟨some 40, .bin .lss (.tmp 39) (.tmp 38), none, false⟩] [0, 5, 6, 11, 12, 13, 37, 38, 39, 40])
            (.seq (.cond (.tmp 40)
            .skip
            (.exit 2))
            (.seq (.block 3
            (.seq (.ops [
                ⟨some 41, .indexAddr 4 (.tmp 37) (.tmp 39), none, false⟩,
                ⟨some 42, .load true 4 (.tmp 41), none, false⟩,
                ⟨some 8, .allocL 0 [.str [], .str [], .int .i64 0, .nilSlice], none, false⟩,
                ⟨none, .storeL 4 (.tmp 8) (.tmp 42), none, false⟩] [0, 5, 6, 8, 11, 12, 13, 37, 38, 39])
              (.ops [
                ⟨some 43, .fieldL 1 (.tmp 6), none, false⟩,
                ⟨some 44, .loadL false 1 (.tmp 43), none, false⟩,
                ⟨some 45, .fieldL 1 (.tmp 8), none, false⟩,
                ⟨some 46, .loadL false 1 (.tmp 45), none, false⟩,
                ⟨some 47, .buildSlice true 9 1 1 [.str []] [(0, (.tmp 46))], none, false⟩,
                ⟨some 48, .append false 9 1 16 (.tmp 44) (.tmp 47), none, false⟩,
                ⟨some 49, .fieldL 1 (.tmp 6), none, false⟩,
                ⟨none, .storeL 1 (.tmp 49) (.tmp 48), none, false⟩] [0, 5, 6, 11, 12, 13, 37, 38, 39])))
            (.ops [
              ⟨some 50, .bin .add (.tmp 39) (.const (.int .i64 1)), none, false⟩,
              ⟨some 39, .mov (.tmp 50), none, false⟩] [0, 5, 6, 11, 12, 13, 37, 38, 39])))))))
        (.seq (.seq (.opsD [
          (⟨some 52, .mov (.tmp 0), none, false⟩, []),
          (⟨some 53, .nilCheck (.tmp 52), none, false⟩, []),
          (⟨some 54, .fieldAddr 0 (.tmp 53), none, false⟩, []),
          (⟨some 55, .load false 1 (.tmp 54), none, false⟩, []),
          (⟨some 56, .fieldL 1 (.tmp 5), none, false⟩, []),
          (⟨some 57, .loadL false 1 (.tmp 56), none, false⟩, []),
          (⟨some 58, .lookup (.cell .str) (.int .i64 0) True (.tmp 55) (.tmp 57), none, false⟩, []),
          (⟨some 51, .mov (.tmp 58), none, false⟩, []),
          (⟨some 59, .extract (.tmp 51) 0, none, false⟩, []),
          (⟨some 60, .extract (.tmp 51) 1, none, false⟩, []),
          (⟨some 9, .mov (.tmp 59), none, false⟩, []),
          (⟨some 10, .mov (.tmp 60), none, false⟩, [])] [0, 5, 6, 10, 11, 12, 13])
        (.seq (.ops [
          ⟨some 61, .mov (.tmp 10), none, false⟩,
          ⟨some 62, .un .not (.tmp 61), none, false⟩] [0, 5, 6, 11, 12, 13, 62])
        (.cond (.tmp 62)
        (.opsD [
            (⟨some 63, .mov (.tmp 0), none, false⟩, []),
            (⟨some 64, .nilCheck (.tmp 63), none, false⟩, []),
            (⟨some 65, .fieldAddr 0 (.tmp 64), none, false⟩, []),
            (⟨some 66, .load false 1 (.tmp 65), none, false⟩, []),
            (⟨some 67, .fieldL 1 (.tmp 5), none, false⟩, []),
            (⟨some 68, .loadL false 1 (.tmp 67), none, false⟩, []),
            (⟨some 69, .mov (.tmp 0), none, false⟩, []),
            (⟨some 70, .nilCheck (.tmp 69), none, false⟩, []),
            (⟨some 71, .fieldAddr 1 (.tmp 70), none, false⟩, []),
            (⟨some 72, .load false 1 (.tmp 71), none, false⟩, []),
            (⟨some 73, .nilCheck (.tmp 72), none, false⟩, []),
            (⟨some 74, .fieldAddr 0 (.tmp 73), none, false⟩, []),
            (⟨some 75, .load false 1 (.tmp 74), none, false⟩, []),
            (⟨some 76, .len .slice (.tmp 75), none, false⟩, []),
            (⟨none, .mapUpdate (.cell .str) (.tmp 66) (.tmp 68) (.tmp 76), none, false⟩, [])] [0, 6, 11, 12, 13])
        .skip)))
        (.opsD [
          (⟨some 77, .mov (.tmp 0), none, false⟩, []),
          (⟨some 78, .nilCheck (.tmp 77), none, false⟩, []),
          (⟨some 79, .fieldAddr 1 (.tmp 78), none, false⟩, []),
          (⟨some 80, .load false 1 (.tmp 79), none, false⟩, []),
          (⟨some 81, .mov (.tmp 0), none, false⟩, []),
          (⟨some 82, .nilCheck (.tmp 81), none, false⟩, []),
          (⟨some 83, .fieldAddr 1 (.tmp 82), none, false⟩, []),
          (⟨some 84, .load false 1 (.tmp 83), none, false⟩, []),
          (⟨some 85, .nilCheck (.tmp 84), none, false⟩, []),
          (⟨some 86, .fieldAddr 0 (.tmp 85), none, false⟩, []),
          (⟨some 87, .load false 1 (.tmp 86), none, false⟩, []),
          (⟨some 88, .loadL true 7 (.tmp 6), none, false⟩, []),
          (⟨some 89, .buildSlice true 99 7 1 [.str [], .nilSlice, .nilSlice, .str [], .str [], .int .i64 0, .nilSlice] [(0, (.tmp 88))], none, false⟩, []),
          (⟨some 90, .append false 99 7 128 (.tmp 87) (.tmp 89), none, false⟩, [(80, .load false 1 (.tmp 79))]),
          (⟨some 91, .nilCheck (.tmp 80), none, false⟩, []),
          (⟨some 92, .fieldAddr 0 (.tmp 91), none, false⟩, []),
          (⟨none, .store 1 (.tmp 92) (.tmp 90), none, false⟩, [])] [0, 11, 12, 13])))))))
      (.ops [
        ⟨some 93, .bin .add (.tmp 13) (.const (.int .i64 1)), none, false⟩,
        ⟨some 13, .mov (.tmp 93), none, false⟩] [0, 11, 12, 13])))))))⟩
/-- (*scribe/resolve.resolver).mark -/
def af34 : AFunc := ⟨2, [],
  (.seq (.ops [
    ⟨some 2, .boxH 100 1 (.tmp 0), none, false⟩] [1, 2])
  (.seq (.ops [
    ⟨some 4, .allocH 4 [.bool false], none, false⟩,
    ⟨none, .store 1 (.tmp 4) (.const (.bool true)), none, false⟩] [1, 2, 4])
  (.block 0
  (.loop [1, 2, 4]
    (.seq (.seq (.ops [
        ⟨some 20, .load false 1 (.tmp 4), none, false⟩] [1, 2, 4, 20])
      (.cond (.tmp 20)
      .skip
      (.exit 0)))
      (.seq (.block 1
      (.seq (.ops [
          ⟨none, .store 1 (.tmp 4) (.const (.bool false)), none, false⟩] [1, 2, 4])
        (.seq (.ops [
          ⟨some 21, .clos 57 [] [(.tmp 2), (.tmp 4)], none, false⟩,
          ⟨some 5, .allocH 141 [.nilFunc], none, false⟩,
          ⟨none, .store 1 (.tmp 5) (.tmp 21), none, false⟩] [1, 2, 4, 5])
        (.seq (.ops [
          ⟨some 22, .mov (.tmp 1), none, false⟩,
          ⟨some 23, .len .slice (.tmp 22), none, false⟩,
          ⟨some 24, .mov (.const (.int .i64 0)), none, false⟩] [1, 2, 4, 5, 22, 23, 24])
        (.block 2
        (.loop [1, 2, 4, 5, 22, 23, 24]
          (.seq (.ops [
              ⟨some 25, .bin .lss (.tmp 24) (.tmp 23), none, false⟩] [1, 2, 4, 5, 22, 23, 24, 25])
            (.seq (.cond (.tmp 25)
            .skip
            (.exit 2))
            (.seq (.block 3
            (.seq (.ops [
                ⟨some 26, .indexAddr 4 (.tmp 22) (.tmp 24), none, false⟩,
                ⟨some 27, .load true 4 (.tmp 26), none, false⟩,
                ⟨some 7, .allocL 0 [.str [], .str [], .int .i64 0, .nilSlice], none, false⟩,
                ⟨none, .storeL 4 (.tmp 7) (.tmp 27), none, false⟩] [1, 2, 4, 5, 7, 22, 23, 24])
              (.seq (.ops [
                ⟨some 28, .load false 1 (.tmp 2), none, false⟩,
                ⟨some 29, .loadL true 4 (.tmp 7), none, false⟩,
                ⟨some 30, .call 58 [(.tmp 28), (.tmp 29)], none, false⟩,
                ⟨some 8, .allocH 3 [.int .i64 0], none, false⟩,
                ⟨none, .store 1 (.tmp 8) (.tmp 30), none, false⟩] [1, 2, 4, 5, 7, 8, 22, 23, 24])
              (.seq (.ops [
                ⟨some 31, .loadL true 4 (.tmp 7), none, false⟩,
                ⟨some 32, .call 14 [(.tmp 31)], none, false⟩] [1, 2, 4, 5, 8, 22, 23, 24, 32])
              (.block 4
              (.rangeFunc (.tmp 32) [33, 34]
                (.ops [
                    ⟨some 10, .allocL 0 [.str [], .str [], .int .i64 0, .nilSlice], none, false⟩,
                    ⟨none, .storeL 4 (.tmp 10) (.tmp 34), none, false⟩] [2, 5, 8, 10])
                (.block 5
                  (.seq (.seq (.ops [
                      ⟨some 36, .loadL true 4 (.tmp 10), none, false⟩,
                      ⟨some 37, .call 59 [(.tmp 36)], none, false⟩,
                      ⟨some 35, .mov (.tmp 37), none, false⟩,
                      ⟨some 38, .extract (.tmp 35) 0, none, false⟩,
                      ⟨some 39, .extract (.tmp 35) 1, none, false⟩,
                      ⟨some 11, .mov (.tmp 38), none, false⟩,
                      ⟨some 12, .mov (.tmp 39), none, false⟩] [2, 5, 8, 10, 11, 12])
                    (.seq (.ops [
                      ⟨some 40, .mov (.tmp 12), none, false⟩] [2, 5, 8, 10, 11, 40])
                    (.cond (.tmp 40)
                    (.opsD [
                        (⟨some 41, .load false 1 (.tmp 5), none, false⟩, []),
                        (⟨some 42, .load false 1 (.tmp 2), none, false⟩, []),
                        (⟨some 43, .load false 1 (.tmp 8), none, false⟩, []),
                        (⟨some 44, .mov (.tmp 11), none, false⟩, []),
                        (⟨some 45, .call 60 [(.tmp 42), (.tmp 43), (.tmp 44)], none, false⟩, [(41, .load false 1 (.tmp 5))]),
                        (⟨some 46, .callv (.tmp 41) [(.tmp 45)], none, false⟩, [])] [2, 5, 8, 10])
                    .skip)))
                    (.seq (.opsD [
                      (⟨some 48, .load false 1 (.tmp 2), none, false⟩, []),
                      (⟨some 49, .nilCheck (.tmp 48), none, false⟩, []),
                      (⟨some 50, .fieldAddr 0 (.tmp 49), none, false⟩, []),
                      (⟨some 51, .load false 1 (.tmp 50), none, false⟩, []),
                      (⟨some 52, .fieldL 1 (.tmp 10), none, false⟩, []),
                      (⟨some 53, .loadL false 1 (.tmp 52), none, false⟩, []),
                      (⟨some 54, .lookup (.cell .str) (.int .i64 0) True (.tmp 51) (.tmp 53), none, false⟩, []),
                      (⟨some 47, .mov (.tmp 54), none, false⟩, []),
                      (⟨some 55, .extract (.tmp 47) 0, none, false⟩, []),
                      (⟨some 56, .extract (.tmp 47) 1, none, false⟩, []),
                      (⟨some 13, .mov (.tmp 55), none, false⟩, []),
                      (⟨some 14, .mov (.tmp 56), none, false⟩, [])] [2, 5, 8, 10, 13, 14])
                    (.seq (.seq (.ops [
                      ⟨some 57, .fieldL 0 (.tmp 10), none, false⟩,
                      ⟨some 58, .loadL false 1 (.tmp 57), none, false⟩,
                      ⟨some 59, .bin .neq (.tmp 58) (.const (.string ⟨#[99, 97, 108, 108]⟩)), none, false⟩,
                      ⟨some 60, .mov (.tmp 59), none, false⟩,
                      ⟨some 61, .mov (.tmp 14), some (60, false), false⟩,
                      ⟨some 62, .un .not (.tmp 61), some (60, false), false⟩,
                      ⟨some 63, .pick (.tmp 60) (.const (.bool true)) (.tmp 62), none, false⟩] [2, 5, 8, 10, 13, 63])
                    (.cond (.tmp 63)
                    (.exit 5)
                    .skip))
                    (.seq (.ops [
                      ⟨some 64, .load false 1 (.tmp 2), none, false⟩,
                      ⟨some 65, .nilCheck (.tmp 64), none, false⟩,
                      ⟨some 66, .fieldAddr 1 (.tmp 65), none, false⟩,
                      ⟨some 67, .load false 1 (.tmp 66), none, false⟩,
                      ⟨some 68, .nilCheck (.tmp 67), none, false⟩,
                      ⟨some 69, .fieldAddr 0 (.tmp 68), none, false⟩,
                      ⟨some 70, .load false 1 (.tmp 69), none, false⟩,
                      ⟨some 71, .mov (.tmp 13), none, false⟩,
                      ⟨some 72, .indexAddr 7 (.tmp 70) (.tmp 71), none, false⟩,
                      ⟨some 73, .load true 7 (.tmp 72), none, false⟩,
                      ⟨some 15, .allocL 0 [.str [], .nilSlice, .nilSlice, .str [], .str [], .int .i64 0, .nilSlice], none, false⟩,
                      ⟨none, .storeL 7 (.tmp 15) (.tmp 73), none, false⟩] [2, 5, 8, 10, 13, 15])
                    (.seq (.ops [
                      ⟨some 74, .fieldL 3 (.tmp 10), none, false⟩,
                      ⟨some 75, .loadL false 1 (.tmp 74), none, false⟩,
                      ⟨some 76, .fieldL 3 (.tmp 10), none, false⟩,
                      ⟨some 77, .loadL false 1 (.tmp 76), none, false⟩,
                      ⟨some 78, .len .slice (.tmp 77), none, false⟩,
                      ⟨some 79, .fieldL 1 (.tmp 15), none, false⟩,
                      ⟨some 80, .loadL false 1 (.tmp 79), none, false⟩,
                      ⟨some 81, .len .slice (.tmp 80), none, false⟩,
                      ⟨some 82, .min (.tmp 78) (.tmp 81), none, false⟩,
                      ⟨some 83, .slice 4 (.tmp 75) none (some (.tmp 82)), none, false⟩,
                      ⟨some 84, .len .slice (.tmp 83), none, false⟩,
                      ⟨some 85, .mov (.const (.int .i64 0)), none, false⟩] [2, 5, 8, 13, 15, 83, 84, 85])
                    (.block 6
                    (.loop [2, 5, 8, 13, 15, 83, 84, 85]
                      (.seq (.ops [
                          ⟨some 86, .bin .lss (.tmp 85) (.tmp 84), none, false⟩] [2, 5, 8, 13, 15, 83, 84, 85, 86])
                        (.seq (.cond (.tmp 86)
                        .skip
                        (.exit 6))
                        (.seq (.block 7
                        (.seq (.ops [
                            ⟨some 87, .mov (.tmp 85), none, false⟩,
                            ⟨some 88, .indexAddr 4 (.tmp 83) (.tmp 85), none, false⟩,
                            ⟨some 89, .load true 4 (.tmp 88), none, false⟩,
                            ⟨some 17, .allocL 0 [.str [], .str [], .int .i64 0, .nilSlice], none, false⟩,
                            ⟨some 16, .mov (.tmp 87), none, false⟩,
                            ⟨none, .storeL 4 (.tmp 17) (.tmp 89), none, false⟩] [2, 5, 8, 13, 15, 16, 17, 83, 84, 85])
                          (.seq (.seq (.ops [
                            ⟨some 90, .fieldL 0 (.tmp 17), none, false⟩,
                            ⟨some 91, .loadL false 1 (.tmp 90), none, false⟩,
                            ⟨some 92, .bin .neq (.tmp 91) (.const (.string ⟨#[118, 97, 114]⟩)), none, false⟩] [2, 5, 8, 13, 15, 16, 17, 83, 84, 85, 92])
                          (.cond (.tmp 92)
                          (.exit 7)
                          .skip))
                          (.seq (.opsD [
                            (⟨some 93, .mov (.tmp 13), none, false⟩, []),
                            (⟨some 94, .fieldL 1 (.tmp 15), none, false⟩, []),
                            (⟨some 95, .loadL false 1 (.tmp 94), none, false⟩, []),
                            (⟨some 96, .mov (.tmp 16), none, false⟩, []),
                            (⟨some 97, .indexAddr 1 (.tmp 95) (.tmp 96), none, false⟩, []),
                            (⟨some 98, .load false 1 (.tmp 97), none, false⟩, []),
                            (⟨some 99, .build [.int .i64 0, .str []] [(0, 1, (.tmp 93)), (1, 1, (.tmp 98))], none, false⟩, []),
                            (⟨some 100, .load false 1 (.tmp 2), none, false⟩, []),
                            (⟨some 101, .load false 1 (.tmp 8), none, false⟩, []),
                            (⟨some 102, .fieldL 1 (.tmp 17), none, false⟩, []),
                            (⟨some 103, .loadL false 1 (.tmp 102), none, false⟩, []),
                            (⟨some 104, .call 60 [(.tmp 100), (.tmp 101), (.tmp 103)], none, false⟩, [(98, .load false 1 (.tmp 97))]),
                            (⟨some 18, .allocL 0 [.int .i64 0, .str []], none, false⟩, []),
                            (⟨some 19, .allocL 1 [.int .i64 0, .str []], none, false⟩, []),
                            (⟨none, .storeL 2 (.tmp 18) (.tmp 99), none, false⟩, []),
                            (⟨none, .storeL 2 (.tmp 19) (.tmp 104), none, false⟩, [])] [2, 5, 8, 13, 15, 18, 19, 83, 84, 85])
                          (.seq (.opsD [
                            (⟨some 105, .load false 1 (.tmp 2), none, false⟩, []),
                            (⟨some 106, .nilCheck (.tmp 105), none, false⟩, []),
                            (⟨some 107, .fieldAddr 2 (.tmp 106), none, false⟩, []),
                            (⟨some 108, .load false 1 (.tmp 107), none, false⟩, []),
                            (⟨some 109, .loadL true 2 (.tmp 18), none, false⟩, []),
                            (⟨some 110, .lookup (.agg [.int, .str]) (.bool false) False (.tmp 108) (.tmp 109), none, false⟩, []),
                            (⟨some 111, .mov (.tmp 110), none, false⟩, []),
                            (⟨some 112, .load false 1 (.tmp 2), some (111, false), false⟩, []),
                            (⟨some 113, .nilCheck (.tmp 112), some (111, false), false⟩, []),
                            (⟨some 114, .fieldAddr 2 (.tmp 113), some (111, false), false⟩, []),
                            (⟨some 115, .load false 1 (.tmp 114), some (111, false), false⟩, []),
                            (⟨some 116, .loadL true 2 (.tmp 19), some (111, false), false⟩, []),
                            (⟨some 117, .lookup (.agg [.int, .str]) (.bool false) False (.tmp 115) (.tmp 116), some (111, false), false⟩, []),
                            (⟨some 118, .pick (.tmp 111) (.const (.bool true)) (.tmp 117), none, false⟩, [])] [2, 5, 8, 13, 15, 18, 19, 83, 84, 85, 118])
                          (.cond (.tmp 118)
                          (.seq (.ops [
                              ⟨some 119, .load false 1 (.tmp 5), none, false⟩,
                              ⟨some 120, .loadL true 2 (.tmp 18), none, false⟩,
                              ⟨some 121, .callv (.tmp 119) [(.tmp 120)], none, false⟩] [2, 5, 8, 13, 15, 19, 83, 84, 85])
                            (.ops [
                              ⟨some 122, .load false 1 (.tmp 5), none, false⟩,
                              ⟨some 123, .loadL true 2 (.tmp 19), none, false⟩,
                              ⟨some 124, .callv (.tmp 122) [(.tmp 123)], none, false⟩] [2, 5, 8, 13, 15, 83, 84, 85]))
                          .skip))))))
                        (.ops [
                          ⟨some 125, .bin .add (.tmp 85) (.const (.int .i64 1)), none, false⟩,
                          ⟨some 85, .mov (.tmp 125), none, false⟩] [2, 5, 8, 13, 15, 83, 84, 85])))))))))))) [2, 5, 8]))))))
            (.ops [
              ⟨some 126, .bin .add (.tmp 24) (.const (.int .i64 1)), none, false⟩,
              ⟨some 24, .mov (.tmp 126), none, false⟩] [1, 2, 4, 5, 22, 23, 24]))))))))))
      (.seq (.ops [
        ⟨some 127, .load false 1 (.tmp 4), none, false⟩] [1, 2, 127])
      (.ops [
        ⟨some 4, .allocH 4 [.bool false], none, false⟩,
        ⟨none, .store 1 (.tmp 4) (.tmp 127), none, false⟩] [1, 2, 4]))))))))⟩
/-- (*scribe/resolve.resolver).item -/
def af35 : AFunc := ⟨3, [],
  (.seq (.ops [
    ⟨some 4, .boxL 0 4 (.tmp 1), none, false⟩] [0, 2, 4])
  (.seq (.seq (.ops [
    ⟨some 11, .fieldL 0 (.tmp 4), none, false⟩,
    ⟨some 12, .loadL false 1 (.tmp 11), none, false⟩,
    ⟨some 13, .bin .neq (.tmp 12) (.const (.string ⟨#[102, 117, 110, 99]⟩)), none, false⟩] [0, 2, 4, 13])
  (.cond (.tmp 13)
  (.seq (.ops [
      ⟨some 14, .mov (.tmp 0), none, false⟩,
      ⟨some 15, .loadL true 4 (.tmp 4), none, false⟩,
      ⟨some 16, .fieldL 0 (.tmp 4), none, false⟩,
      ⟨some 17, .loadL false 1 (.tmp 16), none, false⟩,
      ⟨some 18, .bin .eql (.tmp 17) (.const (.string ⟨#[114, 117, 108, 101]⟩)), none, false⟩,
      ⟨some 19, .build [.bool false, .bool false, .bool false] [(2, 1, (.tmp 18))], none, false⟩,
      ⟨some 20, .call 61 [(.tmp 14), (.const (.int .i64 (-1))), (.tmp 15), (.tmp 19)], none, false⟩] [])
    .ret)
  .skip))
  (.seq (.seq (.opsD [
    (⟨some 21, .mov (.tmp 0), none, false⟩, []),
    (⟨some 22, .nilCheck (.tmp 21), none, false⟩, []),
    (⟨some 23, .fieldAddr 0 (.tmp 22), none, false⟩, []),
    (⟨some 24, .load false 1 (.tmp 23), none, false⟩, []),
    (⟨some 25, .fieldL 1 (.tmp 4), none, false⟩, []),
    (⟨some 26, .loadL false 1 (.tmp 25), none, false⟩, []),
    (⟨some 27, .lookup (.cell .str) (.int .i64 0) False (.tmp 24) (.tmp 26), none, false⟩, []),
    (⟨some 28, .mov (.tmp 2), none, false⟩, []),
    (⟨some 29, .bin .neq (.tmp 27) (.tmp 28), none, false⟩, [])] [0, 2, 4, 29])
  (.cond (.tmp 29)
  (.seq (.ops [
      ⟨some 30, .mov (.tmp 0), none, false⟩,
      ⟨some 31, .fieldL 2 (.tmp 4), none, false⟩,
      ⟨some 32, .loadL false 1 (.tmp 31), none, false⟩,
      ⟨some 33, .call 62 [(.tmp 30), (.tmp 32), (.const (.int .i64 11))], none, false⟩] [])
    .ret)
  .skip))
  (.seq (.ops [
    ⟨some 34, .mov (.tmp 0), none, false⟩,
    ⟨some 35, .nilCheck (.tmp 34), none, false⟩,
    ⟨some 36, .fieldAddr 1 (.tmp 35), none, false⟩,
    ⟨some 37, .load false 1 (.tmp 36), none, false⟩,
    ⟨some 38, .nilCheck (.tmp 37), none, false⟩,
    ⟨some 39, .fieldAddr 0 (.tmp 38), none, false⟩,
    ⟨some 40, .load false 1 (.tmp 39), none, false⟩,
    ⟨some 41, .mov (.tmp 2), none, false⟩,
    ⟨some 42, .indexAddr 7 (.tmp 40) (.tmp 41), none, false⟩,
    ⟨some 43, .load true 7 (.tmp 42), none, false⟩,
    ⟨some 6, .allocL 0 [.str [], .nilSlice, .nilSlice, .str [], .str [], .int .i64 0, .nilSlice], none, false⟩,
    ⟨none, .storeL 7 (.tmp 6) (.tmp 43), none, false⟩] [0, 2, 4, 6])
  (.seq (.seq (.ops [
    ⟨some 44, .fieldL 3 (.tmp 4), none, false⟩,
    ⟨some 45, .loadL false 1 (.tmp 44), none, false⟩,
    ⟨some 46, .fieldL 3 (.tmp 4), none, false⟩,
    ⟨some 47, .loadL false 1 (.tmp 46), none, false⟩,
    ⟨some 48, .len .slice (.tmp 47), none, false⟩,
    ⟨some 49, .bin .sub (.tmp 48) (.const (.int .i64 1)), none, false⟩,
    ⟨some 50, .slice 4 (.tmp 45) none (some (.tmp 49)), none, false⟩,
    ⟨some 51, .len .slice (.tmp 50), none, false⟩,
    ⟨some 52, .mov (.const (.int .i64 0)), none, false⟩] [0, 2, 6, 50, 51, 52])
  (.block 0
  (.loop [0, 2, 6, 50, 51, 52]
    (.seq (.ops [
        ⟨some 53, .bin .lss (.tmp 52) (.tmp 51), none, false⟩] [0, 2, 6, 50, 51, 52, 53])
      (.seq (.cond (.tmp 53)
      .skip
      (.exit 0))
      (.seq (.block 1
      (.seq (.ops [
          ⟨some 54, .mov (.tmp 52), none, false⟩,
          ⟨some 55, .indexAddr 4 (.tmp 50) (.tmp 52), none, false⟩,
          ⟨some 56, .load true 4 (.tmp 55), none, false⟩,
          ⟨some 8, .allocL 0 [.str [], .str [], .int .i64 0, .nilSlice], none, false⟩,
          ⟨some 7, .mov (.tmp 54), none, false⟩,
          ⟨none, .storeL 4 (.tmp 8) (.tmp 56), none, false⟩] [0, 2, 6, 7, 8, 50, 51, 52])
        (.seq (.opsD [
          (⟨some 58, .mov (.tmp 0), none, false⟩, []),
          (⟨some 59, .nilCheck (.tmp 58), none, false⟩, []),
          (⟨some 60, .fieldAddr 0 (.tmp 59), none, false⟩, []),
          (⟨some 61, .load false 1 (.tmp 60), none, false⟩, []),
          (⟨some 62, .fieldL 1 (.tmp 8), none, false⟩, []),
          (⟨some 63, .loadL false 1 (.tmp 62), none, false⟩, []),
          (⟨some 64, .lookup (.cell .str) (.int .i64 0) True (.tmp 61) (.tmp 63), none, false⟩, []),
          (⟨some 57, .mov (.tmp 64), none, false⟩, []),
          (⟨some 65, .extract (.tmp 57) 0, none, false⟩, []),
          (⟨some 66, .extract (.tmp 57) 1, none, false⟩, []),
          (⟨some 9, .mov (.tmp 65), none, false⟩, []),
          (⟨some 10, .mov (.tmp 66), none, false⟩, [])] [0, 2, 6, 7, 8, 10, 50, 51, 52])
        (.seq (.opsD [
          (⟨some 67, .mov (.tmp 10), none, false⟩, []),
          (⟨some 68, .mov (.tmp 67), none, false⟩, []),
          (⟨some 69, .fieldL 1 (.tmp 6), some (68, false), false⟩, []),
          (⟨some 70, .loadL false 1 (.tmp 69), some (68, false), false⟩, []),
          (⟨some 71, .mov (.tmp 7), some (68, false), false⟩, []),
          (⟨some 72, .slice 1 (.tmp 70) none (some (.tmp 71)), some (68, false), false⟩, []),
          (⟨some 73, .fieldL 1 (.tmp 8), some (68, false), false⟩, []),
          (⟨some 74, .loadL false 1 (.tmp 73), some (68, false), false⟩, []),
          (⟨some 75, .call 48 [(.tmp 72), (.tmp 74)], some (68, false), false⟩, []),
          (⟨some 76, .pick (.tmp 68) (.const (.bool true)) (.tmp 75), none, false⟩, []),
          (⟨some 77, .mov (.tmp 76), none, false⟩, []),
          (⟨some 78, .load false 1 (.global 2), some (77, false), false⟩, []),
          (⟨some 79, .fieldL 1 (.tmp 8), some (77, false), false⟩, []),
          (⟨some 80, .loadL false 1 (.tmp 79), some (77, false), false⟩, []),
          (⟨some 81, .call 48 [(.tmp 78), (.tmp 80)], some (77, false), false⟩, []),
          (⟨some 82, .pick (.tmp 77) (.const (.bool true)) (.tmp 81), none, false⟩, [])] [0, 2, 6, 8, 50, 51, 52, 82])
        (.cond (.tmp 82)
        (.ops [
            ⟨some 83, .mov (.tmp 0), none, false⟩,
            ⟨some 84, .fieldL 2 (.tmp 8), none, false⟩,
            ⟨some 85, .loadL false 1 (.tmp 84), none, false⟩,
            ⟨some 86, .call 62 [(.tmp 83), (.tmp 85), (.const (.int .i64 11))], none, false⟩] [0, 2, 6, 50, 51, 52])
        .skip)))))
      (.ops [
        ⟨some 87, .bin .add (.tmp 52) (.const (.int .i64 1)), none, false⟩,
        ⟨some 52, .mov (.tmp 87), none, false⟩] [0, 2, 6, 50, 51, 52])))))))
  (.ops [
    ⟨some 88, .mov (.tmp 0), none, false⟩,
    ⟨some 89, .mov (.tmp 2), none, false⟩,
    ⟨some 90, .fieldL 3 (.tmp 6), none, false⟩,
    ⟨some 91, .loadL true 4 (.tmp 90), none, false⟩,
    ⟨some 92, .build [.bool false, .bool false, .bool false] [(1, 1, (.const (.bool true)))], none, false⟩,
    ⟨some 93, .call 61 [(.tmp 88), (.tmp 89), (.tmp 91), (.tmp 92)], none, false⟩] []))))))⟩
/-- scribe/ast.All$1 -/
def af36 : AFunc := ⟨2, [],
  (.ops [
    ⟨some 3, .load true 4 (.tmp 1), none, false⟩,
    ⟨some 4, .mov (.tmp 0), none, false⟩,
    ⟨some 5, .call 37 [(.tmp 3), (.const (.int .i64 0)), (.tmp 4)], none, false⟩] [])⟩
/-- scribe/ast.walk -/
def af37 : AFunc := ⟨3, [.tmp 6],
  (.seq (.ops [
    ⟨some 3, .boxL 0 4 (.tmp 0), none, false⟩,
    ⟨some 6, .mov (.const (.bool false)), none, false⟩] [1, 2, 3])
  (.seq (.seq (.ops [
    ⟨some 9, .mov (.tmp 2), none, false⟩,
    ⟨some 10, .mov (.tmp 1), none, false⟩,
    ⟨some 11, .loadL true 4 (.tmp 3), none, false⟩,
    ⟨some 12, .callv (.tmp 9) [(.tmp 10), (.tmp 11)], none, false⟩,
    ⟨some 13, .un .not (.tmp 12), none, false⟩] [1, 2, 3, 13])
  (.cond (.tmp 13)
  (.seq (.ops [
      ⟨some 6, .mov (.const (.bool false)), none, false⟩] [6])
    .ret)
  .skip))
  (.seq (.seq (.ops [
    ⟨some 14, .fieldL 3 (.tmp 3), none, false⟩,
    ⟨some 15, .loadL false 1 (.tmp 14), none, false⟩,
    ⟨some 16, .len .slice (.tmp 15), none, false⟩,
    ⟨some 17, .mov (.const (.int .i64 0)), none, false⟩] [1, 2, 15, 16, 17])
  (.block 0
  (.loop [1, 2, 15, 16, 17]
    (.seq (.ops [
        ⟨some 18, .bin .lss (.tmp 17) (.tmp 16), none, false⟩] [1, 2, 15, 16, 17, 18])
      (.seq (.cond (.tmp 18)
      .skip
      (.exit 0))
      (.seq (.block 1
      (.seq (.ops [
          ⟨some 19, .indexAddr 4 (.tmp 15) (.tmp 17), none, false⟩,
          ⟨some 20, .load true 4 (.tmp 19), none, false⟩,
          ⟨some 8, .allocL 0 [.str [], .str [], .int .i64 0, .nilSlice], none, false⟩,
          ⟨none, .storeL 4 (.tmp 8) (.tmp 20), none, false⟩] [1, 2, 8, 15, 16, 17])
        (.seq (.ops [
          ⟨some 21, .loadL true 4 (.tmp 8), none, false⟩,
          ⟨some 22, .mov (.tmp 1), none, false⟩,
          ⟨some 23, .bin .add (.tmp 22) (.const (.int .i64 1)), none, false⟩,
          ⟨some 24, .mov (.tmp 2), none, false⟩,
          ⟨some 25, .call 37 [(.tmp 21), (.tmp 23), (.tmp 24)], none, false⟩,
          ⟨some 26, .un .not (.tmp 25), none, false⟩] [1, 2, 15, 16, 17, 26])
        (.cond (.tmp 26)
        (.seq (.ops [
            ⟨some 6, .mov (.const (.bool false)), none, false⟩] [6])
          .ret)
        .skip))))
      (.ops [
        ⟨some 27, .bin .add (.tmp 17) (.const (.int .i64 1)), none, false⟩,
        ⟨some 17, .mov (.tmp 27), none, false⟩] [1, 2, 15, 16, 17])))))))
  (.seq (.ops [
    ⟨some 6, .mov (.const (.bool true)), none, false⟩] [6])
  .ret))))⟩
/-- scribe/code.find -/
def af38 : AFunc := ⟨2, [.tmp 4],
  (.seq (.ops [
    ⟨some 4, .mov (.const (.int .i64 0)), none, false⟩] [0, 1])
  (.seq (.seq (.ops [
    ⟨some 7, .mov (.tmp 0), none, false⟩,
    ⟨some 8, .len .slice (.tmp 7), none, false⟩,
    ⟨some 9, .mov (.const (.int .i64 0)), none, false⟩] [1, 7, 8, 9])
  (.block 0
  (.loop [1, 7, 8, 9]
    (.seq (.ops [
        ⟨some 10, .bin .lss (.tmp 9) (.tmp 8), none, false⟩] [1, 7, 8, 9, 10])
      (.seq (.cond (.tmp 10)
      .skip
      (.exit 0))
      (.seq (.block 1
      (.seq (.ops [
          ⟨some 11, .mov (.tmp 9), none, false⟩,
          ⟨some 12, .indexAddr 1 (.tmp 7) (.tmp 9), none, false⟩,
          ⟨some 13, .load false 1 (.tmp 12), none, false⟩,
          ⟨some 5, .mov (.tmp 11), none, false⟩,
          ⟨some 6, .mov (.tmp 13), none, false⟩] [1, 5, 6, 7, 8, 9])
        (.seq (.ops [
          ⟨some 14, .mov (.tmp 6), none, false⟩,
          ⟨some 15, .mov (.tmp 1), none, false⟩,
          ⟨some 16, .bin .eql (.tmp 14) (.tmp 15), none, false⟩] [1, 5, 7, 8, 9, 16])
        (.cond (.tmp 16)
        (.seq (.ops [
            ⟨some 17, .mov (.tmp 5), none, false⟩,
            ⟨some 4, .mov (.tmp 17), none, false⟩] [4])
          .ret)
        .skip))))
      (.ops [
        ⟨some 18, .bin .add (.tmp 9) (.const (.int .i64 1)), none, false⟩,
        ⟨some 9, .mov (.tmp 18), none, false⟩] [1, 7, 8, 9])))))))
  (.seq (.ops [
    ⟨some 4, .mov (.const (.int .i64 (-1))), none, false⟩] [4])
  .ret)))⟩
/-- (*scribe/code.compiler).part -/
def af39 : AFunc := ⟨3, [.tmp 6],
  (.seq (.ops [
    ⟨some 6, .mov (.const (.int .i64 0)), none, false⟩] [0, 1, 2])
  (.seq (.ops [
    ⟨some 12, .mov (.tmp 0), none, false⟩,
    ⟨some 13, .nilCheck (.tmp 12), none, false⟩,
    ⟨some 14, .fieldAddr 0 (.tmp 13), none, false⟩,
    ⟨some 15, .load false 1 (.tmp 14), none, false⟩,
    ⟨some 16, .nilCheck (.tmp 15), none, false⟩,
    ⟨some 17, .fieldAddr 0 (.tmp 16), none, false⟩,
    ⟨some 18, .load false 1 (.tmp 17), none, false⟩,
    ⟨some 19, .len .slice (.tmp 18), none, false⟩,
    ⟨some 7, .mov (.tmp 19), none, false⟩] [0, 1, 2, 7])
  (.seq (.seq (.ops [
    ⟨some 20, .mov (.tmp 1), none, false⟩,
    ⟨some 21, .len .slice (.tmp 20), none, false⟩,
    ⟨some 22, .mov (.const (.int .i64 0)), none, false⟩] [0, 2, 7, 20, 21, 22])
  (.block 0
  (.loop [0, 2, 7, 20, 21, 22]
    (.seq (.ops [
        ⟨some 23, .bin .lss (.tmp 22) (.tmp 21), none, false⟩] [0, 2, 7, 20, 21, 22, 23])
      (.seq (.cond (.tmp 23)
      .skip
      (.exit 0))
      (.seq (.block 1
      (.seq (.ops [
          ⟨some 24, .indexAddr 4 (.tmp 20) (.tmp 22), none, false⟩,
          ⟨some 25, .load true 4 (.tmp 24), none, false⟩,
          ⟨some 9, .allocL 0 [.str [], .str [], .int .i64 0, .nilSlice], none, false⟩,
          ⟨none, .storeL 4 (.tmp 9) (.tmp 25), none, false⟩] [0, 2, 7, 9, 20, 21, 22])
        (.seq (.seq (.ops [
          ⟨some 26, .fieldL 0 (.tmp 9), none, false⟩,
          ⟨some 27, .loadL false 1 (.tmp 26), none, false⟩,
          ⟨some 28, .mov (.tmp 2), none, false⟩,
          ⟨some 29, .bin .neq (.tmp 27) (.tmp 28), none, false⟩] [0, 2, 7, 9, 20, 21, 22, 29])
        (.cond (.tmp 29)
        (.exit 1)
        .skip))
        (.seq (.ops [
          ⟨some 30, .fieldL 3 (.tmp 9), none, false⟩,
          ⟨some 31, .loadL false 1 (.tmp 30), none, false⟩,
          ⟨some 32, .fieldL 3 (.tmp 9), none, false⟩,
          ⟨some 33, .loadL false 1 (.tmp 32), none, false⟩,
          ⟨some 34, .len .slice (.tmp 33), none, false⟩,
          ⟨some 35, .bin .sub (.tmp 34) (.const (.int .i64 1)), none, false⟩,
          ⟨some 36, .indexAddr 4 (.tmp 31) (.tmp 35), none, false⟩,
          ⟨some 37, .load true 4 (.tmp 36), none, false⟩,
          ⟨some 10, .allocL 0 [.str [], .str [], .int .i64 0, .nilSlice], none, false⟩,
          ⟨none, .storeL 4 (.tmp 10) (.tmp 37), none, false⟩] [0, 2, 7, 9, 10, 20, 21, 22])
        (.seq (.seq (.ops [
          ⟨some 38, .mov (.tmp 2), none, false⟩,
          ⟨some 39, .bin .neq (.tmp 38) (.const (.string ⟨#[114, 117, 108, 101]⟩)), none, false⟩,
          ⟨some 40, .mov (.tmp 39), none, false⟩,
          ⟨some 41, .fieldL 3 (.tmp 9), some (40, false), false⟩,
          ⟨some 42, .loadL false 1 (.tmp 41), some (40, false), false⟩,
          ⟨some 43, .indexAddr 4 (.tmp 42) (.const (.int .i64 0)), some (40, false), false⟩,
          ⟨some 44, .fieldAddr 0 (.tmp 43), some (40, false), false⟩,
          ⟨some 45, .load false 1 (.tmp 44), some (40, false), false⟩,
          ⟨some 46, .bin .eql (.tmp 45) (.const (.string ⟨#[97, 108, 119, 97, 121, 115]⟩)), some (40, false), false⟩,
          ⟨some 47, .pick (.tmp 40) (.const (.bool true)) (.tmp 46), none, false⟩] [0, 2, 7, 9, 10, 20, 21, 22, 47])
        (.cond (.tmp 47)
        (.seq (.ops [
            ⟨some 48, .mov (.tmp 0), none, false⟩,
            ⟨some 49, .loadL true 4 (.tmp 10), none, false⟩,
            ⟨some 50, .call 40 [(.tmp 48), (.tmp 49)], none, false⟩] [0, 2, 7, 20, 21, 22])
          (.exit 1))
        .skip))
        (.seq (.ops [
          ⟨some 51, .mov (.tmp 0), none, false⟩,
          ⟨some 52, .fieldL 3 (.tmp 9), none, false⟩,
          ⟨some 53, .loadL false 1 (.tmp 52), none, false⟩,
          ⟨some 54, .indexAddr 4 (.tmp 53) (.const (.int .i64 0)), none, false⟩,
          ⟨some 55, .load true 4 (.tmp 54), none, false⟩,
          ⟨some 56, .call 63 [(.tmp 51), (.tmp 55)], none, false⟩] [0, 2, 7, 10, 20, 21, 22])
        (.seq (.ops [
          ⟨some 57, .mov (.tmp 0), none, false⟩,
          ⟨some 58, .call 42 [(.tmp 57), (.const (.int .i64 17)), (.const (.int .i64 0)), (.const (.int .i64 0))], none, false⟩,
          ⟨some 11, .mov (.tmp 58), none, false⟩] [0, 2, 7, 10, 11, 20, 21, 22])
        (.seq (.seq (.ops [
          ⟨some 59, .fieldL 0 (.tmp 10), none, false⟩,
          ⟨some 60, .loadL false 1 (.tmp 59), none, false⟩,
          ⟨some 61, .bin .eql (.tmp 60) (.const (.string ⟨#[100, 101, 102, 97, 117, 108, 116]⟩)), none, false⟩] [0, 2, 7, 10, 11, 20, 21, 22, 61])
        (.cond (.tmp 61)
        (.ops [
            ⟨some 62, .build [.str [], .str [], .int .i64 0, .nilSlice] [(0, 1, (.const (.string ⟨#[110, 111, 110, 101]⟩)))], none, false⟩,
            ⟨some 63, .buildSlice true 25 4 1 [.str [], .str [], .int .i64 0, .nilSlice] [(0, (.tmp 62))], none, false⟩,
            ⟨some 64, .build [.str [], .str [], .int .i64 0, .nilSlice] [(0, 1, (.const (.string ⟨#[112, 114, 105, 110, 116]⟩))), (3, 1, (.tmp 63))], none, false⟩,
            ⟨none, .storeL 4 (.tmp 10) (.tmp 64), none, false⟩] [0, 2, 7, 10, 11, 20, 21, 22])
        .skip))
        (.seq (.ops [
          ⟨some 65, .mov (.tmp 0), none, false⟩,
          ⟨some 66, .loadL true 4 (.tmp 10), none, false⟩,
          ⟨some 67, .call 40 [(.tmp 65), (.tmp 66)], none, false⟩] [0, 2, 7, 11, 20, 21, 22])
        (.ops [
          ⟨some 68, .mov (.tmp 0), none, false⟩,
          ⟨some 69, .mov (.tmp 11), none, false⟩,
          ⟨some 70, .buildSlice true 3 1 1 [.int .i64 0] [(0, (.tmp 69))], none, false⟩,
          ⟨some 71, .call 64 [(.tmp 68), (.tmp 70)], none, false⟩] [0, 2, 7, 20, 21, 22]))))))))))
      (.ops [
        ⟨some 72, .bin .add (.tmp 22) (.const (.int .i64 1)), none, false⟩,
        ⟨some 22, .mov (.tmp 72), none, false⟩] [0, 2, 7, 20, 21, 22])))))))
  (.seq (.ops [
    ⟨some 73, .mov (.tmp 0), none, false⟩,
    ⟨some 74, .call 42 [(.tmp 73), (.const (.int .i64 34)), (.const (.int .i64 0)), (.const (.int .i64 0))], none, false⟩] [7])
  (.seq (.ops [
    ⟨some 75, .mov (.tmp 7), none, false⟩,
    ⟨some 6, .mov (.tmp 75), none, false⟩] [6])
  .ret)))))⟩
/-- (*scribe/code.compiler).stmt -/
def af40 : AFunc := ⟨2, [],
  (.seq (.ops [
    ⟨some 2, .boxH 111 1 (.tmp 0), none, false⟩,
    ⟨some 3, .boxH 25 4 (.tmp 1), none, false⟩] [2, 3])
  (.seq (.ops [
    ⟨some 20, .fieldAddr 0 (.tmp 3), none, false⟩,
    ⟨some 21, .load false 1 (.tmp 20), none, false⟩] [2, 3, 21])
  (.block 0
  (.seq (.ops [
      ⟨some 23, .bin .eql (.tmp 21) (.const (.string ⟨#[98, 108, 111, 99, 107]⟩)), none, false⟩,
      ⟨some 22, .mov (.tmp 23), none, false⟩] [2, 3, 21, 22])
    (.cond (.tmp 22)
    (.seq (.ops [
        ⟨some 24, .fieldAddr 3 (.tmp 3), none, false⟩,
        ⟨some 25, .load false 1 (.tmp 24), none, false⟩,
        ⟨some 26, .len .slice (.tmp 25), none, false⟩,
        ⟨some 27, .mov (.const (.int .i64 0)), none, false⟩] [2, 25, 26, 27])
      (.block 1
      (.loop [2, 25, 26, 27]
        (.seq (.ops [
            ⟨some 28, .bin .lss (.tmp 27) (.tmp 26), none, false⟩] [2, 25, 26, 27, 28])
          (.seq (.cond (.tmp 28)
          .skip
          (.exit 1))
          (.seq (.block 2
          (.seq (.ops [
              ⟨some 29, .indexAddr 4 (.tmp 25) (.tmp 27), none, false⟩,
              ⟨some 30, .load true 4 (.tmp 29), none, false⟩,
              ⟨some 5, .allocL 0 [.str [], .str [], .int .i64 0, .nilSlice], none, false⟩,
              ⟨none, .storeL 4 (.tmp 5) (.tmp 30), none, false⟩] [2, 5, 25, 26, 27])
            (.ops [
              ⟨some 31, .load false 1 (.tmp 2), none, false⟩,
              ⟨some 32, .loadL true 4 (.tmp 5), none, false⟩,
              ⟨some 33, .call 40 [(.tmp 31), (.tmp 32)], none, false⟩] [2, 25, 26, 27])))
          (.ops [
            ⟨some 34, .bin .add (.tmp 27) (.const (.int .i64 1)), none, false⟩,
            ⟨some 27, .mov (.tmp 34), none, false⟩] [2, 25, 26, 27])))))))
    (.seq (.ops [
        ⟨some 36, .bin .eql (.tmp 21) (.const (.string ⟨#[101, 120, 112, 114]⟩)), none, false⟩,
        ⟨some 35, .mov (.tmp 36), none, false⟩] [2, 3, 21, 35])
      (.cond (.tmp 35)
      (.seq (.opsD [
          (⟨some 37, .load false 1 (.tmp 2), none, false⟩, []),
          (⟨some 38, .fieldAddr 3 (.tmp 3), none, false⟩, []),
          (⟨some 39, .load false 1 (.tmp 38), none, false⟩, []),
          (⟨some 40, .indexAddr 4 (.tmp 39) (.const (.int .i64 0)), none, false⟩, []),
          (⟨some 41, .load true 4 (.tmp 40), none, false⟩, []),
          (⟨some 42, .call 63 [(.tmp 37), (.tmp 41)], none, false⟩, [])] [2])
        (.ops [
          ⟨some 43, .load false 1 (.tmp 2), none, false⟩,
          ⟨some 44, .call 42 [(.tmp 43), (.const (.int .i64 18)), (.const (.int .i64 0)), (.const (.int .i64 0))], none, false⟩] []))
      (.seq (.ops [
          ⟨some 46, .bin .eql (.tmp 21) (.const (.string ⟨#[105, 102]⟩)), none, false⟩,
          ⟨some 45, .mov (.tmp 46), none, false⟩] [2, 3, 21, 45])
        (.cond (.tmp 45)
        (.seq (.opsD [
            (⟨some 47, .load false 1 (.tmp 2), none, false⟩, []),
            (⟨some 48, .fieldAddr 3 (.tmp 3), none, false⟩, []),
            (⟨some 49, .load false 1 (.tmp 48), none, false⟩, []),
            (⟨some 50, .indexAddr 4 (.tmp 49) (.const (.int .i64 0)), none, false⟩, []),
            (⟨some 51, .load true 4 (.tmp 50), none, false⟩, []),
            (⟨some 52, .call 63 [(.tmp 47), (.tmp 51)], none, false⟩, [])] [2, 3])
          (.seq (.ops [
            ⟨some 53, .load false 1 (.tmp 2), none, false⟩,
            ⟨some 54, .call 42 [(.tmp 53), (.const (.int .i64 17)), (.const (.int .i64 0)), (.const (.int .i64 0))], none, false⟩,
            ⟨some 6, .mov (.tmp 54), none, false⟩] [2, 3, 6])
          (.seq (.opsD [
            (⟨some 55, .load false 1 (.tmp 2), none, false⟩, []),
            (⟨some 56, .fieldAddr 3 (.tmp 3), none, false⟩, []),
            (⟨some 57, .load false 1 (.tmp 56), none, false⟩, []),
            (⟨some 58, .indexAddr 4 (.tmp 57) (.const (.int .i64 1)), none, false⟩, []),
            (⟨some 59, .load true 4 (.tmp 58), none, false⟩, []),
            (⟨some 60, .call 40 [(.tmp 55), (.tmp 59)], none, false⟩, [])] [2, 3, 6])
          (.seq (.seq (.ops [
            ⟨some 61, .fieldAddr 3 (.tmp 3), none, false⟩,
            ⟨some 62, .load false 1 (.tmp 61), none, false⟩,
            ⟨some 63, .len .slice (.tmp 62), none, false⟩,
            ⟨some 64, .bin .eql (.tmp 63) (.const (.int .i64 3)), none, false⟩] [2, 3, 6, 64])
          (.cond (.tmp 64)
          (.seq (.ops [
              ⟨some 65, .load false 1 (.tmp 2), none, false⟩,
              ⟨some 66, .call 42 [(.tmp 65), (.const (.int .i64 15)), (.const (.int .i64 0)), (.const (.int .i64 0))], none, false⟩,
              ⟨some 7, .mov (.tmp 66), none, false⟩] [2, 3, 6, 7])
            (.seq (.ops [
              ⟨some 67, .load false 1 (.tmp 2), none, false⟩,
              ⟨some 68, .mov (.tmp 6), none, false⟩,
              ⟨some 69, .buildSlice true 3 1 1 [.int .i64 0] [(0, (.tmp 68))], none, false⟩,
              ⟨some 70, .call 64 [(.tmp 67), (.tmp 69)], none, false⟩] [2, 3, 7])
            (.seq (.opsD [
              (⟨some 71, .load false 1 (.tmp 2), none, false⟩, []),
              (⟨some 72, .fieldAddr 3 (.tmp 3), none, false⟩, []),
              (⟨some 73, .load false 1 (.tmp 72), none, false⟩, []),
              (⟨some 74, .indexAddr 4 (.tmp 73) (.const (.int .i64 2)), none, false⟩, []),
              (⟨some 75, .load true 4 (.tmp 74), none, false⟩, []),
              (⟨some 76, .call 40 [(.tmp 71), (.tmp 75)], none, false⟩, [])] [2, 7])
            (.ops [
              ⟨some 77, .mov (.tmp 7), none, false⟩,
              ⟨some 6, .mov (.tmp 77), none, false⟩] [2, 6]))))
          .skip))
          (.ops [
            ⟨some 78, .load false 1 (.tmp 2), none, false⟩,
            ⟨some 79, .mov (.tmp 6), none, false⟩,
            ⟨some 80, .buildSlice true 3 1 1 [.int .i64 0] [(0, (.tmp 79))], none, false⟩,
            ⟨some 81, .call 64 [(.tmp 78), (.tmp 80)], none, false⟩] [])))))
        (.seq (.ops [
            ⟨some 83, .bin .eql (.tmp 21) (.const (.string ⟨#[119, 104, 105, 108, 101]⟩)), none, false⟩,
            ⟨some 82, .mov (.tmp 83), none, false⟩] [2, 3, 21, 82])
          (.cond (.tmp 82)
          (.opsD [
              (⟨some 84, .load false 1 (.tmp 2), none, false⟩, []),
              (⟨some 85, .fieldAddr 3 (.tmp 3), none, false⟩, []),
              (⟨some 86, .load false 1 (.tmp 85), none, false⟩, []),
              (⟨some 87, .indexAddr 4 (.tmp 86) (.const (.int .i64 0)), none, false⟩, []),
              (⟨some 88, .load true 4 (.tmp 87), none, false⟩, []),
              (⟨some 89, .fieldAddr 3 (.tmp 3), none, false⟩, []),
              (⟨some 90, .load false 1 (.tmp 89), none, false⟩, []),
              (⟨some 91, .indexAddr 4 (.tmp 90) (.const (.int .i64 1)), none, false⟩, []),
              (⟨some 92, .load true 4 (.tmp 91), none, false⟩, []),
              (⟨some 93, .call 65 [(.tmp 84), (.tmp 88), (.tmp 92), (.func 66)], none, false⟩, [])] [])
          (.seq (.ops [
              ⟨some 95, .bin .eql (.tmp 21) (.const (.string ⟨#[102, 111, 114]⟩)), none, false⟩,
              ⟨some 94, .mov (.tmp 95), none, false⟩] [2, 3, 21, 94])
            (.cond (.tmp 94)
            (.seq (.opsD [
                (⟨some 96, .load false 1 (.tmp 2), none, false⟩, []),
                (⟨some 97, .fieldAddr 3 (.tmp 3), none, false⟩, []),
                (⟨some 98, .load false 1 (.tmp 97), none, false⟩, []),
                (⟨some 99, .indexAddr 4 (.tmp 98) (.const (.int .i64 0)), none, false⟩, []),
                (⟨some 100, .load true 4 (.tmp 99), none, false⟩, []),
                (⟨some 101, .call 40 [(.tmp 96), (.tmp 100)], none, false⟩, [])] [2, 3])
              (.opsD [
                (⟨some 102, .load false 1 (.tmp 2), none, false⟩, []),
                (⟨some 103, .fieldAddr 3 (.tmp 3), none, false⟩, []),
                (⟨some 104, .load false 1 (.tmp 103), none, false⟩, []),
                (⟨some 105, .indexAddr 4 (.tmp 104) (.const (.int .i64 1)), none, false⟩, []),
                (⟨some 106, .load true 4 (.tmp 105), none, false⟩, []),
                (⟨some 107, .fieldAddr 3 (.tmp 3), none, false⟩, []),
                (⟨some 108, .load false 1 (.tmp 107), none, false⟩, []),
                (⟨some 109, .indexAddr 4 (.tmp 108) (.const (.int .i64 3)), none, false⟩, []),
                (⟨some 110, .load true 4 (.tmp 109), none, false⟩, []),
                (⟨some 111, .clos 67 [] [(.tmp 2), (.tmp 3)], none, false⟩, []),
                (⟨some 112, .call 65 [(.tmp 102), (.tmp 106), (.tmp 110), (.tmp 111)], none, false⟩, [])] []))
            (.seq (.ops [
                ⟨some 114, .bin .eql (.tmp 21) (.const (.string ⟨#[102, 111, 114, 105, 110]⟩)), none, false⟩,
                ⟨some 113, .mov (.tmp 114), none, false⟩] [2, 3, 21, 113])
              (.cond (.tmp 113)
              (.seq (.opsD [
                  (⟨some 116, .load false 1 (.tmp 2), none, false⟩, []),
                  (⟨some 117, .fieldAddr 3 (.tmp 3), none, false⟩, []),
                  (⟨some 118, .load false 1 (.tmp 117), none, false⟩, []),
                  (⟨some 119, .indexAddr 4 (.tmp 118) (.const (.int .i64 0)), none, false⟩, []),
                  (⟨some 120, .fieldAddr 1 (.tmp 119), none, false⟩, []),
                  (⟨some 121, .load false 1 (.tmp 120), none, false⟩, []),
                  (⟨some 122, .call 68 [(.tmp 116), (.tmp 121)], none, false⟩, []),
                  (⟨some 115, .mov (.tmp 122), none, false⟩, []),
                  (⟨some 123, .extract (.tmp 115) 0, none, false⟩, []),
                  (⟨some 124, .extract (.tmp 115) 1, none, false⟩, []),
                  (⟨some 8, .mov (.tmp 123), none, false⟩, []),
                  (⟨some 9, .mov (.tmp 124), none, false⟩, [])] [2, 3, 8, 9])
                (.seq (.ops [
                  ⟨some 125, .load false 1 (.tmp 2), none, false⟩,
                  ⟨some 126, .mov (.tmp 8), none, false⟩,
                  ⟨some 127, .mov (.tmp 9), none, false⟩,
                  ⟨some 128, .call 42 [(.tmp 125), (.const (.int .i64 29)), (.tmp 126), (.tmp 127)], none, false⟩] [2, 3])
                (.seq (.ops [
                  ⟨some 129, .load false 1 (.tmp 2), none, false⟩,
                  ⟨some 130, .call 42 [(.tmp 129), (.const (.int .i64 30)), (.const (.int .i64 0)), (.const (.int .i64 0))], none, false⟩,
                  ⟨some 10, .mov (.tmp 130), none, false⟩] [2, 3, 10])
                (.seq (.ops [
                  ⟨some 132, .load false 1 (.tmp 2), none, false⟩,
                  ⟨some 133, .fieldAddr 1 (.tmp 3), none, false⟩,
                  ⟨some 134, .load false 1 (.tmp 133), none, false⟩,
                  ⟨some 135, .call 68 [(.tmp 132), (.tmp 134)], none, false⟩,
                  ⟨some 131, .mov (.tmp 135), none, false⟩,
                  ⟨some 136, .extract (.tmp 131) 0, none, false⟩,
                  ⟨some 137, .extract (.tmp 131) 1, none, false⟩,
                  ⟨some 8, .mov (.tmp 136), none, false⟩,
                  ⟨some 9, .mov (.tmp 137), none, false⟩] [2, 3, 8, 9, 10])
                (.seq (.ops [
                  ⟨some 138, .load false 1 (.tmp 2), none, false⟩,
                  ⟨some 139, .mov (.tmp 8), none, false⟩,
                  ⟨some 140, .mov (.tmp 9), none, false⟩,
                  ⟨some 141, .call 42 [(.tmp 138), (.const (.int .i64 6)), (.tmp 139), (.tmp 140)], none, false⟩] [2, 3, 10])
                (.seq (.ops [
                  ⟨some 142, .load false 1 (.tmp 2), none, false⟩,
                  ⟨some 143, .call 42 [(.tmp 142), (.const (.int .i64 18)), (.const (.int .i64 0)), (.const (.int .i64 0))], none, false⟩] [2, 3, 10])
                (.seq (.opsD [
                  (⟨some 144, .load false 1 (.tmp 2), none, false⟩, []),
                  (⟨some 145, .fieldAddr 3 (.tmp 3), none, false⟩, []),
                  (⟨some 146, .load false 1 (.tmp 145), none, false⟩, []),
                  (⟨some 147, .indexAddr 4 (.tmp 146) (.const (.int .i64 1)), none, false⟩, []),
                  (⟨some 148, .load true 4 (.tmp 147), none, false⟩, []),
                  (⟨some 149, .call 69 [(.tmp 144), (.tmp 148), (.const (.bool true))], none, false⟩, []),
                  (⟨some 11, .mov (.tmp 149), none, false⟩, [])] [2, 10, 11])
                (.seq (.opsD [
                  (⟨some 150, .load false 1 (.tmp 2), none, false⟩, []),
                  (⟨some 151, .mov (.tmp 11), none, false⟩, []),
                  (⟨some 152, .nilCheck (.tmp 151), none, false⟩, []),
                  (⟨some 153, .fieldAddr 0 (.tmp 152), none, false⟩, []),
                  (⟨some 154, .load false 1 (.tmp 153), none, false⟩, []),
                  (⟨some 155, .call 64 [(.tmp 150), (.tmp 154)], none, false⟩, [])] [2, 10, 11])
                (.seq (.ops [
                  ⟨some 156, .load false 1 (.tmp 2), none, false⟩,
                  ⟨some 157, .mov (.tmp 10), none, false⟩,
                  ⟨some 158, .call 42 [(.tmp 156), (.const (.int .i64 15)), (.tmp 157), (.const (.int .i64 0))], none, false⟩] [2, 10, 11])
                (.seq (.opsD [
                  (⟨some 159, .load false 1 (.tmp 2), none, false⟩, []),
                  (⟨some 160, .mov (.tmp 11), none, false⟩, []),
                  (⟨some 161, .nilCheck (.tmp 160), none, false⟩, []),
                  (⟨some 162, .fieldAddr 1 (.tmp 161), none, false⟩, []),
                  (⟨some 163, .load false 1 (.tmp 162), none, false⟩, []),
                  (⟨some 164, .mov (.tmp 10), none, false⟩, []),
                  (⟨some 165, .buildSlice true 3 1 1 [.int .i64 0] [(0, (.tmp 164))], none, false⟩, []),
                  (⟨some 166, .append false 3 1 8 (.tmp 163) (.tmp 165), none, false⟩, [(159, .load false 1 (.tmp 2))]),
                  (⟨some 167, .call 64 [(.tmp 159), (.tmp 166)], none, false⟩, [])] [2])
                (.ops [
                  ⟨some 168, .load false 1 (.tmp 2), none, false⟩,
                  ⟨some 169, .call 42 [(.tmp 168), (.const (.int .i64 31)), (.const (.int .i64 0)), (.const (.int .i64 0))], none, false⟩] [])))))))))))
              (.seq (.seq (.ops [
                  ⟨some 171, .bin .eql (.tmp 21) (.const (.string ⟨#[98, 114, 101, 97, 107]⟩)), none, false⟩,
                  ⟨some 170, .mov (.tmp 171), none, false⟩] [2, 3, 21, 170])
                (.cond (.tmp 170)
                .skip
                (.ops [
                    ⟨some 172, .bin .eql (.tmp 21) (.const (.string ⟨#[99, 111, 110, 116, 105, 110, 117, 101]⟩)), none, false⟩,
                    ⟨some 170, .mov (.tmp 172), none, false⟩] [2, 3, 21, 170])))
                (.cond (.tmp 170)
                (.seq (.opsD [
                    (⟨some 173, .load false 1 (.tmp 2), none, false⟩, []),
                    (⟨some 174, .nilCheck (.tmp 173), none, false⟩, []),
                    (⟨some 175, .fieldAddr 3 (.tmp 174), none, false⟩, []),
                    (⟨some 176, .load false 1 (.tmp 175), none, false⟩, []),
                    (⟨some 177, .load false 1 (.tmp 2), none, false⟩, []),
                    (⟨some 178, .nilCheck (.tmp 177), none, false⟩, []),
                    (⟨some 179, .fieldAddr 3 (.tmp 178), none, false⟩, []),
                    (⟨some 180, .load false 1 (.tmp 179), none, false⟩, []),
                    (⟨some 181, .len .slice (.tmp 180), none, false⟩, []),
                    (⟨some 182, .bin .sub (.tmp 181) (.const (.int .i64 1)), none, false⟩, []),
                    (⟨some 183, .indexAddr 1 (.tmp 176) (.tmp 182), none, false⟩, []),
                    (⟨some 184, .load false 1 (.tmp 183), none, false⟩, []),
                    (⟨some 12, .mov (.tmp 184), none, false⟩, [])] [2, 3, 12])
                  (.seq (.ops [
                    ⟨some 185, .load false 1 (.tmp 2), none, false⟩,
                    ⟨some 186, .call 42 [(.tmp 185), (.const (.int .i64 15)), (.const (.int .i64 0)), (.const (.int .i64 0))], none, false⟩,
                    ⟨some 13, .mov (.tmp 186), none, false⟩] [3, 12, 13])
                  (.seq (.ops [
                    ⟨some 187, .fieldAddr 0 (.tmp 3), none, false⟩,
                    ⟨some 188, .load false 1 (.tmp 187), none, false⟩,
                    ⟨some 189, .bin .eql (.tmp 188) (.const (.string ⟨#[98, 114, 101, 97, 107]⟩)), none, false⟩] [12, 13, 189])
                  (.cond (.tmp 189)
                  (.ops [
                      ⟨some 190, .mov (.tmp 12), none, false⟩,
                      ⟨some 191, .mov (.tmp 12), none, false⟩,
                      ⟨some 192, .nilCheck (.tmp 191), none, false⟩,
                      ⟨some 193, .fieldAddr 1 (.tmp 192), none, false⟩,
                      ⟨some 194, .load false 1 (.tmp 193), none, false⟩,
                      ⟨some 195, .mov (.tmp 13), none, false⟩,
                      ⟨some 196, .buildSlice true 3 1 1 [.int .i64 0] [(0, (.tmp 195))], none, false⟩,
                      ⟨some 197, .append false 3 1 8 (.tmp 194) (.tmp 196), none, false⟩,
                      ⟨some 198, .nilCheck (.tmp 190), none, false⟩,
                      ⟨some 199, .fieldAddr 1 (.tmp 198), none, false⟩,
                      ⟨none, .store 1 (.tmp 199) (.tmp 197), none, false⟩] [])
                  (.ops [
                      ⟨some 200, .mov (.tmp 12), none, false⟩,
                      ⟨some 201, .mov (.tmp 12), none, false⟩,
                      ⟨some 202, .nilCheck (.tmp 201), none, false⟩,
                      ⟨some 203, .fieldAddr 0 (.tmp 202), none, false⟩,
                      ⟨some 204, .load false 1 (.tmp 203), none, false⟩,
                      ⟨some 205, .mov (.tmp 13), none, false⟩,
                      ⟨some 206, .buildSlice true 3 1 1 [.int .i64 0] [(0, (.tmp 205))], none, false⟩,
                      ⟨some 207, .append false 3 1 8 (.tmp 204) (.tmp 206), none, false⟩,
                      ⟨some 208, .nilCheck (.tmp 200), none, false⟩,
                      ⟨some 209, .fieldAddr 0 (.tmp 208), none, false⟩,
                      ⟨none, .store 1 (.tmp 209) (.tmp 207), none, false⟩] [])))))
                (.seq (.ops [
                    ⟨some 211, .bin .eql (.tmp 21) (.const (.string ⟨#[110, 101, 120, 116]⟩)), none, false⟩,
                    ⟨some 210, .mov (.tmp 211), none, false⟩] [2, 3, 21, 210])
                  (.cond (.tmp 210)
                  (.ops [
                      ⟨some 212, .load false 1 (.tmp 2), none, false⟩,
                      ⟨some 213, .call 42 [(.tmp 212), (.const (.int .i64 32)), (.const (.int .i64 0)), (.const (.int .i64 0))], none, false⟩] [])
                  (.seq (.ops [
                      ⟨some 215, .bin .eql (.tmp 21) (.const (.string ⟨#[101, 120, 105, 116]⟩)), none, false⟩,
                      ⟨some 214, .mov (.tmp 215), none, false⟩] [2, 3, 21, 214])
                    (.cond (.tmp 214)
                    (.seq (.seq (.ops [
                        ⟨some 216, .fieldAddr 3 (.tmp 3), none, false⟩,
                        ⟨some 217, .load false 1 (.tmp 216), none, false⟩,
                        ⟨some 218, .len .slice (.tmp 217), none, false⟩,
                        ⟨some 219, .mov (.const (.int .i64 0)), none, false⟩] [2, 3, 217, 218, 219])
                      (.block 3
                      (.loop [2, 3, 217, 218, 219]
                        (.seq (.ops [
                            ⟨some 220, .bin .lss (.tmp 219) (.tmp 218), none, false⟩] [2, 3, 217, 218, 219, 220])
                          (.seq (.cond (.tmp 220)
                          .skip
                          (.exit 3))
                          (.seq (.block 4
                          (.seq (.ops [
                              ⟨some 221, .indexAddr 4 (.tmp 217) (.tmp 219), none, false⟩,
                              ⟨some 222, .load true 4 (.tmp 221), none, false⟩,
                              ⟨some 15, .allocL 0 [.str [], .str [], .int .i64 0, .nilSlice], none, false⟩,
                              ⟨none, .storeL 4 (.tmp 15) (.tmp 222), none, false⟩] [2, 3, 15, 217, 218, 219])
                            (.ops [
                              ⟨some 223, .load false 1 (.tmp 2), none, false⟩,
                              ⟨some 224, .loadL true 4 (.tmp 15), none, false⟩,
                              ⟨some 225, .call 63 [(.tmp 223), (.tmp 224)], none, false⟩] [2, 3, 217, 218, 219])))
                          (.ops [
                            ⟨some 226, .bin .add (.tmp 219) (.const (.int .i64 1)), none, false⟩,
                            ⟨some 219, .mov (.tmp 226), none, false⟩] [2, 3, 217, 218, 219])))))))
                      (.ops [
                        ⟨some 227, .load false 1 (.tmp 2), none, false⟩,
                        ⟨some 228, .fieldAddr 3 (.tmp 3), none, false⟩,
                        ⟨some 229, .load false 1 (.tmp 228), none, false⟩,
                        ⟨some 230, .len .slice (.tmp 229), none, false⟩,
                        ⟨some 231, .call 42 [(.tmp 227), (.const (.int .i64 33)), (.tmp 230), (.const (.int .i64 0))], none, false⟩] []))
                    (.seq (.ops [
                        ⟨some 233, .bin .eql (.tmp 21) (.const (.string ⟨#[114, 101, 116, 117, 114, 110]⟩)), none, false⟩,
                        ⟨some 232, .mov (.tmp 233), none, false⟩] [2, 3, 21, 232])
                      (.cond (.tmp 232)
                      (.seq (.seq (.ops [
                          ⟨some 234, .fieldAddr 3 (.tmp 3), none, false⟩,
                          ⟨some 235, .load false 1 (.tmp 234), none, false⟩,
                          ⟨some 236, .len .slice (.tmp 235), none, false⟩,
                          ⟨some 237, .bin .eql (.tmp 236) (.const (.int .i64 0)), none, false⟩] [2, 3, 237])
                        (.cond (.tmp 237)
                        (.ops [
                            ⟨some 238, .load false 1 (.tmp 2), none, false⟩,
                            ⟨some 239, .call 41 [(.tmp 238), (.const (.string ⟨#[]⟩))], none, false⟩] [2, 3])
                        .skip))
                        (.seq (.seq (.ops [
                          ⟨some 240, .fieldAddr 3 (.tmp 3), none, false⟩,
                          ⟨some 241, .load false 1 (.tmp 240), none, false⟩,
                          ⟨some 242, .len .slice (.tmp 241), none, false⟩,
                          ⟨some 243, .mov (.const (.int .i64 0)), none, false⟩] [2, 241, 242, 243])
                        (.block 5
                        (.loop [2, 241, 242, 243]
                          (.seq (.ops [
                              ⟨some 244, .bin .lss (.tmp 243) (.tmp 242), none, false⟩] [2, 241, 242, 243, 244])
                            (.seq (.cond (.tmp 244)
                            .skip
                            (.exit 5))
                            (.seq (.block 6
                            (.seq (.ops [
                                ⟨some 245, .indexAddr 4 (.tmp 241) (.tmp 243), none, false⟩,
                                ⟨some 246, .load true 4 (.tmp 245), none, false⟩,
                                ⟨some 17, .allocL 0 [.str [], .str [], .int .i64 0, .nilSlice], none, false⟩,
                                ⟨none, .storeL 4 (.tmp 17) (.tmp 246), none, false⟩] [2, 17, 241, 242, 243])
                              (.ops [
                                ⟨some 247, .load false 1 (.tmp 2), none, false⟩,
                                ⟨some 248, .loadL true 4 (.tmp 17), none, false⟩,
                                ⟨some 249, .call 63 [(.tmp 247), (.tmp 248)], none, false⟩] [2, 241, 242, 243])))
                            (.ops [
                              ⟨some 250, .bin .add (.tmp 243) (.const (.int .i64 1)), none, false⟩,
                              ⟨some 243, .mov (.tmp 250), none, false⟩] [2, 241, 242, 243])))))))
                        (.ops [
                          ⟨some 251, .load false 1 (.tmp 2), none, false⟩,
                          ⟨some 252, .call 42 [(.tmp 251), (.const (.int .i64 23)), (.const (.int .i64 0)), (.const (.int .i64 0))], none, false⟩] [])))
                      (.seq (.ops [
                          ⟨some 254, .bin .eql (.tmp 21) (.const (.string ⟨#[100, 101, 108, 101, 116, 101]⟩)), none, false⟩,
                          ⟨some 253, .mov (.tmp 254), none, false⟩] [2, 3, 21, 253])
                        (.cond (.tmp 253)
                        (.seq (.opsD [
                            (⟨some 256, .load false 1 (.tmp 2), none, false⟩, []),
                            (⟨some 257, .fieldAddr 3 (.tmp 3), none, false⟩, []),
                            (⟨some 258, .load false 1 (.tmp 257), none, false⟩, []),
                            (⟨some 259, .indexAddr 4 (.tmp 258) (.const (.int .i64 0)), none, false⟩, []),
                            (⟨some 260, .fieldAddr 1 (.tmp 259), none, false⟩, []),
                            (⟨some 261, .load false 1 (.tmp 260), none, false⟩, []),
                            (⟨some 262, .call 68 [(.tmp 256), (.tmp 261)], none, false⟩, []),
                            (⟨some 255, .mov (.tmp 262), none, false⟩, []),
                            (⟨some 263, .extract (.tmp 255) 0, none, false⟩, []),
                            (⟨some 264, .extract (.tmp 255) 1, none, false⟩, []),
                            (⟨some 18, .mov (.tmp 263), none, false⟩, []),
                            (⟨some 19, .mov (.tmp 264), none, false⟩, [])] [2, 3, 18, 19])
                          (.seq (.ops [
                            ⟨some 265, .fieldAddr 3 (.tmp 3), none, false⟩,
                            ⟨some 266, .load false 1 (.tmp 265), none, false⟩,
                            ⟨some 267, .indexAddr 4 (.tmp 266) (.const (.int .i64 0)), none, false⟩,
                            ⟨some 268, .fieldAddr 0 (.tmp 267), none, false⟩,
                            ⟨some 269, .load false 1 (.tmp 268), none, false⟩,
                            ⟨some 270, .bin .eql (.tmp 269) (.const (.string ⟨#[105, 110, 100, 101, 120]⟩)), none, false⟩] [2, 3, 18, 19, 270])
                          (.cond (.tmp 270)
                          (.seq (.opsD [
                              (⟨some 271, .load false 1 (.tmp 2), none, false⟩, []),
                              (⟨some 272, .fieldAddr 3 (.tmp 3), none, false⟩, []),
                              (⟨some 273, .load false 1 (.tmp 272), none, false⟩, []),
                              (⟨some 274, .indexAddr 4 (.tmp 273) (.const (.int .i64 0)), none, false⟩, []),
                              (⟨some 275, .fieldAddr 3 (.tmp 274), none, false⟩, []),
                              (⟨some 276, .load false 1 (.tmp 275), none, false⟩, []),
                              (⟨some 277, .indexAddr 4 (.tmp 276) (.const (.int .i64 0)), none, false⟩, []),
                              (⟨some 278, .load true 4 (.tmp 277), none, false⟩, []),
                              (⟨some 279, .call 63 [(.tmp 271), (.tmp 278)], none, false⟩, [])] [2, 18, 19])
                            (.ops [
                              ⟨some 280, .load false 1 (.tmp 2), none, false⟩,
                              ⟨some 281, .mov (.tmp 18), none, false⟩,
                              ⟨some 282, .mov (.tmp 19), none, false⟩,
                              ⟨some 283, .call 42 [(.tmp 280), (.const (.int .i64 13)), (.tmp 281), (.tmp 282)], none, false⟩] []))
                          (.ops [
                              ⟨some 284, .load false 1 (.tmp 2), none, false⟩,
                              ⟨some 285, .mov (.tmp 18), none, false⟩,
                              ⟨some 286, .mov (.tmp 19), none, false⟩,
                              ⟨some 287, .call 42 [(.tmp 284), (.const (.int .i64 14)), (.tmp 285), (.tmp 286)], none, false⟩] []))))
                        (.seq (.seq (.ops [
                            ⟨some 289, .bin .eql (.tmp 21) (.const (.string ⟨#[112, 114, 105, 110, 116]⟩)), none, false⟩,
                            ⟨some 288, .mov (.tmp 289), none, false⟩] [2, 3, 21, 288])
                          (.cond (.tmp 288)
                          .skip
                          (.ops [
                              ⟨some 290, .bin .eql (.tmp 21) (.const (.string ⟨#[112, 114, 105, 110, 116, 102]⟩)), none, false⟩,
                              ⟨some 288, .mov (.tmp 290), none, false⟩] [2, 3, 288])))
                          (.cond (.tmp 288)
                          (.ops [
                              ⟨some 291, .load false 1 (.tmp 2), none, false⟩,
                              ⟨some 292, .load true 4 (.tmp 3), none, false⟩,
                              ⟨some 293, .call 70 [(.tmp 291), (.tmp 292)], none, false⟩] [])
                          .skip)))))))))))))))))))))))))))⟩
end Go.Proofs.YtjbkcboklccmeaaGreatDoor.Abs.R1
