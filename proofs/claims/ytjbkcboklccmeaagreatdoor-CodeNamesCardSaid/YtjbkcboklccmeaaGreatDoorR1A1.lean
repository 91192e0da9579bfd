/-
  Functions of the program as abstract code: printed by a program of mine.
-/
import Derived.Test.YtjbkcboklccmeaaGreatDoorGa
set_option linter.unusedVariables false
set_option linter.unusedSimpArgs false
set_option maxRecDepth 100000
namespace Go.Proofs.YtjbkcboklccmeaaGreatDoor.Abs.R1
/-- (*scribe/code.compiler).text -/
def af41 : AFunc := ⟨2, [],
  (.seq (.ops [
    ⟨some 5, .mov (.tmp 0), none, false⟩,
    ⟨some 6, .nilCheck (.tmp 5), none, false⟩,
    ⟨some 7, .fieldAddr 0 (.tmp 6), none, false⟩,
    ⟨some 8, .load false 1 (.tmp 7), none, false⟩,
    ⟨some 9, .nilCheck (.tmp 8), none, false⟩,
    ⟨some 10, .fieldAddr 2 (.tmp 9), none, false⟩,
    ⟨some 11, .load false 1 (.tmp 10), none, false⟩,
    ⟨some 12, .mov (.tmp 1), none, false⟩,
    ⟨some 13, .call 38 [(.tmp 11), (.tmp 12)], none, false⟩,
    ⟨some 4, .mov (.tmp 13), none, false⟩] [0, 1, 4])
  (.seq (.seq (.ops [
    ⟨some 14, .mov (.tmp 4), none, false⟩,
    ⟨some 15, .bin .lss (.tmp 14) (.const (.int .i64 0)), none, false⟩] [0, 1, 4, 15])
  (.cond (.tmp 15)
  (.seq (.opsD [
      (⟨some 16, .mov (.tmp 0), none, false⟩, []),
      (⟨some 17, .nilCheck (.tmp 16), none, false⟩, []),
      (⟨some 18, .fieldAddr 0 (.tmp 17), none, false⟩, []),
      (⟨some 19, .load false 1 (.tmp 18), none, false⟩, []),
      (⟨some 20, .mov (.tmp 0), none, false⟩, []),
      (⟨some 21, .nilCheck (.tmp 20), none, false⟩, []),
      (⟨some 22, .fieldAddr 0 (.tmp 21), none, false⟩, []),
      (⟨some 23, .load false 1 (.tmp 22), none, false⟩, []),
      (⟨some 24, .nilCheck (.tmp 23), none, false⟩, []),
      (⟨some 25, .fieldAddr 2 (.tmp 24), none, false⟩, []),
      (⟨some 26, .load false 1 (.tmp 25), none, false⟩, []),
      (⟨some 27, .mov (.tmp 1), none, false⟩, []),
      (⟨some 28, .buildSlice true 9 1 1 [.str []] [(0, (.tmp 27))], none, false⟩, []),
      (⟨some 29, .append false 9 1 16 (.tmp 26) (.tmp 28), none, false⟩, [(19, .load false 1 (.tmp 18))]),
      (⟨some 30, .nilCheck (.tmp 19), none, false⟩, []),
      (⟨some 31, .fieldAddr 2 (.tmp 30), none, false⟩, []),
      (⟨none, .store 1 (.tmp 31) (.tmp 29), none, false⟩, [])] [0])
    (.ops [
      ⟨some 32, .mov (.tmp 0), none, false⟩,
      ⟨some 33, .nilCheck (.tmp 32), none, false⟩,
      ⟨some 34, .fieldAddr 0 (.tmp 33), none, false⟩,
      ⟨some 35, .load false 1 (.tmp 34), none, false⟩,
      ⟨some 36, .nilCheck (.tmp 35), none, false⟩,
      ⟨some 37, .fieldAddr 2 (.tmp 36), none, false⟩,
      ⟨some 38, .load false 1 (.tmp 37), none, false⟩,
      ⟨some 39, .len .slice (.tmp 38), none, false⟩,
      ⟨some 40, .bin .sub (.tmp 39) (.const (.int .i64 1)), none, false⟩,
      ⟨some 4, .mov (.tmp 40), none, false⟩] [0, 4]))
  .skip))
  (.ops [
    ⟨some 41, .mov (.tmp 0), none, false⟩,
    ⟨some 42, .mov (.tmp 4), none, false⟩,
    ⟨some 43, .call 42 [(.tmp 41), (.const (.int .i64 2)), (.tmp 42), (.const (.int .i64 0))], none, false⟩] [])))⟩
/-- (*scribe/code.compiler).put -/
def af42 : AFunc := ⟨4, [.tmp 8],
  (.seq (.ops [
    ⟨some 8, .mov (.const (.int .i64 0)), none, false⟩] [0, 1, 2, 3])
  (.seq (.opsD [
    (⟨some 9, .mov (.tmp 0), none, false⟩, []),
    (⟨some 10, .nilCheck (.tmp 9), none, false⟩, []),
    (⟨some 11, .fieldAddr 0 (.tmp 10), none, false⟩, []),
    (⟨some 12, .load false 1 (.tmp 11), none, false⟩, []),
    (⟨some 13, .mov (.tmp 0), none, false⟩, []),
    (⟨some 14, .nilCheck (.tmp 13), none, false⟩, []),
    (⟨some 15, .fieldAddr 0 (.tmp 14), none, false⟩, []),
    (⟨some 16, .load false 1 (.tmp 15), none, false⟩, []),
    (⟨some 17, .nilCheck (.tmp 16), none, false⟩, []),
    (⟨some 18, .fieldAddr 0 (.tmp 17), none, false⟩, []),
    (⟨some 19, .load false 1 (.tmp 18), none, false⟩, []),
    (⟨some 20, .mov (.tmp 1), none, false⟩, []),
    (⟨some 21, .mov (.tmp 2), none, false⟩, []),
    (⟨some 22, .mov (.tmp 3), none, false⟩, []),
    (⟨some 23, .build [.int .i64 0, .int .i64 0, .int .i64 0] [(0, 1, (.tmp 20)), (1, 1, (.tmp 21)), (2, 1, (.tmp 22))], none, false⟩, []),
    (⟨some 24, .buildSlice true 55 3 1 [.int .i64 0, .int .i64 0, .int .i64 0] [(0, (.tmp 23))], none, false⟩, []),
    (⟨some 25, .append false 55 3 24 (.tmp 19) (.tmp 24), none, false⟩, [(12, .load false 1 (.tmp 11))]),
    (⟨some 26, .nilCheck (.tmp 12), none, false⟩, []),
    (⟨some 27, .fieldAddr 0 (.tmp 26), none, false⟩, []),
    (⟨none, .store 1 (.tmp 27) (.tmp 25), none, false⟩, [])] [0])
  (.seq (.ops [
    ⟨some 28, .mov (.tmp 0), none, false⟩,
    ⟨some 29, .nilCheck (.tmp 28), none, false⟩,
    ⟨some 30, .fieldAddr 0 (.tmp 29), none, false⟩,
    ⟨some 31, .load false 1 (.tmp 30), none, false⟩,
    ⟨some 32, .nilCheck (.tmp 31), none, false⟩,
    ⟨some 33, .fieldAddr 0 (.tmp 32), none, false⟩,
    ⟨some 34, .load false 1 (.tmp 33), none, false⟩,
    ⟨some 35, .len .slice (.tmp 34), none, false⟩,
    ⟨some 36, .bin .sub (.tmp 35) (.const (.int .i64 1)), none, false⟩,
    ⟨some 8, .mov (.tmp 36), none, false⟩] [8])
  .ret)))⟩
/-- scribe/code.check -/
def af43 : AFunc := ⟨1, [.tmp 2, .tmp 3],
  (.seq (.ops [
    ⟨some 2, .mov (.const (.pointer none)), none, false⟩,
    ⟨some 3, .mov (.const (.int .i64 0)), none, false⟩] [0])
  (.seq (.seq (.opsD [
    (⟨some 14, .mov (.tmp 0), none, false⟩, []),
    (⟨some 15, .nilCheck (.tmp 14), none, false⟩, []),
    (⟨some 16, .fieldAddr 0 (.tmp 15), none, false⟩, []),
    (⟨some 17, .load false 1 (.tmp 16), none, false⟩, []),
    (⟨some 18, .len .slice (.tmp 17), none, false⟩, []),
    (⟨some 19, .bin .gtr (.tmp 18) (.const (.int .i64 20000)), none, false⟩, []),
    (⟨some 20, .mov (.tmp 19), none, false⟩, []),
    (⟨some 21, .mov (.tmp 0), some (20, false), false⟩, []),
    (⟨some 22, .nilCheck (.tmp 21), some (20, false), false⟩, []),
    (⟨some 23, .fieldAddr 4 (.tmp 22), some (20, false), false⟩, []),
    (⟨some 24, .load false 1 (.tmp 23), some (20, false), false⟩, []),
    (⟨some 25, .len .slice (.tmp 24), some (20, false), false⟩, []),
    (⟨some 26, .mov (.tmp 0), some (20, false), false⟩, []),
    (⟨some 27, .nilCheck (.tmp 26), some (20, false), false⟩, []),
    (⟨some 28, .fieldAddr 5 (.tmp 27), some (20, false), false⟩, []),
    (⟨some 29, .load false 1 (.tmp 28), some (20, false), false⟩, []),
    (⟨some 30, .len .slice (.tmp 29), some (20, false), false⟩, []),
    (⟨some 31, .bin .neq (.tmp 25) (.tmp 30), some (20, false), false⟩, []),
    (⟨some 32, .pick (.tmp 20) (.const (.bool true)) (.tmp 31), none, false⟩, []),
    (⟨some 33, .mov (.tmp 32), none, false⟩, []),
    (⟨some 34, .mov (.tmp 0), some (33, false), false⟩, []),
    (⟨some 35, .nilCheck (.tmp 34), some (33, false), false⟩, []),
    (⟨some 36, .fieldAddr 4 (.tmp 35), some (33, false), false⟩, []),
    (⟨some 37, .load false 1 (.tmp 36), some (33, false), false⟩, []),
    (⟨some 38, .len .slice (.tmp 37), some (33, false), false⟩, []),
    (⟨some 39, .load false 1 (.global 0), some (33, false), false⟩, []),
    (⟨some 40, .len .slice (.tmp 39), some (33, false), false⟩, []),
    (⟨some 41, .bin .lss (.tmp 38) (.tmp 40), some (33, false), false⟩, []),
    (⟨some 42, .pick (.tmp 33) (.const (.bool true)) (.tmp 41), none, false⟩, [])] [0, 42])
  (.cond (.tmp 42)
  (.seq (.ops [
      ⟨some 2, .mov (.const (.pointer none)), none, false⟩,
      ⟨some 3, .mov (.const (.int .i64 3)), none, false⟩] [2, 3])
    .ret)
  .skip))
  (.seq (.seq (.ops [
    ⟨some 43, .load false 1 (.global 0), none, false⟩,
    ⟨some 44, .len .slice (.tmp 43), none, false⟩,
    ⟨some 45, .mov (.const (.int .i64 0)), none, false⟩] [0, 43, 44, 45])
  (.block 0
  (.loop [0, 43, 44, 45]
    (.seq (.ops [
        ⟨some 46, .bin .lss (.tmp 45) (.tmp 44), none, false⟩] [0, 43, 44, 45, 46])
      (.seq (.cond (.tmp 46)
      .skip
      (.exit 0))
      (.seq (.block 1
      (.seq (.ops [
          ⟨some 47, .mov (.tmp 45), none, false⟩,
          ⟨some 48, .indexAddr 1 (.tmp 43) (.tmp 45), none, false⟩,
          ⟨some 49, .load false 1 (.tmp 48), none, false⟩,
          ⟨some 4, .mov (.tmp 47), none, false⟩,
          ⟨some 5, .mov (.tmp 49), none, false⟩] [0, 4, 5, 43, 44, 45])
        (.seq (.ops [
          ⟨some 50, .mov (.tmp 0), none, false⟩,
          ⟨some 51, .nilCheck (.tmp 50), none, false⟩,
          ⟨some 52, .fieldAddr 4 (.tmp 51), none, false⟩,
          ⟨some 53, .load false 1 (.tmp 52), none, false⟩,
          ⟨some 54, .mov (.tmp 4), none, false⟩,
          ⟨some 55, .indexAddr 1 (.tmp 53) (.tmp 54), none, false⟩,
          ⟨some 56, .load false 1 (.tmp 55), none, false⟩,
          ⟨some 57, .mov (.tmp 5), none, false⟩,
          ⟨some 58, .bin .neq (.tmp 56) (.tmp 57), none, false⟩,
          ⟨some 59, .mov (.tmp 58), none, false⟩,
          ⟨some 60, .mov (.tmp 0), some (59, false), false⟩,
          ⟨some 61, .nilCheck (.tmp 60), some (59, false), false⟩,
          ⟨some 62, .fieldAddr 5 (.tmp 61), some (59, false), false⟩,
          ⟨some 63, .load false 1 (.tmp 62), some (59, false), false⟩,
          ⟨some 64, .mov (.tmp 4), some (59, false), false⟩,
          ⟨some 65, .indexAddr 1 (.tmp 63) (.tmp 64), some (59, false), false⟩,
          ⟨some 66, .load false 1 (.tmp 65), some (59, false), false⟩,
          ⟨some 67, .pick (.tmp 59) (.const (.bool true)) (.tmp 66), none, false⟩] [0, 43, 44, 45, 67])
        (.cond (.tmp 67)
        (.seq (.ops [
            ⟨some 2, .mov (.const (.pointer none)), none, false⟩,
            ⟨some 3, .mov (.const (.int .i64 3)), none, false⟩] [2, 3])
          .ret)
        .skip))))
      (.ops [
        ⟨some 68, .bin .add (.tmp 45) (.const (.int .i64 1)), none, false⟩,
        ⟨some 45, .mov (.tmp 68), none, false⟩] [0, 43, 44, 45])))))))
  (.seq (.seq (.ops [
    ⟨some 69, .mov (.tmp 0), none, false⟩,
    ⟨some 70, .nilCheck (.tmp 69), none, false⟩,
    ⟨some 71, .fieldAddr 1 (.tmp 70), none, false⟩,
    ⟨some 72, .load false 1 (.tmp 71), none, false⟩,
    ⟨some 73, .len .slice (.tmp 72), none, false⟩,
    ⟨some 74, .mov (.const (.int .i64 0)), none, false⟩] [0, 72, 73, 74])
  (.block 2
  (.loop [0, 72, 73, 74]
    (.seq (.ops [
        ⟨some 75, .bin .lss (.tmp 74) (.tmp 73), none, false⟩] [0, 72, 73, 74, 75])
      (.seq (.cond (.tmp 75)
      .skip
      (.exit 2))
      (.seq (.block 3
      (.seq (.ops [
          ⟨some 76, .indexAddr 1 (.tmp 72) (.tmp 74), none, false⟩,
          ⟨some 77, .load false 1 (.tmp 76), none, false⟩,
          ⟨some 7, .mov (.tmp 77), none, false⟩] [0, 7, 72, 73, 74])
        (.seq (.ops [
          ⟨some 78, .mov (.tmp 7), none, false⟩,
          ⟨some 79, .bin .lss (.tmp 78) (.const (.int .i64 (-4611686018427387903))), none, false⟩,
          ⟨some 80, .mov (.tmp 79), none, false⟩,
          ⟨some 81, .mov (.tmp 7), some (80, false), false⟩,
          ⟨some 82, .bin .gtr (.tmp 81) (.const (.int .i64 4611686018427387903)), some (80, false), false⟩,
          ⟨some 83, .pick (.tmp 80) (.const (.bool true)) (.tmp 82), none, false⟩] [0, 72, 73, 74, 83])
        (.cond (.tmp 83)
        (.seq (.ops [
            ⟨some 2, .mov (.const (.pointer none)), none, false⟩,
            ⟨some 3, .mov (.const (.int .i64 3)), none, false⟩] [2, 3])
          .ret)
        .skip))))
      (.ops [
        ⟨some 84, .bin .add (.tmp 74) (.const (.int .i64 1)), none, false⟩,
        ⟨some 74, .mov (.tmp 84), none, false⟩] [0, 72, 73, 74])))))))
  (.seq (.ops [
    ⟨some 85, .mov (.tmp 0), none, false⟩,
    ⟨some 86, .makeMap, none, false⟩,
    ⟨some 87, .build [.nil, .nilMap, .nilSlice, .bool false] [(0, 1, (.tmp 85)), (1, 1, (.tmp 86))], none, false⟩,
    ⟨some 88, .boxH 129 4 (.tmp 87), none, false⟩,
    ⟨some 8, .mov (.tmp 88), none, false⟩] [0, 8])
  (.seq (.seq (.opsD [
    (⟨some 89, .mov (.tmp 0), none, false⟩, []),
    (⟨some 90, .nilCheck (.tmp 89), none, false⟩, []),
    (⟨some 91, .fieldAddr 6 (.tmp 90), none, false⟩, []),
    (⟨some 92, .load false 1 (.tmp 91), none, false⟩, []),
    (⟨some 93, .mov (.tmp 0), none, false⟩, []),
    (⟨some 94, .nilCheck (.tmp 93), none, false⟩, []),
    (⟨some 95, .fieldAddr 7 (.tmp 94), none, false⟩, []),
    (⟨some 96, .load false 1 (.tmp 95), none, false⟩, []),
    (⟨some 97, .mov (.tmp 0), none, false⟩, []),
    (⟨some 98, .nilCheck (.tmp 97), none, false⟩, []),
    (⟨some 99, .fieldAddr 8 (.tmp 98), none, false⟩, []),
    (⟨some 100, .load false 1 (.tmp 99), none, false⟩, []),
    (⟨some 101, .buildSlice true 3 1 3 [.int .i64 0] [(0, (.tmp 92)), (1, (.tmp 96)), (2, (.tmp 100))], none, false⟩, []),
    (⟨some 102, .len .slice (.tmp 101), none, false⟩, []),
    (⟨some 103, .mov (.const (.int .i64 0)), none, false⟩, [])] [0, 8, 101, 102, 103])
  (.block 4
  (.loop [0, 8, 101, 102, 103]
    (.seq (.ops [
        ⟨some 104, .bin .lss (.tmp 103) (.tmp 102), none, false⟩] [0, 8, 101, 102, 103, 104])
      (.seq (.cond (.tmp 104)
      .skip
      (.exit 4))
      (.seq (.block 5
      (.seq (.ops [
          ⟨some 105, .mov (.tmp 103), none, false⟩,
          ⟨some 106, .indexAddr 1 (.tmp 101) (.tmp 103), none, false⟩,
          ⟨some 107, .load false 1 (.tmp 106), none, false⟩,
          ⟨some 9, .mov (.tmp 105), none, false⟩,
          ⟨some 10, .mov (.tmp 107), none, false⟩] [0, 8, 9, 10, 101, 102, 103])
        (.ops [
          ⟨some 108, .mov (.tmp 8), none, false⟩,
          ⟨some 109, .mov (.tmp 10), none, false⟩,
          ⟨some 110, .mov (.tmp 9), none, false⟩,
          ⟨some 111, .build [.int .i64 0, .str [], .int .i64 0] [(0, 1, (.tmp 110))], none, false⟩,
          ⟨some 112, .call 71 [(.tmp 108), (.tmp 109), (.tmp 111)], none, false⟩] [0, 8, 101, 102, 103])))
      (.ops [
        ⟨some 113, .bin .add (.tmp 103) (.const (.int .i64 1)), none, false⟩,
        ⟨some 103, .mov (.tmp 113), none, false⟩] [0, 8, 101, 102, 103])))))))
  (.seq (.seq (.ops [
    ⟨some 114, .mov (.tmp 0), none, false⟩,
    ⟨some 115, .nilCheck (.tmp 114), none, false⟩,
    ⟨some 116, .fieldAddr 3 (.tmp 115), none, false⟩,
    ⟨some 117, .load false 1 (.tmp 116), none, false⟩,
    ⟨some 118, .len .slice (.tmp 117), none, false⟩,
    ⟨some 119, .mov (.const (.int .i64 0)), none, false⟩] [8, 117, 118, 119])
  (.block 6
  (.loop [8, 117, 118, 119]
    (.seq (.ops [
        ⟨some 120, .bin .lss (.tmp 119) (.tmp 118), none, false⟩] [8, 117, 118, 119, 120])
      (.seq (.cond (.tmp 120)
      .skip
      (.exit 6))
      (.seq (.block 7
      (.seq (.ops [
          ⟨some 121, .mov (.tmp 119), none, false⟩,
          ⟨some 122, .indexAddr 2 (.tmp 117) (.tmp 119), none, false⟩,
          ⟨some 123, .load true 2 (.tmp 122), none, false⟩,
          ⟨some 12, .allocL 0 [.int .i64 0, .nilSlice], none, false⟩,
          ⟨some 11, .mov (.tmp 121), none, false⟩,
          ⟨none, .storeL 2 (.tmp 12) (.tmp 123), none, false⟩] [8, 11, 12, 117, 118, 119])
        (.ops [
          ⟨some 124, .mov (.tmp 8), none, false⟩,
          ⟨some 125, .fieldL 0 (.tmp 12), none, false⟩,
          ⟨some 126, .loadL false 1 (.tmp 125), none, false⟩,
          ⟨some 127, .mov (.tmp 11), none, false⟩,
          ⟨some 128, .bin .add (.const (.int .i64 3)) (.tmp 127), none, false⟩,
          ⟨some 129, .build [.int .i64 0, .str [], .int .i64 0] [(0, 1, (.tmp 128))], none, false⟩,
          ⟨some 130, .call 71 [(.tmp 124), (.tmp 126), (.tmp 129)], none, false⟩] [8, 117, 118, 119])))
      (.ops [
        ⟨some 131, .bin .add (.tmp 119) (.const (.int .i64 1)), none, false⟩,
        ⟨some 119, .mov (.tmp 131), none, false⟩] [8, 117, 118, 119])))))))
  (.seq (.block 8
  (.loop [8]
    (.seq (.seq (.ops [
        ⟨some 132, .mov (.tmp 8), none, false⟩,
        ⟨some 133, .nilCheck (.tmp 132), none, false⟩,
        ⟨some 134, .fieldAddr 2 (.tmp 133), none, false⟩,
        ⟨some 135, .load false 1 (.tmp 134), none, false⟩,
        ⟨some 136, .len .slice (.tmp 135), none, false⟩,
        ⟨some 137, .bin .gtr (.tmp 136) (.const (.int .i64 0)), none, false⟩,
        ⟨some 138, .mov (.tmp 137), none, false⟩,
        ⟨some 139, .mov (.tmp 8), some (138, true), false⟩,
        ⟨some 140, .nilCheck (.tmp 139), some (138, true), false⟩,
        ⟨some 141, .fieldAddr 3 (.tmp 140), some (138, true), false⟩,
        ⟨some 142, .load false 1 (.tmp 141), some (138, true), false⟩,
        ⟨some 143, .un .not (.tmp 142), some (138, true), false⟩,
        ⟨some 144, .pick (.tmp 138) (.tmp 143) (.const (.bool false)), none, false⟩] [8, 144])
      (.cond (.tmp 144)
      .skip
      (.exit 8)))
      (.block 9
      (.seq (.opsD [
          (⟨some 145, .mov (.tmp 8), none, false⟩, []),
          (⟨some 146, .nilCheck (.tmp 145), none, false⟩, []),
          (⟨some 147, .fieldAddr 2 (.tmp 146), none, false⟩, []),
          (⟨some 148, .load false 1 (.tmp 147), none, false⟩, []),
          (⟨some 149, .mov (.tmp 8), none, false⟩, []),
          (⟨some 150, .nilCheck (.tmp 149), none, false⟩, []),
          (⟨some 151, .fieldAddr 2 (.tmp 150), none, false⟩, []),
          (⟨some 152, .load false 1 (.tmp 151), none, false⟩, []),
          (⟨some 153, .len .slice (.tmp 152), none, false⟩, []),
          (⟨some 154, .bin .sub (.tmp 153) (.const (.int .i64 1)), none, false⟩, []),
          (⟨some 155, .indexAddr 1 (.tmp 148) (.tmp 154), none, false⟩, []),
          (⟨some 156, .load false 1 (.tmp 155), none, false⟩, []),
          (⟨some 13, .mov (.tmp 156), none, false⟩, [])] [8, 13])
        (.seq (.opsD [
          (⟨some 157, .mov (.tmp 8), none, false⟩, []),
          (⟨some 158, .mov (.tmp 8), none, false⟩, []),
          (⟨some 159, .nilCheck (.tmp 158), none, false⟩, []),
          (⟨some 160, .fieldAddr 2 (.tmp 159), none, false⟩, []),
          (⟨some 161, .load false 1 (.tmp 160), none, false⟩, []),
          (⟨some 162, .mov (.tmp 8), none, false⟩, []),
          (⟨some 163, .nilCheck (.tmp 162), none, false⟩, []),
          (⟨some 164, .fieldAddr 2 (.tmp 163), none, false⟩, []),
          (⟨some 165, .load false 1 (.tmp 164), none, false⟩, []),
          (⟨some 166, .len .slice (.tmp 165), none, false⟩, []),
          (⟨some 167, .bin .sub (.tmp 166) (.const (.int .i64 1)), none, false⟩, []),
          (⟨some 168, .slice 1 (.tmp 161) none (some (.tmp 167)), none, false⟩, []),
          (⟨some 169, .nilCheck (.tmp 157), none, false⟩, []),
          (⟨some 170, .fieldAddr 2 (.tmp 169), none, false⟩, []),
          (⟨none, .store 1 (.tmp 170) (.tmp 168), none, false⟩, [])] [8, 13])
        (.ops [
          ⟨some 171, .mov (.tmp 8), none, false⟩,
          ⟨some 172, .mov (.tmp 13), none, false⟩,
          ⟨some 173, .call 72 [(.tmp 171), (.tmp 172)], none, false⟩] [8])))))))
  (.seq (.seq (.ops [
    ⟨some 174, .mov (.tmp 8), none, false⟩,
    ⟨some 175, .nilCheck (.tmp 174), none, false⟩,
    ⟨some 176, .fieldAddr 3 (.tmp 175), none, false⟩,
    ⟨some 177, .load false 1 (.tmp 176), none, false⟩] [8, 177])
  (.cond (.tmp 177)
  (.seq (.ops [
      ⟨some 2, .mov (.const (.pointer none)), none, false⟩,
      ⟨some 3, .mov (.const (.int .i64 3)), none, false⟩] [2, 3])
    .ret)
  .skip))
  (.seq (.ops [
    ⟨some 178, .mov (.tmp 8), none, false⟩,
    ⟨some 2, .mov (.tmp 178), none, false⟩,
    ⟨some 3, .mov (.const (.int .i64 0)), none, false⟩] [2, 3])
  .ret))))))))))⟩
/-- scribe/scriberef15.all -/
def af44 : AFunc := ⟨1, [.tmp 2, .tmp 3],
  (.seq (.ops [
    ⟨some 1, .boxL 0 9 (.tmp 0), none, false⟩,
    ⟨some 2, .mov (.const (.slice none 0 0)), none, false⟩,
    ⟨some 3, .mov (.const (.bool false)), none, false⟩] [1])
  (.seq (.ops [
    ⟨some 16, .buildSlice true 9 1 8 [.str []] [(0, (.const (.string ⟨#[78, 82]⟩))), (1, (.const (.string ⟨#[78, 70]⟩))), (2, (.const (.string ⟨#[70, 83]⟩))), (3, (.const (.string ⟨#[79, 70, 83]⟩))), (4, (.const (.string ⟨#[79, 82, 83]⟩))), (5, (.const (.string ⟨#[70, 73, 76, 69, 78, 65, 77, 69]⟩))), (6, (.const (.string ⟨#[82, 83, 84, 65, 82, 84]⟩))), (7, (.const (.string ⟨#[82, 76, 69, 78, 71, 84, 72]⟩)))], none, false⟩,
    ⟨some 4, .mov (.tmp 16), none, false⟩] [1, 4])
  (.seq (.seq (.ops [
    ⟨some 17, .fieldL 0 (.tmp 1), none, false⟩,
    ⟨some 18, .loadL false 1 (.tmp 17), none, false⟩,
    ⟨some 19, .len .slice (.tmp 18), none, false⟩,
    ⟨some 20, .bin .gtr (.tmp 19) (.const (.int .i64 20000)), none, false⟩,
    ⟨some 21, .mov (.tmp 20), none, false⟩,
    ⟨some 22, .fieldL 4 (.tmp 1), some (21, false), false⟩,
    ⟨some 23, .loadL false 1 (.tmp 22), some (21, false), false⟩,
    ⟨some 24, .len .slice (.tmp 23), some (21, false), false⟩,
    ⟨some 25, .fieldL 5 (.tmp 1), some (21, false), false⟩,
    ⟨some 26, .loadL false 1 (.tmp 25), some (21, false), false⟩,
    ⟨some 27, .len .slice (.tmp 26), some (21, false), false⟩,
    ⟨some 28, .bin .neq (.tmp 24) (.tmp 27), some (21, false), false⟩,
    ⟨some 29, .pick (.tmp 21) (.const (.bool true)) (.tmp 28), none, false⟩,
    ⟨some 30, .mov (.tmp 29), none, false⟩,
    ⟨some 31, .fieldL 4 (.tmp 1), some (30, false), false⟩,
    ⟨some 32, .loadL false 1 (.tmp 31), some (30, false), false⟩,
    ⟨some 33, .len .slice (.tmp 32), some (30, false), false⟩,
    ⟨some 34, .bin .lss (.tmp 33) (.const (.int .i64 8)), some (30, false), false⟩,
    ⟨some 35, .pick (.tmp 30) (.const (.bool true)) (.tmp 34), none, false⟩] [1, 4, 35])
  (.cond (.tmp 35)
  (.seq (.ops [
      ⟨some 2, .mov (.const (.slice none 0 0)), none, false⟩,
      ⟨some 3, .mov (.const (.bool false)), none, false⟩] [2, 3])
    .ret)
  .skip))
  (.seq (.seq (.ops [
    ⟨some 36, .mov (.tmp 4), none, false⟩,
    ⟨some 37, .len .slice (.tmp 36), none, false⟩,
    ⟨some 38, .mov (.const (.int .i64 0)), none, false⟩] [1, 36, 37, 38])
  (.block 0
  (.loop [1, 36, 37, 38]
    (.seq (.ops [
        ⟨some 39, .bin .lss (.tmp 38) (.tmp 37), none, false⟩] [1, 36, 37, 38, 39])
      (.seq (.cond (.tmp 39)
      .skip
      (.exit 0))
      (.seq (.block 1
      (.seq (.ops [
          ⟨some 40, .mov (.tmp 38), none, false⟩,
          ⟨some 41, .indexAddr 1 (.tmp 36) (.tmp 38), none, false⟩,
          ⟨some 42, .load false 1 (.tmp 41), none, false⟩,
          ⟨some 5, .mov (.tmp 40), none, false⟩,
          ⟨some 6, .mov (.tmp 42), none, false⟩] [1, 5, 6, 36, 37, 38])
        (.seq (.ops [
          ⟨some 43, .fieldL 4 (.tmp 1), none, false⟩,
          ⟨some 44, .loadL false 1 (.tmp 43), none, false⟩,
          ⟨some 45, .mov (.tmp 5), none, false⟩,
          ⟨some 46, .indexAddr 1 (.tmp 44) (.tmp 45), none, false⟩,
          ⟨some 47, .load false 1 (.tmp 46), none, false⟩,
          ⟨some 48, .mov (.tmp 6), none, false⟩,
          ⟨some 49, .bin .neq (.tmp 47) (.tmp 48), none, false⟩,
          ⟨some 50, .mov (.tmp 49), none, false⟩,
          ⟨some 51, .fieldL 5 (.tmp 1), some (50, false), false⟩,
          ⟨some 52, .loadL false 1 (.tmp 51), some (50, false), false⟩,
          ⟨some 53, .mov (.tmp 5), some (50, false), false⟩,
          ⟨some 54, .indexAddr 1 (.tmp 52) (.tmp 53), some (50, false), false⟩,
          ⟨some 55, .load false 1 (.tmp 54), some (50, false), false⟩,
          ⟨some 56, .pick (.tmp 50) (.const (.bool true)) (.tmp 55), none, false⟩] [1, 36, 37, 38, 56])
        (.cond (.tmp 56)
        (.seq (.ops [
            ⟨some 2, .mov (.const (.slice none 0 0)), none, false⟩,
            ⟨some 3, .mov (.const (.bool false)), none, false⟩] [2, 3])
          .ret)
        .skip))))
      (.ops [
        ⟨some 57, .bin .add (.tmp 38) (.const (.int .i64 1)), none, false⟩,
        ⟨some 38, .mov (.tmp 57), none, false⟩] [1, 36, 37, 38])))))))
  (.seq (.seq (.ops [
    ⟨some 58, .fieldL 1 (.tmp 1), none, false⟩,
    ⟨some 59, .loadL false 1 (.tmp 58), none, false⟩,
    ⟨some 60, .len .slice (.tmp 59), none, false⟩,
    ⟨some 61, .mov (.const (.int .i64 0)), none, false⟩] [1, 59, 60, 61])
  (.block 2
  (.loop [1, 59, 60, 61]
    (.seq (.ops [
        ⟨some 62, .bin .lss (.tmp 61) (.tmp 60), none, false⟩] [1, 59, 60, 61, 62])
      (.seq (.cond (.tmp 62)
      .skip
      (.exit 2))
      (.seq (.block 3
      (.seq (.ops [
          ⟨some 63, .indexAddr 1 (.tmp 59) (.tmp 61), none, false⟩,
          ⟨some 64, .load false 1 (.tmp 63), none, false⟩,
          ⟨some 8, .mov (.tmp 64), none, false⟩] [1, 8, 59, 60, 61])
        (.seq (.ops [
          ⟨some 65, .mov (.tmp 8), none, false⟩,
          ⟨some 66, .bin .lss (.tmp 65) (.const (.int .i64 (-4611686018427387903))), none, false⟩,
          ⟨some 67, .mov (.tmp 66), none, false⟩,
          ⟨some 68, .mov (.tmp 8), some (67, false), false⟩,
          ⟨some 69, .bin .gtr (.tmp 68) (.const (.int .i64 4611686018427387903)), some (67, false), false⟩,
          ⟨some 70, .pick (.tmp 67) (.const (.bool true)) (.tmp 69), none, false⟩] [1, 59, 60, 61, 70])
        (.cond (.tmp 70)
        (.seq (.ops [
            ⟨some 2, .mov (.const (.slice none 0 0)), none, false⟩,
            ⟨some 3, .mov (.const (.bool false)), none, false⟩] [2, 3])
          .ret)
        .skip))))
      (.ops [
        ⟨some 71, .bin .add (.tmp 61) (.const (.int .i64 1)), none, false⟩,
        ⟨some 61, .mov (.tmp 71), none, false⟩] [1, 59, 60, 61])))))))
  (.seq (.ops [
    ⟨some 72, .fieldL 0 (.tmp 1), none, false⟩,
    ⟨some 73, .loadL false 1 (.tmp 72), none, false⟩,
    ⟨some 74, .len .slice (.tmp 73), none, false⟩,
    ⟨some 75, .makeSlice 82 4 40 [.bool false, .int .i64 0, .int .i64 0, .str []] (.tmp 74) (.tmp 74), none, false⟩,
    ⟨some 9, .mov (.tmp 75), none, false⟩] [1, 9])
  (.seq (.ops [
    ⟨some 76, .fieldL 0 (.tmp 1), none, false⟩,
    ⟨some 77, .loadL false 1 (.tmp 76), none, false⟩,
    ⟨some 78, .len .slice (.tmp 77), none, false⟩,
    ⟨some 79, .makeSlice 4 1 1 [.bool false] (.tmp 78) (.tmp 78), none, false⟩,
    ⟨some 10, .mov (.tmp 79), none, false⟩] [1, 9, 10])
  (.seq (.seq (.ops [
    ⟨some 80, .mov (.tmp 9), none, false⟩,
    ⟨some 81, .fieldL 6 (.tmp 1), none, false⟩,
    ⟨some 82, .loadL false 1 (.tmp 81), none, false⟩,
    ⟨some 83, .build [.bool false, .int .i64 0, .int .i64 0, .str []] [(0, 1, (.const (.bool true)))], none, false⟩,
    ⟨some 84, .call 73 [(.tmp 80), (.tmp 82), (.tmp 83)], none, false⟩,
    ⟨some 85, .un .not (.tmp 84), none, false⟩,
    ⟨some 86, .mov (.tmp 85), none, false⟩,
    ⟨some 87, .mov (.tmp 9), some (86, false), false⟩,
    ⟨some 88, .fieldL 7 (.tmp 1), some (86, false), false⟩,
    ⟨some 89, .loadL false 1 (.tmp 88), some (86, false), false⟩,
    ⟨some 90, .build [.bool false, .int .i64 0, .int .i64 0, .str []] [(0, 1, (.const (.bool true))), (1, 1, (.const (.int .i64 1)))], some (86, false), false⟩,
    ⟨some 91, .call 73 [(.tmp 87), (.tmp 89), (.tmp 90)], some (86, false), false⟩,
    ⟨some 92, .un .not (.tmp 91), some (86, false), false⟩,
    ⟨some 93, .pick (.tmp 86) (.const (.bool true)) (.tmp 92), none, false⟩,
    ⟨some 94, .mov (.tmp 93), none, false⟩,
    ⟨some 95, .mov (.tmp 9), some (94, false), false⟩,
    ⟨some 96, .fieldL 8 (.tmp 1), some (94, false), false⟩,
    ⟨some 97, .loadL false 1 (.tmp 96), some (94, false), false⟩,
    ⟨some 98, .build [.bool false, .int .i64 0, .int .i64 0, .str []] [(0, 1, (.const (.bool true))), (1, 1, (.const (.int .i64 2)))], some (94, false), false⟩,
    ⟨some 99, .call 73 [(.tmp 95), (.tmp 97), (.tmp 98)], some (94, false), false⟩,
    ⟨some 100, .un .not (.tmp 99), some (94, false), false⟩,
    ⟨some 101, .pick (.tmp 94) (.const (.bool true)) (.tmp 100), none, false⟩] [1, 9, 10, 101])
  (.cond (.tmp 101)
  (.seq (.ops [
      ⟨some 2, .mov (.const (.slice none 0 0)), none, false⟩,
      ⟨some 3, .mov (.const (.bool false)), none, false⟩] [2, 3])
    .ret)
  .skip))
  (.seq (.seq (.ops [
    ⟨some 102, .fieldL 3 (.tmp 1), none, false⟩,
    ⟨some 103, .loadL false 1 (.tmp 102), none, false⟩,
    ⟨some 104, .len .slice (.tmp 103), none, false⟩,
    ⟨some 105, .mov (.const (.int .i64 0)), none, false⟩] [1, 9, 10, 103, 104, 105])
  (.block 4
  (.loop [1, 9, 10, 103, 104, 105]
    (.seq (.ops [
        ⟨some 106, .bin .lss (.tmp 105) (.tmp 104), none, false⟩] [1, 9, 10, 103, 104, 105, 106])
      (.seq (.cond (.tmp 106)
      .skip
      (.exit 4))
      (.seq (.block 5
      (.seq (.ops [
          ⟨some 107, .mov (.tmp 105), none, false⟩,
          ⟨some 108, .indexAddr 2 (.tmp 103) (.tmp 105), none, false⟩,
          ⟨some 109, .load true 2 (.tmp 108), none, false⟩,
          ⟨some 12, .allocL 0 [.int .i64 0, .nilSlice], none, false⟩,
          ⟨some 11, .mov (.tmp 107), none, false⟩,
          ⟨none, .storeL 2 (.tmp 12) (.tmp 109), none, false⟩] [1, 9, 10, 11, 12, 103, 104, 105])
        (.seq (.ops [
          ⟨some 110, .mov (.tmp 9), none, false⟩,
          ⟨some 111, .fieldL 0 (.tmp 12), none, false⟩,
          ⟨some 112, .loadL false 1 (.tmp 111), none, false⟩,
          ⟨some 113, .mov (.tmp 11), none, false⟩,
          ⟨some 114, .bin .add (.const (.int .i64 3)) (.tmp 113), none, false⟩,
          ⟨some 115, .build [.bool false, .int .i64 0, .int .i64 0, .str []] [(0, 1, (.const (.bool true))), (1, 1, (.tmp 114))], none, false⟩,
          ⟨some 116, .call 73 [(.tmp 110), (.tmp 112), (.tmp 115)], none, false⟩,
          ⟨some 117, .un .not (.tmp 116), none, false⟩] [1, 9, 10, 103, 104, 105, 117])
        (.cond (.tmp 117)
        (.seq (.ops [
            ⟨some 2, .mov (.const (.slice none 0 0)), none, false⟩,
            ⟨some 3, .mov (.const (.bool false)), none, false⟩] [2, 3])
          .ret)
        .skip))))
      (.ops [
        ⟨some 118, .bin .add (.tmp 105) (.const (.int .i64 1)), none, false⟩,
        ⟨some 105, .mov (.tmp 118), none, false⟩] [1, 9, 10, 103, 104, 105])))))))
  (.seq (.seq (.ops [
    ⟨some 13, .mov (.const (.int .i64 0)), none, false⟩] [1, 9, 10, 13])
  (.block 6
  (.loop [1, 9, 10, 13]
    (.seq (.seq (.ops [
        ⟨some 119, .mov (.tmp 13), none, false⟩,
        ⟨some 120, .mov (.tmp 9), none, false⟩,
        ⟨some 121, .len .slice (.tmp 120), none, false⟩,
        ⟨some 122, .bin .leq (.tmp 119) (.tmp 121), none, false⟩] [1, 9, 10, 13, 122])
      (.cond (.tmp 122)
      .skip
      (.exit 6)))
      (.seq (.block 7
      (.seq (.ops [
          ⟨some 14, .mov (.const (.bool false)), none, false⟩] [1, 9, 10, 13, 14])
        (.seq (.seq (.ops [
          ⟨some 125, .mov (.tmp 9), none, false⟩,
          ⟨some 126, .len .slice (.tmp 125), none, false⟩,
          ⟨some 127, .mov (.const (.int .i64 0)), none, false⟩] [1, 9, 10, 13, 14, 126, 127])
        (.block 8
        (.loop [1, 9, 10, 13, 14, 126, 127]
          (.seq (.ops [
              ⟨some 128, .bin .lss (.tmp 127) (.tmp 126), none, false⟩] [1, 9, 10, 13, 14, 126, 127, 128])
            (.seq (.cond (.tmp 128)
            .skip
            (.exit 8))
            (.seq (.block 9
            (.seq (.ops [
                ⟨some 129, .mov (.tmp 127), none, false⟩,
                ⟨some 15, .mov (.tmp 129), none, false⟩] [1, 9, 10, 13, 14, 15, 126, 127])
              (.seq (.ops [
                ⟨some 130, .mov (.tmp 9), none, false⟩,
                ⟨some 131, .mov (.tmp 15), none, false⟩,
                ⟨some 132, .indexAddr 4 (.tmp 130) (.tmp 131), none, false⟩,
                ⟨some 133, .fieldAddr 0 (.tmp 132), none, false⟩,
                ⟨some 134, .load false 1 (.tmp 133), none, false⟩,
                ⟨some 135, .mov (.tmp 134), none, false⟩,
                ⟨some 136, .mov (.tmp 10), some (135, true), false⟩,
                ⟨some 137, .mov (.tmp 15), some (135, true), false⟩,
                ⟨some 138, .indexAddr 1 (.tmp 136) (.tmp 137), some (135, true), false⟩,
                ⟨some 139, .load false 1 (.tmp 138), some (135, true), false⟩,
                ⟨some 140, .un .not (.tmp 139), some (135, true), false⟩,
                ⟨some 141, .pick (.tmp 135) (.tmp 140) (.const (.bool false)), none, false⟩] [1, 9, 10, 13, 14, 15, 126, 127, 141])
              (.cond (.tmp 141)
              (.seq (.ops [
                  ⟨some 142, .mov (.tmp 10), none, false⟩,
                  ⟨some 143, .mov (.tmp 15), none, false⟩,
                  ⟨some 144, .indexAddr 1 (.tmp 142) (.tmp 143), none, false⟩,
                  ⟨none, .store 1 (.tmp 144) (.const (.bool true)), none, false⟩] [1, 9, 10, 13, 15, 126, 127])
                (.seq (.ops [
                  ⟨some 14, .mov (.const (.bool true)), none, false⟩] [1, 9, 10, 13, 14, 15, 126, 127])
                (.seq (.ops [
                  ⟨some 145, .loadL true 9 (.tmp 1), none, false⟩,
                  ⟨some 146, .mov (.tmp 9), none, false⟩,
                  ⟨some 147, .mov (.tmp 15), none, false⟩,
                  ⟨some 148, .call 74 [(.tmp 145), (.tmp 146), (.tmp 147)], none, false⟩,
                  ⟨some 149, .un .not (.tmp 148), none, false⟩] [1, 9, 10, 13, 14, 126, 127, 149])
                (.cond (.tmp 149)
                (.seq (.ops [
                    ⟨some 2, .mov (.const (.slice none 0 0)), none, false⟩,
                    ⟨some 3, .mov (.const (.bool false)), none, false⟩] [2, 3])
                  .ret)
                .skip))))
              .skip))))
            (.ops [
              ⟨some 150, .bin .add (.tmp 127) (.const (.int .i64 1)), none, false⟩,
              ⟨some 127, .mov (.tmp 150), none, false⟩] [1, 9, 10, 13, 14, 126, 127])))))))
        (.seq (.ops [
          ⟨some 151, .mov (.tmp 14), none, false⟩,
          ⟨some 152, .un .not (.tmp 151), none, false⟩] [1, 9, 10, 13, 152])
        (.cond (.tmp 152)
        (.exit 6)
        .skip)))))
      (.ops [
        ⟨some 123, .mov (.tmp 13), none, false⟩,
        ⟨some 124, .bin .add (.tmp 123) (.const (.int .i64 1)), none, false⟩,
        ⟨some 13, .mov (.tmp 124), none, false⟩] [1, 9, 10, 13]))))))
  (.seq (.ops [
    ⟨some 153, .mov (.tmp 9), none, false⟩,
    ⟨some 2, .mov (.tmp 153), none, false⟩,
    ⟨some 3, .mov (.const (.bool true)), none, false⟩] [2, 3])
  .ret)))))))))))⟩
/-- scribe/scribelaw15.special -/
def af45 : AFunc := ⟨0, [.tmp 0],
  (.seq (.ops [
    ⟨some 0, .mov (.const (.slice none 0 0)), none, false⟩] [])
  (.seq (.ops [
    ⟨some 1, .buildSlice true 9 1 8 [.str []] [(0, (.const (.string ⟨#[78, 82]⟩))), (1, (.const (.string ⟨#[78, 70]⟩))), (2, (.const (.string ⟨#[70, 83]⟩))), (3, (.const (.string ⟨#[79, 70, 83]⟩))), (4, (.const (.string ⟨#[79, 82, 83]⟩))), (5, (.const (.string ⟨#[70, 73, 76, 69, 78, 65, 77, 69]⟩))), (6, (.const (.string ⟨#[82, 83, 84, 65, 82, 84]⟩))), (7, (.const (.string ⟨#[82, 76, 69, 78, 71, 84, 72]⟩)))], none, false⟩,
    ⟨some 0, .mov (.tmp 1), none, false⟩] [0])
  .ret))⟩
/-- (*scribe/lex.lexer).next -/
def af46 : AFunc := ⟨1, [.tmp 2],
  (.seq (.ops [
    ⟨some 2, .mov (.const (.int .i64 0)), none, false⟩] [0])
  (.seq (.opsD [
    (⟨some 4, .mov (.tmp 0), none, false⟩, []),
    (⟨some 5, .nilCheck (.tmp 4), none, false⟩, []),
    (⟨some 6, .fieldAddr 0 (.tmp 5), none, false⟩, []),
    (⟨some 7, .load false 1 (.tmp 6), none, false⟩, []),
    (⟨some 8, .mov (.tmp 0), none, false⟩, []),
    (⟨some 9, .nilCheck (.tmp 8), none, false⟩, []),
    (⟨some 10, .fieldAddr 1 (.tmp 9), none, false⟩, []),
    (⟨some 11, .load false 1 (.tmp 10), none, false⟩, []),
    (⟨some 12, .indexStr (.tmp 7) (.tmp 11), none, false⟩, []),
    (⟨some 3, .mov (.tmp 12), none, false⟩, [])] [0, 3])
  (.seq (.block 0
  (.seq (.seq (.ops [
      ⟨some 16, .mov (.tmp 3), none, false⟩,
      ⟨some 17, .bin .eql (.tmp 16) (.const (.int .u8 32)), none, false⟩,
      ⟨some 15, .mov (.tmp 17), none, false⟩] [0, 3, 15])
    (.cond (.tmp 15)
    .skip
    (.seq (.ops [
        ⟨some 18, .mov (.tmp 3), none, false⟩,
        ⟨some 19, .bin .eql (.tmp 18) (.const (.int .u8 9)), none, false⟩,
        ⟨some 15, .mov (.tmp 19), none, false⟩] [0, 3, 15])
      (.cond (.tmp 15)
      .skip
      (.ops [
          ⟨some 20, .mov (.tmp 3), none, false⟩,
          ⟨some 21, .bin .eql (.tmp 20) (.const (.int .u8 13)), none, false⟩,
          ⟨some 15, .mov (.tmp 21), none, false⟩] [0, 3, 15])))))
    (.cond (.tmp 15)
    (.ops [
        ⟨some 22, .mov (.tmp 0), none, false⟩,
        ⟨some 23, .nilCheck (.tmp 22), none, false⟩,
        ⟨some 24, .fieldAddr 1 (.tmp 23), none, false⟩,
        ⟨some 25, .load false 1 (.tmp 24), none, false⟩,
        ⟨some 26, .bin .add (.tmp 25) (.const (.int .i64 1)), none, false⟩,
        ⟨some 27, .nilCheck (.tmp 22), none, false⟩,
        ⟨some 28, .fieldAddr 1 (.tmp 27), none, false⟩,
        ⟨none, .store 1 (.tmp 28) (.tmp 26), none, false⟩] [])
    (.seq (.ops [
        ⟨some 30, .mov (.tmp 3), none, false⟩,
        ⟨some 31, .bin .eql (.tmp 30) (.const (.int .u8 35)), none, false⟩,
        ⟨some 29, .mov (.tmp 31), none, false⟩] [0, 3, 29])
      (.cond (.tmp 29)
      (.ops [
          ⟨some 32, .mov (.tmp 0), none, false⟩,
          ⟨some 33, .call 75 [(.tmp 32), (.func 76)], none, false⟩] [])
      (.seq (.ops [
          ⟨some 35, .mov (.tmp 3), none, false⟩,
          ⟨some 36, .bin .eql (.tmp 35) (.const (.int .u8 92)), none, false⟩,
          ⟨some 37, .mov (.tmp 36), none, false⟩,
          ⟨some 38, .mov (.tmp 0), some (37, true), false⟩,
          ⟨some 39, .call 77 [(.tmp 38), (.const (.int .i64 1))], some (37, true), false⟩,
          ⟨some 40, .bin .eql (.tmp 39) (.const (.int .u8 10)), some (37, true), false⟩,
          ⟨some 41, .pick (.tmp 37) (.tmp 40) (.const (.bool false)), none, false⟩,
          ⟨some 34, .mov (.tmp 41), none, false⟩] [0, 3, 34])
        (.cond (.tmp 34)
        (.ops [
            ⟨some 42, .mov (.tmp 0), none, false⟩,
            ⟨some 43, .nilCheck (.tmp 42), none, false⟩,
            ⟨some 44, .fieldAddr 1 (.tmp 43), none, false⟩,
            ⟨some 45, .load false 1 (.tmp 44), none, false⟩,
            ⟨some 46, .bin .add (.tmp 45) (.const (.int .i64 2)), none, false⟩,
            ⟨some 47, .nilCheck (.tmp 42), none, false⟩,
            ⟨some 48, .fieldAddr 1 (.tmp 47), none, false⟩,
            ⟨none, .store 1 (.tmp 48) (.tmp 46), none, false⟩] [])
        (.seq (.ops [
            ⟨some 50, .mov (.tmp 3), none, false⟩,
            ⟨some 51, .bin .eql (.tmp 50) (.const (.int .u8 10)), none, false⟩,
            ⟨some 49, .mov (.tmp 51), none, false⟩] [0, 3, 49])
          (.cond (.tmp 49)
          (.seq (.ops [
              ⟨some 52, .mov (.tmp 0), none, false⟩,
              ⟨some 53, .mov (.tmp 0), none, false⟩,
              ⟨some 54, .nilCheck (.tmp 53), none, false⟩,
              ⟨some 55, .fieldAddr 1 (.tmp 54), none, false⟩,
              ⟨some 56, .load false 1 (.tmp 55), none, false⟩,
              ⟨some 57, .call 47 [(.tmp 52), (.const (.int .i64 1)), (.const (.string ⟨#[]⟩)), (.tmp 56)], none, false⟩] [0])
            (.ops [
              ⟨some 58, .mov (.tmp 0), none, false⟩,
              ⟨some 59, .nilCheck (.tmp 58), none, false⟩,
              ⟨some 60, .fieldAddr 1 (.tmp 59), none, false⟩,
              ⟨some 61, .load false 1 (.tmp 60), none, false⟩,
              ⟨some 62, .bin .add (.tmp 61) (.const (.int .i64 1)), none, false⟩,
              ⟨some 63, .nilCheck (.tmp 58), none, false⟩,
              ⟨some 64, .fieldAddr 1 (.tmp 63), none, false⟩,
              ⟨none, .store 1 (.tmp 64) (.tmp 62), none, false⟩] []))
          (.seq (.seq (.ops [
              ⟨some 66, .mov (.tmp 3), none, false⟩,
              ⟨some 67, .call 78 [(.tmp 66)], none, false⟩,
              ⟨some 65, .mov (.tmp 67), none, false⟩] [0, 3, 65])
            (.cond (.tmp 65)
            .skip
            (.ops [
                ⟨some 68, .mov (.tmp 3), none, false⟩,
                ⟨some 69, .bin .eql (.tmp 68) (.const (.int .u8 46)), none, false⟩,
                ⟨some 70, .mov (.tmp 69), none, false⟩,
                ⟨some 71, .mov (.tmp 0), some (70, true), false⟩,
                ⟨some 72, .call 77 [(.tmp 71), (.const (.int .i64 1))], some (70, true), false⟩,
                ⟨some 73, .call 78 [(.tmp 72)], some (70, true), false⟩,
                ⟨some 74, .pick (.tmp 70) (.tmp 73) (.const (.bool false)), none, false⟩,
                ⟨some 65, .mov (.tmp 74), none, false⟩] [0, 3, 65])))
            (.cond (.tmp 65)
            (.ops [
                ⟨some 75, .mov (.tmp 0), none, false⟩,
                ⟨some 76, .call 79 [(.tmp 75)], none, false⟩] [])
            (.seq (.ops [
                ⟨some 78, .mov (.tmp 3), none, false⟩,
                ⟨some 79, .call 80 [(.tmp 78)], none, false⟩,
                ⟨some 77, .mov (.tmp 79), none, false⟩] [0, 3, 77])
              (.cond (.tmp 77)
              (.ops [
                  ⟨some 80, .mov (.tmp 0), none, false⟩,
                  ⟨some 81, .call 81 [(.tmp 80)], none, false⟩] [])
              (.seq (.ops [
                  ⟨some 83, .mov (.tmp 3), none, false⟩,
                  ⟨some 84, .bin .eql (.tmp 83) (.const (.int .u8 34)), none, false⟩,
                  ⟨some 82, .mov (.tmp 84), none, false⟩] [0, 3, 82])
                (.cond (.tmp 82)
                (.seq (.ops [
                    ⟨some 85, .mov (.tmp 0), none, false⟩,
                    ⟨some 86, .call 82 [(.tmp 85), (.const (.int .i64 3)), (.const (.int .u8 34)), (.func 83)], none, false⟩,
                    ⟨some 2, .mov (.tmp 86), none, false⟩] [2])
                  .ret)
                (.seq (.ops [
                    ⟨some 88, .mov (.tmp 3), none, false⟩,
                    ⟨some 89, .bin .eql (.tmp 88) (.const (.int .u8 47)), none, false⟩,
                    ⟨some 90, .mov (.tmp 89), none, false⟩,
                    ⟨some 91, .mov (.tmp 0), some (90, true), false⟩,
                    ⟨some 92, .call 84 [(.tmp 91)], some (90, true), false⟩,
                    ⟨some 93, .pick (.tmp 90) (.tmp 92) (.const (.bool false)), none, false⟩,
                    ⟨some 87, .mov (.tmp 93), none, false⟩] [0, 87])
                  (.cond (.tmp 87)
                  (.seq (.ops [
                      ⟨some 94, .mov (.tmp 0), none, false⟩,
                      ⟨some 95, .call 82 [(.tmp 94), (.const (.int .i64 4)), (.const (.int .u8 47)), (.func 85)], none, false⟩,
                      ⟨some 2, .mov (.tmp 95), none, false⟩] [2])
                    .ret)
                  (.seq (.ops [
                      ⟨some 13, .mov (.tmp 0), none, false⟩,
                      ⟨some 14, .call 86 [(.tmp 13)], none, false⟩,
                      ⟨some 2, .mov (.tmp 14), none, false⟩] [2])
                    .ret))))))))))))))))))
  (.seq (.ops [
    ⟨some 2, .mov (.const (.int .i64 0)), none, false⟩] [2])
  .ret))))⟩
/-- (*scribe/lex.lexer).put -/
def af47 : AFunc := ⟨4, [],
  (.ops [
    ⟨some 8, .mov (.tmp 0), none, false⟩,
    ⟨some 9, .mov (.tmp 0), none, false⟩,
    ⟨some 10, .nilCheck (.tmp 9), none, false⟩,
    ⟨some 11, .fieldAddr 2 (.tmp 10), none, false⟩,
    ⟨some 12, .load false 1 (.tmp 11), none, false⟩,
    ⟨some 13, .mov (.tmp 1), none, false⟩,
    ⟨some 14, .mov (.tmp 2), none, false⟩,
    ⟨some 15, .mov (.tmp 3), none, false⟩,
    ⟨some 16, .build [.int .i64 0, .str [], .int .i64 0] [(0, 1, (.tmp 13)), (1, 1, (.tmp 14)), (2, 1, (.tmp 15))], none, false⟩,
    ⟨some 17, .buildSlice true 95 3 1 [.int .i64 0, .str [], .int .i64 0] [(0, (.tmp 16))], none, false⟩,
    ⟨some 18, .append false 95 3 32 (.tmp 12) (.tmp 17), none, false⟩,
    ⟨some 19, .nilCheck (.tmp 8), none, false⟩,
    ⟨some 20, .fieldAddr 2 (.tmp 19), none, false⟩,
    ⟨none, .store 1 (.tmp 20) (.tmp 18), none, false⟩] [])⟩
/-- slices.Contains[[]string,string] -/
def af48 : AFunc := ⟨2, [.tmp 4],
  (.seq (.ops [
    ⟨some 4, .mov (.const (.bool false)), none, false⟩] [0, 1])
  (.seq (.ops [
    ⟨some 5, .mov (.tmp 0), none, false⟩,
    ⟨some 6, .mov (.tmp 1), none, false⟩,
    ⟨some 7, .call 87 [(.tmp 5), (.tmp 6)], none, false⟩,
    ⟨some 8, .bin .geq (.tmp 7) (.const (.int .i64 0)), none, false⟩,
    ⟨some 4, .mov (.tmp 8), none, false⟩] [4])
  .ret))⟩
/-- (*scribe/parse.parser).accept -/
def af49 : AFunc := ⟨2, [.tmp 4],
  (.seq (.ops [
    ⟨some 4, .mov (.const (.bool false)), none, false⟩] [0, 1])
  (.seq (.seq (.ops [
    ⟨some 5, .mov (.tmp 0), none, false⟩,
    ⟨some 6, .mov (.tmp 1), none, false⟩,
    ⟨some 7, .buildSlice true 9 1 1 [.str []] [(0, (.tmp 6))], none, false⟩,
    ⟨some 8, .call 29 [(.tmp 5), (.tmp 7)], none, false⟩,
    ⟨some 9, .un .not (.tmp 8), none, false⟩] [0, 9])
  (.cond (.tmp 9)
  (.seq (.ops [
      ⟨some 4, .mov (.const (.bool false)), none, false⟩] [4])
    .ret)
  .skip))
  (.seq (.ops [
    ⟨some 10, .mov (.tmp 0), none, false⟩,
    ⟨some 11, .call 31 [(.tmp 10)], none, false⟩] [])
  (.seq (.ops [
    ⟨some 4, .mov (.const (.bool true)), none, false⟩] [4])
  .ret))))⟩
/-- (*scribe/parse.parser).block -/
def af50 : AFunc := ⟨1, [.cellL true 4 2],
  (.seq (.ops [
    ⟨some 2, .allocL 0 [.str [], .str [], .int .i64 0, .nilSlice], none, false⟩] [0, 2])
  (.seq (.ops [
    ⟨some 4, .call 28 [(.const (.string ⟨#[98, 108, 111, 99, 107]⟩)), (.const (.slice none 0 0))], none, false⟩,
    ⟨some 3, .allocL 0 [.str [], .str [], .int .i64 0, .nilSlice], none, false⟩,
    ⟨none, .storeL 4 (.tmp 3) (.tmp 4), none, false⟩] [0, 2, 3])
  (.seq (.ops [
    ⟨some 5, .mov (.tmp 0), none, false⟩,
    ⟨some 6, .call 53 [(.tmp 5), (.const (.string ⟨#[123]⟩))], none, false⟩] [0, 2, 3])
  (.seq (.block 0
  (.loop [0, 2, 3]
    (.seq (.seq (.ops [
        ⟨some 7, .mov (.tmp 0), none, false⟩,
        ⟨some 8, .nilCheck (.tmp 7), none, false⟩,
        ⟨some 9, .fieldAddr 4 (.tmp 8), none, false⟩,
        ⟨some 10, .load false 1 (.tmp 9), none, false⟩,
        ⟨some 11, .bin .eql (.tmp 10) (.const (.int .i64 0)), none, false⟩] [0, 2, 3, 11])
      (.cond (.tmp 11)
      .skip
      (.exit 0)))
      (.block 1
      (.seq (.block 2
        (.loop [0, 2, 3]
          (.seq (.seq (.ops [
              ⟨some 12, .mov (.tmp 0), none, false⟩,
              ⟨some 13, .buildSlice true 9 1 1 [.str []] [(0, (.const (.string ⟨#[59]⟩)))], none, false⟩,
              ⟨some 14, .call 29 [(.tmp 12), (.tmp 13)], none, false⟩,
              ⟨some 15, .mov (.tmp 14), none, false⟩,
              ⟨some 16, .mov (.tmp 0), some (15, false), false⟩,
              ⟨some 17, .call 30 [(.tmp 16)], some (15, false), false⟩,
              ⟨some 18, .field false 1 0 (.tmp 17), some (15, false), false⟩,
              ⟨some 19, .bin .eql (.tmp 18) (.const (.int .i64 1)), some (15, false), false⟩,
              ⟨some 20, .pick (.tmp 15) (.const (.bool true)) (.tmp 19), none, false⟩] [0, 2, 3, 20])
            (.cond (.tmp 20)
            .skip
            (.exit 2)))
            (.block 3
            (.ops [
                ⟨some 21, .mov (.tmp 0), none, false⟩,
                ⟨some 22, .call 31 [(.tmp 21)], none, false⟩] [0, 2, 3])))))
        (.seq (.seq (.ops [
          ⟨some 23, .mov (.tmp 0), none, false⟩,
          ⟨some 24, .call 49 [(.tmp 23), (.const (.string ⟨#[125]⟩))], none, false⟩] [0, 2, 3, 24])
        (.cond (.tmp 24)
        (.exit 0)
        .skip))
        (.opsD [
          (⟨some 25, .fieldL 3 (.tmp 3), none, false⟩, []),
          (⟨some 26, .loadL false 1 (.tmp 25), none, false⟩, []),
          (⟨some 27, .mov (.tmp 0), none, false⟩, []),
          (⟨some 28, .call 88 [(.tmp 27)], none, false⟩, []),
          (⟨some 29, .buildSlice true 25 4 1 [.str [], .str [], .int .i64 0, .nilSlice] [(0, (.tmp 28))], none, false⟩, []),
          (⟨some 30, .append false 25 4 64 (.tmp 26) (.tmp 29), none, false⟩, []),
          (⟨some 31, .fieldL 3 (.tmp 3), none, false⟩, []),
          (⟨none, .storeL 1 (.tmp 31) (.tmp 30), none, false⟩, [])] [0, 2, 3])))))))
  (.seq (.ops [
    ⟨some 32, .loadL true 4 (.tmp 3), none, false⟩,
    ⟨none, .storeL 4 (.tmp 2) (.tmp 32), none, false⟩] [2])
  .ret)))))⟩
/-- scribe/parse.leaf -/
def af51 : AFunc := ⟨3, [.cellL true 4 6],
  (.seq (.ops [
    ⟨some 4, .boxL 0 3 (.tmp 1), none, false⟩,
    ⟨some 6, .allocL 1 [.str [], .str [], .int .i64 0, .nilSlice], none, false⟩] [0, 2, 4, 6])
  (.seq (.ops [
    ⟨some 7, .mov (.tmp 0), none, false⟩,
    ⟨some 8, .fieldL 1 (.tmp 4), none, false⟩,
    ⟨some 9, .loadL false 1 (.tmp 8), none, false⟩,
    ⟨some 10, .fieldL 2 (.tmp 4), none, false⟩,
    ⟨some 11, .loadL false 1 (.tmp 10), none, false⟩,
    ⟨some 12, .mov (.tmp 2), none, false⟩,
    ⟨some 13, .build [.str [], .str [], .int .i64 0, .nilSlice] [(0, 1, (.tmp 7)), (1, 1, (.tmp 9)), (2, 1, (.tmp 11)), (3, 1, (.tmp 12))], none, false⟩,
    ⟨none, .storeL 4 (.tmp 6) (.tmp 13), none, false⟩] [6])
  .ret))⟩
/-- (*scribe/parse.parser).name -/
def af52 : AFunc := ⟨2, [.cellL true 3 4],
  (.seq (.ops [
    ⟨some 4, .allocL 0 [.int .i64 0, .str [], .int .i64 0], none, false⟩] [0, 1, 4])
  (.seq (.ops [
    ⟨some 6, .mov (.tmp 0), none, false⟩,
    ⟨some 7, .call 30 [(.tmp 6)], none, false⟩,
    ⟨some 5, .allocL 0 [.int .i64 0, .str [], .int .i64 0], none, false⟩,
    ⟨none, .storeL 3 (.tmp 5) (.tmp 7), none, false⟩] [0, 1, 4, 5])
  (.seq (.seq (.ops [
    ⟨some 8, .mov (.tmp 1), none, false⟩,
    ⟨some 9, .fieldL 0 (.tmp 5), none, false⟩,
    ⟨some 10, .loadL false 1 (.tmp 9), none, false⟩,
    ⟨some 11, .call 89 [(.tmp 8), (.tmp 10)], none, false⟩,
    ⟨some 12, .un .not (.tmp 11), none, false⟩] [0, 4, 5, 12])
  (.cond (.tmp 12)
  (.seq (.ops [
      ⟨some 13, .mov (.tmp 0), none, false⟩,
      ⟨some 14, .call 56 [(.tmp 13)], none, false⟩] [4])
    (.seq (.ops [
      ⟨some 15, .build [.int .i64 0, .str [], .int .i64 0] [], none, false⟩,
      ⟨none, .storeL 3 (.tmp 4) (.tmp 15), none, false⟩] [4])
    .ret))
  .skip))
  (.seq (.ops [
    ⟨some 16, .mov (.tmp 0), none, false⟩,
    ⟨some 17, .call 31 [(.tmp 16)], none, false⟩] [4, 5])
  (.seq (.ops [
    ⟨some 18, .loadL true 3 (.tmp 5), none, false⟩,
    ⟨none, .storeL 3 (.tmp 4) (.tmp 18), none, false⟩] [4])
  .ret)))))⟩
/-- (*scribe/parse.parser).expect -/
def af53 : AFunc := ⟨2, [],
  (.seq (.ops [
    ⟨some 4, .mov (.tmp 0), none, false⟩,
    ⟨some 5, .mov (.tmp 1), none, false⟩,
    ⟨some 6, .call 49 [(.tmp 4), (.tmp 5)], none, false⟩,
    ⟨some 7, .un .not (.tmp 6), none, false⟩] [0, 7])
  (.cond (.tmp 7)
  (.ops [
      ⟨some 8, .mov (.tmp 0), none, false⟩,
      ⟨some 9, .call 56 [(.tmp 8)], none, false⟩] [])
  .skip))⟩
/-- (*scribe/parse.parser).lines -/
def af54 : AFunc := ⟨1, [],
  (.block 0
  (.loop [0]
    (.seq (.seq (.ops [
        ⟨some 2, .mov (.tmp 0), none, false⟩,
        ⟨some 3, .call 30 [(.tmp 2)], none, false⟩,
        ⟨some 4, .field false 1 0 (.tmp 3), none, false⟩,
        ⟨some 5, .bin .eql (.tmp 4) (.const (.int .i64 1)), none, false⟩] [0, 5])
      (.cond (.tmp 5)
      .skip
      (.exit 0)))
      (.block 1
      (.ops [
          ⟨some 6, .mov (.tmp 0), none, false⟩,
          ⟨some 7, .call 31 [(.tmp 6)], none, false⟩] [0])))))⟩
/-- (*scribe/parse.parser).expr -/
def af55 : AFunc := ⟨1, [.cellL true 4 2],
  (.seq (.ops [
    ⟨some 2, .allocL 0 [.str [], .str [], .int .i64 0, .nilSlice], none, false⟩] [0, 2])
  (.seq (.ops [
    ⟨some 6, .mov (.tmp 0), none, false⟩,
    ⟨some 7, .call 90 [(.tmp 6)], none, false⟩] [0, 2])
  (.seq (.ops [
    ⟨some 8, .mov (.tmp 0), none, false⟩,
    ⟨none, .defer 91 [(.tmp 8)], none, false⟩] [0, 2])
  (.seq (.ops [
    ⟨some 9, .mov (.tmp 0), none, false⟩,
    ⟨some 10, .call 92 [(.tmp 9)], none, false⟩,
    ⟨some 3, .allocL 0 [.str [], .str [], .int .i64 0, .nilSlice], none, false⟩,
    ⟨none, .storeL 4 (.tmp 3) (.tmp 10), none, false⟩] [0, 2, 3])
  (.seq (.seq (.ops [
    ⟨some 11, .mov (.tmp 0), none, false⟩,
    ⟨some 12, .call 49 [(.tmp 11), (.const (.string ⟨#[63]⟩))], none, false⟩] [0, 2, 3, 12])
  (.cond (.tmp 12)
  (.seq (.ops [
      ⟨some 13, .mov (.tmp 0), none, false⟩,
      ⟨some 14, .call 54 [(.tmp 13)], none, false⟩] [0, 2, 3])
    (.seq (.ops [
      ⟨some 15, .mov (.tmp 0), none, false⟩,
      ⟨some 16, .call 55 [(.tmp 15)], none, false⟩,
      ⟨some 4, .allocL 0 [.str [], .str [], .int .i64 0, .nilSlice], none, false⟩,
      ⟨none, .storeL 4 (.tmp 4) (.tmp 16), none, false⟩] [0, 2, 3, 4])
    (.seq (.ops [
      ⟨some 17, .mov (.tmp 0), none, false⟩,
      ⟨some 18, .call 54 [(.tmp 17)], none, false⟩] [0, 2, 3, 4])
    (.seq (.ops [
      ⟨some 19, .mov (.tmp 0), none, false⟩,
      ⟨some 20, .call 53 [(.tmp 19), (.const (.string ⟨#[58]⟩))], none, false⟩] [0, 2, 3, 4])
    (.seq (.ops [
      ⟨some 21, .mov (.tmp 0), none, false⟩,
      ⟨some 22, .call 54 [(.tmp 21)], none, false⟩] [0, 2, 3, 4])
    (.seq (.opsD [
      (⟨some 23, .loadL true 4 (.tmp 3), none, false⟩, []),
      (⟨some 24, .loadL true 4 (.tmp 4), none, false⟩, []),
      (⟨some 25, .mov (.tmp 0), none, false⟩, []),
      (⟨some 26, .call 55 [(.tmp 25)], none, false⟩, []),
      (⟨some 27, .buildSlice true 25 4 3 [.str [], .str [], .int .i64 0, .nilSlice] [(0, (.tmp 23)), (1, (.tmp 24)), (2, (.tmp 26))], none, false⟩, []),
      (⟨some 28, .call 28 [(.const (.string ⟨#[99, 111, 110, 100]⟩)), (.tmp 27)], none, false⟩, []),
      (⟨none, .storeL 4 (.tmp 2) (.tmp 28), none, false⟩, [])] [2])
    .ret))))))
  .skip))
  (.seq (.seq (.ops [
    ⟨some 29, .mov (.tmp 0), none, false⟩,
    ⟨some 30, .call 30 [(.tmp 29)], none, false⟩,
    ⟨some 5, .allocL 0 [.int .i64 0, .str [], .int .i64 0], none, false⟩,
    ⟨none, .storeL 3 (.tmp 5) (.tmp 30), none, false⟩] [0, 2, 3, 5])
  (.seq (.ops [
    ⟨some 31, .loadL true 4 (.tmp 3), none, false⟩,
    ⟨some 32, .call 93 [(.tmp 31)], none, false⟩,
    ⟨some 33, .mov (.tmp 32), none, false⟩,
    ⟨some 34, .fieldL 0 (.tmp 5), some (33, true), false⟩,
    ⟨some 35, .loadL false 1 (.tmp 34), some (33, true), false⟩,
    ⟨some 36, .bin .eql (.tmp 35) (.const (.int .i64 8)), some (33, true), false⟩,
    ⟨some 37, .pick (.tmp 33) (.tmp 36) (.const (.bool false)), none, false⟩,
    ⟨some 38, .mov (.tmp 37), none, false⟩,
    ⟨some 39, .buildSlice true 9 1 6 [.str []] [(0, (.const (.string ⟨#[61]⟩))), (1, (.const (.string ⟨#[43, 61]⟩))), (2, (.const (.string ⟨#[45, 61]⟩))), (3, (.const (.string ⟨#[42, 61]⟩))), (4, (.const (.string ⟨#[47, 61]⟩))), (5, (.const (.string ⟨#[37, 61]⟩)))], some (38, true), false⟩,
    ⟨some 40, .fieldL 1 (.tmp 5), some (38, true), false⟩,
    ⟨some 41, .loadL false 1 (.tmp 40), some (38, true), false⟩,
    ⟨some 42, .call 48 [(.tmp 39), (.tmp 41)], some (38, true), false⟩,
    ⟨some 43, .pick (.tmp 38) (.tmp 42) (.const (.bool false)), none, false⟩] [0, 2, 3, 5, 43])
  (.cond (.tmp 43)
  (.seq (.ops [
      ⟨some 44, .mov (.tmp 0), none, false⟩,
      ⟨some 45, .call 31 [(.tmp 44)], none, false⟩] [0, 2, 3, 5])
    (.seq (.ops [
      ⟨some 46, .mov (.tmp 0), none, false⟩,
      ⟨some 47, .call 54 [(.tmp 46)], none, false⟩] [0, 2, 3, 5])
    (.seq (.opsD [
      (⟨some 48, .fieldL 1 (.tmp 5), none, false⟩, []),
      (⟨some 49, .loadL false 1 (.tmp 48), none, false⟩, []),
      (⟨some 50, .loadL true 4 (.tmp 3), none, false⟩, []),
      (⟨some 51, .mov (.tmp 0), none, false⟩, []),
      (⟨some 52, .call 55 [(.tmp 51)], none, false⟩, []),
      (⟨some 53, .buildSlice true 25 4 2 [.str [], .str [], .int .i64 0, .nilSlice] [(0, (.tmp 50)), (1, (.tmp 52))], none, false⟩, []),
      (⟨some 54, .build [.str [], .str [], .int .i64 0, .nilSlice] [(0, 1, (.const (.string ⟨#[97, 115, 115, 105, 103, 110]⟩))), (1, 1, (.tmp 49)), (3, 1, (.tmp 53))], none, false⟩, []),
      (⟨none, .storeL 4 (.tmp 2) (.tmp 54), none, false⟩, [])] [2])
    .ret)))
  .skip)))
  (.seq (.ops [
    ⟨some 55, .loadL true 4 (.tmp 3), none, false⟩,
    ⟨none, .storeL 4 (.tmp 2) (.tmp 55), none, false⟩] [2])
  .ret)))))))⟩
/-- (*scribe/parse.parser).fail -/
def af56 : AFunc := ⟨1, [],
  (.seq (.ops [
    ⟨some 3, .mov (.tmp 0), none, false⟩,
    ⟨some 4, .call 30 [(.tmp 3)], none, false⟩,
    ⟨some 2, .allocL 0 [.int .i64 0, .str [], .int .i64 0], none, false⟩,
    ⟨none, .storeL 3 (.tmp 2) (.tmp 4), none, false⟩] [0, 2])
  (.block 0
  (.seq (.ops [
      ⟨some 14, .mov (.tmp 0), none, false⟩,
      ⟨some 15, .nilCheck (.tmp 14), none, false⟩,
      ⟨some 16, .fieldAddr 4 (.tmp 15), none, false⟩,
      ⟨some 17, .load false 1 (.tmp 16), none, false⟩,
      ⟨some 18, .bin .neq (.tmp 17) (.const (.int .i64 0)), none, false⟩,
      ⟨some 13, .mov (.tmp 18), none, false⟩] [0, 2, 13])
    (.cond (.tmp 13)
    .skip
    (.seq (.seq (.ops [
        ⟨some 20, .fieldL 0 (.tmp 2), none, false⟩,
        ⟨some 21, .loadL false 1 (.tmp 20), none, false⟩,
        ⟨some 22, .bin .eql (.tmp 21) (.const (.int .i64 10)), none, false⟩,
        ⟨some 19, .mov (.tmp 22), none, false⟩] [0, 2, 19])
      (.cond (.tmp 19)
      .skip
      (.ops [
          ⟨some 23, .fieldL 0 (.tmp 2), none, false⟩,
          ⟨some 24, .loadL false 1 (.tmp 23), none, false⟩,
          ⟨some 25, .bin .eql (.tmp 24) (.const (.int .i64 8)), none, false⟩,
          ⟨some 26, .mov (.tmp 25), none, false⟩,
          ⟨some 27, .fieldL 1 (.tmp 2), some (26, true), false⟩,
          ⟨some 28, .loadL false 1 (.tmp 27), some (26, true), false⟩,
          ⟨some 29, .bin .eql (.tmp 28) (.const (.string ⟨#[124]⟩)), some (26, true), false⟩,
          ⟨some 30, .pick (.tmp 26) (.tmp 29) (.const (.bool false)), none, false⟩,
          ⟨some 19, .mov (.tmp 30), none, false⟩] [0, 2, 19])))
      (.cond (.tmp 19)
      (.opsD [
          (⟨some 31, .mov (.tmp 0), none, false⟩, []),
          (⟨some 32, .mov (.tmp 0), none, false⟩, []),
          (⟨some 33, .fieldL 2 (.tmp 2), none, false⟩, []),
          (⟨some 34, .loadL false 1 (.tmp 33), none, false⟩, []),
          (⟨some 35, .nilCheck (.tmp 31), none, false⟩, []),
          (⟨some 36, .fieldAddr 4 (.tmp 35), none, false⟩, []),
          (⟨none, .store 1 (.tmp 36) (.const (.int .i64 10)), none, false⟩, []),
          (⟨some 37, .nilCheck (.tmp 32), none, false⟩, []),
          (⟨some 38, .fieldAddr 5 (.tmp 37), none, false⟩, []),
          (⟨none, .store 1 (.tmp 38) (.tmp 34), none, false⟩, [])] [])
      (.opsD [
          (⟨some 5, .mov (.tmp 0), none, false⟩, []),
          (⟨some 6, .mov (.tmp 0), none, false⟩, []),
          (⟨some 7, .fieldL 2 (.tmp 2), none, false⟩, []),
          (⟨some 8, .loadL false 1 (.tmp 7), none, false⟩, []),
          (⟨some 9, .nilCheck (.tmp 5), none, false⟩, []),
          (⟨some 10, .fieldAddr 4 (.tmp 9), none, false⟩, []),
          (⟨none, .store 1 (.tmp 10) (.const (.int .i64 9)), none, false⟩, []),
          (⟨some 11, .nilCheck (.tmp 6), none, false⟩, []),
          (⟨some 12, .fieldAddr 5 (.tmp 11), none, false⟩, []),
          (⟨none, .store 1 (.tmp 12) (.tmp 8), none, false⟩, [])] [])))))))⟩
/-- (*scribe/resolve.resolver).mark$1 -/
def af57 : AFunc := ⟨3, [],
  (.seq (.ops [
    ⟨some 3, .boxL 0 2 (.tmp 0), none, false⟩] [1, 2, 3])
  (.seq (.opsD [
    (⟨some 4, .load false 1 (.tmp 1), none, false⟩, []),
    (⟨some 5, .nilCheck (.tmp 4), none, false⟩, []),
    (⟨some 6, .fieldAddr 2 (.tmp 5), none, false⟩, []),
    (⟨some 7, .load false 1 (.tmp 6), none, false⟩, []),
    (⟨some 8, .loadL true 2 (.tmp 3), none, false⟩, []),
    (⟨some 9, .lookup (.agg [.int, .str]) (.bool false) False (.tmp 7) (.tmp 8), none, false⟩, []),
    (⟨some 10, .un .not (.tmp 9), none, false⟩, [])] [1, 2, 3, 10])
  (.cond (.tmp 10)
  (.opsD [
      (⟨some 11, .load false 1 (.tmp 1), none, false⟩, []),
      (⟨some 12, .nilCheck (.tmp 11), none, false⟩, []),
      (⟨some 13, .fieldAddr 2 (.tmp 12), none, false⟩, []),
      (⟨some 14, .load false 1 (.tmp 13), none, false⟩, []),
      (⟨some 15, .loadL true 2 (.tmp 3), none, false⟩, []),
      (⟨some 16, .mapEntry (.agg [.int, .str]) (.bool false) (.tmp 14) (.tmp 15), none, false⟩, []),
      (⟨some 17, .extract (.tmp 16) 1, none, false⟩, []),
      (⟨none, .entryStore (.tmp 14) (.tmp 17) (.const (.bool true)), none, false⟩, []),
      (⟨none, .store 1 (.tmp 2) (.const (.bool true)), none, false⟩, [])] [])
  .skip)))⟩
/-- (*scribe/resolve.resolver).fn -/
def af58 : AFunc := ⟨2, [.tmp 4],
  (.seq (.ops [
    ⟨some 3, .boxL 0 4 (.tmp 1), none, false⟩,
    ⟨some 4, .mov (.const (.int .i64 0)), none, false⟩] [0, 3])
  (.seq (.seq (.ops [
    ⟨some 5, .fieldL 0 (.tmp 3), none, false⟩,
    ⟨some 6, .loadL false 1 (.tmp 5), none, false⟩,
    ⟨some 7, .bin .eql (.tmp 6) (.const (.string ⟨#[102, 117, 110, 99]⟩)), none, false⟩] [0, 3, 7])
  (.cond (.tmp 7)
  (.seq (.opsD [
      (⟨some 8, .mov (.tmp 0), none, false⟩, []),
      (⟨some 9, .nilCheck (.tmp 8), none, false⟩, []),
      (⟨some 10, .fieldAddr 0 (.tmp 9), none, false⟩, []),
      (⟨some 11, .load false 1 (.tmp 10), none, false⟩, []),
      (⟨some 12, .fieldL 1 (.tmp 3), none, false⟩, []),
      (⟨some 13, .loadL false 1 (.tmp 12), none, false⟩, []),
      (⟨some 14, .lookup (.cell .str) (.int .i64 0) False (.tmp 11) (.tmp 13), none, false⟩, []),
      (⟨some 4, .mov (.tmp 14), none, false⟩, [])] [4])
    .ret)
  .skip))
  (.seq (.ops [
    ⟨some 4, .mov (.const (.int .i64 (-1))), none, false⟩] [4])
  .ret)))⟩
/-- scribe/resolve.arrayName -/
def af59 : AFunc := ⟨1, [.tmp 2, .tmp 3],
  (.seq (.ops [
    ⟨some 1, .boxL 0 4 (.tmp 0), none, false⟩,
    ⟨some 2, .mov (.const (.string ⟨#[]⟩)), none, false⟩,
    ⟨some 3, .mov (.const (.bool false)), none, false⟩] [1])
  (.seq (.seq (.ops [
    ⟨some 4, .fieldL 0 (.tmp 1), none, false⟩,
    ⟨some 5, .loadL false 1 (.tmp 4), none, false⟩] [1, 5])
  (.block 0
  (.seq (.seq (.ops [
      ⟨some 7, .bin .eql (.tmp 5) (.const (.string ⟨#[105, 110, 100, 101, 120]⟩)), none, false⟩,
      ⟨some 6, .mov (.tmp 7), none, false⟩] [1, 5, 6])
    (.cond (.tmp 6)
    .skip
    (.seq (.ops [
        ⟨some 8, .bin .eql (.tmp 5) (.const (.string ⟨#[105, 110]⟩)), none, false⟩,
        ⟨some 6, .mov (.tmp 8), none, false⟩] [1, 5, 6])
      (.cond (.tmp 6)
      .skip
      (.ops [
          ⟨some 9, .bin .eql (.tmp 5) (.const (.string ⟨#[110, 97, 109, 101]⟩)), none, false⟩,
          ⟨some 6, .mov (.tmp 9), none, false⟩] [1, 6])))))
    (.cond (.tmp 6)
    (.seq (.ops [
        ⟨some 10, .fieldL 1 (.tmp 1), none, false⟩,
        ⟨some 11, .loadL false 1 (.tmp 10), none, false⟩,
        ⟨some 2, .mov (.tmp 11), none, false⟩,
        ⟨some 3, .mov (.const (.bool true)), none, false⟩] [2, 3])
      .ret)
    .skip))))
  (.seq (.ops [
    ⟨some 2, .mov (.const (.string ⟨#[]⟩)), none, false⟩,
    ⟨some 3, .mov (.const (.bool false)), none, false⟩] [2, 3])
  .ret)))⟩
/-- (*scribe/resolve.resolver).symbol -/
def af60 : AFunc := ⟨3, [.cellL true 2 6],
  (.seq (.ops [
    ⟨some 6, .allocL 0 [.int .i64 0, .str []], none, false⟩] [0, 1, 2, 6])
  (.seq (.seq (.ops [
    ⟨some 7, .mov (.tmp 1), none, false⟩,
    ⟨some 8, .bin .geq (.tmp 7) (.const (.int .i64 0)), none, false⟩,
    ⟨some 9, .mov (.tmp 8), none, false⟩,
    ⟨some 10, .mov (.tmp 0), some (9, true), false⟩,
    ⟨some 11, .nilCheck (.tmp 10), some (9, true), false⟩,
    ⟨some 12, .fieldAddr 1 (.tmp 11), some (9, true), false⟩,
    ⟨some 13, .load false 1 (.tmp 12), some (9, true), false⟩,
    ⟨some 14, .nilCheck (.tmp 13), some (9, true), false⟩,
    ⟨some 15, .fieldAddr 0 (.tmp 14), some (9, true), false⟩,
    ⟨some 16, .load false 1 (.tmp 15), some (9, true), false⟩,
    ⟨some 17, .mov (.tmp 1), some (9, true), false⟩,
    ⟨some 18, .indexAddr 7 (.tmp 16) (.tmp 17), some (9, true), false⟩,
    ⟨some 19, .fieldAddr 1 (.tmp 18), some (9, true), false⟩,
    ⟨some 20, .load false 1 (.tmp 19), some (9, true), false⟩,
    ⟨some 21, .mov (.tmp 2), some (9, true), false⟩,
    ⟨some 22, .call 48 [(.tmp 20), (.tmp 21)], some (9, true), false⟩,
    ⟨some 23, .pick (.tmp 9) (.tmp 22) (.const (.bool false)), none, false⟩] [1, 2, 6, 23])
  (.cond (.tmp 23)
  (.seq (.ops [
      ⟨some 24, .mov (.tmp 1), none, false⟩,
      ⟨some 25, .mov (.tmp 2), none, false⟩,
      ⟨some 26, .build [.int .i64 0, .str []] [(0, 1, (.tmp 24)), (1, 1, (.tmp 25))], none, false⟩,
      ⟨none, .storeL 2 (.tmp 6) (.tmp 26), none, false⟩] [6])
    .ret)
  .skip))
  (.seq (.ops [
    ⟨some 27, .mov (.tmp 2), none, false⟩,
    ⟨some 28, .build [.int .i64 0, .str []] [(0, 1, (.const (.int .i64 (-1)))), (1, 1, (.tmp 27))], none, false⟩,
    ⟨none, .storeL 2 (.tmp 6) (.tmp 28), none, false⟩] [6])
  .ret)))⟩
/-- (*scribe/resolve.resolver).check -/
def af61 : AFunc := ⟨4, [],
  (.seq (.ops [
    ⟨some 6, .boxL 0 4 (.tmp 2), none, false⟩,
    ⟨some 7, .boxL 1 3 (.tmp 3), none, false⟩] [0, 1, 6, 7])
  (.seq (.seq (.ops [
    ⟨some 11, .mov (.tmp 0), none, false⟩,
    ⟨some 12, .nilCheck (.tmp 11), none, false⟩,
    ⟨some 13, .fieldAddr 5 (.tmp 12), none, false⟩,
    ⟨some 14, .load false 1 (.tmp 13), none, false⟩,
    ⟨some 15, .bin .neq (.tmp 14) (.const (.int .i64 0)), none, false⟩] [0, 1, 6, 7, 15])
  (.cond (.tmp 15)
  .ret
  .skip))
  (.seq (.seq (.ops [
    ⟨some 16, .fieldL 0 (.tmp 6), none, false⟩,
    ⟨some 17, .loadL false 1 (.tmp 16), none, false⟩] [0, 1, 6, 7, 17])
  (.block 0
  (.seq (.ops [
      ⟨some 19, .bin .eql (.tmp 17) (.const (.string ⟨#[118, 97, 114]⟩)), none, false⟩,
      ⟨some 18, .mov (.tmp 19), none, false⟩] [0, 1, 6, 7, 17, 18])
    (.cond (.tmp 18)
    (.ops [
        ⟨some 20, .mov (.tmp 0), none, false⟩,
        ⟨some 21, .mov (.tmp 1), none, false⟩,
        ⟨some 22, .loadL true 4 (.tmp 6), none, false⟩,
        ⟨some 23, .call 94 [(.tmp 20), (.tmp 21), (.tmp 22), (.const (.bool false))], none, false⟩] [0, 1, 6, 7])
    (.seq (.seq (.ops [
        ⟨some 25, .bin .eql (.tmp 17) (.const (.string ⟨#[105, 110, 100, 101, 120]⟩)), none, false⟩,
        ⟨some 24, .mov (.tmp 25), none, false⟩] [0, 1, 6, 7, 17, 24])
      (.cond (.tmp 24)
      .skip
      (.seq (.ops [
          ⟨some 26, .bin .eql (.tmp 17) (.const (.string ⟨#[105, 110]⟩)), none, false⟩,
          ⟨some 24, .mov (.tmp 26), none, false⟩] [0, 1, 6, 7, 17, 24])
        (.cond (.tmp 24)
        .skip
        (.ops [
            ⟨some 27, .bin .eql (.tmp 17) (.const (.string ⟨#[110, 97, 109, 101]⟩)), none, false⟩,
            ⟨some 24, .mov (.tmp 27), none, false⟩] [0, 1, 6, 7, 17, 24])))))
      (.cond (.tmp 24)
      (.ops [
          ⟨some 28, .mov (.tmp 0), none, false⟩,
          ⟨some 29, .mov (.tmp 1), none, false⟩,
          ⟨some 30, .loadL true 4 (.tmp 6), none, false⟩,
          ⟨some 31, .call 94 [(.tmp 28), (.tmp 29), (.tmp 30), (.const (.bool true))], none, false⟩] [0, 1, 6, 7])
      (.seq (.ops [
          ⟨some 33, .bin .eql (.tmp 17) (.const (.string ⟨#[102, 111, 114, 105, 110]⟩)), none, false⟩,
          ⟨some 32, .mov (.tmp 33), none, false⟩] [0, 1, 6, 7, 17, 32])
        (.cond (.tmp 32)
        (.seq (.ops [
            ⟨some 34, .mov (.tmp 0), none, false⟩,
            ⟨some 35, .mov (.tmp 1), none, false⟩,
            ⟨some 36, .fieldL 1 (.tmp 6), none, false⟩,
            ⟨some 37, .loadL false 1 (.tmp 36), none, false⟩,
            ⟨some 38, .fieldL 2 (.tmp 6), none, false⟩,
            ⟨some 39, .loadL false 1 (.tmp 38), none, false⟩,
            ⟨some 40, .build [.str [], .str [], .int .i64 0, .nilSlice] [(0, 1, (.const (.string ⟨#[118, 97, 114]⟩))), (1, 1, (.tmp 37)), (2, 1, (.tmp 39))], none, false⟩,
            ⟨some 41, .call 94 [(.tmp 34), (.tmp 35), (.tmp 40), (.const (.bool false))], none, false⟩] [0, 1, 6, 7])
          (.ops [
            ⟨some 42, .fieldL 0 (.tmp 7), none, false⟩,
            ⟨none, .storeL 1 (.tmp 42) (.const (.bool true)), none, false⟩] [0, 1, 6, 7]))
        (.seq (.ops [
            ⟨some 44, .bin .eql (.tmp 17) (.const (.string ⟨#[119, 104, 105, 108, 101]⟩)), none, false⟩,
            ⟨some 43, .mov (.tmp 44), none, false⟩] [0, 1, 6, 7, 17, 43])
          (.cond (.tmp 43)
          (.ops [
              ⟨some 45, .fieldL 0 (.tmp 7), none, false⟩,
              ⟨none, .storeL 1 (.tmp 45) (.const (.bool true)), none, false⟩] [0, 1, 6, 7])
          (.seq (.ops [
              ⟨some 47, .bin .eql (.tmp 17) (.const (.string ⟨#[99, 97, 108, 108]⟩)), none, false⟩,
              ⟨some 46, .mov (.tmp 47), none, false⟩] [0, 1, 6, 7, 17, 46])
            (.cond (.tmp 46)
            (.seq (.ops [
                ⟨some 48, .mov (.tmp 0), none, false⟩,
                ⟨some 49, .mov (.tmp 1), none, false⟩,
                ⟨some 50, .loadL true 4 (.tmp 6), none, false⟩,
                ⟨some 51, .loadL true 3 (.tmp 7), none, false⟩,
                ⟨some 52, .call 95 [(.tmp 48), (.tmp 49), (.tmp 50), (.tmp 51)], none, false⟩] [])
              .ret)
            (.seq (.seq (.ops [
                ⟨some 54, .bin .eql (.tmp 17) (.const (.string ⟨#[98, 114, 101, 97, 107]⟩)), none, false⟩,
                ⟨some 53, .mov (.tmp 54), none, false⟩] [0, 1, 6, 7, 17, 53])
              (.cond (.tmp 53)
              .skip
              (.ops [
                  ⟨some 55, .bin .eql (.tmp 17) (.const (.string ⟨#[99, 111, 110, 116, 105, 110, 117, 101]⟩)), none, false⟩,
                  ⟨some 53, .mov (.tmp 55), none, false⟩] [0, 1, 6, 7, 17, 53])))
              (.cond (.tmp 53)
              (.seq (.ops [
                  ⟨some 56, .fieldL 0 (.tmp 7), none, false⟩,
                  ⟨some 57, .loadL false 1 (.tmp 56), none, false⟩,
                  ⟨some 58, .un .not (.tmp 57), none, false⟩] [0, 1, 6, 7, 58])
                (.cond (.tmp 58)
                (.ops [
                    ⟨some 59, .mov (.tmp 0), none, false⟩,
                    ⟨some 60, .fieldL 2 (.tmp 6), none, false⟩,
                    ⟨some 61, .loadL false 1 (.tmp 60), none, false⟩,
                    ⟨some 62, .call 62 [(.tmp 59), (.tmp 61), (.const (.int .i64 9))], none, false⟩] [0, 1, 6, 7])
                .skip))
              (.seq (.ops [
                  ⟨some 64, .bin .eql (.tmp 17) (.const (.string ⟨#[114, 101, 116, 117, 114, 110]⟩)), none, false⟩,
                  ⟨some 63, .mov (.tmp 64), none, false⟩] [0, 1, 6, 7, 17, 63])
                (.cond (.tmp 63)
                (.seq (.ops [
                    ⟨some 65, .fieldL 1 (.tmp 7), none, false⟩,
                    ⟨some 66, .loadL false 1 (.tmp 65), none, false⟩,
                    ⟨some 67, .un .not (.tmp 66), none, false⟩] [0, 1, 6, 7, 67])
                  (.cond (.tmp 67)
                  (.ops [
                      ⟨some 68, .mov (.tmp 0), none, false⟩,
                      ⟨some 69, .fieldL 2 (.tmp 6), none, false⟩,
                      ⟨some 70, .loadL false 1 (.tmp 69), none, false⟩,
                      ⟨some 71, .call 62 [(.tmp 68), (.tmp 70), (.const (.int .i64 9))], none, false⟩] [0, 1, 6, 7])
                  .skip))
                (.seq (.ops [
                    ⟨some 73, .bin .eql (.tmp 17) (.const (.string ⟨#[110, 101, 120, 116]⟩)), none, false⟩,
                    ⟨some 72, .mov (.tmp 73), none, false⟩] [0, 1, 6, 7, 72])
                  (.cond (.tmp 72)
                  (.seq (.ops [
                      ⟨some 74, .fieldL 2 (.tmp 7), none, false⟩,
                      ⟨some 75, .loadL false 1 (.tmp 74), none, false⟩,
                      ⟨some 76, .un .not (.tmp 75), none, false⟩] [0, 1, 6, 7, 76])
                    (.cond (.tmp 76)
                    (.ops [
                        ⟨some 77, .mov (.tmp 0), none, false⟩,
                        ⟨some 78, .fieldL 2 (.tmp 6), none, false⟩,
                        ⟨some 79, .loadL false 1 (.tmp 78), none, false⟩,
                        ⟨some 80, .call 62 [(.tmp 77), (.tmp 79), (.const (.int .i64 9))], none, false⟩] [0, 1, 6, 7])
                    .skip))
                  .skip))))))))))))))))))
  (.seq (.ops [
    ⟨some 81, .fieldL 3 (.tmp 6), none, false⟩,
    ⟨some 82, .loadL false 1 (.tmp 81), none, false⟩,
    ⟨some 83, .len .slice (.tmp 82), none, false⟩,
    ⟨some 84, .mov (.const (.int .i64 0)), none, false⟩] [0, 1, 6, 7, 82, 83, 84])
  (.block 1
  (.loop [0, 1, 6, 7, 82, 83, 84]
    (.seq (.ops [
        ⟨some 85, .bin .lss (.tmp 84) (.tmp 83), none, false⟩] [0, 1, 6, 7, 82, 83, 84, 85])
      (.seq (.cond (.tmp 85)
      .skip
      (.exit 1))
      (.seq (.block 2
      (.seq (.ops [
          ⟨some 86, .mov (.tmp 84), none, false⟩,
          ⟨some 87, .indexAddr 4 (.tmp 82) (.tmp 84), none, false⟩,
          ⟨some 88, .load true 4 (.tmp 87), none, false⟩,
          ⟨some 9, .allocL 0 [.str [], .str [], .int .i64 0, .nilSlice], none, false⟩,
          ⟨some 8, .mov (.tmp 86), none, false⟩,
          ⟨none, .storeL 4 (.tmp 9) (.tmp 88), none, false⟩] [0, 1, 6, 7, 8, 9, 82, 83, 84])
        (.seq (.ops [
          ⟨some 89, .loadL true 3 (.tmp 7), none, false⟩,
          ⟨some 10, .allocL 0 [.bool false, .bool false, .bool false], none, false⟩,
          ⟨none, .storeL 3 (.tmp 10) (.tmp 89), none, false⟩] [0, 1, 6, 7, 8, 9, 10, 82, 83, 84])
        (.seq (.ops [
          ⟨some 90, .fieldL 0 (.tmp 7), none, false⟩,
          ⟨some 91, .loadL false 1 (.tmp 90), none, false⟩,
          ⟨some 92, .mov (.tmp 91), none, false⟩,
          ⟨some 93, .fieldL 0 (.tmp 6), some (92, false), false⟩,
          ⟨some 94, .loadL false 1 (.tmp 93), some (92, false), false⟩,
          ⟨some 95, .bin .eql (.tmp 94) (.const (.string ⟨#[102, 111, 114]⟩)), some (92, false), false⟩,
          ⟨some 96, .mov (.tmp 95), some (92, false), false⟩,
          ⟨some 97, .mov (.tmp 8), some (96, true), false⟩,
          ⟨some 98, .bin .eql (.tmp 97) (.const (.int .i64 3)), some (96, true), false⟩,
          ⟨some 99, .pick (.tmp 96) (.tmp 98) (.const (.bool false)), some (92, false), false⟩,
          ⟨some 100, .pick (.tmp 92) (.const (.bool true)) (.tmp 99), none, false⟩,
          ⟨some 101, .fieldL 0 (.tmp 10), none, false⟩,
          ⟨none, .storeL 1 (.tmp 101) (.tmp 100), none, false⟩] [0, 1, 6, 7, 9, 10, 82, 83, 84])
        (.ops [
          ⟨some 102, .mov (.tmp 0), none, false⟩,
          ⟨some 103, .mov (.tmp 1), none, false⟩,
          ⟨some 104, .loadL true 4 (.tmp 9), none, false⟩,
          ⟨some 105, .loadL true 3 (.tmp 10), none, false⟩,
          ⟨some 106, .call 61 [(.tmp 102), (.tmp 103), (.tmp 104), (.tmp 105)], none, false⟩] [0, 1, 6, 7, 82, 83, 84])))))
      (.ops [
        ⟨some 107, .bin .add (.tmp 84) (.const (.int .i64 1)), none, false⟩,
        ⟨some 84, .mov (.tmp 107), none, false⟩] [0, 1, 6, 7, 82, 83, 84]))))))))))⟩
/-- (*scribe/resolve.resolver).fail -/
def af62 : AFunc := ⟨3, [],
  (.seq (.ops [
    ⟨some 6, .mov (.tmp 0), none, false⟩,
    ⟨some 7, .nilCheck (.tmp 6), none, false⟩,
    ⟨some 8, .fieldAddr 5 (.tmp 7), none, false⟩,
    ⟨some 9, .load false 1 (.tmp 8), none, false⟩,
    ⟨some 10, .bin .eql (.tmp 9) (.const (.int .i64 0)), none, false⟩] [0, 1, 2, 10])
  (.cond (.tmp 10)
  (.ops [
      ⟨some 11, .mov (.tmp 0), none, false⟩,
      ⟨some 12, .mov (.tmp 0), none, false⟩,
      ⟨some 13, .mov (.tmp 2), none, false⟩,
      ⟨some 14, .mov (.tmp 1), none, false⟩,
      ⟨some 15, .nilCheck (.tmp 11), none, false⟩,
      ⟨some 16, .fieldAddr 5 (.tmp 15), none, false⟩,
      ⟨none, .store 1 (.tmp 16) (.tmp 13), none, false⟩,
      ⟨some 17, .nilCheck (.tmp 12), none, false⟩,
      ⟨some 18, .fieldAddr 4 (.tmp 17), none, false⟩,
      ⟨none, .store 1 (.tmp 18) (.tmp 14), none, false⟩] [])
  .skip))⟩
/-- (*scribe/code.compiler).expr -/
def af63 : AFunc := ⟨2, [],
  (.seq (.ops [
    ⟨some 2, .boxH 111 1 (.tmp 0), none, false⟩,
    ⟨some 3, .boxH 25 4 (.tmp 1), none, false⟩] [2, 3])
  (.seq (.ops [
    ⟨some 16, .fieldAddr 0 (.tmp 3), none, false⟩,
    ⟨some 17, .load false 1 (.tmp 16), none, false⟩] [2, 3, 17])
  (.block 0
  (.seq (.ops [
      ⟨some 45, .bin .eql (.tmp 17) (.const (.string ⟨#[110, 117, 109]⟩)), none, false⟩,
      ⟨some 44, .mov (.tmp 45), none, false⟩] [2, 3, 17, 44])
    (.cond (.tmp 44)
    (.seq (.ops [
        ⟨some 47, .fieldAddr 1 (.tmp 3), none, false⟩,
        ⟨some 48, .load false 1 (.tmp 47), none, false⟩,
        ⟨some 49, .call 96 [(.tmp 48)], none, false⟩,
        ⟨some 46, .mov (.tmp 49), none, false⟩,
        ⟨some 50, .extract (.tmp 46) 0, none, false⟩,
        ⟨some 51, .extract (.tmp 46) 1, none, false⟩,
        ⟨some 4, .mov (.tmp 50), none, false⟩,
        ⟨some 5, .mov (.tmp 51), none, false⟩] [2, 4])
      (.ops [
        ⟨some 52, .load false 1 (.tmp 2), none, false⟩,
        ⟨some 53, .mov (.tmp 4), none, false⟩,
        ⟨some 54, .call 97 [(.tmp 52), (.tmp 53)], none, false⟩] []))
    (.seq (.ops [
        ⟨some 56, .bin .eql (.tmp 17) (.const (.string ⟨#[115, 116, 114]⟩)), none, false⟩,
        ⟨some 55, .mov (.tmp 56), none, false⟩] [2, 3, 17, 55])
      (.cond (.tmp 55)
      (.ops [
          ⟨some 57, .load false 1 (.tmp 2), none, false⟩,
          ⟨some 58, .fieldAddr 1 (.tmp 3), none, false⟩,
          ⟨some 59, .load false 1 (.tmp 58), none, false⟩,
          ⟨some 60, .call 41 [(.tmp 57), (.tmp 59)], none, false⟩] [])
      (.seq (.ops [
          ⟨some 62, .bin .eql (.tmp 17) (.const (.string ⟨#[114, 101]⟩)), none, false⟩,
          ⟨some 61, .mov (.tmp 62), none, false⟩] [2, 3, 17, 61])
        (.cond (.tmp 61)
        (.seq (.ops [
            ⟨some 63, .load false 1 (.tmp 2), none, false⟩,
            ⟨some 64, .call 97 [(.tmp 63), (.const (.int .i64 0))], none, false⟩] [2, 3])
          (.seq (.ops [
            ⟨some 65, .load false 1 (.tmp 2), none, false⟩,
            ⟨some 66, .call 42 [(.tmp 65), (.const (.int .i64 4)), (.const (.int .i64 0)), (.const (.int .i64 0))], none, false⟩] [2, 3])
          (.seq (.ops [
            ⟨some 67, .load false 1 (.tmp 2), none, false⟩,
            ⟨some 68, .fieldAddr 1 (.tmp 3), none, false⟩,
            ⟨some 69, .load false 1 (.tmp 68), none, false⟩,
            ⟨some 70, .call 41 [(.tmp 67), (.tmp 69)], none, false⟩] [2])
          (.ops [
            ⟨some 71, .load false 1 (.tmp 2), none, false⟩,
            ⟨some 72, .call 42 [(.tmp 71), (.const (.int .i64 11)), (.const (.int .i64 0)), (.const (.int .i64 0))], none, false⟩] []))))
        (.seq (.ops [
            ⟨some 74, .bin .eql (.tmp 17) (.const (.string ⟨#[118, 97, 114]⟩)), none, false⟩,
            ⟨some 73, .mov (.tmp 74), none, false⟩] [2, 3, 17, 73])
          (.cond (.tmp 73)
          (.seq (.ops [
              ⟨some 76, .load false 1 (.tmp 2), none, false⟩,
              ⟨some 77, .fieldAddr 1 (.tmp 3), none, false⟩,
              ⟨some 78, .load false 1 (.tmp 77), none, false⟩,
              ⟨some 79, .call 68 [(.tmp 76), (.tmp 78)], none, false⟩,
              ⟨some 75, .mov (.tmp 79), none, false⟩,
              ⟨some 80, .extract (.tmp 75) 0, none, false⟩,
              ⟨some 81, .extract (.tmp 75) 1, none, false⟩,
              ⟨some 6, .mov (.tmp 80), none, false⟩,
              ⟨some 7, .mov (.tmp 81), none, false⟩] [2, 6, 7])
            (.ops [
              ⟨some 82, .load false 1 (.tmp 2), none, false⟩,
              ⟨some 83, .mov (.tmp 6), none, false⟩,
              ⟨some 84, .mov (.tmp 7), none, false⟩,
              ⟨some 85, .call 42 [(.tmp 82), (.const (.int .i64 3)), (.tmp 83), (.tmp 84)], none, false⟩] []))
          (.seq (.ops [
              ⟨some 87, .bin .eql (.tmp 17) (.const (.string ⟨#[102, 105, 101, 108, 100]⟩)), none, false⟩,
              ⟨some 86, .mov (.tmp 87), none, false⟩] [2, 3, 17, 86])
            (.cond (.tmp 86)
            (.seq (.opsD [
                (⟨some 88, .load false 1 (.tmp 2), none, false⟩, []),
                (⟨some 89, .fieldAddr 3 (.tmp 3), none, false⟩, []),
                (⟨some 90, .load false 1 (.tmp 89), none, false⟩, []),
                (⟨some 91, .indexAddr 4 (.tmp 90) (.const (.int .i64 0)), none, false⟩, []),
                (⟨some 92, .load true 4 (.tmp 91), none, false⟩, []),
                (⟨some 93, .call 63 [(.tmp 88), (.tmp 92)], none, false⟩, [])] [2])
              (.ops [
                ⟨some 94, .load false 1 (.tmp 2), none, false⟩,
                ⟨some 95, .call 42 [(.tmp 94), (.const (.int .i64 4)), (.const (.int .i64 0)), (.const (.int .i64 0))], none, false⟩] []))
            (.seq (.seq (.ops [
                ⟨some 97, .bin .eql (.tmp 17) (.const (.string ⟨#[105, 110, 100, 101, 120]⟩)), none, false⟩,
                ⟨some 96, .mov (.tmp 97), none, false⟩] [2, 3, 17, 96])
              (.cond (.tmp 96)
              .skip
              (.ops [
                  ⟨some 98, .bin .eql (.tmp 17) (.const (.string ⟨#[105, 110]⟩)), none, false⟩,
                  ⟨some 96, .mov (.tmp 98), none, false⟩] [2, 3, 17, 96])))
              (.cond (.tmp 96)
              (.seq (.opsD [
                  (⟨some 99, .load false 1 (.tmp 2), none, false⟩, []),
                  (⟨some 100, .fieldAddr 3 (.tmp 3), none, false⟩, []),
                  (⟨some 101, .load false 1 (.tmp 100), none, false⟩, []),
                  (⟨some 102, .indexAddr 4 (.tmp 101) (.const (.int .i64 0)), none, false⟩, []),
                  (⟨some 103, .load true 4 (.tmp 102), none, false⟩, []),
                  (⟨some 104, .call 63 [(.tmp 99), (.tmp 103)], none, false⟩, [])] [2, 3])
                (.seq (.ops [
                  ⟨some 8, .mov (.const (.int .i64 5)), none, false⟩] [2, 3, 8])
                (.seq (.seq (.ops [
                  ⟨some 105, .fieldAddr 0 (.tmp 3), none, false⟩,
                  ⟨some 106, .load false 1 (.tmp 105), none, false⟩,
                  ⟨some 107, .bin .eql (.tmp 106) (.const (.string ⟨#[105, 110]⟩)), none, false⟩] [2, 3, 8, 107])
                (.cond (.tmp 107)
                (.ops [
                    ⟨some 8, .mov (.const (.int .i64 12)), none, false⟩] [2, 3, 8])
                .skip))
                (.seq (.ops [
                  ⟨some 109, .load false 1 (.tmp 2), none, false⟩,
                  ⟨some 110, .fieldAddr 1 (.tmp 3), none, false⟩,
                  ⟨some 111, .load false 1 (.tmp 110), none, false⟩,
                  ⟨some 112, .call 68 [(.tmp 109), (.tmp 111)], none, false⟩,
                  ⟨some 108, .mov (.tmp 112), none, false⟩,
                  ⟨some 113, .extract (.tmp 108) 0, none, false⟩,
                  ⟨some 114, .extract (.tmp 108) 1, none, false⟩,
                  ⟨some 9, .mov (.tmp 113), none, false⟩,
                  ⟨some 10, .mov (.tmp 114), none, false⟩] [2, 8, 9, 10])
                (.ops [
                  ⟨some 115, .load false 1 (.tmp 2), none, false⟩,
                  ⟨some 116, .mov (.tmp 8), none, false⟩,
                  ⟨some 117, .mov (.tmp 9), none, false⟩,
                  ⟨some 118, .mov (.tmp 10), none, false⟩,
                  ⟨some 119, .call 42 [(.tmp 115), (.tmp 116), (.tmp 117), (.tmp 118)], none, false⟩] [])))))
              (.seq (.ops [
                  ⟨some 121, .bin .eql (.tmp 17) (.const (.string ⟨#[97, 115, 115, 105, 103, 110]⟩)), none, false⟩,
                  ⟨some 120, .mov (.tmp 121), none, false⟩] [2, 3, 17, 120])
                (.cond (.tmp 120)
                (.opsD [
                    (⟨some 122, .load false 1 (.tmp 2), none, false⟩, []),
                    (⟨some 123, .fieldAddr 3 (.tmp 3), none, false⟩, []),
                    (⟨some 124, .load false 1 (.tmp 123), none, false⟩, []),
                    (⟨some 125, .indexAddr 4 (.tmp 124) (.const (.int .i64 0)), none, false⟩, []),
                    (⟨some 126, .load true 4 (.tmp 125), none, false⟩, []),
                    (⟨some 127, .load false 1 (.global 3), none, false⟩, []),
                    (⟨some 128, .fieldAddr 1 (.tmp 3), none, false⟩, []),
                    (⟨some 129, .load false 1 (.tmp 128), none, false⟩, []),
                    (⟨some 130, .call 38 [(.tmp 127), (.tmp 129)], none, false⟩, [(122, .load false 1 (.tmp 2)), (124, .load false 1 (.tmp 123)), (126, .load true 4 (.tmp 125))]),
                    (⟨some 131, .clos 99 [] [(.tmp 2), (.tmp 3)], none, false⟩, []),
                    (⟨some 132, .call 98 [(.tmp 122), (.tmp 126), (.tmp 130), (.tmp 131)], none, false⟩, [])] [])
                (.seq (.seq (.ops [
                    ⟨some 134, .bin .eql (.tmp 17) (.const (.string ⟨#[112, 114, 101, 105, 110, 99]⟩)), none, false⟩,
                    ⟨some 133, .mov (.tmp 134), none, false⟩] [2, 3, 17, 133])
                  (.cond (.tmp 133)
                  .skip
                  (.seq (.ops [
                      ⟨some 135, .bin .eql (.tmp 17) (.const (.string ⟨#[112, 114, 101, 100, 101, 99]⟩)), none, false⟩,
                      ⟨some 133, .mov (.tmp 135), none, false⟩] [2, 3, 17, 133])
                    (.cond (.tmp 133)
                    .skip
                    (.seq (.ops [
                        ⟨some 136, .bin .eql (.tmp 17) (.const (.string ⟨#[112, 111, 115, 116, 105, 110, 99]⟩)), none, false⟩,
                        ⟨some 133, .mov (.tmp 136), none, false⟩] [2, 3, 17, 133])
                      (.cond (.tmp 133)
                      .skip
                      (.ops [
                          ⟨some 137, .bin .eql (.tmp 17) (.const (.string ⟨#[112, 111, 115, 116, 100, 101, 99]⟩)), none, false⟩,
                          ⟨some 133, .mov (.tmp 137), none, false⟩] [2, 3, 17, 133])))))))
                  (.cond (.tmp 133)
                  (.opsD [
                      (⟨some 138, .load false 1 (.tmp 2), none, false⟩, []),
                      (⟨some 139, .fieldAddr 3 (.tmp 3), none, false⟩, []),
                      (⟨some 140, .load false 1 (.tmp 139), none, false⟩, []),
                      (⟨some 141, .indexAddr 4 (.tmp 140) (.const (.int .i64 0)), none, false⟩, []),
                      (⟨some 142, .load true 4 (.tmp 141), none, false⟩, []),
                      (⟨some 143, .load false 1 (.global 3), none, false⟩, []),
                      (⟨some 144, .fieldAddr 0 (.tmp 3), none, false⟩, []),
                      (⟨some 145, .load false 1 (.tmp 144), none, false⟩, []),
                      (⟨some 146, .call 38 [(.tmp 143), (.tmp 145)], none, false⟩, [(138, .load false 1 (.tmp 2)), (140, .load false 1 (.tmp 139)), (142, .load true 4 (.tmp 141))]),
                      (⟨some 147, .call 98 [(.tmp 138), (.tmp 142), (.tmp 146), (.func 100)], none, false⟩, [])] [])
                  (.seq (.ops [
                      ⟨some 149, .bin .eql (.tmp 17) (.const (.string ⟨#[99, 111, 110, 100]⟩)), none, false⟩,
                      ⟨some 148, .mov (.tmp 149), none, false⟩] [2, 3, 17, 148])
                    (.cond (.tmp 148)
                    (.seq (.opsD [
                        (⟨some 150, .load false 1 (.tmp 2), none, false⟩, []),
                        (⟨some 151, .fieldAddr 3 (.tmp 3), none, false⟩, []),
                        (⟨some 152, .load false 1 (.tmp 151), none, false⟩, []),
                        (⟨some 153, .indexAddr 4 (.tmp 152) (.const (.int .i64 0)), none, false⟩, []),
                        (⟨some 154, .load true 4 (.tmp 153), none, false⟩, []),
                        (⟨some 155, .call 63 [(.tmp 150), (.tmp 154)], none, false⟩, [])] [2, 3])
                      (.seq (.ops [
                        ⟨some 156, .load false 1 (.tmp 2), none, false⟩,
                        ⟨some 157, .call 42 [(.tmp 156), (.const (.int .i64 17)), (.const (.int .i64 0)), (.const (.int .i64 0))], none, false⟩,
                        ⟨some 11, .mov (.tmp 157), none, false⟩] [2, 3, 11])
                      (.seq (.opsD [
                        (⟨some 158, .load false 1 (.tmp 2), none, false⟩, []),
                        (⟨some 159, .fieldAddr 3 (.tmp 3), none, false⟩, []),
                        (⟨some 160, .load false 1 (.tmp 159), none, false⟩, []),
                        (⟨some 161, .indexAddr 4 (.tmp 160) (.const (.int .i64 1)), none, false⟩, []),
                        (⟨some 162, .load true 4 (.tmp 161), none, false⟩, []),
                        (⟨some 163, .call 63 [(.tmp 158), (.tmp 162)], none, false⟩, [])] [2, 3, 11])
                      (.seq (.ops [
                        ⟨some 164, .load false 1 (.tmp 2), none, false⟩,
                        ⟨some 165, .call 42 [(.tmp 164), (.const (.int .i64 15)), (.const (.int .i64 0)), (.const (.int .i64 0))], none, false⟩,
                        ⟨some 12, .mov (.tmp 165), none, false⟩] [2, 3, 11, 12])
                      (.seq (.ops [
                        ⟨some 166, .load false 1 (.tmp 2), none, false⟩,
                        ⟨some 167, .mov (.tmp 11), none, false⟩,
                        ⟨some 168, .buildSlice true 3 1 1 [.int .i64 0] [(0, (.tmp 167))], none, false⟩,
                        ⟨some 169, .call 64 [(.tmp 166), (.tmp 168)], none, false⟩] [2, 3, 12])
                      (.seq (.opsD [
                        (⟨some 170, .load false 1 (.tmp 2), none, false⟩, []),
                        (⟨some 171, .fieldAddr 3 (.tmp 3), none, false⟩, []),
                        (⟨some 172, .load false 1 (.tmp 171), none, false⟩, []),
                        (⟨some 173, .indexAddr 4 (.tmp 172) (.const (.int .i64 2)), none, false⟩, []),
                        (⟨some 174, .load true 4 (.tmp 173), none, false⟩, []),
                        (⟨some 175, .call 63 [(.tmp 170), (.tmp 174)], none, false⟩, [])] [2, 12])
                      (.ops [
                        ⟨some 176, .load false 1 (.tmp 2), none, false⟩,
                        ⟨some 177, .mov (.tmp 12), none, false⟩,
                        ⟨some 178, .buildSlice true 3 1 1 [.int .i64 0] [(0, (.tmp 177))], none, false⟩,
                        ⟨some 179, .call 64 [(.tmp 176), (.tmp 178)], none, false⟩] [])))))))
                    (.seq (.ops [
                        ⟨some 181, .bin .eql (.tmp 17) (.const (.string ⟨#[111, 114]⟩)), none, false⟩,
                        ⟨some 180, .mov (.tmp 181), none, false⟩] [2, 3, 17, 180])
                      (.cond (.tmp 180)
                      (.ops [
                          ⟨some 182, .load false 1 (.tmp 2), none, false⟩,
                          ⟨some 183, .load true 4 (.tmp 3), none, false⟩,
                          ⟨some 184, .call 101 [(.tmp 182), (.tmp 183), (.const (.int .i64 16))], none, false⟩] [])
                      (.seq (.ops [
                          ⟨some 186, .bin .eql (.tmp 17) (.const (.string ⟨#[97, 110, 100]⟩)), none, false⟩,
                          ⟨some 185, .mov (.tmp 186), none, false⟩] [2, 3, 17, 185])
                        (.cond (.tmp 185)
                        (.ops [
                            ⟨some 187, .load false 1 (.tmp 2), none, false⟩,
                            ⟨some 188, .load true 4 (.tmp 3), none, false⟩,
                            ⟨some 189, .call 101 [(.tmp 187), (.tmp 188), (.const (.int .i64 17))], none, false⟩] [])
                        (.seq (.seq (.ops [
                            ⟨some 191, .bin .eql (.tmp 17) (.const (.string ⟨#[109, 97, 116, 99, 104]⟩)), none, false⟩,
                            ⟨some 190, .mov (.tmp 191), none, false⟩] [2, 3, 17, 190])
                          (.cond (.tmp 190)
                          .skip
                          (.ops [
                              ⟨some 192, .bin .eql (.tmp 17) (.const (.string ⟨#[110, 111, 109, 97, 116, 99, 104]⟩)), none, false⟩,
                              ⟨some 190, .mov (.tmp 192), none, false⟩] [2, 3, 17, 190])))
                          (.cond (.tmp 190)
                          (.seq (.opsD [
                              (⟨some 193, .load false 1 (.tmp 2), none, false⟩, []),
                              (⟨some 194, .fieldAddr 3 (.tmp 3), none, false⟩, []),
                              (⟨some 195, .load false 1 (.tmp 194), none, false⟩, []),
                              (⟨some 196, .indexAddr 4 (.tmp 195) (.const (.int .i64 0)), none, false⟩, []),
                              (⟨some 197, .load true 4 (.tmp 196), none, false⟩, []),
                              (⟨some 198, .call 63 [(.tmp 193), (.tmp 197)], none, false⟩, [])] [2, 3])
                            (.seq (.opsD [
                              (⟨some 199, .load false 1 (.tmp 2), none, false⟩, []),
                              (⟨some 200, .fieldAddr 3 (.tmp 3), none, false⟩, []),
                              (⟨some 201, .load false 1 (.tmp 200), none, false⟩, []),
                              (⟨some 202, .indexAddr 4 (.tmp 201) (.const (.int .i64 1)), none, false⟩, []),
                              (⟨some 203, .load true 4 (.tmp 202), none, false⟩, []),
                              (⟨some 204, .call 102 [(.tmp 199), (.tmp 203)], none, false⟩, [])] [2, 3])
                            (.opsD [
                              (⟨some 205, .load false 1 (.tmp 2), none, false⟩, []),
                              (⟨some 206, .buildSlice true 9 1 2 [.str []] [(0, (.const (.string ⟨#[109, 97, 116, 99, 104]⟩))), (1, (.const (.string ⟨#[110, 111, 109, 97, 116, 99, 104]⟩)))], none, false⟩, []),
                              (⟨some 207, .fieldAddr 0 (.tmp 3), none, false⟩, []),
                              (⟨some 208, .load false 1 (.tmp 207), none, false⟩, []),
                              (⟨some 209, .call 38 [(.tmp 206), (.tmp 208)], none, false⟩, [(205, .load false 1 (.tmp 2))]),
                              (⟨some 210, .call 42 [(.tmp 205), (.const (.int .i64 11)), (.tmp 209), (.const (.int .i64 0))], none, false⟩, [])] [])))
                          (.seq (.ops [
                              ⟨some 212, .bin .eql (.tmp 17) (.const (.string ⟨#[99, 97, 108, 108]⟩)), none, false⟩,
                              ⟨some 211, .mov (.tmp 212), none, false⟩] [2, 3, 17, 211])
                            (.cond (.tmp 211)
                            (.ops [
                                ⟨some 213, .load false 1 (.tmp 2), none, false⟩,
                                ⟨some 214, .load true 4 (.tmp 3), none, false⟩,
                                ⟨some 215, .call 103 [(.tmp 213), (.tmp 214)], none, false⟩] [])
                            (.seq (.ops [
                                ⟨some 217, .bin .eql (.tmp 17) (.const (.string ⟨#[98, 117, 105, 108, 116, 105, 110]⟩)), none, false⟩,
                                ⟨some 216, .mov (.tmp 217), none, false⟩] [2, 3, 216])
                              (.cond (.tmp 216)
                              (.ops [
                                  ⟨some 218, .load false 1 (.tmp 2), none, false⟩,
                                  ⟨some 219, .load true 4 (.tmp 3), none, false⟩,
                                  ⟨some 220, .call 104 [(.tmp 218), (.tmp 219)], none, false⟩] [])
                              (.seq (.seq (.ops [
                                  ⟨some 18, .fieldAddr 3 (.tmp 3), none, false⟩,
                                  ⟨some 19, .load false 1 (.tmp 18), none, false⟩,
                                  ⟨some 20, .len .slice (.tmp 19), none, false⟩,
                                  ⟨some 21, .mov (.const (.int .i64 0)), none, false⟩] [2, 3, 19, 20, 21])
                                (.block 1
                                (.loop [2, 3, 19, 20, 21]
                                  (.seq (.ops [
                                      ⟨some 22, .bin .lss (.tmp 21) (.tmp 20), none, false⟩] [2, 3, 19, 20, 21, 22])
                                    (.seq (.cond (.tmp 22)
                                    .skip
                                    (.exit 1))
                                    (.seq (.block 2
                                    (.seq (.ops [
                                        ⟨some 23, .indexAddr 4 (.tmp 19) (.tmp 21), none, false⟩,
                                        ⟨some 24, .load true 4 (.tmp 23), none, false⟩,
                                        ⟨some 14, .allocL 0 [.str [], .str [], .int .i64 0, .nilSlice], none, false⟩,
                                        ⟨none, .storeL 4 (.tmp 14) (.tmp 24), none, false⟩] [2, 3, 14, 19, 20, 21])
                                      (.ops [
                                        ⟨some 25, .load false 1 (.tmp 2), none, false⟩,
                                        ⟨some 26, .loadL true 4 (.tmp 14), none, false⟩,
                                        ⟨some 27, .call 63 [(.tmp 25), (.tmp 26)], none, false⟩] [2, 3, 19, 20, 21])))
                                    (.ops [
                                      ⟨some 28, .bin .add (.tmp 21) (.const (.int .i64 1)), none, false⟩,
                                      ⟨some 21, .mov (.tmp 28), none, false⟩] [2, 3, 19, 20, 21])))))))
                                (.seq (.ops [
                                  ⟨some 29, .load false 1 (.global 4), none, false⟩,
                                  ⟨some 30, .fieldAddr 0 (.tmp 3), none, false⟩,
                                  ⟨some 31, .load false 1 (.tmp 30), none, false⟩,
                                  ⟨some 32, .call 38 [(.tmp 29), (.tmp 31)], none, false⟩,
                                  ⟨some 15, .mov (.tmp 32), none, false⟩] [2, 3, 15])
                                (.seq (.ops [
                                  ⟨some 33, .mov (.tmp 15), none, false⟩,
                                  ⟨some 34, .bin .geq (.tmp 33) (.const (.int .i64 0)), none, false⟩] [2, 3, 15, 34])
                                (.cond (.tmp 34)
                                (.ops [
                                    ⟨some 35, .load false 1 (.tmp 2), none, false⟩,
                                    ⟨some 36, .mov (.tmp 15), none, false⟩,
                                    ⟨some 37, .call 42 [(.tmp 35), (.const (.int .i64 10)), (.tmp 36), (.const (.int .i64 0))], none, false⟩] [])
                                (.opsD [
                                    (⟨some 38, .load false 1 (.tmp 2), none, false⟩, []),
                                    (⟨some 39, .load false 1 (.global 5), none, false⟩, []),
                                    (⟨some 40, .fieldAddr 0 (.tmp 3), none, false⟩, []),
                                    (⟨some 41, .load false 1 (.tmp 40), none, false⟩, []),
                                    (⟨some 42, .call 38 [(.tmp 39), (.tmp 41)], none, false⟩, [(38, .load false 1 (.tmp 2))]),
                                    (⟨some 43, .call 42 [(.tmp 38), (.const (.int .i64 9)), (.tmp 42), (.const (.int .i64 0))], none, false⟩, [])] []))))))))))))))))))))))))))))))))))))⟩
/-- (*scribe/code.compiler).here -/
def af64 : AFunc := ⟨2, [],
  (.seq (.ops [
    ⟨some 6, .mov (.tmp 1), none, false⟩,
    ⟨some 7, .len .slice (.tmp 6), none, false⟩,
    ⟨some 8, .mov (.const (.int .i64 0)), none, false⟩] [0, 6, 7, 8])
  (.block 0
  (.loop [0, 6, 7, 8]
    (.seq (.ops [
        ⟨some 9, .bin .lss (.tmp 8) (.tmp 7), none, false⟩] [0, 6, 7, 8, 9])
      (.seq (.cond (.tmp 9)
      .skip
      (.exit 0))
      (.seq (.block 1
      (.seq (.ops [
          ⟨some 10, .indexAddr 1 (.tmp 6) (.tmp 8), none, false⟩,
          ⟨some 11, .load false 1 (.tmp 10), none, false⟩,
          ⟨some 5, .mov (.tmp 11), none, false⟩] [0, 5, 6, 7, 8])
        (.opsD [
          (⟨some 12, .mov (.tmp 0), none, false⟩, []),
          (⟨some 13, .nilCheck (.tmp 12), none, false⟩, []),
          (⟨some 14, .fieldAddr 0 (.tmp 13), none, false⟩, []),
          (⟨some 15, .load false 1 (.tmp 14), none, false⟩, []),
          (⟨some 16, .nilCheck (.tmp 15), none, false⟩, []),
          (⟨some 17, .fieldAddr 0 (.tmp 16), none, false⟩, []),
          (⟨some 18, .load false 1 (.tmp 17), none, false⟩, []),
          (⟨some 19, .mov (.tmp 5), none, false⟩, []),
          (⟨some 20, .mov (.tmp 0), none, false⟩, []),
          (⟨some 21, .nilCheck (.tmp 20), none, false⟩, []),
          (⟨some 22, .fieldAddr 0 (.tmp 21), none, false⟩, []),
          (⟨some 23, .load false 1 (.tmp 22), none, false⟩, []),
          (⟨some 24, .nilCheck (.tmp 23), none, false⟩, []),
          (⟨some 25, .fieldAddr 0 (.tmp 24), none, false⟩, []),
          (⟨some 26, .load false 1 (.tmp 25), none, false⟩, []),
          (⟨some 27, .len .slice (.tmp 26), none, false⟩, []),
          (⟨some 28, .indexAddr 3 (.tmp 18) (.tmp 19), none, false⟩, []),
          (⟨some 29, .fieldAddr 1 (.tmp 28), none, false⟩, []),
          (⟨none, .store 1 (.tmp 29) (.tmp 27), none, false⟩, [])] [0, 6, 7, 8])))
      (.ops [
        ⟨some 30, .bin .add (.tmp 8) (.const (.int .i64 1)), none, false⟩,
        ⟨some 8, .mov (.tmp 30), none, false⟩] [0, 6, 7, 8])))))))⟩
/-- (*scribe/code.compiler).turn -/
def af65 : AFunc := ⟨4, [],
  (.seq (.ops [
    ⟨some 5, .boxL 0 4 (.tmp 1), none, false⟩,
    ⟨some 6, .boxL 1 4 (.tmp 2), none, false⟩] [0, 3, 5, 6])
  (.seq (.ops [
    ⟨some 11, .mov (.tmp 0), none, false⟩,
    ⟨some 12, .nilCheck (.tmp 11), none, false⟩,
    ⟨some 13, .fieldAddr 0 (.tmp 12), none, false⟩,
    ⟨some 14, .load false 1 (.tmp 13), none, false⟩,
    ⟨some 15, .nilCheck (.tmp 14), none, false⟩,
    ⟨some 16, .fieldAddr 0 (.tmp 15), none, false⟩,
    ⟨some 17, .load false 1 (.tmp 16), none, false⟩,
    ⟨some 18, .len .slice (.tmp 17), none, false⟩,
    ⟨some 8, .mov (.tmp 18), none, false⟩] [0, 3, 5, 6, 8])
  (.seq (.ops [
    ⟨some 9, .mov (.const (.slice none 0 0)), none, false⟩] [0, 3, 5, 6, 8, 9])
  (.seq (.seq (.ops [
    ⟨some 19, .fieldL 0 (.tmp 5), none, false⟩,
    ⟨some 20, .loadL false 1 (.tmp 19), none, false⟩,
    ⟨some 21, .bin .neq (.tmp 20) (.const (.string ⟨#[110, 111, 110, 101]⟩)), none, false⟩] [0, 3, 5, 6, 8, 9, 21])
  (.cond (.tmp 21)
  (.seq (.ops [
      ⟨some 22, .mov (.tmp 0), none, false⟩,
      ⟨some 23, .loadL true 4 (.tmp 5), none, false⟩,
      ⟨some 24, .call 63 [(.tmp 22), (.tmp 23)], none, false⟩] [0, 3, 6, 8, 9])
    (.ops [
      ⟨some 25, .mov (.tmp 9), none, false⟩,
      ⟨some 26, .mov (.tmp 0), none, false⟩,
      ⟨some 27, .call 42 [(.tmp 26), (.const (.int .i64 17)), (.const (.int .i64 0)), (.const (.int .i64 0))], none, false⟩,
      ⟨some 28, .buildSlice true 3 1 1 [.int .i64 0] [(0, (.tmp 27))], none, false⟩,
      ⟨some 29, .append false 3 1 8 (.tmp 25) (.tmp 28), none, false⟩,
      ⟨some 9, .mov (.tmp 29), none, false⟩] [0, 3, 6, 8, 9]))
  .skip))
  (.seq (.ops [
    ⟨some 30, .mov (.tmp 0), none, false⟩,
    ⟨some 31, .loadL true 4 (.tmp 6), none, false⟩,
    ⟨some 32, .call 69 [(.tmp 30), (.tmp 31), (.const (.bool false))], none, false⟩,
    ⟨some 10, .mov (.tmp 32), none, false⟩] [0, 3, 8, 9, 10])
  (.seq (.ops [
    ⟨some 33, .mov (.tmp 0), none, false⟩,
    ⟨some 34, .mov (.tmp 10), none, false⟩,
    ⟨some 35, .nilCheck (.tmp 34), none, false⟩,
    ⟨some 36, .fieldAddr 0 (.tmp 35), none, false⟩,
    ⟨some 37, .load false 1 (.tmp 36), none, false⟩,
    ⟨some 38, .call 64 [(.tmp 33), (.tmp 37)], none, false⟩] [0, 3, 8, 9, 10])
  (.seq (.ops [
    ⟨some 39, .mov (.tmp 3), none, false⟩,
    ⟨some 40, .callv (.tmp 39) [], none, false⟩] [0, 8, 9, 10])
  (.seq (.ops [
    ⟨some 41, .mov (.tmp 0), none, false⟩,
    ⟨some 42, .mov (.tmp 8), none, false⟩,
    ⟨some 43, .call 42 [(.tmp 41), (.const (.int .i64 15)), (.tmp 42), (.const (.int .i64 0))], none, false⟩] [0, 9, 10])
  (.ops [
    ⟨some 44, .mov (.tmp 0), none, false⟩,
    ⟨some 45, .mov (.tmp 9), none, false⟩,
    ⟨some 46, .mov (.tmp 10), none, false⟩,
    ⟨some 47, .nilCheck (.tmp 46), none, false⟩,
    ⟨some 48, .fieldAddr 1 (.tmp 47), none, false⟩,
    ⟨some 49, .load false 1 (.tmp 48), none, false⟩,
    ⟨some 50, .append false 3 1 8 (.tmp 45) (.tmp 49), none, false⟩,
    ⟨some 51, .call 64 [(.tmp 44), (.tmp 50)], none, false⟩] [])))))))))⟩
/-- (*scribe/code.compiler).stmt$1 -/
def af66 : AFunc := ⟨0, [],
  .skip⟩
/-- (*scribe/code.compiler).stmt$2 -/
def af67 : AFunc := ⟨2, [],
  (.opsD [
    (⟨some 2, .load false 1 (.tmp 0), none, false⟩, []),
    (⟨some 3, .fieldAddr 3 (.tmp 1), none, false⟩, []),
    (⟨some 4, .load false 1 (.tmp 3), none, false⟩, []),
    (⟨some 5, .indexAddr 4 (.tmp 4) (.const (.int .i64 2)), none, false⟩, []),
    (⟨some 6, .load true 4 (.tmp 5), none, false⟩, []),
    (⟨some 7, .call 40 [(.tmp 2), (.tmp 6)], none, false⟩, [])] [])⟩
/-- (*scribe/code.compiler).slot -/
def af68 : AFunc := ⟨2, [.tmp 4, .tmp 5],
  (.seq (.ops [
    ⟨some 4, .mov (.const (.int .i64 0)), none, false⟩,
    ⟨some 5, .mov (.const (.int .i64 0)), none, false⟩] [0, 1])
  (.seq (.seq (.ops [
    ⟨some 7, .mov (.tmp 0), none, false⟩,
    ⟨some 8, .nilCheck (.tmp 7), none, false⟩,
    ⟨some 9, .fieldAddr 2 (.tmp 8), none, false⟩,
    ⟨some 10, .load false 1 (.tmp 9), none, false⟩,
    ⟨some 11, .bin .geq (.tmp 10) (.const (.int .i64 0)), none, false⟩] [0, 1, 11])
  (.cond (.tmp 11)
  (.seq (.opsD [
      (⟨some 12, .mov (.tmp 0), none, false⟩, []),
      (⟨some 13, .nilCheck (.tmp 12), none, false⟩, []),
      (⟨some 14, .fieldAddr 1 (.tmp 13), none, false⟩, []),
      (⟨some 15, .load false 1 (.tmp 14), none, false⟩, []),
      (⟨some 16, .nilCheck (.tmp 15), none, false⟩, []),
      (⟨some 17, .fieldAddr 0 (.tmp 16), none, false⟩, []),
      (⟨some 18, .load false 1 (.tmp 17), none, false⟩, []),
      (⟨some 19, .mov (.tmp 0), none, false⟩, []),
      (⟨some 20, .nilCheck (.tmp 19), none, false⟩, []),
      (⟨some 21, .fieldAddr 2 (.tmp 20), none, false⟩, []),
      (⟨some 22, .load false 1 (.tmp 21), none, false⟩, []),
      (⟨some 23, .indexAddr 7 (.tmp 18) (.tmp 22), none, false⟩, []),
      (⟨some 24, .fieldAddr 1 (.tmp 23), none, false⟩, []),
      (⟨some 25, .load false 1 (.tmp 24), none, false⟩, []),
      (⟨some 26, .mov (.tmp 1), none, false⟩, []),
      (⟨some 27, .call 38 [(.tmp 25), (.tmp 26)], none, false⟩, []),
      (⟨some 6, .mov (.tmp 27), none, false⟩, [])] [0, 1, 6])
    (.seq (.ops [
      ⟨some 28, .mov (.tmp 6), none, false⟩,
      ⟨some 29, .bin .geq (.tmp 28) (.const (.int .i64 0)), none, false⟩] [0, 1, 6, 29])
    (.cond (.tmp 29)
    (.seq (.ops [
        ⟨some 30, .mov (.tmp 6), none, false⟩,
        ⟨some 4, .mov (.tmp 30), none, false⟩,
        ⟨some 5, .mov (.const (.int .i64 1)), none, false⟩] [4, 5])
      .ret)
    .skip)))
  .skip))
  (.seq (.ops [
    ⟨some 31, .mov (.tmp 0), none, false⟩,
    ⟨some 32, .nilCheck (.tmp 31), none, false⟩,
    ⟨some 33, .fieldAddr 0 (.tmp 32), none, false⟩,
    ⟨some 34, .load false 1 (.tmp 33), none, false⟩,
    ⟨some 35, .nilCheck (.tmp 34), none, false⟩,
    ⟨some 36, .fieldAddr 4 (.tmp 35), none, false⟩,
    ⟨some 37, .load false 1 (.tmp 36), none, false⟩,
    ⟨some 38, .mov (.tmp 1), none, false⟩,
    ⟨some 39, .call 38 [(.tmp 37), (.tmp 38)], none, false⟩,
    ⟨some 4, .mov (.tmp 39), none, false⟩,
    ⟨some 5, .mov (.const (.int .i64 0)), none, false⟩] [4, 5])
  .ret)))⟩
/-- (*scribe/code.compiler).body -/
def af69 : AFunc := ⟨3, [.tmp 6],
  (.seq (.ops [
    ⟨some 4, .boxL 0 4 (.tmp 1), none, false⟩,
    ⟨some 6, .mov (.const (.pointer none)), none, false⟩] [0, 2, 4])
  (.seq (.ops [
    ⟨some 8, .mov (.tmp 2), none, false⟩,
    ⟨some 9, .build [.nilSlice, .nilSlice, .bool false] [(2, 1, (.tmp 8))], none, false⟩,
    ⟨some 10, .boxH 157 3 (.tmp 9), none, false⟩,
    ⟨some 7, .mov (.tmp 10), none, false⟩] [0, 4, 7])
  (.seq (.ops [
    ⟨some 11, .mov (.tmp 0), none, false⟩,
    ⟨some 12, .mov (.tmp 0), none, false⟩,
    ⟨some 13, .nilCheck (.tmp 12), none, false⟩,
    ⟨some 14, .fieldAddr 3 (.tmp 13), none, false⟩,
    ⟨some 15, .load false 1 (.tmp 14), none, false⟩,
    ⟨some 16, .mov (.tmp 7), none, false⟩,
    ⟨some 17, .buildSlice true 154 1 1 [.nil] [(0, (.tmp 16))], none, false⟩,
    ⟨some 18, .append false 154 1 8 (.tmp 15) (.tmp 17), none, false⟩,
    ⟨some 19, .nilCheck (.tmp 11), none, false⟩,
    ⟨some 20, .fieldAddr 3 (.tmp 19), none, false⟩,
    ⟨none, .store 1 (.tmp 20) (.tmp 18), none, false⟩] [0, 4, 7])
  (.seq (.ops [
    ⟨some 21, .mov (.tmp 0), none, false⟩,
    ⟨some 22, .loadL true 4 (.tmp 4), none, false⟩,
    ⟨some 23, .call 40 [(.tmp 21), (.tmp 22)], none, false⟩] [0, 7])
  (.seq (.opsD [
    (⟨some 24, .mov (.tmp 0), none, false⟩, []),
    (⟨some 25, .mov (.tmp 0), none, false⟩, []),
    (⟨some 26, .nilCheck (.tmp 25), none, false⟩, []),
    (⟨some 27, .fieldAddr 3 (.tmp 26), none, false⟩, []),
    (⟨some 28, .load false 1 (.tmp 27), none, false⟩, []),
    (⟨some 29, .mov (.tmp 0), none, false⟩, []),
    (⟨some 30, .nilCheck (.tmp 29), none, false⟩, []),
    (⟨some 31, .fieldAddr 3 (.tmp 30), none, false⟩, []),
    (⟨some 32, .load false 1 (.tmp 31), none, false⟩, []),
    (⟨some 33, .len .slice (.tmp 32), none, false⟩, []),
    (⟨some 34, .bin .sub (.tmp 33) (.const (.int .i64 1)), none, false⟩, []),
    (⟨some 35, .slice 1 (.tmp 28) none (some (.tmp 34)), none, false⟩, []),
    (⟨some 36, .nilCheck (.tmp 24), none, false⟩, []),
    (⟨some 37, .fieldAddr 3 (.tmp 36), none, false⟩, []),
    (⟨none, .store 1 (.tmp 37) (.tmp 35), none, false⟩, [])] [7])
  (.seq (.ops [
    ⟨some 38, .mov (.tmp 7), none, false⟩,
    ⟨some 6, .mov (.tmp 38), none, false⟩] [6])
  .ret))))))⟩
/-- (*scribe/code.compiler).output -/
def af70 : AFunc := ⟨2, [],
  (.seq (.ops [
    ⟨some 3, .boxL 0 4 (.tmp 1), none, false⟩] [0, 3])
  (.seq (.ops [
    ⟨some 8, .fieldL 3 (.tmp 3), none, false⟩,
    ⟨some 9, .loadL false 1 (.tmp 8), none, false⟩,
    ⟨some 10, .slice 4 (.tmp 9) (some (.const (.int .i64 1))) none, none, false⟩,
    ⟨some 4, .mov (.tmp 10), none, false⟩] [0, 3, 4])
  (.seq (.seq (.ops [
    ⟨some 11, .mov (.tmp 4), none, false⟩,
    ⟨some 12, .len .slice (.tmp 11), none, false⟩,
    ⟨some 13, .mov (.const (.int .i64 0)), none, false⟩] [0, 3, 4, 11, 12, 13])
  (.block 0
  (.loop [0, 3, 4, 11, 12, 13]
    (.seq (.ops [
        ⟨some 14, .bin .lss (.tmp 13) (.tmp 12), none, false⟩] [0, 3, 4, 11, 12, 13, 14])
      (.seq (.cond (.tmp 14)
      .skip
      (.exit 0))
      (.seq (.block 1
      (.seq (.ops [
          ⟨some 15, .indexAddr 4 (.tmp 11) (.tmp 13), none, false⟩,
          ⟨some 16, .load true 4 (.tmp 15), none, false⟩,
          ⟨some 6, .allocL 0 [.str [], .str [], .int .i64 0, .nilSlice], none, false⟩,
          ⟨none, .storeL 4 (.tmp 6) (.tmp 16), none, false⟩] [0, 3, 4, 6, 11, 12, 13])
        (.ops [
          ⟨some 17, .mov (.tmp 0), none, false⟩,
          ⟨some 18, .loadL true 4 (.tmp 6), none, false⟩,
          ⟨some 19, .call 63 [(.tmp 17), (.tmp 18)], none, false⟩] [0, 3, 4, 11, 12, 13])))
      (.ops [
        ⟨some 20, .bin .add (.tmp 13) (.const (.int .i64 1)), none, false⟩,
        ⟨some 13, .mov (.tmp 20), none, false⟩] [0, 3, 4, 11, 12, 13])))))))
  (.seq (.seq (.ops [
    ⟨some 21, .mov (.tmp 4), none, false⟩,
    ⟨some 22, .len .slice (.tmp 21), none, false⟩,
    ⟨some 23, .bin .eql (.tmp 22) (.const (.int .i64 0)), none, false⟩] [0, 3, 4, 23])
  (.cond (.tmp 23)
  (.seq (.ops [
      ⟨some 24, .mov (.tmp 0), none, false⟩,
      ⟨some 25, .call 97 [(.tmp 24), (.const (.int .i64 0))], none, false⟩] [0, 3, 4])
    (.ops [
      ⟨some 26, .mov (.tmp 0), none, false⟩,
      ⟨some 27, .call 42 [(.tmp 26), (.const (.int .i64 4)), (.const (.int .i64 0)), (.const (.int .i64 0))], none, false⟩] [0, 3, 4]))
  .skip))
  (.seq (.ops [
    ⟨some 28, .buildSlice true 9 1 3 [.str []] [(0, (.const (.string ⟨#[110, 111, 110, 101]⟩))), (1, (.const (.string ⟨#[116, 111]⟩))), (2, (.const (.string ⟨#[97, 112, 112, 101, 110, 100]⟩)))], none, false⟩,
    ⟨some 29, .fieldL 3 (.tmp 3), none, false⟩,
    ⟨some 30, .loadL false 1 (.tmp 29), none, false⟩,
    ⟨some 31, .indexAddr 4 (.tmp 30) (.const (.int .i64 0)), none, false⟩,
    ⟨some 32, .fieldAddr 0 (.tmp 31), none, false⟩,
    ⟨some 33, .load false 1 (.tmp 32), none, false⟩,
    ⟨some 34, .call 38 [(.tmp 28), (.tmp 33)], none, false⟩,
    ⟨some 7, .mov (.tmp 34), none, false⟩] [0, 3, 4, 7])
  (.seq (.seq (.ops [
    ⟨some 35, .mov (.tmp 7), none, false⟩,
    ⟨some 36, .bin .gtr (.tmp 35) (.const (.int .i64 0)), none, false⟩] [0, 3, 4, 7, 36])
  (.cond (.tmp 36)
  (.ops [
      ⟨some 37, .mov (.tmp 0), none, false⟩,
      ⟨some 38, .fieldL 3 (.tmp 3), none, false⟩,
      ⟨some 39, .loadL false 1 (.tmp 38), none, false⟩,
      ⟨some 40, .indexAddr 4 (.tmp 39) (.const (.int .i64 0)), none, false⟩,
      ⟨some 41, .fieldAddr 3 (.tmp 40), none, false⟩,
      ⟨some 42, .load false 1 (.tmp 41), none, false⟩,
      ⟨some 43, .indexAddr 4 (.tmp 42) (.const (.int .i64 0)), none, false⟩,
      ⟨some 44, .load true 4 (.tmp 43), none, false⟩,
      ⟨some 45, .call 63 [(.tmp 37), (.tmp 44)], none, false⟩] [0, 3, 4, 7])
  .skip))
  (.ops [
    ⟨some 46, .mov (.tmp 0), none, false⟩,
    ⟨some 47, .makeMap, none, false⟩,
    ⟨none, .mapUpdate (.cell .str) (.tmp 47) (.const (.string ⟨#[112, 114, 105, 110, 116]⟩)) (.const (.int .i64 27)), none, false⟩,
    ⟨none, .mapUpdate (.cell .str) (.tmp 47) (.const (.string ⟨#[112, 114, 105, 110, 116, 102]⟩)) (.const (.int .i64 28)), none, false⟩,
    ⟨some 48, .mov (.tmp 47), none, false⟩,
    ⟨some 49, .fieldL 0 (.tmp 3), none, false⟩,
    ⟨some 50, .loadL false 1 (.tmp 49), none, false⟩,
    ⟨some 51, .lookup (.cell .str) (.int .i64 0) False (.tmp 48) (.tmp 50), none, false⟩,
    ⟨some 52, .mov (.tmp 4), none, false⟩,
    ⟨some 53, .len .slice (.tmp 52), none, false⟩,
    ⟨some 54, .max (.tmp 53) (.const (.int .i64 1)), none, false⟩,
    ⟨some 55, .mov (.tmp 7), none, false⟩,
    ⟨some 56, .call 42 [(.tmp 46), (.tmp 51), (.tmp 54), (.tmp 55)], none, false⟩] [])))))))⟩
/-- (*scribe/code.checker).reach -/
def af71 : AFunc := ⟨3, [],
  (.seq (.ops [
    ⟨some 5, .boxL 0 3 (.tmp 2), none, false⟩] [0, 1, 5])
  (.seq (.seq (.ops [
    ⟨some 8, .mov (.tmp 1), none, false⟩,
    ⟨some 9, .bin .lss (.tmp 8) (.const (.int .i64 0)), none, false⟩,
    ⟨some 10, .mov (.tmp 9), none, false⟩,
    ⟨some 11, .mov (.tmp 1), some (10, false), false⟩,
    ⟨some 12, .mov (.tmp 0), some (10, false), false⟩,
    ⟨some 13, .nilCheck (.tmp 12), some (10, false), false⟩,
    ⟨some 14, .fieldAddr 0 (.tmp 13), some (10, false), false⟩,
    ⟨some 15, .load false 1 (.tmp 14), some (10, false), false⟩,
    ⟨some 16, .nilCheck (.tmp 15), some (10, false), false⟩,
    ⟨some 17, .fieldAddr 0 (.tmp 16), some (10, false), false⟩,
    ⟨some 18, .load false 1 (.tmp 17), some (10, false), false⟩,
    ⟨some 19, .len .slice (.tmp 18), some (10, false), false⟩,
    ⟨some 20, .bin .geq (.tmp 11) (.tmp 19), some (10, false), false⟩,
    ⟨some 21, .pick (.tmp 10) (.const (.bool true)) (.tmp 20), none, false⟩,
    ⟨some 22, .mov (.tmp 21), none, false⟩,
    ⟨some 23, .fieldL 1 (.tmp 5), some (22, false), false⟩,
    ⟨some 24, .loadL false 1 (.tmp 23), some (22, false), false⟩,
    ⟨some 25, .len .str (.tmp 24), some (22, false), false⟩,
    ⟨some 26, .bin .gtr (.tmp 25) (.const (.int .i64 5000)), some (22, false), false⟩,
    ⟨some 27, .pick (.tmp 22) (.const (.bool true)) (.tmp 26), none, false⟩,
    ⟨some 28, .mov (.tmp 27), none, false⟩,
    ⟨some 29, .fieldL 2 (.tmp 5), some (28, false), false⟩,
    ⟨some 30, .loadL false 1 (.tmp 29), some (28, false), false⟩,
    ⟨some 31, .bin .gtr (.tmp 30) (.const (.int .i64 5000)), some (28, false), false⟩,
    ⟨some 32, .pick (.tmp 28) (.const (.bool true)) (.tmp 31), none, false⟩] [0, 1, 5, 32])
  (.cond (.tmp 32)
  (.seq (.ops [
      ⟨some 33, .mov (.tmp 0), none, false⟩,
      ⟨some 34, .nilCheck (.tmp 33), none, false⟩,
      ⟨some 35, .fieldAddr 3 (.tmp 34), none, false⟩,
      ⟨none, .store 1 (.tmp 35) (.const (.bool true)), none, false⟩] [])
    .ret)
  .skip))
  (.seq (.seq (.ops [
    ⟨some 37, .mov (.tmp 0), none, false⟩,
    ⟨some 38, .nilCheck (.tmp 37), none, false⟩,
    ⟨some 39, .fieldAddr 1 (.tmp 38), none, false⟩,
    ⟨some 40, .load false 1 (.tmp 39), none, false⟩,
    ⟨some 41, .mov (.tmp 1), none, false⟩,
    ⟨some 42, .lookup (.cell .int) (.agg [.int .i64 0, .str [], .int .i64 0]) True (.tmp 40) (.tmp 41), none, false⟩,
    ⟨some 36, .mov (.tmp 42), none, false⟩,
    ⟨some 43, .extract (.tmp 36) 0, none, false⟩,
    ⟨some 44, .extract (.tmp 36) 1, none, false⟩,
    ⟨some 6, .allocL 0 [.int .i64 0, .str [], .int .i64 0], none, false⟩,
    ⟨none, .storeL 3 (.tmp 6) (.tmp 43), none, false⟩,
    ⟨some 7, .mov (.tmp 44), none, false⟩] [0, 1, 5, 6, 7])
  (.seq (.ops [
    ⟨some 45, .mov (.tmp 7), none, false⟩] [0, 1, 5, 6, 45])
  (.cond (.tmp 45)
  (.seq (.ops [
      ⟨some 46, .mov (.tmp 0), none, false⟩,
      ⟨some 47, .mov (.tmp 0), none, false⟩,
      ⟨some 48, .nilCheck (.tmp 47), none, false⟩,
      ⟨some 49, .fieldAddr 3 (.tmp 48), none, false⟩,
      ⟨some 50, .load false 1 (.tmp 49), none, false⟩,
      ⟨some 51, .mov (.tmp 50), none, false⟩,
      ⟨some 52, .loadL true 3 (.tmp 6), some (51, false), false⟩,
      ⟨some 53, .loadL true 3 (.tmp 5), some (51, false), false⟩,
      ⟨some 54, .eqAgg true [.int, .str, .int] (.tmp 52) (.tmp 53), some (51, false), false⟩,
      ⟨some 55, .pick (.tmp 51) (.const (.bool true)) (.tmp 54), none, false⟩,
      ⟨some 56, .nilCheck (.tmp 46), none, false⟩,
      ⟨some 57, .fieldAddr 3 (.tmp 56), none, false⟩,
      ⟨none, .store 1 (.tmp 57) (.tmp 55), none, false⟩] [])
    .ret)
  .skip)))
  (.seq (.opsD [
    (⟨some 58, .mov (.tmp 0), none, false⟩, []),
    (⟨some 59, .nilCheck (.tmp 58), none, false⟩, []),
    (⟨some 60, .fieldAddr 1 (.tmp 59), none, false⟩, []),
    (⟨some 61, .load false 1 (.tmp 60), none, false⟩, []),
    (⟨some 62, .mov (.tmp 1), none, false⟩, []),
    (⟨some 63, .loadL true 3 (.tmp 5), none, false⟩, []),
    (⟨none, .mapUpdate (.cell .int) (.tmp 61) (.tmp 62) (.tmp 63), none, false⟩, [])] [0, 1])
  (.ops [
    ⟨some 64, .mov (.tmp 0), none, false⟩,
    ⟨some 65, .mov (.tmp 0), none, false⟩,
    ⟨some 66, .nilCheck (.tmp 65), none, false⟩,
    ⟨some 67, .fieldAddr 2 (.tmp 66), none, false⟩,
    ⟨some 68, .load false 1 (.tmp 67), none, false⟩,
    ⟨some 69, .mov (.tmp 1), none, false⟩,
    ⟨some 70, .buildSlice true 3 1 1 [.int .i64 0] [(0, (.tmp 69))], none, false⟩,
    ⟨some 71, .append false 3 1 8 (.tmp 68) (.tmp 70), none, false⟩,
    ⟨some 72, .nilCheck (.tmp 64), none, false⟩,
    ⟨some 73, .fieldAddr 2 (.tmp 72), none, false⟩,
    ⟨none, .store 1 (.tmp 73) (.tmp 71), none, false⟩] [])))))⟩
/-- (*scribe/code.checker).step -/
def af72 : AFunc := ⟨2, [],
  (.seq (.opsD [
    (⟨some 10, .mov (.tmp 0), none, false⟩, []),
    (⟨some 11, .nilCheck (.tmp 10), none, false⟩, []),
    (⟨some 12, .fieldAddr 1 (.tmp 11), none, false⟩, []),
    (⟨some 13, .load false 1 (.tmp 12), none, false⟩, []),
    (⟨some 14, .mov (.tmp 1), none, false⟩, []),
    (⟨some 15, .lookup (.cell .int) (.agg [.int .i64 0, .str [], .int .i64 0]) False (.tmp 13) (.tmp 14), none, false⟩, []),
    (⟨some 16, .mov (.tmp 0), none, false⟩, []),
    (⟨some 17, .nilCheck (.tmp 16), none, false⟩, []),
    (⟨some 18, .fieldAddr 0 (.tmp 17), none, false⟩, []),
    (⟨some 19, .load false 1 (.tmp 18), none, false⟩, []),
    (⟨some 20, .nilCheck (.tmp 19), none, false⟩, []),
    (⟨some 21, .fieldAddr 0 (.tmp 20), none, false⟩, []),
    (⟨some 22, .load false 1 (.tmp 21), none, false⟩, []),
    (⟨some 23, .mov (.tmp 1), none, false⟩, []),
    (⟨some 24, .indexAddr 3 (.tmp 22) (.tmp 23), none, false⟩, []),
    (⟨some 25, .load true 3 (.tmp 24), none, false⟩, []),
    (⟨some 4, .allocL 0 [.int .i64 0, .str [], .int .i64 0], none, false⟩, []),
    (⟨some 5, .allocL 1 [.int .i64 0, .int .i64 0, .int .i64 0], none, false⟩, []),
    (⟨none, .storeL 3 (.tmp 4) (.tmp 15), none, false⟩, []),
    (⟨none, .storeL 3 (.tmp 5) (.tmp 25), none, false⟩, [])] [0, 1, 4, 5])
  (.seq (.ops [
    ⟨some 27, .mov (.tmp 0), none, false⟩,
    ⟨some 28, .loadL true 3 (.tmp 4), none, false⟩,
    ⟨some 29, .loadL true 3 (.tmp 5), none, false⟩,
    ⟨some 30, .call 105 [(.tmp 27), (.tmp 28), (.tmp 29)], none, false⟩,
    ⟨some 26, .mov (.tmp 30), none, false⟩,
    ⟨some 31, .extract (.tmp 26) 0, none, false⟩,
    ⟨some 32, .extract (.tmp 26) 1, none, false⟩,
    ⟨some 33, .extract (.tmp 26) 2, none, false⟩,
    ⟨some 6, .mov (.tmp 31), none, false⟩,
    ⟨some 7, .mov (.tmp 32), none, false⟩,
    ⟨some 8, .mov (.tmp 33), none, false⟩] [0, 1, 4, 5, 6, 7, 8])
  (.seq (.ops [
    ⟨some 34, .fieldL 1 (.tmp 4), none, false⟩,
    ⟨some 35, .loadL false 1 (.tmp 34), none, false⟩,
    ⟨some 36, .len .str (.tmp 35), none, false⟩,
    ⟨some 37, .mov (.tmp 6), none, false⟩,
    ⟨some 38, .len .str (.tmp 37), none, false⟩,
    ⟨some 39, .bin .sub (.tmp 36) (.tmp 38), none, false⟩,
    ⟨some 9, .mov (.tmp 39), none, false⟩] [0, 1, 4, 5, 6, 7, 8, 9])
  (.seq (.seq (.ops [
    ⟨some 40, .mov (.tmp 8), none, false⟩,
    ⟨some 41, .un .not (.tmp 40), none, false⟩,
    ⟨some 42, .mov (.tmp 41), none, false⟩,
    ⟨some 43, .mov (.tmp 9), some (42, false), false⟩,
    ⟨some 44, .bin .lss (.tmp 43) (.const (.int .i64 0)), some (42, false), false⟩,
    ⟨some 45, .pick (.tmp 42) (.const (.bool true)) (.tmp 44), none, false⟩,
    ⟨some 46, .mov (.tmp 45), none, false⟩,
    ⟨some 47, .fieldL 1 (.tmp 4), some (46, false), false⟩,
    ⟨some 48, .loadL false 1 (.tmp 47), some (46, false), false⟩,
    ⟨some 49, .mov (.tmp 9), some (46, false), false⟩,
    ⟨some 50, .sliceStr (.tmp 48) (some (.tmp 49)) none, some (46, false), false⟩,
    ⟨some 51, .mov (.tmp 6), some (46, false), false⟩,
    ⟨some 52, .bin .neq (.tmp 50) (.tmp 51), some (46, false), false⟩,
    ⟨some 53, .pick (.tmp 46) (.const (.bool true)) (.tmp 52), none, false⟩] [0, 1, 4, 5, 7, 9, 53])
  (.cond (.tmp 53)
  (.seq (.ops [
      ⟨some 54, .mov (.tmp 0), none, false⟩,
      ⟨some 55, .nilCheck (.tmp 54), none, false⟩,
      ⟨some 56, .fieldAddr 3 (.tmp 55), none, false⟩,
      ⟨none, .store 1 (.tmp 56) (.const (.bool true)), none, false⟩] [])
    .ret)
  .skip))
  (.seq (.ops [
    ⟨some 57, .fieldL 1 (.tmp 4), none, false⟩,
    ⟨some 58, .loadL false 1 (.tmp 57), none, false⟩,
    ⟨some 59, .mov (.tmp 9), none, false⟩,
    ⟨some 60, .sliceStr (.tmp 58) none (some (.tmp 59)), none, false⟩,
    ⟨some 61, .mov (.tmp 7), none, false⟩,
    ⟨some 62, .bin .add (.tmp 60) (.tmp 61), none, false⟩,
    ⟨some 63, .fieldL 1 (.tmp 4), none, false⟩,
    ⟨none, .storeL 1 (.tmp 63) (.tmp 62), none, false⟩] [0, 1, 4, 5])
  (.seq (.seq (.ops [
    ⟨some 64, .fieldL 0 (.tmp 5), none, false⟩,
    ⟨some 65, .loadL false 1 (.tmp 64), none, false⟩] [0, 1, 4, 5, 65])
  (.block 0
  (.seq (.seq (.ops [
      ⟨some 67, .bin .eql (.tmp 65) (.const (.int .i64 23)), none, false⟩,
      ⟨some 66, .mov (.tmp 67), none, false⟩] [0, 1, 4, 5, 65, 66])
    (.cond (.tmp 66)
    .skip
    (.ops [
        ⟨some 68, .bin .eql (.tmp 65) (.const (.int .i64 33)), none, false⟩,
        ⟨some 66, .mov (.tmp 68), none, false⟩] [0, 1, 4, 5, 65, 66])))
    (.cond (.tmp 66)
    .ret
    (.seq (.ops [
        ⟨some 70, .bin .eql (.tmp 65) (.const (.int .i64 32)), none, false⟩,
        ⟨some 69, .mov (.tmp 70), none, false⟩] [0, 1, 4, 5, 65, 69])
      (.cond (.tmp 69)
      (.seq (.ops [
          ⟨some 71, .mov (.tmp 0), none, false⟩,
          ⟨some 72, .mov (.tmp 0), none, false⟩,
          ⟨some 73, .nilCheck (.tmp 72), none, false⟩,
          ⟨some 74, .fieldAddr 3 (.tmp 73), none, false⟩,
          ⟨some 75, .load false 1 (.tmp 74), none, false⟩,
          ⟨some 76, .mov (.tmp 75), none, false⟩,
          ⟨some 77, .fieldL 0 (.tmp 4), some (76, false), false⟩,
          ⟨some 78, .loadL false 1 (.tmp 77), some (76, false), false⟩,
          ⟨some 79, .bin .neq (.tmp 78) (.const (.int .i64 1)), some (76, false), false⟩,
          ⟨some 80, .pick (.tmp 76) (.const (.bool true)) (.tmp 79), none, false⟩,
          ⟨some 81, .nilCheck (.tmp 71), none, false⟩,
          ⟨some 82, .fieldAddr 3 (.tmp 81), none, false⟩,
          ⟨none, .store 1 (.tmp 82) (.tmp 80), none, false⟩] [])
        .ret)
      (.seq (.ops [
          ⟨some 84, .bin .eql (.tmp 65) (.const (.int .i64 34)), none, false⟩,
          ⟨some 83, .mov (.tmp 84), none, false⟩] [0, 1, 4, 5, 65, 83])
        (.cond (.tmp 83)
        (.seq (.ops [
            ⟨some 85, .mov (.tmp 0), none, false⟩,
            ⟨some 86, .mov (.tmp 0), none, false⟩,
            ⟨some 87, .nilCheck (.tmp 86), none, false⟩,
            ⟨some 88, .fieldAddr 3 (.tmp 87), none, false⟩,
            ⟨some 89, .load false 1 (.tmp 88), none, false⟩,
            ⟨some 90, .mov (.tmp 89), none, false⟩,
            ⟨some 91, .fieldL 0 (.tmp 4), some (90, false), false⟩,
            ⟨some 92, .loadL false 1 (.tmp 91), some (90, false), false⟩,
            ⟨some 93, .bin .gtr (.tmp 92) (.const (.int .i64 2)), some (90, false), false⟩,
            ⟨some 94, .pick (.tmp 90) (.const (.bool true)) (.tmp 93), none, false⟩,
            ⟨some 95, .mov (.tmp 94), none, false⟩,
            ⟨some 96, .fieldL 1 (.tmp 4), some (95, false), false⟩,
            ⟨some 97, .loadL false 1 (.tmp 96), some (95, false), false⟩,
            ⟨some 98, .bin .neq (.tmp 97) (.const (.string ⟨#[]⟩)), some (95, false), false⟩,
            ⟨some 99, .pick (.tmp 95) (.const (.bool true)) (.tmp 98), none, false⟩,
            ⟨some 100, .mov (.tmp 99), none, false⟩,
            ⟨some 101, .fieldL 2 (.tmp 4), some (100, false), false⟩,
            ⟨some 102, .loadL false 1 (.tmp 101), some (100, false), false⟩,
            ⟨some 103, .bin .neq (.tmp 102) (.const (.int .i64 0)), some (100, false), false⟩,
            ⟨some 104, .pick (.tmp 100) (.const (.bool true)) (.tmp 103), none, false⟩,
            ⟨some 105, .nilCheck (.tmp 85), none, false⟩,
            ⟨some 106, .fieldAddr 3 (.tmp 105), none, false⟩,
            ⟨none, .store 1 (.tmp 106) (.tmp 104), none, false⟩] [])
          .ret)
        (.seq (.ops [
            ⟨some 108, .bin .eql (.tmp 65) (.const (.int .i64 15)), none, false⟩,
            ⟨some 107, .mov (.tmp 108), none, false⟩] [0, 1, 4, 5, 65, 107])
          (.cond (.tmp 107)
          (.seq (.ops [
              ⟨some 109, .mov (.tmp 0), none, false⟩,
              ⟨some 110, .fieldL 1 (.tmp 5), none, false⟩,
              ⟨some 111, .loadL false 1 (.tmp 110), none, false⟩,
              ⟨some 112, .loadL true 3 (.tmp 4), none, false⟩,
              ⟨some 113, .call 71 [(.tmp 109), (.tmp 111), (.tmp 112)], none, false⟩] [])
            .ret)
          (.seq (.seq (.ops [
              ⟨some 115, .bin .eql (.tmp 65) (.const (.int .i64 16)), none, false⟩,
              ⟨some 114, .mov (.tmp 115), none, false⟩] [0, 1, 4, 5, 65, 114])
            (.cond (.tmp 114)
            .skip
            (.ops [
                ⟨some 116, .bin .eql (.tmp 65) (.const (.int .i64 17)), none, false⟩,
                ⟨some 114, .mov (.tmp 116), none, false⟩] [0, 1, 4, 5, 65, 114])))
            (.cond (.tmp 114)
            (.ops [
                ⟨some 117, .mov (.tmp 0), none, false⟩,
                ⟨some 118, .fieldL 1 (.tmp 5), none, false⟩,
                ⟨some 119, .loadL false 1 (.tmp 118), none, false⟩,
                ⟨some 120, .loadL true 3 (.tmp 4), none, false⟩,
                ⟨some 121, .call 71 [(.tmp 117), (.tmp 119), (.tmp 120)], none, false⟩] [0, 1, 4])
            (.seq (.ops [
                ⟨some 123, .bin .eql (.tmp 65) (.const (.int .i64 29)), none, false⟩,
                ⟨some 122, .mov (.tmp 123), none, false⟩] [0, 1, 4, 5, 65, 122])
              (.cond (.tmp 122)
              (.ops [
                  ⟨some 124, .fieldL 2 (.tmp 4), none, false⟩,
                  ⟨some 125, .loadL false 1 (.tmp 124), none, false⟩,
                  ⟨some 126, .bin .add (.tmp 125) (.const (.int .i64 1)), none, false⟩,
                  ⟨some 127, .fieldL 2 (.tmp 4), none, false⟩,
                  ⟨none, .storeL 1 (.tmp 127) (.tmp 126), none, false⟩] [0, 1, 4])
              (.seq (.seq (.ops [
                  ⟨some 129, .bin .eql (.tmp 65) (.const (.int .i64 31)), none, false⟩,
                  ⟨some 128, .mov (.tmp 129), none, false⟩] [0, 1, 4, 5, 65, 128])
                (.cond (.tmp 128)
                .skip
                (.ops [
                    ⟨some 130, .bin .eql (.tmp 65) (.const (.int .i64 30)), none, false⟩,
                    ⟨some 128, .mov (.tmp 130), none, false⟩] [0, 1, 4, 5, 128])))
                (.cond (.tmp 128)
                (.seq (.seq (.ops [
                    ⟨some 131, .fieldL 2 (.tmp 4), none, false⟩,
                    ⟨some 132, .loadL false 1 (.tmp 131), none, false⟩,
                    ⟨some 133, .bin .eql (.tmp 132) (.const (.int .i64 0)), none, false⟩] [0, 1, 4, 5, 133])
                  (.cond (.tmp 133)
                  (.seq (.ops [
                      ⟨some 134, .mov (.tmp 0), none, false⟩,
                      ⟨some 135, .nilCheck (.tmp 134), none, false⟩,
                      ⟨some 136, .fieldAddr 3 (.tmp 135), none, false⟩,
                      ⟨none, .store 1 (.tmp 136) (.const (.bool true)), none, false⟩] [])
                    .ret)
                  .skip))
                  (.seq (.seq (.ops [
                    ⟨some 137, .fieldL 0 (.tmp 5), none, false⟩,
                    ⟨some 138, .loadL false 1 (.tmp 137), none, false⟩,
                    ⟨some 139, .bin .eql (.tmp 138) (.const (.int .i64 31)), none, false⟩] [0, 1, 4, 5, 139])
                  (.cond (.tmp 139)
                  (.seq (.ops [
                      ⟨some 140, .fieldL 2 (.tmp 4), none, false⟩,
                      ⟨some 141, .loadL false 1 (.tmp 140), none, false⟩,
                      ⟨some 142, .bin .sub (.tmp 141) (.const (.int .i64 1)), none, false⟩,
                      ⟨some 143, .fieldL 2 (.tmp 4), none, false⟩,
                      ⟨none, .storeL 1 (.tmp 143) (.tmp 142), none, false⟩] [0, 1, 4])
                    (.exit 0))
                  .skip))
                  (.seq (.ops [
                    ⟨some 144, .mov (.tmp 0), none, false⟩,
                    ⟨some 145, .fieldL 1 (.tmp 5), none, false⟩,
                    ⟨some 146, .loadL false 1 (.tmp 145), none, false⟩,
                    ⟨some 147, .loadL true 3 (.tmp 4), none, false⟩,
                    ⟨some 148, .call 71 [(.tmp 144), (.tmp 146), (.tmp 147)], none, false⟩] [0, 1, 4])
                  (.ops [
                    ⟨some 149, .fieldL 1 (.tmp 4), none, false⟩,
                    ⟨some 150, .loadL false 1 (.tmp 149), none, false⟩,
                    ⟨some 151, .bin .add (.tmp 150) (.const (.string ⟨#[118]⟩)), none, false⟩,
                    ⟨some 152, .fieldL 1 (.tmp 4), none, false⟩,
                    ⟨none, .storeL 1 (.tmp 152) (.tmp 151), none, false⟩] [0, 1, 4]))))
                .skip))))))))))))))))
  (.ops [
    ⟨some 153, .mov (.tmp 0), none, false⟩,
    ⟨some 154, .mov (.tmp 1), none, false⟩,
    ⟨some 155, .bin .add (.tmp 154) (.const (.int .i64 1)), none, false⟩,
    ⟨some 156, .loadL true 3 (.tmp 4), none, false⟩,
    ⟨some 157, .call 71 [(.tmp 153), (.tmp 155), (.tmp 156)], none, false⟩] [])))))))⟩
/-- scribe/scriberef15.meet -/
def af73 : AFunc := ⟨3, [.tmp 6],
  (.seq (.ops [
    ⟨some 5, .boxL 0 4 (.tmp 2), none, false⟩,
    ⟨some 6, .mov (.const (.bool false)), none, false⟩] [0, 1, 5])
  (.seq (.seq (.ops [
    ⟨some 7, .mov (.tmp 1), none, false⟩,
    ⟨some 8, .bin .lss (.tmp 7) (.const (.int .i64 0)), none, false⟩,
    ⟨some 9, .mov (.tmp 8), none, false⟩,
    ⟨some 10, .mov (.tmp 1), some (9, false), false⟩,
    ⟨some 11, .mov (.tmp 0), some (9, false), false⟩,
    ⟨some 12, .len .slice (.tmp 11), some (9, false), false⟩,
    ⟨some 13, .bin .geq (.tmp 10) (.tmp 12), some (9, false), false⟩,
    ⟨some 14, .pick (.tmp 9) (.const (.bool true)) (.tmp 13), none, false⟩,
    ⟨some 15, .mov (.tmp 14), none, false⟩,
    ⟨some 16, .fieldL 3 (.tmp 5), some (15, false), false⟩,
    ⟨some 17, .loadL false 1 (.tmp 16), some (15, false), false⟩,
    ⟨some 18, .len .str (.tmp 17), some (15, false), false⟩,
    ⟨some 19, .bin .gtr (.tmp 18) (.const (.int .i64 5000)), some (15, false), false⟩,
    ⟨some 20, .pick (.tmp 15) (.const (.bool true)) (.tmp 19), none, false⟩,
    ⟨some 21, .mov (.tmp 20), none, false⟩,
    ⟨some 22, .fieldL 2 (.tmp 5), some (21, false), false⟩,
    ⟨some 23, .loadL false 1 (.tmp 22), some (21, false), false⟩,
    ⟨some 24, .bin .gtr (.tmp 23) (.const (.int .i64 5000)), some (21, false), false⟩,
    ⟨some 25, .pick (.tmp 21) (.const (.bool true)) (.tmp 24), none, false⟩] [0, 1, 5, 25])
  (.cond (.tmp 25)
  (.seq (.ops [
      ⟨some 6, .mov (.const (.bool false)), none, false⟩] [6])
    .ret)
  .skip))
  (.seq (.seq (.ops [
    ⟨some 26, .mov (.tmp 0), none, false⟩,
    ⟨some 27, .mov (.tmp 1), none, false⟩,
    ⟨some 28, .indexAddr 4 (.tmp 26) (.tmp 27), none, false⟩,
    ⟨some 29, .fieldAddr 0 (.tmp 28), none, false⟩,
    ⟨some 30, .load false 1 (.tmp 29), none, false⟩,
    ⟨some 31, .un .not (.tmp 30), none, false⟩] [0, 1, 5, 31])
  (.cond (.tmp 31)
  (.ops [
      ⟨some 32, .mov (.tmp 0), none, false⟩,
      ⟨some 33, .mov (.tmp 1), none, false⟩,
      ⟨some 34, .loadL true 4 (.tmp 5), none, false⟩,
      ⟨some 35, .indexAddr 4 (.tmp 32) (.tmp 33), none, false⟩,
      ⟨none, .store 4 (.tmp 35) (.tmp 34), none, false⟩] [0, 1, 5])
  .skip))
  (.seq (.opsD [
    (⟨some 36, .mov (.tmp 0), none, false⟩, []),
    (⟨some 37, .mov (.tmp 1), none, false⟩, []),
    (⟨some 38, .indexAddr 4 (.tmp 36) (.tmp 37), none, false⟩, []),
    (⟨some 39, .load true 4 (.tmp 38), none, false⟩, []),
    (⟨some 40, .loadL true 4 (.tmp 5), none, false⟩, []),
    (⟨some 41, .eqAgg false [.bool, .int, .int, .str] (.tmp 39) (.tmp 40), none, false⟩, []),
    (⟨some 6, .mov (.tmp 41), none, false⟩, [])] [6])
  .ret))))⟩
/-- scribe/scriberef15.lead -/
def af74 : AFunc := ⟨3, [.tmp 6],
  (.seq (.ops [
    ⟨some 3, .boxL 0 9 (.tmp 0), none, false⟩,
    ⟨some 6, .mov (.const (.bool false)), none, false⟩] [1, 2, 3])
  (.seq (.opsD [
    (⟨some 13, .mov (.tmp 1), none, false⟩, []),
    (⟨some 14, .mov (.tmp 2), none, false⟩, []),
    (⟨some 15, .indexAddr 4 (.tmp 13) (.tmp 14), none, false⟩, []),
    (⟨some 16, .load true 4 (.tmp 15), none, false⟩, []),
    (⟨some 17, .fieldL 0 (.tmp 3), none, false⟩, []),
    (⟨some 18, .loadL false 1 (.tmp 17), none, false⟩, []),
    (⟨some 19, .mov (.tmp 2), none, false⟩, []),
    (⟨some 20, .indexAddr 3 (.tmp 18) (.tmp 19), none, false⟩, []),
    (⟨some 21, .load true 3 (.tmp 20), none, false⟩, []),
    (⟨some 7, .allocL 0 [.bool false, .int .i64 0, .int .i64 0, .str []], none, false⟩, []),
    (⟨some 8, .allocL 1 [.int .i64 0, .int .i64 0, .int .i64 0], none, false⟩, []),
    (⟨none, .storeL 4 (.tmp 7) (.tmp 16), none, false⟩, [(18, .loadL false 1 (.tmp 17))]),
    (⟨none, .storeL 3 (.tmp 8) (.tmp 21), none, false⟩, [])] [1, 2, 3, 7, 8])
  (.seq (.ops [
    ⟨some 23, .loadL true 9 (.tmp 3), none, false⟩,
    ⟨some 24, .fieldL 1 (.tmp 7), none, false⟩,
    ⟨some 25, .loadL false 1 (.tmp 24), none, false⟩,
    ⟨some 26, .loadL true 3 (.tmp 8), none, false⟩,
    ⟨some 27, .call 106 [(.tmp 23), (.tmp 25), (.tmp 26)], none, false⟩,
    ⟨some 22, .mov (.tmp 27), none, false⟩,
    ⟨some 28, .extract (.tmp 22) 0, none, false⟩,
    ⟨some 29, .extract (.tmp 22) 1, none, false⟩,
    ⟨some 30, .extract (.tmp 22) 2, none, false⟩,
    ⟨some 9, .mov (.tmp 28), none, false⟩,
    ⟨some 10, .mov (.tmp 29), none, false⟩,
    ⟨some 11, .mov (.tmp 30), none, false⟩] [1, 2, 7, 8, 9, 10, 11])
  (.seq (.ops [
    ⟨some 31, .fieldL 3 (.tmp 7), none, false⟩,
    ⟨some 32, .loadL false 1 (.tmp 31), none, false⟩,
    ⟨some 33, .len .str (.tmp 32), none, false⟩,
    ⟨some 34, .mov (.tmp 9), none, false⟩,
    ⟨some 35, .len .str (.tmp 34), none, false⟩,
    ⟨some 36, .bin .sub (.tmp 33) (.tmp 35), none, false⟩,
    ⟨some 12, .mov (.tmp 36), none, false⟩] [1, 2, 7, 8, 9, 10, 11, 12])
  (.seq (.seq (.ops [
    ⟨some 37, .mov (.tmp 11), none, false⟩,
    ⟨some 38, .un .not (.tmp 37), none, false⟩,
    ⟨some 39, .mov (.tmp 38), none, false⟩,
    ⟨some 40, .mov (.tmp 12), some (39, false), false⟩,
    ⟨some 41, .bin .lss (.tmp 40) (.const (.int .i64 0)), some (39, false), false⟩,
    ⟨some 42, .pick (.tmp 39) (.const (.bool true)) (.tmp 41), none, false⟩,
    ⟨some 43, .mov (.tmp 42), none, false⟩,
    ⟨some 44, .fieldL 3 (.tmp 7), some (43, false), false⟩,
    ⟨some 45, .loadL false 1 (.tmp 44), some (43, false), false⟩,
    ⟨some 46, .mov (.tmp 12), some (43, false), false⟩,
    ⟨some 47, .sliceStr (.tmp 45) (some (.tmp 46)) none, some (43, false), false⟩,
    ⟨some 48, .mov (.tmp 9), some (43, false), false⟩,
    ⟨some 49, .bin .neq (.tmp 47) (.tmp 48), some (43, false), false⟩,
    ⟨some 50, .pick (.tmp 43) (.const (.bool true)) (.tmp 49), none, false⟩] [1, 2, 7, 8, 10, 12, 50])
  (.cond (.tmp 50)
  (.seq (.ops [
      ⟨some 6, .mov (.const (.bool false)), none, false⟩] [6])
    .ret)
  .skip))
  (.seq (.ops [
    ⟨some 51, .fieldL 3 (.tmp 7), none, false⟩,
    ⟨some 52, .loadL false 1 (.tmp 51), none, false⟩,
    ⟨some 53, .mov (.tmp 12), none, false⟩,
    ⟨some 54, .sliceStr (.tmp 52) none (some (.tmp 53)), none, false⟩,
    ⟨some 55, .mov (.tmp 10), none, false⟩,
    ⟨some 56, .bin .add (.tmp 54) (.tmp 55), none, false⟩,
    ⟨some 57, .fieldL 3 (.tmp 7), none, false⟩,
    ⟨none, .storeL 1 (.tmp 57) (.tmp 56), none, false⟩] [1, 2, 7, 8])
  (.seq (.seq (.ops [
    ⟨some 58, .fieldL 0 (.tmp 8), none, false⟩,
    ⟨some 59, .loadL false 1 (.tmp 58), none, false⟩] [1, 2, 7, 8, 59])
  (.block 0
  (.seq (.seq (.ops [
      ⟨some 61, .bin .eql (.tmp 59) (.const (.int .i64 23)), none, false⟩,
      ⟨some 60, .mov (.tmp 61), none, false⟩] [1, 2, 7, 8, 59, 60])
    (.cond (.tmp 60)
    .skip
    (.seq (.ops [
        ⟨some 62, .bin .eql (.tmp 59) (.const (.int .i64 32)), none, false⟩,
        ⟨some 60, .mov (.tmp 62), none, false⟩] [1, 2, 7, 8, 59, 60])
      (.cond (.tmp 60)
      .skip
      (.ops [
          ⟨some 63, .bin .eql (.tmp 59) (.const (.int .i64 33)), none, false⟩,
          ⟨some 60, .mov (.tmp 63), none, false⟩] [1, 2, 7, 8, 59, 60])))))
    (.cond (.tmp 60)
    (.seq (.ops [
        ⟨some 6, .mov (.const (.bool true)), none, false⟩] [6])
      .ret)
    (.seq (.ops [
        ⟨some 65, .bin .eql (.tmp 59) (.const (.int .i64 34)), none, false⟩,
        ⟨some 64, .mov (.tmp 65), none, false⟩] [1, 2, 7, 8, 59, 64])
      (.cond (.tmp 64)
      (.seq (.ops [
          ⟨some 66, .fieldL 1 (.tmp 7), none, false⟩,
          ⟨some 67, .loadL false 1 (.tmp 66), none, false⟩,
          ⟨some 68, .bin .lss (.tmp 67) (.const (.int .i64 3)), none, false⟩,
          ⟨some 69, .mov (.tmp 68), none, false⟩,
          ⟨some 70, .fieldL 3 (.tmp 7), some (69, true), false⟩,
          ⟨some 71, .loadL false 1 (.tmp 70), some (69, true), false⟩,
          ⟨some 72, .bin .eql (.tmp 71) (.const (.string ⟨#[]⟩)), some (69, true), false⟩,
          ⟨some 73, .pick (.tmp 69) (.tmp 72) (.const (.bool false)), none, false⟩,
          ⟨some 74, .mov (.tmp 73), none, false⟩,
          ⟨some 75, .fieldL 2 (.tmp 7), some (74, true), false⟩,
          ⟨some 76, .loadL false 1 (.tmp 75), some (74, true), false⟩,
          ⟨some 77, .bin .eql (.tmp 76) (.const (.int .i64 0)), some (74, true), false⟩,
          ⟨some 78, .pick (.tmp 74) (.tmp 77) (.const (.bool false)), none, false⟩,
          ⟨some 6, .mov (.tmp 78), none, false⟩] [6])
        .ret)
      (.seq (.ops [
          ⟨some 80, .bin .eql (.tmp 59) (.const (.int .i64 15)), none, false⟩,
          ⟨some 79, .mov (.tmp 80), none, false⟩] [1, 2, 7, 8, 59, 79])
        (.cond (.tmp 79)
        (.seq (.ops [
            ⟨some 81, .mov (.tmp 1), none, false⟩,
            ⟨some 82, .fieldL 1 (.tmp 8), none, false⟩,
            ⟨some 83, .loadL false 1 (.tmp 82), none, false⟩,
            ⟨some 84, .loadL true 4 (.tmp 7), none, false⟩,
            ⟨some 85, .call 73 [(.tmp 81), (.tmp 83), (.tmp 84)], none, false⟩,
            ⟨some 6, .mov (.tmp 85), none, false⟩] [6])
          .ret)
        (.seq (.seq (.ops [
            ⟨some 87, .bin .eql (.tmp 59) (.const (.int .i64 16)), none, false⟩,
            ⟨some 86, .mov (.tmp 87), none, false⟩] [1, 2, 7, 8, 59, 86])
          (.cond (.tmp 86)
          .skip
          (.ops [
              ⟨some 88, .bin .eql (.tmp 59) (.const (.int .i64 17)), none, false⟩,
              ⟨some 86, .mov (.tmp 88), none, false⟩] [1, 2, 7, 8, 59, 86])))
          (.cond (.tmp 86)
          (.seq (.ops [
              ⟨some 89, .mov (.tmp 1), none, false⟩,
              ⟨some 90, .fieldL 1 (.tmp 8), none, false⟩,
              ⟨some 91, .loadL false 1 (.tmp 90), none, false⟩,
              ⟨some 92, .loadL true 4 (.tmp 7), none, false⟩,
              ⟨some 93, .call 73 [(.tmp 89), (.tmp 91), (.tmp 92)], none, false⟩,
              ⟨some 94, .mov (.tmp 93), none, false⟩,
              ⟨some 95, .mov (.tmp 1), some (94, true), false⟩,
              ⟨some 96, .mov (.tmp 2), some (94, true), false⟩,
              ⟨some 97, .bin .add (.tmp 96) (.const (.int .i64 1)), some (94, true), false⟩,
              ⟨some 98, .loadL true 4 (.tmp 7), some (94, true), false⟩,
              ⟨some 99, .call 73 [(.tmp 95), (.tmp 97), (.tmp 98)], some (94, true), false⟩,
              ⟨some 100, .pick (.tmp 94) (.tmp 99) (.const (.bool false)), none, false⟩,
              ⟨some 6, .mov (.tmp 100), none, false⟩] [6])
            .ret)
          (.seq (.ops [
              ⟨some 102, .bin .eql (.tmp 59) (.const (.int .i64 29)), none, false⟩,
              ⟨some 101, .mov (.tmp 102), none, false⟩] [1, 2, 7, 8, 59, 101])
            (.cond (.tmp 101)
            (.ops [
                ⟨some 103, .fieldL 2 (.tmp 7), none, false⟩,
                ⟨some 104, .loadL false 1 (.tmp 103), none, false⟩,
                ⟨some 105, .bin .add (.tmp 104) (.const (.int .i64 1)), none, false⟩,
                ⟨some 106, .fieldL 2 (.tmp 7), none, false⟩,
                ⟨none, .storeL 1 (.tmp 106) (.tmp 105), none, false⟩] [1, 2, 7])
            (.seq (.ops [
                ⟨some 108, .bin .eql (.tmp 59) (.const (.int .i64 30)), none, false⟩,
                ⟨some 107, .mov (.tmp 108), none, false⟩] [1, 2, 7, 8, 59, 107])
              (.cond (.tmp 107)
              (.seq (.seq (.ops [
                  ⟨some 109, .fieldL 2 (.tmp 7), none, false⟩,
                  ⟨some 110, .loadL false 1 (.tmp 109), none, false⟩,
                  ⟨some 111, .bin .eql (.tmp 110) (.const (.int .i64 0)), none, false⟩,
                  ⟨some 112, .mov (.tmp 111), none, false⟩,
                  ⟨some 113, .mov (.tmp 1), some (112, false), false⟩,
                  ⟨some 114, .fieldL 1 (.tmp 8), some (112, false), false⟩,
                  ⟨some 115, .loadL false 1 (.tmp 114), some (112, false), false⟩,
                  ⟨some 116, .loadL true 4 (.tmp 7), some (112, false), false⟩,
                  ⟨some 117, .call 73 [(.tmp 113), (.tmp 115), (.tmp 116)], some (112, false), false⟩,
                  ⟨some 118, .un .not (.tmp 117), some (112, false), false⟩,
                  ⟨some 119, .pick (.tmp 112) (.const (.bool true)) (.tmp 118), none, false⟩] [1, 2, 7, 119])
                (.cond (.tmp 119)
                (.seq (.ops [
                    ⟨some 6, .mov (.const (.bool false)), none, false⟩] [6])
                  .ret)
                .skip))
                (.ops [
                  ⟨some 120, .fieldL 3 (.tmp 7), none, false⟩,
                  ⟨some 121, .loadL false 1 (.tmp 120), none, false⟩,
                  ⟨some 122, .bin .add (.tmp 121) (.const (.string ⟨#[118]⟩)), none, false⟩,
                  ⟨some 123, .fieldL 3 (.tmp 7), none, false⟩,
                  ⟨none, .storeL 1 (.tmp 123) (.tmp 122), none, false⟩] [1, 2, 7]))
              (.seq (.ops [
                  ⟨some 125, .bin .eql (.tmp 59) (.const (.int .i64 31)), none, false⟩,
                  ⟨some 124, .mov (.tmp 125), none, false⟩] [1, 2, 7, 124])
                (.cond (.tmp 124)
                (.seq (.seq (.ops [
                    ⟨some 126, .fieldL 2 (.tmp 7), none, false⟩,
                    ⟨some 127, .loadL false 1 (.tmp 126), none, false⟩,
                    ⟨some 128, .bin .eql (.tmp 127) (.const (.int .i64 0)), none, false⟩] [1, 2, 7, 128])
                  (.cond (.tmp 128)
                  (.seq (.ops [
                      ⟨some 6, .mov (.const (.bool false)), none, false⟩] [6])
                    .ret)
                  .skip))
                  (.ops [
                    ⟨some 129, .fieldL 2 (.tmp 7), none, false⟩,
                    ⟨some 130, .loadL false 1 (.tmp 129), none, false⟩,
                    ⟨some 131, .bin .sub (.tmp 130) (.const (.int .i64 1)), none, false⟩,
                    ⟨some 132, .fieldL 2 (.tmp 7), none, false⟩,
                    ⟨none, .storeL 1 (.tmp 132) (.tmp 131), none, false⟩] [1, 2, 7]))
                .skip))))))))))))))))
  (.seq (.ops [
    ⟨some 133, .mov (.tmp 1), none, false⟩,
    ⟨some 134, .mov (.tmp 2), none, false⟩,
    ⟨some 135, .bin .add (.tmp 134) (.const (.int .i64 1)), none, false⟩,
    ⟨some 136, .loadL true 4 (.tmp 7), none, false⟩,
    ⟨some 137, .call 73 [(.tmp 133), (.tmp 135), (.tmp 136)], none, false⟩,
    ⟨some 6, .mov (.tmp 137), none, false⟩] [6])
  .ret))))))))⟩
/-- (*scribe/lex.lexer).while -/
def af75 : AFunc := ⟨2, [],
  (.block 0
  (.loop [0, 1]
    (.seq (.seq (.opsD [
        (⟨some 4, .mov (.tmp 0), none, false⟩, []),
        (⟨some 5, .nilCheck (.tmp 4), none, false⟩, []),
        (⟨some 6, .fieldAddr 1 (.tmp 5), none, false⟩, []),
        (⟨some 7, .load false 1 (.tmp 6), none, false⟩, []),
        (⟨some 8, .mov (.tmp 0), none, false⟩, []),
        (⟨some 9, .nilCheck (.tmp 8), none, false⟩, []),
        (⟨some 10, .fieldAddr 0 (.tmp 9), none, false⟩, []),
        (⟨some 11, .load false 1 (.tmp 10), none, false⟩, []),
        (⟨some 12, .len .str (.tmp 11), none, false⟩, []),
        (⟨some 13, .bin .lss (.tmp 7) (.tmp 12), none, false⟩, []),
        (⟨some 14, .mov (.tmp 13), none, false⟩, []),
        (⟨some 15, .mov (.tmp 1), some (14, true), false⟩, []),
        (⟨some 16, .mov (.tmp 0), some (14, true), false⟩, []),
        (⟨some 17, .nilCheck (.tmp 16), some (14, true), false⟩, []),
        (⟨some 18, .fieldAddr 0 (.tmp 17), some (14, true), false⟩, []),
        (⟨some 19, .load false 1 (.tmp 18), some (14, true), false⟩, []),
        (⟨some 20, .mov (.tmp 0), some (14, true), false⟩, []),
        (⟨some 21, .nilCheck (.tmp 20), some (14, true), false⟩, []),
        (⟨some 22, .fieldAddr 1 (.tmp 21), some (14, true), false⟩, []),
        (⟨some 23, .load false 1 (.tmp 22), some (14, true), false⟩, []),
        (⟨some 24, .indexStr (.tmp 19) (.tmp 23), some (14, true), false⟩, []),
        (⟨some 25, .callv (.tmp 15) [(.tmp 24)], some (14, true), false⟩, []),
        (⟨some 26, .pick (.tmp 14) (.tmp 25) (.const (.bool false)), none, false⟩, [])] [0, 1, 26])
      (.cond (.tmp 26)
      .skip
      (.exit 0)))
      (.block 1
      (.ops [
          ⟨some 27, .mov (.tmp 0), none, false⟩,
          ⟨some 28, .nilCheck (.tmp 27), none, false⟩,
          ⟨some 29, .fieldAddr 1 (.tmp 28), none, false⟩,
          ⟨some 30, .load false 1 (.tmp 29), none, false⟩,
          ⟨some 31, .bin .add (.tmp 30) (.const (.int .i64 1)), none, false⟩,
          ⟨some 32, .nilCheck (.tmp 27), none, false⟩,
          ⟨some 33, .fieldAddr 1 (.tmp 32), none, false⟩,
          ⟨none, .store 1 (.tmp 33) (.tmp 31), none, false⟩] [0, 1])))))⟩
/-- (*scribe/lex.lexer).next$1 -/
def af76 : AFunc := ⟨1, [.tmp 2],
  (.seq (.ops [
    ⟨some 2, .mov (.const (.bool false)), none, false⟩] [0])
  (.seq (.ops [
    ⟨some 3, .mov (.tmp 0), none, false⟩,
    ⟨some 4, .bin .neq (.tmp 3) (.const (.int .u8 10)), none, false⟩,
    ⟨some 2, .mov (.tmp 4), none, false⟩] [2])
  .ret))⟩
/-- (*scribe/lex.lexer).peek -/
def af77 : AFunc := ⟨2, [.tmp 4],
  (.seq (.ops [
    ⟨some 4, .mov (.const (.int .u8 0)), none, false⟩] [0, 1])
  (.seq (.seq (.opsD [
    (⟨some 5, .mov (.tmp 0), none, false⟩, []),
    (⟨some 6, .nilCheck (.tmp 5), none, false⟩, []),
    (⟨some 7, .fieldAddr 1 (.tmp 6), none, false⟩, []),
    (⟨some 8, .load false 1 (.tmp 7), none, false⟩, []),
    (⟨some 9, .mov (.tmp 1), none, false⟩, []),
    (⟨some 10, .bin .add (.tmp 8) (.tmp 9), none, false⟩, []),
    (⟨some 11, .mov (.tmp 0), none, false⟩, []),
    (⟨some 12, .nilCheck (.tmp 11), none, false⟩, []),
    (⟨some 13, .fieldAddr 0 (.tmp 12), none, false⟩, []),
    (⟨some 14, .load false 1 (.tmp 13), none, false⟩, []),
    (⟨some 15, .len .str (.tmp 14), none, false⟩, []),
    (⟨some 16, .bin .geq (.tmp 10) (.tmp 15), none, false⟩, [])] [0, 1, 16])
  (.cond (.tmp 16)
  (.seq (.ops [
      ⟨some 4, .mov (.const (.int .u8 0)), none, false⟩] [4])
    .ret)
  .skip))
  (.seq (.opsD [
    (⟨some 17, .mov (.tmp 0), none, false⟩, []),
    (⟨some 18, .nilCheck (.tmp 17), none, false⟩, []),
    (⟨some 19, .fieldAddr 0 (.tmp 18), none, false⟩, []),
    (⟨some 20, .load false 1 (.tmp 19), none, false⟩, []),
    (⟨some 21, .mov (.tmp 0), none, false⟩, []),
    (⟨some 22, .nilCheck (.tmp 21), none, false⟩, []),
    (⟨some 23, .fieldAddr 1 (.tmp 22), none, false⟩, []),
    (⟨some 24, .load false 1 (.tmp 23), none, false⟩, []),
    (⟨some 25, .mov (.tmp 1), none, false⟩, []),
    (⟨some 26, .bin .add (.tmp 24) (.tmp 25), none, false⟩, []),
    (⟨some 27, .indexStr (.tmp 20) (.tmp 26), none, false⟩, []),
    (⟨some 4, .mov (.tmp 27), none, false⟩, [])] [4])
  .ret)))⟩
/-- scribe/lex.digit -/
def af78 : AFunc := ⟨1, [.tmp 2],
  (.seq (.ops [
    ⟨some 2, .mov (.const (.bool false)), none, false⟩] [0])
  (.seq (.ops [
    ⟨some 3, .mov (.tmp 0), none, false⟩,
    ⟨some 4, .bin .geq (.tmp 3) (.const (.int .u8 48)), none, false⟩,
    ⟨some 5, .mov (.tmp 4), none, false⟩,
    ⟨some 6, .mov (.tmp 0), some (5, true), false⟩,
    ⟨some 7, .bin .leq (.tmp 6) (.const (.int .u8 57)), some (5, true), false⟩,
    ⟨some 8, .pick (.tmp 5) (.tmp 7) (.const (.bool false)), none, false⟩,
    ⟨some 2, .mov (.tmp 8), none, false⟩] [2])
  .ret))⟩
/-- (*scribe/lex.lexer).number -/
def af79 : AFunc := ⟨1, [],
  (.seq (.ops [
    ⟨some 3, .mov (.tmp 0), none, false⟩,
    ⟨some 4, .nilCheck (.tmp 3), none, false⟩,
    ⟨some 5, .fieldAddr 1 (.tmp 4), none, false⟩,
    ⟨some 6, .load false 1 (.tmp 5), none, false⟩,
    ⟨some 2, .mov (.tmp 6), none, false⟩] [0, 2])
  (.seq (.ops [
    ⟨some 7, .mov (.tmp 0), none, false⟩,
    ⟨some 8, .call 75 [(.tmp 7), (.func 78)], none, false⟩] [0, 2])
  (.seq (.seq (.ops [
    ⟨some 9, .mov (.tmp 0), none, false⟩,
    ⟨some 10, .call 77 [(.tmp 9), (.const (.int .i64 0))], none, false⟩,
    ⟨some 11, .bin .eql (.tmp 10) (.const (.int .u8 46)), none, false⟩] [0, 2, 11])
  (.cond (.tmp 11)
  (.seq (.ops [
      ⟨some 12, .mov (.tmp 0), none, false⟩,
      ⟨some 13, .nilCheck (.tmp 12), none, false⟩,
      ⟨some 14, .fieldAddr 1 (.tmp 13), none, false⟩,
      ⟨some 15, .load false 1 (.tmp 14), none, false⟩,
      ⟨some 16, .bin .add (.tmp 15) (.const (.int .i64 1)), none, false⟩,
      ⟨some 17, .nilCheck (.tmp 12), none, false⟩,
      ⟨some 18, .fieldAddr 1 (.tmp 17), none, false⟩,
      ⟨none, .store 1 (.tmp 18) (.tmp 16), none, false⟩] [0, 2])
    (.ops [
      ⟨some 19, .mov (.tmp 0), none, false⟩,
      ⟨some 20, .call 75 [(.tmp 19), (.func 78)], none, false⟩] [0, 2]))
  .skip))
  (.opsD [
    (⟨some 21, .mov (.tmp 0), none, false⟩, []),
    (⟨some 22, .mov (.tmp 0), none, false⟩, []),
    (⟨some 23, .nilCheck (.tmp 22), none, false⟩, []),
    (⟨some 24, .fieldAddr 0 (.tmp 23), none, false⟩, []),
    (⟨some 25, .load false 1 (.tmp 24), none, false⟩, []),
    (⟨some 26, .mov (.tmp 2), none, false⟩, []),
    (⟨some 27, .mov (.tmp 0), none, false⟩, []),
    (⟨some 28, .nilCheck (.tmp 27), none, false⟩, []),
    (⟨some 29, .fieldAddr 1 (.tmp 28), none, false⟩, []),
    (⟨some 30, .load false 1 (.tmp 29), none, false⟩, []),
    (⟨some 31, .sliceStr (.tmp 25) (some (.tmp 26)) (some (.tmp 30)), none, false⟩, []),
    (⟨some 32, .mov (.tmp 2), none, false⟩, []),
    (⟨some 33, .call 47 [(.tmp 21), (.const (.int .i64 2)), (.tmp 31), (.tmp 32)], none, false⟩, [])] []))))⟩
/-- scribe/lex.letter -/
def af80 : AFunc := ⟨1, [.tmp 2],
  (.seq (.ops [
    ⟨some 2, .mov (.const (.bool false)), none, false⟩] [0])
  (.seq (.ops [
    ⟨some 3, .mov (.tmp 0), none, false⟩,
    ⟨some 4, .bin .geq (.tmp 3) (.const (.int .u8 97)), none, false⟩,
    ⟨some 5, .mov (.tmp 4), none, false⟩,
    ⟨some 6, .mov (.tmp 0), some (5, true), false⟩,
    ⟨some 7, .bin .leq (.tmp 6) (.const (.int .u8 122)), some (5, true), false⟩,
    ⟨some 8, .pick (.tmp 5) (.tmp 7) (.const (.bool false)), none, false⟩,
    ⟨some 9, .mov (.tmp 8), none, false⟩,
    ⟨some 10, .mov (.tmp 0), some (9, false), false⟩,
    ⟨some 11, .bin .geq (.tmp 10) (.const (.int .u8 65)), some (9, false), false⟩,
    ⟨some 12, .mov (.tmp 11), some (9, false), false⟩,
    ⟨some 13, .mov (.tmp 0), some (12, true), false⟩,
    ⟨some 14, .bin .leq (.tmp 13) (.const (.int .u8 90)), some (12, true), false⟩,
    ⟨some 15, .pick (.tmp 12) (.tmp 14) (.const (.bool false)), some (9, false), false⟩,
    ⟨some 16, .pick (.tmp 9) (.const (.bool true)) (.tmp 15), none, false⟩,
    ⟨some 17, .mov (.tmp 16), none, false⟩,
    ⟨some 18, .mov (.tmp 0), some (17, false), false⟩,
    ⟨some 19, .bin .eql (.tmp 18) (.const (.int .u8 95)), some (17, false), false⟩,
    ⟨some 20, .pick (.tmp 17) (.const (.bool true)) (.tmp 19), none, false⟩,
    ⟨some 2, .mov (.tmp 20), none, false⟩] [2])
  .ret))⟩
/-- (*scribe/lex.lexer).word -/
def af81 : AFunc := ⟨1, [],
  (.seq (.ops [
    ⟨some 4, .mov (.tmp 0), none, false⟩,
    ⟨some 5, .nilCheck (.tmp 4), none, false⟩,
    ⟨some 6, .fieldAddr 1 (.tmp 5), none, false⟩,
    ⟨some 7, .load false 1 (.tmp 6), none, false⟩,
    ⟨some 2, .mov (.tmp 7), none, false⟩] [0, 2])
  (.seq (.ops [
    ⟨some 8, .mov (.tmp 0), none, false⟩,
    ⟨some 9, .call 75 [(.tmp 8), (.func 107)], none, false⟩] [0, 2])
  (.seq (.opsD [
    (⟨some 10, .mov (.tmp 0), none, false⟩, []),
    (⟨some 11, .nilCheck (.tmp 10), none, false⟩, []),
    (⟨some 12, .fieldAddr 0 (.tmp 11), none, false⟩, []),
    (⟨some 13, .load false 1 (.tmp 12), none, false⟩, []),
    (⟨some 14, .mov (.tmp 2), none, false⟩, []),
    (⟨some 15, .mov (.tmp 0), none, false⟩, []),
    (⟨some 16, .nilCheck (.tmp 15), none, false⟩, []),
    (⟨some 17, .fieldAddr 1 (.tmp 16), none, false⟩, []),
    (⟨some 18, .load false 1 (.tmp 17), none, false⟩, []),
    (⟨some 19, .sliceStr (.tmp 13) (some (.tmp 14)) (some (.tmp 18)), none, false⟩, []),
    (⟨some 3, .mov (.tmp 19), none, false⟩, [])] [0, 2, 3])
  (.block 0
  (.seq (.ops [
      ⟨some 25, .load false 1 (.global 6), none, false⟩,
      ⟨some 26, .mov (.tmp 3), none, false⟩,
      ⟨some 27, .call 48 [(.tmp 25), (.tmp 26)], none, false⟩,
      ⟨some 24, .mov (.tmp 27), none, false⟩] [0, 2, 3, 24])
    (.cond (.tmp 24)
    (.ops [
        ⟨some 28, .mov (.tmp 0), none, false⟩,
        ⟨some 29, .mov (.tmp 3), none, false⟩,
        ⟨some 30, .mov (.tmp 2), none, false⟩,
        ⟨some 31, .call 47 [(.tmp 28), (.const (.int .i64 7)), (.tmp 29), (.tmp 30)], none, false⟩] [])
    (.seq (.ops [
        ⟨some 33, .load false 1 (.global 7), none, false⟩,
        ⟨some 34, .mov (.tmp 3), none, false⟩,
        ⟨some 35, .call 48 [(.tmp 33), (.tmp 34)], none, false⟩,
        ⟨some 32, .mov (.tmp 35), none, false⟩] [0, 2, 3, 32])
      (.cond (.tmp 32)
      (.ops [
          ⟨some 36, .mov (.tmp 0), none, false⟩,
          ⟨some 37, .mov (.tmp 3), none, false⟩,
          ⟨some 38, .mov (.tmp 2), none, false⟩,
          ⟨some 39, .call 47 [(.tmp 36), (.const (.int .i64 9)), (.tmp 37), (.tmp 38)], none, false⟩] [])
      (.seq (.ops [
          ⟨some 41, .load false 1 (.global 8), none, false⟩,
          ⟨some 42, .mov (.tmp 3), none, false⟩,
          ⟨some 43, .call 48 [(.tmp 41), (.tmp 42)], none, false⟩,
          ⟨some 40, .mov (.tmp 43), none, false⟩] [0, 2, 3, 40])
        (.cond (.tmp 40)
        (.ops [
            ⟨some 44, .mov (.tmp 0), none, false⟩,
            ⟨some 45, .mov (.tmp 3), none, false⟩,
            ⟨some 46, .mov (.tmp 2), none, false⟩,
            ⟨some 47, .call 47 [(.tmp 44), (.const (.int .i64 10)), (.tmp 45), (.tmp 46)], none, false⟩] [])
        (.seq (.ops [
            ⟨some 49, .mov (.tmp 0), none, false⟩,
            ⟨some 50, .call 77 [(.tmp 49), (.const (.int .i64 0))], none, false⟩,
            ⟨some 51, .bin .eql (.tmp 50) (.const (.int .u8 40)), none, false⟩,
            ⟨some 48, .mov (.tmp 51), none, false⟩] [0, 2, 3, 48])
          (.cond (.tmp 48)
          (.ops [
              ⟨some 52, .mov (.tmp 0), none, false⟩,
              ⟨some 53, .mov (.tmp 3), none, false⟩,
              ⟨some 54, .mov (.tmp 2), none, false⟩,
              ⟨some 55, .call 47 [(.tmp 52), (.const (.int .i64 6)), (.tmp 53), (.tmp 54)], none, false⟩] [])
          (.ops [
              ⟨some 20, .mov (.tmp 0), none, false⟩,
              ⟨some 21, .mov (.tmp 3), none, false⟩,
              ⟨some 22, .mov (.tmp 2), none, false⟩,
              ⟨some 23, .call 47 [(.tmp 20), (.const (.int .i64 5)), (.tmp 21), (.tmp 22)], none, false⟩] [])))))))))))))⟩
/-- (*scribe/lex.lexer).quoted -/
def af82 : AFunc := ⟨4, [.tmp 8],
  (.seq (.ops [
    ⟨some 8, .mov (.const (.int .i64 0)), none, false⟩] [0, 1, 2, 3])
  (.seq (.ops [
    ⟨some 14, .mov (.tmp 0), none, false⟩,
    ⟨some 15, .nilCheck (.tmp 14), none, false⟩,
    ⟨some 16, .fieldAddr 1 (.tmp 15), none, false⟩,
    ⟨some 17, .load false 1 (.tmp 16), none, false⟩,
    ⟨some 9, .mov (.tmp 17), none, false⟩] [0, 1, 2, 3, 9])
  (.seq (.ops [
    ⟨some 10, .allocH 180 [.nil, .nilSlice], none, false⟩] [0, 1, 2, 3, 9, 10])
  (.seq (.ops [
    ⟨some 18, .mov (.tmp 0), none, false⟩,
    ⟨some 19, .nilCheck (.tmp 18), none, false⟩,
    ⟨some 20, .fieldAddr 1 (.tmp 19), none, false⟩,
    ⟨some 21, .load false 1 (.tmp 20), none, false⟩,
    ⟨some 22, .bin .add (.tmp 21) (.const (.int .i64 1)), none, false⟩,
    ⟨some 23, .nilCheck (.tmp 18), none, false⟩,
    ⟨some 24, .fieldAddr 1 (.tmp 23), none, false⟩,
    ⟨none, .store 1 (.tmp 24) (.tmp 22), none, false⟩] [0, 1, 2, 3, 9, 10])
  (.block 0
  (.loop [0, 1, 2, 3, 9, 10]
    (.seq (.block 1
      (.seq (.ops [
          ⟨some 32, .mov (.tmp 0), none, false⟩,
          ⟨some 33, .call 77 [(.tmp 32), (.const (.int .i64 0))], none, false⟩,
          ⟨some 11, .mov (.tmp 33), none, false⟩] [0, 1, 2, 3, 9, 10, 11])
        (.block 2
        (.seq (.seq (.opsD [
            (⟨some 37, .mov (.tmp 0), none, false⟩, []),
            (⟨some 38, .nilCheck (.tmp 37), none, false⟩, []),
            (⟨some 39, .fieldAddr 1 (.tmp 38), none, false⟩, []),
            (⟨some 40, .load false 1 (.tmp 39), none, false⟩, []),
            (⟨some 41, .mov (.tmp 0), none, false⟩, []),
            (⟨some 42, .nilCheck (.tmp 41), none, false⟩, []),
            (⟨some 43, .fieldAddr 0 (.tmp 42), none, false⟩, []),
            (⟨some 44, .load false 1 (.tmp 43), none, false⟩, []),
            (⟨some 45, .len .str (.tmp 44), none, false⟩, []),
            (⟨some 46, .bin .geq (.tmp 40) (.tmp 45), none, false⟩, []),
            (⟨some 36, .mov (.tmp 46), none, false⟩, [])] [0, 1, 2, 3, 9, 10, 11, 36])
          (.cond (.tmp 36)
          .skip
          (.ops [
              ⟨some 47, .mov (.tmp 11), none, false⟩,
              ⟨some 48, .bin .eql (.tmp 47) (.const (.int .u8 10)), none, false⟩,
              ⟨some 36, .mov (.tmp 48), none, false⟩] [0, 1, 2, 3, 9, 10, 11, 36])))
          (.cond (.tmp 36)
          (.seq (.ops [
              ⟨some 49, .mov (.tmp 0), none, false⟩,
              ⟨some 50, .mov (.tmp 9), none, false⟩,
              ⟨some 51, .nilCheck (.tmp 49), none, false⟩,
              ⟨some 52, .fieldAddr 1 (.tmp 51), none, false⟩,
              ⟨none, .store 1 (.tmp 52) (.tmp 50), none, false⟩] [])
            (.seq (.ops [
              ⟨some 8, .mov (.const (.int .i64 9)), none, false⟩] [8])
            .ret))
          (.seq (.ops [
              ⟨some 54, .mov (.tmp 11), none, false⟩,
              ⟨some 55, .mov (.tmp 2), none, false⟩,
              ⟨some 56, .bin .eql (.tmp 54) (.tmp 55), none, false⟩,
              ⟨some 53, .mov (.tmp 56), none, false⟩] [0, 1, 2, 3, 9, 10, 11, 53])
            (.cond (.tmp 53)
            (.seq (.ops [
                ⟨some 57, .mov (.tmp 0), none, false⟩,
                ⟨some 58, .nilCheck (.tmp 57), none, false⟩,
                ⟨some 59, .fieldAddr 1 (.tmp 58), none, false⟩,
                ⟨some 60, .load false 1 (.tmp 59), none, false⟩,
                ⟨some 61, .bin .add (.tmp 60) (.const (.int .i64 1)), none, false⟩,
                ⟨some 62, .nilCheck (.tmp 57), none, false⟩,
                ⟨some 63, .fieldAddr 1 (.tmp 62), none, false⟩,
                ⟨none, .store 1 (.tmp 63) (.tmp 61), none, false⟩] [0, 1, 9, 10])
              (.seq (.ops [
                ⟨some 64, .mov (.tmp 0), none, false⟩,
                ⟨some 65, .mov (.tmp 1), none, false⟩,
                ⟨some 66, .call 108 [(.tmp 10)], none, false⟩,
                ⟨some 67, .mov (.tmp 9), none, false⟩,
                ⟨some 68, .call 47 [(.tmp 64), (.tmp 65), (.tmp 66), (.tmp 67)], none, false⟩] [])
              (.seq (.ops [
                ⟨some 8, .mov (.const (.int .i64 0)), none, false⟩] [8])
              .ret)))
            (.seq (.ops [
                ⟨some 70, .mov (.tmp 11), none, false⟩,
                ⟨some 71, .bin .eql (.tmp 70) (.const (.int .u8 92)), none, false⟩,
                ⟨some 69, .mov (.tmp 71), none, false⟩] [0, 1, 2, 3, 9, 10, 11, 69])
              (.cond (.tmp 69)
              (.seq (.ops [
                  ⟨some 73, .mov (.tmp 3), none, false⟩,
                  ⟨some 74, .mov (.tmp 0), none, false⟩,
                  ⟨some 75, .call 77 [(.tmp 74), (.const (.int .i64 1))], none, false⟩,
                  ⟨some 76, .callv (.tmp 73) [(.tmp 75)], none, false⟩,
                  ⟨some 72, .mov (.tmp 76), none, false⟩,
                  ⟨some 77, .extract (.tmp 72) 0, none, false⟩,
                  ⟨some 78, .extract (.tmp 72) 1, none, false⟩,
                  ⟨some 12, .mov (.tmp 77), none, false⟩,
                  ⟨some 13, .mov (.tmp 78), none, false⟩] [0, 1, 2, 3, 9, 10, 12, 13])
                (.seq (.seq (.opsD [
                  (⟨some 79, .mov (.tmp 13), none, false⟩, []),
                  (⟨some 80, .un .not (.tmp 79), none, false⟩, []),
                  (⟨some 81, .mov (.tmp 80), none, false⟩, []),
                  (⟨some 82, .mov (.tmp 0), some (81, false), false⟩, []),
                  (⟨some 83, .nilCheck (.tmp 82), some (81, false), false⟩, []),
                  (⟨some 84, .fieldAddr 1 (.tmp 83), some (81, false), false⟩, []),
                  (⟨some 85, .load false 1 (.tmp 84), some (81, false), false⟩, []),
                  (⟨some 86, .bin .add (.tmp 85) (.const (.int .i64 1)), some (81, false), false⟩, []),
                  (⟨some 87, .mov (.tmp 0), some (81, false), false⟩, []),
                  (⟨some 88, .nilCheck (.tmp 87), some (81, false), false⟩, []),
                  (⟨some 89, .fieldAddr 0 (.tmp 88), some (81, false), false⟩, []),
                  (⟨some 90, .load false 1 (.tmp 89), some (81, false), false⟩, []),
                  (⟨some 91, .len .str (.tmp 90), some (81, false), false⟩, []),
                  (⟨some 92, .bin .geq (.tmp 86) (.tmp 91), some (81, false), false⟩, []),
                  (⟨some 93, .pick (.tmp 81) (.const (.bool true)) (.tmp 92), none, false⟩, [])] [0, 1, 2, 3, 9, 10, 12, 93])
                (.cond (.tmp 93)
                (.seq (.ops [
                    ⟨some 8, .mov (.const (.int .i64 9)), none, false⟩] [8])
                  .ret)
                .skip))
                (.seq (.ops [
                  ⟨some 94, .mov (.tmp 0), none, false⟩,
                  ⟨some 95, .nilCheck (.tmp 94), none, false⟩,
                  ⟨some 96, .fieldAddr 1 (.tmp 95), none, false⟩,
                  ⟨some 97, .load false 1 (.tmp 96), none, false⟩,
                  ⟨some 98, .bin .add (.tmp 97) (.const (.int .i64 1)), none, false⟩,
                  ⟨some 99, .nilCheck (.tmp 94), none, false⟩,
                  ⟨some 100, .fieldAddr 1 (.tmp 99), none, false⟩,
                  ⟨none, .store 1 (.tmp 100) (.tmp 98), none, false⟩] [0, 1, 2, 3, 9, 10, 12])
                (.ops [
                  ⟨some 101, .mov (.tmp 12), none, false⟩,
                  ⟨some 102, .call 109 [(.tmp 10), (.tmp 101)], none, false⟩] [0, 1, 2, 3, 9, 10]))))
              (.ops [
                  ⟨some 34, .mov (.tmp 11), none, false⟩,
                  ⟨some 35, .call 110 [(.tmp 10), (.tmp 34)], none, false⟩] [0, 1, 2, 3, 9, 10]))))))))))
      (.ops [
        ⟨some 25, .mov (.tmp 0), none, false⟩,
        ⟨some 26, .nilCheck (.tmp 25), none, false⟩,
        ⟨some 27, .fieldAddr 1 (.tmp 26), none, false⟩,
        ⟨some 28, .load false 1 (.tmp 27), none, false⟩,
        ⟨some 29, .bin .add (.tmp 28) (.const (.int .i64 1)), none, false⟩,
        ⟨some 30, .nilCheck (.tmp 25), none, false⟩,
        ⟨some 31, .fieldAddr 1 (.tmp 30), none, false⟩,
        ⟨none, .store 1 (.tmp 31) (.tmp 29), none, false⟩] [0, 1, 2, 3, 9, 10]))))))))⟩
/-- scribe/lex.inString -/
def af83 : AFunc := ⟨1, [.tmp 2, .tmp 3],
  (.seq (.ops [
    ⟨some 2, .mov (.const (.string ⟨#[]⟩)), none, false⟩,
    ⟨some 3, .mov (.const (.bool false)), none, false⟩] [0])
  (.seq (.seq (.ops [
    ⟨some 4, .mov (.tmp 0), none, false⟩] [0, 4])
  (.block 0
  (.seq (.ops [
      ⟨some 6, .bin .eql (.tmp 4) (.const (.int .u8 110)), none, false⟩,
      ⟨some 5, .mov (.tmp 6), none, false⟩] [0, 4, 5])
    (.cond (.tmp 5)
    (.seq (.ops [
        ⟨some 2, .mov (.const (.string ⟨#[10]⟩)), none, false⟩,
        ⟨some 3, .mov (.const (.bool true)), none, false⟩] [2, 3])
      .ret)
    (.seq (.ops [
        ⟨some 8, .bin .eql (.tmp 4) (.const (.int .u8 116)), none, false⟩,
        ⟨some 7, .mov (.tmp 8), none, false⟩] [0, 4, 7])
      (.cond (.tmp 7)
      (.seq (.ops [
          ⟨some 2, .mov (.const (.string ⟨#[9]⟩)), none, false⟩,
          ⟨some 3, .mov (.const (.bool true)), none, false⟩] [2, 3])
        .ret)
      (.seq (.seq (.ops [
          ⟨some 10, .bin .eql (.tmp 4) (.const (.int .u8 34)), none, false⟩,
          ⟨some 9, .mov (.tmp 10), none, false⟩] [0, 4, 9])
        (.cond (.tmp 9)
        .skip
        (.seq (.ops [
            ⟨some 11, .bin .eql (.tmp 4) (.const (.int .u8 92)), none, false⟩,
            ⟨some 9, .mov (.tmp 11), none, false⟩] [0, 4, 9])
          (.cond (.tmp 9)
          .skip
          (.ops [
              ⟨some 12, .bin .eql (.tmp 4) (.const (.int .u8 47)), none, false⟩,
              ⟨some 9, .mov (.tmp 12), none, false⟩] [0, 9])))))
        (.cond (.tmp 9)
        (.seq (.ops [
            ⟨some 13, .mov (.tmp 0), none, false⟩,
            ⟨some 14, .buildSlice true 5 1 1 [.int .u8 0] [(0, (.tmp 13))], none, false⟩,
            ⟨some 15, .bytesToStr (.tmp 14), none, false⟩,
            ⟨some 2, .mov (.tmp 15), none, false⟩,
            ⟨some 3, .mov (.const (.bool true)), none, false⟩] [2, 3])
          .ret)
        .skip))))))))
  (.seq (.ops [
    ⟨some 2, .mov (.const (.string ⟨#[]⟩)), none, false⟩,
    ⟨some 3, .mov (.const (.bool false)), none, false⟩] [2, 3])
  .ret)))⟩
/-- (*scribe/lex.lexer).slash -/
def af84 : AFunc := ⟨1, [.tmp 2],
  (.seq (.ops [
    ⟨some 2, .mov (.const (.bool false)), none, false⟩] [0])
  (.seq (.seq (.ops [
    ⟨some 4, .mov (.tmp 0), none, false⟩,
    ⟨some 5, .nilCheck (.tmp 4), none, false⟩,
    ⟨some 6, .fieldAddr 2 (.tmp 5), none, false⟩,
    ⟨some 7, .load false 1 (.tmp 6), none, false⟩,
    ⟨some 8, .len .slice (.tmp 7), none, false⟩,
    ⟨some 9, .bin .eql (.tmp 8) (.const (.int .i64 0)), none, false⟩] [0, 9])
  (.cond (.tmp 9)
  (.seq (.ops [
      ⟨some 2, .mov (.const (.bool true)), none, false⟩] [2])
    .ret)
  .skip))
  (.seq (.opsD [
    (⟨some 10, .mov (.tmp 0), none, false⟩, []),
    (⟨some 11, .nilCheck (.tmp 10), none, false⟩, []),
    (⟨some 12, .fieldAddr 2 (.tmp 11), none, false⟩, []),
    (⟨some 13, .load false 1 (.tmp 12), none, false⟩, []),
    (⟨some 14, .mov (.tmp 0), none, false⟩, []),
    (⟨some 15, .nilCheck (.tmp 14), none, false⟩, []),
    (⟨some 16, .fieldAddr 2 (.tmp 15), none, false⟩, []),
    (⟨some 17, .load false 1 (.tmp 16), none, false⟩, []),
    (⟨some 18, .len .slice (.tmp 17), none, false⟩, []),
    (⟨some 19, .bin .sub (.tmp 18) (.const (.int .i64 1)), none, false⟩, []),
    (⟨some 20, .indexAddr 3 (.tmp 13) (.tmp 19), none, false⟩, []),
    (⟨some 21, .load true 3 (.tmp 20), none, false⟩, []),
    (⟨some 3, .allocL 0 [.int .i64 0, .str [], .int .i64 0], none, false⟩, []),
    (⟨none, .storeL 3 (.tmp 3) (.tmp 21), none, false⟩, [])] [3])
  (.seq (.seq (.ops [
    ⟨some 22, .fieldL 0 (.tmp 3), none, false⟩,
    ⟨some 23, .loadL false 1 (.tmp 22), none, false⟩] [3, 23])
  (.block 0
  (.seq (.seq (.ops [
      ⟨some 25, .bin .eql (.tmp 23) (.const (.int .i64 2)), none, false⟩,
      ⟨some 24, .mov (.tmp 25), none, false⟩] [3, 23, 24])
    (.cond (.tmp 24)
    .skip
    (.seq (.ops [
        ⟨some 26, .bin .eql (.tmp 23) (.const (.int .i64 3)), none, false⟩,
        ⟨some 24, .mov (.tmp 26), none, false⟩] [3, 23, 24])
      (.cond (.tmp 24)
      .skip
      (.seq (.ops [
          ⟨some 27, .bin .eql (.tmp 23) (.const (.int .i64 4)), none, false⟩,
          ⟨some 24, .mov (.tmp 27), none, false⟩] [3, 23, 24])
        (.cond (.tmp 24)
        .skip
        (.ops [
            ⟨some 28, .bin .eql (.tmp 23) (.const (.int .i64 5)), none, false⟩,
            ⟨some 24, .mov (.tmp 28), none, false⟩] [3, 23, 24])))))))
    (.cond (.tmp 24)
    (.seq (.ops [
        ⟨some 2, .mov (.const (.bool false)), none, false⟩] [2])
      .ret)
    (.seq (.ops [
        ⟨some 30, .bin .eql (.tmp 23) (.const (.int .i64 9)), none, false⟩,
        ⟨some 29, .mov (.tmp 30), none, false⟩] [3, 23, 29])
      (.cond (.tmp 29)
      (.seq (.ops [
          ⟨some 31, .fieldL 1 (.tmp 3), none, false⟩,
          ⟨some 32, .loadL false 1 (.tmp 31), none, false⟩,
          ⟨some 33, .bin .neq (.tmp 32) (.const (.string ⟨#[108, 101, 110, 103, 116, 104]⟩)), none, false⟩,
          ⟨some 2, .mov (.tmp 33), none, false⟩] [2])
        .ret)
      (.seq (.ops [
          ⟨some 35, .bin .eql (.tmp 23) (.const (.int .i64 8)), none, false⟩,
          ⟨some 34, .mov (.tmp 35), none, false⟩] [3, 34])
        (.cond (.tmp 34)
        (.seq (.ops [
            ⟨some 36, .buildSlice true 9 1 4 [.str []] [(0, (.const (.string ⟨#[41]⟩))), (1, (.const (.string ⟨#[93]⟩))), (2, (.const (.string ⟨#[43, 43]⟩))), (3, (.const (.string ⟨#[45, 45]⟩)))], none, false⟩,
            ⟨some 37, .fieldL 1 (.tmp 3), none, false⟩,
            ⟨some 38, .loadL false 1 (.tmp 37), none, false⟩,
            ⟨some 39, .call 48 [(.tmp 36), (.tmp 38)], none, false⟩,
            ⟨some 40, .un .not (.tmp 39), none, false⟩,
            ⟨some 2, .mov (.tmp 40), none, false⟩] [2])
          .ret)
        .skip))))))))
  (.seq (.ops [
    ⟨some 2, .mov (.const (.bool true)), none, false⟩] [2])
  .ret)))))⟩
/-- scribe/lex.inRegex -/
def af85 : AFunc := ⟨1, [.tmp 2, .tmp 3],
  (.seq (.ops [
    ⟨some 2, .mov (.const (.string ⟨#[]⟩)), none, false⟩,
    ⟨some 3, .mov (.const (.bool false)), none, false⟩] [0])
  (.seq (.seq (.ops [
    ⟨some 4, .mov (.tmp 0), none, false⟩,
    ⟨some 5, .bin .eql (.tmp 4) (.const (.int .u8 47)), none, false⟩] [0, 5])
  (.cond (.tmp 5)
  (.seq (.ops [
      ⟨some 2, .mov (.const (.string ⟨#[47]⟩)), none, false⟩,
      ⟨some 3, .mov (.const (.bool true)), none, false⟩] [2, 3])
    .ret)
  .skip))
  (.seq (.ops [
    ⟨some 6, .mov (.tmp 0), none, false⟩,
    ⟨some 7, .buildSlice true 5 1 2 [.int .u8 0] [(0, (.const (.int .u8 92))), (1, (.tmp 6))], none, false⟩,
    ⟨some 8, .bytesToStr (.tmp 7), none, false⟩,
    ⟨some 9, .mov (.tmp 0), none, false⟩,
    ⟨some 10, .bin .neq (.tmp 9) (.const (.int .u8 10)), none, false⟩,
    ⟨some 2, .mov (.tmp 8), none, false⟩,
    ⟨some 3, .mov (.tmp 10), none, false⟩] [2, 3])
  .ret)))⟩
/-- (*scribe/lex.lexer).sign -/
def af86 : AFunc := ⟨1, [.tmp 2],
  (.seq (.ops [
    ⟨some 2, .mov (.const (.int .i64 0)), none, false⟩] [0])
  (.seq (.opsD [
    (⟨some 4, .mov (.tmp 0), none, false⟩, []),
    (⟨some 5, .nilCheck (.tmp 4), none, false⟩, []),
    (⟨some 6, .fieldAddr 0 (.tmp 5), none, false⟩, []),
    (⟨some 7, .load false 1 (.tmp 6), none, false⟩, []),
    (⟨some 8, .mov (.tmp 0), none, false⟩, []),
    (⟨some 9, .nilCheck (.tmp 8), none, false⟩, []),
    (⟨some 10, .fieldAddr 1 (.tmp 9), none, false⟩, []),
    (⟨some 11, .load false 1 (.tmp 10), none, false⟩, []),
    (⟨some 12, .mov (.tmp 0), none, false⟩, []),
    (⟨some 13, .nilCheck (.tmp 12), none, false⟩, []),
    (⟨some 14, .fieldAddr 1 (.tmp 13), none, false⟩, []),
    (⟨some 15, .load false 1 (.tmp 14), none, false⟩, []),
    (⟨some 16, .bin .add (.tmp 15) (.const (.int .i64 2)), none, false⟩, []),
    (⟨some 17, .mov (.tmp 0), none, false⟩, []),
    (⟨some 18, .nilCheck (.tmp 17), none, false⟩, []),
    (⟨some 19, .fieldAddr 0 (.tmp 18), none, false⟩, []),
    (⟨some 20, .load false 1 (.tmp 19), none, false⟩, []),
    (⟨some 21, .len .str (.tmp 20), none, false⟩, []),
    (⟨some 22, .min (.tmp 16) (.tmp 21), none, false⟩, []),
    (⟨some 23, .sliceStr (.tmp 7) (some (.tmp 11)) (some (.tmp 22)), none, false⟩, []),
    (⟨some 3, .mov (.tmp 23), none, false⟩, [])] [0, 3])
  (.seq (.seq (.ops [
    ⟨some 24, .mov (.tmp 3), none, false⟩,
    ⟨some 25, .len .str (.tmp 24), none, false⟩,
    ⟨some 26, .bin .eql (.tmp 25) (.const (.int .i64 2)), none, false⟩,
    ⟨some 27, .mov (.tmp 26), none, false⟩,
    ⟨some 28, .mov (.tmp 3), some (27, true), false⟩,
    ⟨some 29, .bin .add (.const (.string ⟨#[32]⟩)) (.tmp 28), some (27, true), false⟩,
    ⟨some 30, .bin .add (.tmp 29) (.const (.string ⟨#[32]⟩)), some (27, true), false⟩,
    ⟨some 31, .ext 111 [(.const (.string ⟨#[32, 43, 61, 32, 45, 61, 32, 42, 61, 32, 47, 61, 32, 37, 61, 32, 61, 61, 32, 60, 61, 32, 62, 61, 32, 33, 61, 32, 43, 43, 32, 45, 45, 32, 38, 38, 32, 124, 124, 32, 62, 62, 32, 33, 126, 32]⟩)), (.tmp 30)], some (27, true), false⟩,
    ⟨some 32, .pick (.tmp 27) (.tmp 31) (.const (.bool false)), none, false⟩] [0, 3, 32])
  (.cond (.tmp 32)
  (.seq (.ops [
      ⟨some 33, .mov (.tmp 0), none, false⟩,
      ⟨some 34, .mov (.tmp 3), none, false⟩,
      ⟨some 35, .mov (.tmp 0), none, false⟩,
      ⟨some 36, .nilCheck (.tmp 35), none, false⟩,
      ⟨some 37, .fieldAddr 1 (.tmp 36), none, false⟩,
      ⟨some 38, .load false 1 (.tmp 37), none, false⟩,
      ⟨some 39, .call 47 [(.tmp 33), (.const (.int .i64 8)), (.tmp 34), (.tmp 38)], none, false⟩] [0])
    (.seq (.ops [
      ⟨some 40, .mov (.tmp 0), none, false⟩,
      ⟨some 41, .nilCheck (.tmp 40), none, false⟩,
      ⟨some 42, .fieldAddr 1 (.tmp 41), none, false⟩,
      ⟨some 43, .load false 1 (.tmp 42), none, false⟩,
      ⟨some 44, .bin .add (.tmp 43) (.const (.int .i64 2)), none, false⟩,
      ⟨some 45, .nilCheck (.tmp 40), none, false⟩,
      ⟨some 46, .fieldAddr 1 (.tmp 45), none, false⟩,
      ⟨none, .store 1 (.tmp 46) (.tmp 44), none, false⟩] [])
    (.seq (.ops [
      ⟨some 2, .mov (.const (.int .i64 0)), none, false⟩] [2])
    .ret)))
  .skip))
  (.seq (.seq (.opsD [
    (⟨some 47, .mov (.tmp 0), none, false⟩, []),
    (⟨some 48, .nilCheck (.tmp 47), none, false⟩, []),
    (⟨some 49, .fieldAddr 0 (.tmp 48), none, false⟩, []),
    (⟨some 50, .load false 1 (.tmp 49), none, false⟩, []),
    (⟨some 51, .mov (.tmp 0), none, false⟩, []),
    (⟨some 52, .nilCheck (.tmp 51), none, false⟩, []),
    (⟨some 53, .fieldAddr 1 (.tmp 52), none, false⟩, []),
    (⟨some 54, .load false 1 (.tmp 53), none, false⟩, []),
    (⟨some 55, .indexStr (.tmp 50) (.tmp 54), none, false⟩, []),
    (⟨some 56, .ext 112 [(.const (.string ⟨#[123, 125, 40, 41, 91, 93, 59, 44, 43, 45, 42, 47, 37, 33, 62, 60, 124, 63, 58, 126, 36, 61]⟩)), (.tmp 55)], none, false⟩, []),
    (⟨some 57, .bin .lss (.tmp 56) (.const (.int .i64 0)), none, false⟩, [])] [0, 3, 57])
  (.cond (.tmp 57)
  (.seq (.ops [
      ⟨some 2, .mov (.const (.int .i64 9)), none, false⟩] [2])
    .ret)
  .skip))
  (.seq (.opsD [
    (⟨some 58, .mov (.tmp 0), none, false⟩, []),
    (⟨some 59, .mov (.tmp 3), none, false⟩, []),
    (⟨some 60, .sliceStr (.tmp 59) none (some (.const (.int .i64 1))), none, false⟩, []),
    (⟨some 61, .mov (.tmp 0), none, false⟩, []),
    (⟨some 62, .nilCheck (.tmp 61), none, false⟩, []),
    (⟨some 63, .fieldAddr 1 (.tmp 62), none, false⟩, []),
    (⟨some 64, .load false 1 (.tmp 63), none, false⟩, []),
    (⟨some 65, .call 47 [(.tmp 58), (.const (.int .i64 8)), (.tmp 60), (.tmp 64)], none, false⟩, [])] [0])
  (.seq (.ops [
    ⟨some 66, .mov (.tmp 0), none, false⟩,
    ⟨some 67, .nilCheck (.tmp 66), none, false⟩,
    ⟨some 68, .fieldAddr 1 (.tmp 67), none, false⟩,
    ⟨some 69, .load false 1 (.tmp 68), none, false⟩,
    ⟨some 70, .bin .add (.tmp 69) (.const (.int .i64 1)), none, false⟩,
    ⟨some 71, .nilCheck (.tmp 66), none, false⟩,
    ⟨some 72, .fieldAddr 1 (.tmp 71), none, false⟩,
    ⟨none, .store 1 (.tmp 72) (.tmp 70), none, false⟩] [])
  (.seq (.ops [
    ⟨some 2, .mov (.const (.int .i64 0)), none, false⟩] [2])
  .ret)))))))⟩
/-- slices.Index[[]string,string] -/
def af87 : AFunc := ⟨2, [.tmp 4],
  (.seq (.ops [
    ⟨some 4, .mov (.const (.int .i64 0)), none, false⟩] [0, 1])
  (.seq (.seq (.ops [
    ⟨some 6, .mov (.tmp 0), none, false⟩,
    ⟨some 7, .len .slice (.tmp 6), none, false⟩,
    ⟨some 8, .mov (.const (.int .i64 0)), none, false⟩] [0, 1, 7, 8])
  (.block 0
  (.loop [0, 1, 7, 8]
    (.seq (.ops [
        ⟨some 9, .bin .lss (.tmp 8) (.tmp 7), none, false⟩] [0, 1, 7, 8, 9])
      (.seq (.cond (.tmp 9)
      .skip
      (.exit 0))
      (.seq (.block 1
      (.seq (.ops [
          ⟨some 10, .mov (.tmp 8), none, false⟩,
          ⟨some 5, .mov (.tmp 10), none, false⟩] [0, 1, 5, 7, 8])
        (.seq (.ops [
          ⟨some 11, .mov (.tmp 1), none, false⟩,
          ⟨some 12, .mov (.tmp 0), none, false⟩,
          ⟨some 13, .mov (.tmp 5), none, false⟩,
          ⟨some 14, .indexAddr 1 (.tmp 12) (.tmp 13), none, false⟩,
          ⟨some 15, .load false 1 (.tmp 14), none, false⟩,
          ⟨some 16, .bin .eql (.tmp 11) (.tmp 15), none, false⟩] [0, 1, 5, 7, 8, 16])
        (.cond (.tmp 16)
        (.seq (.ops [
            ⟨some 17, .mov (.tmp 5), none, false⟩,
            ⟨some 4, .mov (.tmp 17), none, false⟩] [4])
          .ret)
        .skip))))
      (.ops [
        ⟨some 18, .bin .add (.tmp 8) (.const (.int .i64 1)), none, false⟩,
        ⟨some 8, .mov (.tmp 18), none, false⟩] [0, 1, 7, 8])))))))
  (.seq (.ops [
    ⟨some 4, .mov (.const (.int .i64 (-1))), none, false⟩] [4])
  .ret)))⟩
/-- (*scribe/parse.parser).stmt -/
def af88 : AFunc := ⟨1, [.cellL true 4 2],
  (.seq (.ops [
    ⟨some 2, .allocL 0 [.str [], .str [], .int .i64 0, .nilSlice], none, false⟩] [0, 2])
  (.seq (.ops [
    ⟨some 4, .mov (.tmp 0), none, false⟩,
    ⟨some 5, .call 90 [(.tmp 4)], none, false⟩] [0, 2])
  (.seq (.ops [
    ⟨some 6, .mov (.tmp 0), none, false⟩,
    ⟨none, .defer 91 [(.tmp 6)], none, false⟩] [0, 2])
  (.seq (.block 0
  (.seq (.ops [
      ⟨some 8, .mov (.tmp 0), none, false⟩,
      ⟨some 9, .buildSlice true 9 1 1 [.str []] [(0, (.const (.string ⟨#[123]⟩)))], none, false⟩,
      ⟨some 10, .call 29 [(.tmp 8), (.tmp 9)], none, false⟩,
      ⟨some 7, .mov (.tmp 10), none, false⟩] [0, 2, 7])
    (.cond (.tmp 7)
    (.seq (.ops [
        ⟨some 11, .mov (.tmp 0), none, false⟩,
        ⟨some 12, .call 50 [(.tmp 11)], none, false⟩,
        ⟨none, .storeL 4 (.tmp 2) (.tmp 12), none, false⟩] [2])
      .ret)
    (.seq (.ops [
        ⟨some 14, .mov (.tmp 0), none, false⟩,
        ⟨some 15, .call 49 [(.tmp 14), (.const (.string ⟨#[59]⟩))], none, false⟩,
        ⟨some 13, .mov (.tmp 15), none, false⟩] [0, 2, 13])
      (.cond (.tmp 13)
      (.seq (.ops [
          ⟨some 16, .call 28 [(.const (.string ⟨#[101, 109, 112, 116, 121]⟩)), (.const (.slice none 0 0))], none, false⟩,
          ⟨none, .storeL 4 (.tmp 2) (.tmp 16), none, false⟩] [2])
        .ret)
      (.seq (.ops [
          ⟨some 18, .mov (.tmp 0), none, false⟩,
          ⟨some 19, .call 49 [(.tmp 18), (.const (.string ⟨#[105, 102]⟩))], none, false⟩,
          ⟨some 17, .mov (.tmp 19), none, false⟩] [0, 2, 17])
        (.cond (.tmp 17)
        (.seq (.ops [
            ⟨some 20, .mov (.tmp 0), none, false⟩,
            ⟨some 21, .call 113 [(.tmp 20)], none, false⟩,
            ⟨none, .storeL 4 (.tmp 2) (.tmp 21), none, false⟩] [2])
          .ret)
        (.seq (.ops [
            ⟨some 23, .mov (.tmp 0), none, false⟩,
            ⟨some 24, .call 49 [(.tmp 23), (.const (.string ⟨#[119, 104, 105, 108, 101]⟩))], none, false⟩,
            ⟨some 22, .mov (.tmp 24), none, false⟩] [0, 2, 22])
          (.cond (.tmp 22)
          (.seq (.ops [
              ⟨some 25, .mov (.tmp 0), none, false⟩,
              ⟨some 26, .call 53 [(.tmp 25), (.const (.string ⟨#[40]⟩))], none, false⟩] [0, 2])
            (.seq (.ops [
              ⟨some 27, .mov (.tmp 0), none, false⟩,
              ⟨some 28, .call 114 [(.tmp 27), (.const (.string ⟨#[41]⟩))], none, false⟩,
              ⟨some 29, .mov (.tmp 0), none, false⟩,
              ⟨some 30, .call 115 [(.tmp 29)], none, false⟩,
              ⟨some 31, .buildSlice true 25 4 2 [.str [], .str [], .int .i64 0, .nilSlice] [(0, (.tmp 28)), (1, (.tmp 30))], none, false⟩,
              ⟨some 32, .call 28 [(.const (.string ⟨#[119, 104, 105, 108, 101]⟩)), (.tmp 31)], none, false⟩,
              ⟨none, .storeL 4 (.tmp 2) (.tmp 32), none, false⟩] [2])
            .ret))
          (.seq (.ops [
              ⟨some 34, .mov (.tmp 0), none, false⟩,
              ⟨some 35, .call 49 [(.tmp 34), (.const (.string ⟨#[102, 111, 114]⟩))], none, false⟩,
              ⟨some 33, .mov (.tmp 35), none, false⟩] [0, 2, 33])
            (.cond (.tmp 33)
            (.seq (.ops [
                ⟨some 36, .mov (.tmp 0), none, false⟩,
                ⟨some 37, .call 116 [(.tmp 36)], none, false⟩,
                ⟨none, .storeL 4 (.tmp 2) (.tmp 37), none, false⟩] [2])
              .ret)
            .skip)))))))))))
  (.seq (.ops [
    ⟨some 38, .mov (.tmp 0), none, false⟩,
    ⟨some 39, .call 117 [(.tmp 38)], none, false⟩,
    ⟨some 3, .allocL 0 [.str [], .str [], .int .i64 0, .nilSlice], none, false⟩,
    ⟨none, .storeL 4 (.tmp 3) (.tmp 39), none, false⟩] [0, 2, 3])
  (.seq (.ops [
    ⟨some 40, .mov (.tmp 0), none, false⟩,
    ⟨some 41, .call 118 [(.tmp 40)], none, false⟩] [2, 3])
  (.seq (.ops [
    ⟨some 42, .loadL true 4 (.tmp 3), none, false⟩,
    ⟨none, .storeL 4 (.tmp 2) (.tmp 42), none, false⟩] [2])
  .ret)))))))⟩
/-- slices.Contains[[]int,int] -/
def af89 : AFunc := ⟨2, [.tmp 4],
  (.seq (.ops [
    ⟨some 4, .mov (.const (.bool false)), none, false⟩] [0, 1])
  (.seq (.ops [
    ⟨some 5, .mov (.tmp 0), none, false⟩,
    ⟨some 6, .mov (.tmp 1), none, false⟩,
    ⟨some 7, .call 119 [(.tmp 5), (.tmp 6)], none, false⟩,
    ⟨some 8, .bin .geq (.tmp 7) (.const (.int .i64 0)), none, false⟩,
    ⟨some 4, .mov (.tmp 8), none, false⟩] [4])
  .ret))⟩
/-- (*scribe/parse.parser).down -/
def af90 : AFunc := ⟨1, [],
  (.seq (.ops [
    ⟨some 2, .mov (.tmp 0), none, false⟩,
    ⟨some 3, .nilCheck (.tmp 2), none, false⟩,
    ⟨some 4, .fieldAddr 2 (.tmp 3), none, false⟩,
    ⟨some 5, .load false 1 (.tmp 4), none, false⟩,
    ⟨some 6, .bin .add (.tmp 5) (.const (.int .i64 1)), none, false⟩,
    ⟨some 7, .nilCheck (.tmp 2), none, false⟩,
    ⟨some 8, .fieldAddr 2 (.tmp 7), none, false⟩,
    ⟨none, .store 1 (.tmp 8) (.tmp 6), none, false⟩] [0])
  (.seq (.ops [
    ⟨some 9, .mov (.tmp 0), none, false⟩,
    ⟨some 10, .nilCheck (.tmp 9), none, false⟩,
    ⟨some 11, .fieldAddr 2 (.tmp 10), none, false⟩,
    ⟨some 12, .load false 1 (.tmp 11), none, false⟩,
    ⟨some 13, .bin .gtr (.tmp 12) (.const (.int .i64 50)), none, false⟩,
    ⟨some 14, .mov (.tmp 13), none, false⟩,
    ⟨some 15, .mov (.tmp 0), some (14, true), false⟩,
    ⟨some 16, .nilCheck (.tmp 15), some (14, true), false⟩,
    ⟨some 17, .fieldAddr 4 (.tmp 16), some (14, true), false⟩,
    ⟨some 18, .load false 1 (.tmp 17), some (14, true), false⟩,
    ⟨some 19, .bin .eql (.tmp 18) (.const (.int .i64 0)), some (14, true), false⟩,
    ⟨some 20, .pick (.tmp 14) (.tmp 19) (.const (.bool false)), none, false⟩] [0, 20])
  (.cond (.tmp 20)
  (.ops [
      ⟨some 21, .mov (.tmp 0), none, false⟩,
      ⟨some 22, .mov (.tmp 0), none, false⟩,
      ⟨some 23, .mov (.tmp 0), none, false⟩,
      ⟨some 24, .call 30 [(.tmp 23)], none, false⟩,
      ⟨some 25, .field false 1 2 (.tmp 24), none, false⟩,
      ⟨some 26, .nilCheck (.tmp 21), none, false⟩,
      ⟨some 27, .fieldAddr 4 (.tmp 26), none, false⟩,
      ⟨none, .store 1 (.tmp 27) (.const (.int .i64 14)), none, false⟩,
      ⟨some 28, .nilCheck (.tmp 22), none, false⟩,
      ⟨some 29, .fieldAddr 5 (.tmp 28), none, false⟩,
      ⟨none, .store 1 (.tmp 29) (.tmp 25), none, false⟩] [])
  .skip)))⟩
/-- (*scribe/parse.parser).up -/
def af91 : AFunc := ⟨1, [],
  (.ops [
    ⟨some 2, .mov (.tmp 0), none, false⟩,
    ⟨some 3, .nilCheck (.tmp 2), none, false⟩,
    ⟨some 4, .fieldAddr 2 (.tmp 3), none, false⟩,
    ⟨some 5, .load false 1 (.tmp 4), none, false⟩,
    ⟨some 6, .bin .sub (.tmp 5) (.const (.int .i64 1)), none, false⟩,
    ⟨some 7, .nilCheck (.tmp 2), none, false⟩,
    ⟨some 8, .fieldAddr 2 (.tmp 7), none, false⟩,
    ⟨none, .store 1 (.tmp 8) (.tmp 6), none, false⟩] [])⟩
/-- (*scribe/parse.parser).or -/
def af92 : AFunc := ⟨1, [.cellL true 4 2],
  (.seq (.ops [
    ⟨some 2, .allocL 0 [.str [], .str [], .int .i64 0, .nilSlice], none, false⟩] [0, 2])
  (.seq (.ops [
    ⟨some 3, .mov (.tmp 0), none, false⟩,
    ⟨some 4, .mov (.tmp 0), none, false⟩,
    ⟨some 5, .clos 121 [(.tmp 4)] [], none, false⟩,
    ⟨some 6, .makeMap, none, false⟩,
    ⟨none, .mapUpdate (.cell .str) (.tmp 6) (.const (.string ⟨#[124, 124]⟩)) (.const (.string ⟨#[111, 114]⟩)), none, false⟩,
    ⟨some 7, .mov (.tmp 6), none, false⟩,
    ⟨some 8, .call 120 [(.tmp 3), (.tmp 5), (.const (.bool true)), (.tmp 7)], none, false⟩,
    ⟨none, .storeL 4 (.tmp 2) (.tmp 8), none, false⟩] [2])
  .ret))⟩
/-- scribe/parse.place -/
def af93 : AFunc := ⟨1, [.tmp 2],
  (.seq (.ops [
    ⟨some 1, .boxL 0 4 (.tmp 0), none, false⟩,
    ⟨some 2, .mov (.const (.bool false)), none, false⟩] [1])
  (.seq (.ops [
    ⟨some 3, .buildSlice true 9 1 3 [.str []] [(0, (.const (.string ⟨#[118, 97, 114]⟩))), (1, (.const (.string ⟨#[105, 110, 100, 101, 120]⟩))), (2, (.const (.string ⟨#[102, 105, 101, 108, 100]⟩)))], none, false⟩,
    ⟨some 4, .fieldL 0 (.tmp 1), none, false⟩,
    ⟨some 5, .loadL false 1 (.tmp 4), none, false⟩,
    ⟨some 6, .call 48 [(.tmp 3), (.tmp 5)], none, false⟩,
    ⟨some 2, .mov (.tmp 6), none, false⟩] [2])
  .ret))⟩
/-- (*scribe/resolve.resolver).name -/
def af94 : AFunc := ⟨4, [],
  (.seq (.ops [
    ⟨some 6, .boxL 0 4 (.tmp 2), none, false⟩] [0, 1, 3, 6])
  (.seq (.seq (.opsD [
    (⟨some 12, .mov (.tmp 0), none, false⟩, []),
    (⟨some 13, .nilCheck (.tmp 12), none, false⟩, []),
    (⟨some 14, .fieldAddr 0 (.tmp 13), none, false⟩, []),
    (⟨some 15, .load false 1 (.tmp 14), none, false⟩, []),
    (⟨some 16, .fieldL 1 (.tmp 6), none, false⟩, []),
    (⟨some 17, .loadL false 1 (.tmp 16), none, false⟩, []),
    (⟨some 18, .lookup (.cell .str) (.int .i64 0) True (.tmp 15) (.tmp 17), none, false⟩, []),
    (⟨some 11, .mov (.tmp 18), none, false⟩, []),
    (⟨some 19, .extract (.tmp 11) 0, none, false⟩, []),
    (⟨some 20, .extract (.tmp 11) 1, none, false⟩, []),
    (⟨some 8, .mov (.tmp 19), none, false⟩, []),
    (⟨some 9, .mov (.tmp 20), none, false⟩, [])] [0, 1, 3, 6, 9])
  (.seq (.ops [
    ⟨some 21, .mov (.tmp 9), none, false⟩] [0, 1, 3, 6, 21])
  (.cond (.tmp 21)
  (.seq (.ops [
      ⟨some 22, .mov (.tmp 0), none, false⟩,
      ⟨some 23, .fieldL 2 (.tmp 6), none, false⟩,
      ⟨some 24, .loadL false 1 (.tmp 23), none, false⟩,
      ⟨some 25, .call 62 [(.tmp 22), (.tmp 24), (.const (.int .i64 11))], none, false⟩] [])
    .ret)
  .skip)))
  (.seq (.ops [
    ⟨some 26, .mov (.tmp 0), none, false⟩,
    ⟨some 27, .mov (.tmp 1), none, false⟩,
    ⟨some 28, .fieldL 1 (.tmp 6), none, false⟩,
    ⟨some 29, .loadL false 1 (.tmp 28), none, false⟩,
    ⟨some 30, .call 60 [(.tmp 26), (.tmp 27), (.tmp 29)], none, false⟩,
    ⟨some 10, .allocL 0 [.int .i64 0, .str []], none, false⟩,
    ⟨none, .storeL 2 (.tmp 10) (.tmp 30), none, false⟩] [0, 3, 6, 10])
  (.seq (.seq (.opsD [
    (⟨some 31, .mov (.tmp 0), none, false⟩, []),
    (⟨some 32, .nilCheck (.tmp 31), none, false⟩, []),
    (⟨some 33, .fieldAddr 2 (.tmp 32), none, false⟩, []),
    (⟨some 34, .load false 1 (.tmp 33), none, false⟩, []),
    (⟨some 35, .loadL true 2 (.tmp 10), none, false⟩, []),
    (⟨some 36, .lookup (.agg [.int, .str]) (.bool false) False (.tmp 34) (.tmp 35), none, false⟩, []),
    (⟨some 37, .mov (.tmp 3), none, false⟩, []),
    (⟨some 38, .binB .neq (.tmp 36) (.tmp 37), none, false⟩, []),
    (⟨some 39, .mov (.tmp 38), none, false⟩, []),
    (⟨some 40, .mov (.tmp 3), some (39, false), false⟩, []),
    (⟨some 41, .mov (.tmp 40), some (39, false), false⟩, []),
    (⟨some 42, .fieldL 0 (.tmp 10), some (41, true), false⟩, []),
    (⟨some 43, .loadL false 1 (.tmp 42), some (41, true), false⟩, []),
    (⟨some 44, .bin .lss (.tmp 43) (.const (.int .i64 0)), some (41, true), false⟩, []),
    (⟨some 45, .pick (.tmp 41) (.tmp 44) (.const (.bool false)), some (39, false), false⟩, []),
    (⟨some 46, .mov (.tmp 45), some (39, false), false⟩, []),
    (⟨some 47, .load false 1 (.global 2), some (46, true), false⟩, []),
    (⟨some 48, .fieldL 1 (.tmp 6), some (46, true), false⟩, []),
    (⟨some 49, .loadL false 1 (.tmp 48), some (46, true), false⟩, []),
    (⟨some 50, .call 48 [(.tmp 47), (.tmp 49)], some (46, true), false⟩, []),
    (⟨some 51, .pick (.tmp 46) (.tmp 50) (.const (.bool false)), some (39, false), false⟩, []),
    (⟨some 52, .pick (.tmp 39) (.const (.bool true)) (.tmp 51), none, false⟩, [])] [0, 6, 10, 52])
  (.cond (.tmp 52)
  (.ops [
      ⟨some 53, .mov (.tmp 0), none, false⟩,
      ⟨some 54, .fieldL 2 (.tmp 6), none, false⟩,
      ⟨some 55, .loadL false 1 (.tmp 54), none, false⟩,
      ⟨some 56, .call 62 [(.tmp 53), (.tmp 55), (.const (.int .i64 11))], none, false⟩] [0, 6, 10])
  .skip))
  (.seq (.opsD [
    (⟨some 57, .fieldL 0 (.tmp 10), none, false⟩, []),
    (⟨some 58, .loadL false 1 (.tmp 57), none, false⟩, []),
    (⟨some 59, .bin .lss (.tmp 58) (.const (.int .i64 0)), none, false⟩, []),
    (⟨some 60, .mov (.tmp 59), none, false⟩, []),
    (⟨some 61, .mov (.tmp 0), some (60, true), false⟩, []),
    (⟨some 62, .nilCheck (.tmp 61), some (60, true), false⟩, []),
    (⟨some 63, .fieldAddr 3 (.tmp 62), some (60, true), false⟩, []),
    (⟨some 64, .load false 1 (.tmp 63), some (60, true), false⟩, []),
    (⟨some 65, .fieldL 1 (.tmp 6), some (60, true), false⟩, []),
    (⟨some 66, .loadL false 1 (.tmp 65), some (60, true), false⟩, []),
    (⟨some 67, .call 48 [(.tmp 64), (.tmp 66)], some (60, true), false⟩, []),
    (⟨some 68, .un .not (.tmp 67), some (60, true), false⟩, []),
    (⟨some 69, .pick (.tmp 60) (.tmp 68) (.const (.bool false)), none, false⟩, [])] [0, 6, 69])
  (.cond (.tmp 69)
  (.opsD [
      (⟨some 70, .mov (.tmp 0), none, false⟩, []),
      (⟨some 71, .mov (.tmp 0), none, false⟩, []),
      (⟨some 72, .nilCheck (.tmp 71), none, false⟩, []),
      (⟨some 73, .fieldAddr 3 (.tmp 72), none, false⟩, []),
      (⟨some 74, .load false 1 (.tmp 73), none, false⟩, []),
      (⟨some 75, .fieldL 1 (.tmp 6), none, false⟩, []),
      (⟨some 76, .loadL false 1 (.tmp 75), none, false⟩, []),
      (⟨some 77, .buildSlice true 9 1 1 [.str []] [(0, (.tmp 76))], none, false⟩, []),
      (⟨some 78, .append false 9 1 16 (.tmp 74) (.tmp 77), none, false⟩, []),
      (⟨some 79, .nilCheck (.tmp 70), none, false⟩, []),
      (⟨some 80, .fieldAddr 3 (.tmp 79), none, false⟩, []),
      (⟨none, .store 1 (.tmp 80) (.tmp 78), none, false⟩, [])] [])
  .skip))))))⟩
/-- (*scribe/resolve.resolver).call -/
def af95 : AFunc := ⟨4, [],
  (.seq (.ops [
    ⟨some 6, .boxL 0 4 (.tmp 2), none, false⟩,
    ⟨some 7, .boxL 1 3 (.tmp 3), none, false⟩] [0, 1, 6, 7])
  (.seq (.opsD [
    (⟨some 13, .mov (.tmp 0), none, false⟩, []),
    (⟨some 14, .nilCheck (.tmp 13), none, false⟩, []),
    (⟨some 15, .fieldAddr 0 (.tmp 14), none, false⟩, []),
    (⟨some 16, .load false 1 (.tmp 15), none, false⟩, []),
    (⟨some 17, .fieldL 1 (.tmp 6), none, false⟩, []),
    (⟨some 18, .loadL false 1 (.tmp 17), none, false⟩, []),
    (⟨some 19, .lookup (.cell .str) (.int .i64 0) True (.tmp 16) (.tmp 18), none, false⟩, []),
    (⟨some 12, .mov (.tmp 19), none, false⟩, []),
    (⟨some 20, .extract (.tmp 12) 0, none, false⟩, []),
    (⟨some 21, .extract (.tmp 12) 1, none, false⟩, []),
    (⟨some 8, .mov (.tmp 20), none, false⟩, []),
    (⟨some 9, .mov (.tmp 21), none, false⟩, [])] [0, 1, 6, 7, 8, 9])
  (.seq (.seq (.opsD [
    (⟨some 22, .mov (.tmp 9), none, false⟩, []),
    (⟨some 23, .un .not (.tmp 22), none, false⟩, []),
    (⟨some 24, .mov (.tmp 23), none, false⟩, []),
    (⟨some 25, .fieldL 3 (.tmp 6), some (24, false), false⟩, []),
    (⟨some 26, .loadL false 1 (.tmp 25), some (24, false), false⟩, []),
    (⟨some 27, .len .slice (.tmp 26), some (24, false), false⟩, []),
    (⟨some 28, .mov (.tmp 0), some (24, false), false⟩, []),
    (⟨some 29, .nilCheck (.tmp 28), some (24, false), false⟩, []),
    (⟨some 30, .fieldAddr 1 (.tmp 29), some (24, false), false⟩, []),
    (⟨some 31, .load false 1 (.tmp 30), some (24, false), false⟩, []),
    (⟨some 32, .nilCheck (.tmp 31), some (24, false), false⟩, []),
    (⟨some 33, .fieldAddr 0 (.tmp 32), some (24, false), false⟩, []),
    (⟨some 34, .load false 1 (.tmp 33), some (24, false), false⟩, []),
    (⟨some 35, .mov (.tmp 8), some (24, false), false⟩, []),
    (⟨some 36, .indexAddr 7 (.tmp 34) (.tmp 35), some (24, false), false⟩, []),
    (⟨some 37, .fieldAddr 1 (.tmp 36), some (24, false), false⟩, []),
    (⟨some 38, .load false 1 (.tmp 37), some (24, false), false⟩, []),
    (⟨some 39, .len .slice (.tmp 38), some (24, false), false⟩, []),
    (⟨some 40, .bin .gtr (.tmp 27) (.tmp 39), some (24, false), false⟩, []),
    (⟨some 41, .pick (.tmp 24) (.const (.bool true)) (.tmp 40), none, false⟩, [])] [0, 1, 6, 7, 8, 41])
  (.cond (.tmp 41)
  (.seq (.ops [
      ⟨some 42, .mov (.tmp 0), none, false⟩,
      ⟨some 43, .fieldL 2 (.tmp 6), none, false⟩,
      ⟨some 44, .loadL false 1 (.tmp 43), none, false⟩,
      ⟨some 45, .call 62 [(.tmp 42), (.tmp 44), (.const (.int .i64 11))], none, false⟩] [])
    .ret)
  .skip))
  (.seq (.ops [
    ⟨some 46, .fieldL 3 (.tmp 6), none, false⟩,
    ⟨some 47, .loadL false 1 (.tmp 46), none, false⟩,
    ⟨some 48, .len .slice (.tmp 47), none, false⟩,
    ⟨some 49, .mov (.const (.int .i64 0)), none, false⟩] [0, 1, 6, 7, 8, 47, 48, 49])
  (.block 0
  (.loop [0, 1, 6, 7, 8, 47, 48, 49]
    (.seq (.ops [
        ⟨some 50, .bin .lss (.tmp 49) (.tmp 48), none, false⟩] [0, 1, 6, 7, 8, 47, 48, 49, 50])
      (.seq (.cond (.tmp 50)
      .skip
      (.exit 0))
      (.seq (.block 1
      (.seq (.ops [
          ⟨some 51, .mov (.tmp 49), none, false⟩,
          ⟨some 52, .indexAddr 4 (.tmp 47) (.tmp 49), none, false⟩,
          ⟨some 53, .load true 4 (.tmp 52), none, false⟩,
          ⟨some 11, .allocL 0 [.str [], .str [], .int .i64 0, .nilSlice], none, false⟩,
          ⟨some 10, .mov (.tmp 51), none, false⟩,
          ⟨none, .storeL 4 (.tmp 11) (.tmp 53), none, false⟩] [0, 1, 6, 7, 8, 10, 11, 47, 48, 49])
        (.seq (.seq (.opsD [
          (⟨some 54, .mov (.tmp 0), none, false⟩, []),
          (⟨some 55, .nilCheck (.tmp 54), none, false⟩, []),
          (⟨some 56, .fieldAddr 2 (.tmp 55), none, false⟩, []),
          (⟨some 57, .load false 1 (.tmp 56), none, false⟩, []),
          (⟨some 58, .mov (.tmp 8), none, false⟩, []),
          (⟨some 59, .mov (.tmp 0), none, false⟩, []),
          (⟨some 60, .nilCheck (.tmp 59), none, false⟩, []),
          (⟨some 61, .fieldAddr 1 (.tmp 60), none, false⟩, []),
          (⟨some 62, .load false 1 (.tmp 61), none, false⟩, []),
          (⟨some 63, .nilCheck (.tmp 62), none, false⟩, []),
          (⟨some 64, .fieldAddr 0 (.tmp 63), none, false⟩, []),
          (⟨some 65, .load false 1 (.tmp 64), none, false⟩, []),
          (⟨some 66, .mov (.tmp 8), none, false⟩, []),
          (⟨some 67, .indexAddr 7 (.tmp 65) (.tmp 66), none, false⟩, []),
          (⟨some 68, .fieldAddr 1 (.tmp 67), none, false⟩, []),
          (⟨some 69, .load false 1 (.tmp 68), none, false⟩, []),
          (⟨some 70, .mov (.tmp 10), none, false⟩, []),
          (⟨some 71, .indexAddr 1 (.tmp 69) (.tmp 70), none, false⟩, []),
          (⟨some 72, .load false 1 (.tmp 71), none, false⟩, []),
          (⟨some 73, .build [.int .i64 0, .str []] [(0, 1, (.tmp 58)), (1, 1, (.tmp 72))], none, false⟩, []),
          (⟨some 74, .lookup (.agg [.int, .str]) (.bool false) False (.tmp 57) (.tmp 73), none, false⟩, []),
          (⟨some 75, .un .not (.tmp 74), none, false⟩, [])] [0, 1, 6, 7, 8, 11, 47, 48, 49, 75])
        (.cond (.tmp 75)
        (.seq (.ops [
            ⟨some 76, .mov (.tmp 0), none, false⟩,
            ⟨some 77, .mov (.tmp 1), none, false⟩,
            ⟨some 78, .loadL true 4 (.tmp 11), none, false⟩,
            ⟨some 79, .loadL true 3 (.tmp 7), none, false⟩,
            ⟨some 80, .call 61 [(.tmp 76), (.tmp 77), (.tmp 78), (.tmp 79)], none, false⟩] [0, 1, 6, 7, 8, 47, 48, 49])
          (.exit 1))
        .skip))
        (.seq (.seq (.ops [
          ⟨some 81, .fieldL 0 (.tmp 11), none, false⟩,
          ⟨some 82, .loadL false 1 (.tmp 81), none, false⟩,
          ⟨some 83, .bin .neq (.tmp 82) (.const (.string ⟨#[118, 97, 114]⟩)), none, false⟩] [0, 1, 6, 7, 8, 11, 47, 48, 49, 83])
        (.cond (.tmp 83)
        (.seq (.ops [
            ⟨some 84, .mov (.tmp 0), none, false⟩,
            ⟨some 85, .fieldL 2 (.tmp 6), none, false⟩,
            ⟨some 86, .loadL false 1 (.tmp 85), none, false⟩,
            ⟨some 87, .call 62 [(.tmp 84), (.tmp 86), (.const (.int .i64 11))], none, false⟩] [])
          .ret)
        .skip))
        (.ops [
          ⟨some 88, .mov (.tmp 0), none, false⟩,
          ⟨some 89, .mov (.tmp 1), none, false⟩,
          ⟨some 90, .loadL true 4 (.tmp 11), none, false⟩,
          ⟨some 91, .call 94 [(.tmp 88), (.tmp 89), (.tmp 90), (.const (.bool true))], none, false⟩] [0, 1, 6, 7, 8, 47, 48, 49])))))
      (.ops [
        ⟨some 92, .bin .add (.tmp 49) (.const (.int .i64 1)), none, false⟩,
        ⟨some 49, .mov (.tmp 92), none, false⟩] [0, 1, 6, 7, 8, 47, 48, 49]))))))))))⟩
/-- scribe/num.Prefix -/
def af96 : AFunc := ⟨1, [.tmp 2, .tmp 3],
  (.seq (.ops [
    ⟨some 2, .mov (.const (.int .i64 0)), none, false⟩,
    ⟨some 3, .mov (.const (.int .i64 0)), none, false⟩] [0])
  (.seq (.ops [
    ⟨some 4, .mov (.const (.int .i64 0)), none, false⟩] [0, 4])
  (.seq (.block 0
  (.loop [0, 4]
    (.seq (.seq (.ops [
        ⟨some 13, .mov (.tmp 4), none, false⟩,
        ⟨some 14, .mov (.tmp 0), none, false⟩,
        ⟨some 15, .len .str (.tmp 14), none, false⟩,
        ⟨some 16, .bin .lss (.tmp 13) (.tmp 15), none, false⟩,
        ⟨some 17, .mov (.tmp 16), none, false⟩,
        ⟨some 18, .mov (.tmp 0), some (17, true), false⟩,
        ⟨some 19, .mov (.tmp 4), some (17, true), false⟩,
        ⟨some 20, .indexStr (.tmp 18) (.tmp 19), some (17, true), false⟩,
        ⟨some 21, .bin .eql (.tmp 20) (.const (.int .u8 32)), some (17, true), false⟩,
        ⟨some 22, .mov (.tmp 21), some (17, true), false⟩,
        ⟨some 23, .mov (.tmp 0), some (22, false), false⟩,
        ⟨some 24, .mov (.tmp 4), some (22, false), false⟩,
        ⟨some 25, .indexStr (.tmp 23) (.tmp 24), some (22, false), false⟩,
        ⟨some 26, .bin .eql (.tmp 25) (.const (.int .u8 9)), some (22, false), false⟩,
        ⟨some 27, .pick (.tmp 22) (.const (.bool true)) (.tmp 26), some (17, true), false⟩,
        ⟨some 28, .mov (.tmp 27), some (17, true), false⟩,
        ⟨some 29, .mov (.tmp 0), some (28, false), false⟩,
        ⟨some 30, .mov (.tmp 4), some (28, false), false⟩,
        ⟨some 31, .indexStr (.tmp 29) (.tmp 30), some (28, false), false⟩,
        ⟨some 32, .bin .eql (.tmp 31) (.const (.int .u8 10)), some (28, false), false⟩,
        ⟨some 33, .pick (.tmp 28) (.const (.bool true)) (.tmp 32), some (17, true), false⟩,
        ⟨some 34, .pick (.tmp 17) (.tmp 33) (.const (.bool false)), none, false⟩] [0, 4, 34])
      (.cond (.tmp 34)
      .skip
      (.exit 0)))
      (.block 1
      (.ops [
          ⟨some 35, .mov (.tmp 4), none, false⟩,
          ⟨some 36, .bin .add (.tmp 35) (.const (.int .i64 1)), none, false⟩,
          ⟨some 4, .mov (.tmp 36), none, false⟩] [0, 4])))))
  (.seq (.ops [
    ⟨some 37, .mov (.tmp 4), none, false⟩,
    ⟨some 38, .mov (.tmp 0), none, false⟩,
    ⟨some 39, .len .str (.tmp 38), none, false⟩,
    ⟨some 40, .bin .lss (.tmp 37) (.tmp 39), none, false⟩,
    ⟨some 41, .mov (.tmp 40), none, false⟩,
    ⟨some 42, .mov (.tmp 0), some (41, true), false⟩,
    ⟨some 43, .mov (.tmp 4), some (41, true), false⟩,
    ⟨some 44, .indexStr (.tmp 42) (.tmp 43), some (41, true), false⟩,
    ⟨some 45, .bin .eql (.tmp 44) (.const (.int .u8 45)), some (41, true), false⟩,
    ⟨some 46, .pick (.tmp 41) (.tmp 45) (.const (.bool false)), none, false⟩,
    ⟨some 5, .mov (.tmp 46), none, false⟩] [0, 4, 5])
  (.seq (.seq (.ops [
    ⟨some 47, .mov (.tmp 5), none, false⟩,
    ⟨some 48, .mov (.tmp 47), none, false⟩,
    ⟨some 49, .mov (.tmp 4), some (48, false), false⟩,
    ⟨some 50, .mov (.tmp 0), some (48, false), false⟩,
    ⟨some 51, .len .str (.tmp 50), some (48, false), false⟩,
    ⟨some 52, .bin .lss (.tmp 49) (.tmp 51), some (48, false), false⟩,
    ⟨some 53, .mov (.tmp 52), some (48, false), false⟩,
    ⟨some 54, .mov (.tmp 0), some (53, true), false⟩,
    ⟨some 55, .mov (.tmp 4), some (53, true), false⟩,
    ⟨some 56, .indexStr (.tmp 54) (.tmp 55), some (53, true), false⟩,
    ⟨some 57, .bin .eql (.tmp 56) (.const (.int .u8 43)), some (53, true), false⟩,
    ⟨some 58, .pick (.tmp 53) (.tmp 57) (.const (.bool false)), some (48, false), false⟩,
    ⟨some 59, .pick (.tmp 48) (.const (.bool true)) (.tmp 58), none, false⟩] [0, 4, 5, 59])
  (.cond (.tmp 59)
  (.ops [
      ⟨some 60, .mov (.tmp 4), none, false⟩,
      ⟨some 61, .bin .add (.tmp 60) (.const (.int .i64 1)), none, false⟩,
      ⟨some 4, .mov (.tmp 61), none, false⟩] [0, 4, 5])
  .skip))
  (.seq (.ops [
    ⟨some 6, .mov (.const (.int .i64 0)), none, false⟩,
    ⟨some 7, .mov (.const (.bool false)), none, false⟩] [0, 4, 5, 6, 7])
  (.seq (.ops [
    ⟨some 8, .mov (.const (.int .u64 0)), none, false⟩,
    ⟨some 9, .mov (.const (.int .u64 0)), none, false⟩,
    ⟨some 10, .mov (.const (.int .u64 100000)), none, false⟩] [0, 4, 5, 6, 7, 8, 9, 10])
  (.seq (.block 2
  (.loop [0, 4, 5, 6, 7, 8, 9, 10]
    (.seq (.seq (.ops [
        ⟨some 62, .mov (.tmp 4), none, false⟩,
        ⟨some 63, .mov (.tmp 0), none, false⟩,
        ⟨some 64, .len .str (.tmp 63), none, false⟩,
        ⟨some 65, .bin .lss (.tmp 62) (.tmp 64), none, false⟩] [0, 4, 5, 6, 7, 8, 9, 10, 65])
      (.cond (.tmp 65)
      .skip
      (.exit 2)))
      (.seq (.block 3
      (.seq (.ops [
          ⟨some 68, .mov (.tmp 0), none, false⟩,
          ⟨some 69, .mov (.tmp 4), none, false⟩,
          ⟨some 70, .indexStr (.tmp 68) (.tmp 69), none, false⟩,
          ⟨some 11, .mov (.tmp 70), none, false⟩] [0, 4, 5, 6, 7, 8, 9, 10, 11])
        (.seq (.seq (.ops [
          ⟨some 71, .mov (.tmp 11), none, false⟩,
          ⟨some 72, .bin .eql (.tmp 71) (.const (.int .u8 46)), none, false⟩,
          ⟨some 73, .mov (.tmp 72), none, false⟩,
          ⟨some 74, .mov (.tmp 7), some (73, true), false⟩,
          ⟨some 75, .un .not (.tmp 74), some (73, true), false⟩,
          ⟨some 76, .pick (.tmp 73) (.tmp 75) (.const (.bool false)), none, false⟩] [0, 4, 5, 6, 7, 8, 9, 10, 11, 76])
        (.cond (.tmp 76)
        (.seq (.ops [
            ⟨some 7, .mov (.const (.bool true)), none, false⟩] [0, 4, 5, 6, 7, 8, 9, 10])
          (.exit 3))
        .skip))
        (.seq (.seq (.ops [
          ⟨some 77, .mov (.tmp 11), none, false⟩,
          ⟨some 78, .bin .lss (.tmp 77) (.const (.int .u8 48)), none, false⟩,
          ⟨some 79, .mov (.tmp 78), none, false⟩,
          ⟨some 80, .mov (.tmp 11), some (79, false), false⟩,
          ⟨some 81, .bin .gtr (.tmp 80) (.const (.int .u8 57)), some (79, false), false⟩,
          ⟨some 82, .pick (.tmp 79) (.const (.bool true)) (.tmp 81), none, false⟩] [0, 4, 5, 6, 7, 8, 9, 10, 11, 82])
        (.cond (.tmp 82)
        (.exit 2)
        .skip))
        (.seq (.ops [
          ⟨some 83, .mov (.tmp 6), none, false⟩,
          ⟨some 84, .bin .add (.tmp 83) (.const (.int .i64 1)), none, false⟩,
          ⟨some 6, .mov (.tmp 84), none, false⟩] [0, 4, 5, 6, 7, 8, 9, 10, 11])
        (.seq (.ops [
          ⟨some 85, .mov (.tmp 11), none, false⟩,
          ⟨some 86, .bin .sub (.tmp 85) (.const (.int .u8 48)), none, false⟩,
          ⟨some 87, .convInt .u64 (.tmp 86), none, false⟩,
          ⟨some 12, .mov (.tmp 87), none, false⟩] [0, 4, 5, 6, 7, 8, 9, 10, 12])
        (.seq (.ops [
          ⟨some 88, .mov (.tmp 7), none, false⟩] [0, 4, 5, 6, 7, 8, 9, 10, 12, 88])
        (.cond (.tmp 88)
        (.seq (.ops [
            ⟨some 89, .mov (.tmp 9), none, false⟩,
            ⟨some 90, .mov (.tmp 12), none, false⟩,
            ⟨some 91, .mov (.tmp 10), none, false⟩,
            ⟨some 92, .bin .mul (.tmp 90) (.tmp 91), none, false⟩,
            ⟨some 93, .bin .add (.tmp 89) (.tmp 92), none, false⟩,
            ⟨some 9, .mov (.tmp 93), none, false⟩] [0, 4, 5, 6, 7, 8, 9, 10])
          (.ops [
            ⟨some 94, .mov (.tmp 10), none, false⟩,
            ⟨some 95, .bin .quo (.tmp 94) (.const (.int .u64 10)), none, false⟩,
            ⟨some 10, .mov (.tmp 95), none, false⟩] [0, 4, 5, 6, 7, 8, 9, 10]))
        (.ops [
            ⟨some 96, .mov (.tmp 8), none, false⟩,
            ⟨some 97, .bin .mul (.const (.int .u64 10)) (.tmp 96), none, false⟩,
            ⟨some 98, .mov (.tmp 12), none, false⟩,
            ⟨some 99, .bin .add (.tmp 97) (.tmp 98), none, false⟩,
            ⟨some 100, .min (.tmp 99) (.const (.int .u64 10000000000000)), none, false⟩,
            ⟨some 8, .mov (.tmp 100), none, false⟩] [0, 4, 5, 6, 7, 8, 9, 10])))))))))
      (.ops [
        ⟨some 66, .mov (.tmp 4), none, false⟩,
        ⟨some 67, .bin .add (.tmp 66) (.const (.int .i64 1)), none, false⟩,
        ⟨some 4, .mov (.tmp 67), none, false⟩] [0, 4, 5, 6, 7, 8, 9, 10])))))
  (.seq (.seq (.ops [
    ⟨some 101, .mov (.tmp 6), none, false⟩,
    ⟨some 102, .bin .eql (.tmp 101) (.const (.int .i64 0)), none, false⟩] [4, 5, 8, 9, 102])
  (.cond (.tmp 102)
  (.seq (.ops [
      ⟨some 2, .mov (.const (.int .i64 0)), none, false⟩,
      ⟨some 3, .mov (.const (.int .i64 0)), none, false⟩] [2, 3])
    .ret)
  .skip))
  (.seq (.ops [
    ⟨some 103, .mov (.tmp 5), none, false⟩,
    ⟨some 104, .mov (.tmp 8), none, false⟩,
    ⟨some 105, .bin .mul (.tmp 104) (.const (.int .u64 1000000)), none, false⟩,
    ⟨some 106, .mov (.tmp 9), none, false⟩,
    ⟨some 107, .bin .add (.tmp 105) (.tmp 106), none, false⟩,
    ⟨some 108, .call 122 [(.tmp 103), (.const (.int .u64 0)), (.tmp 107)], none, false⟩,
    ⟨some 109, .mov (.tmp 4), none, false⟩,
    ⟨some 2, .mov (.tmp 108), none, false⟩,
    ⟨some 3, .mov (.tmp 109), none, false⟩] [2, 3])
  .ret))))))))))⟩
/-- (*scribe/code.compiler).number -/
def af97 : AFunc := ⟨2, [],
  (.seq (.seq (.ops [
    ⟨some 6, .mov (.tmp 0), none, false⟩,
    ⟨some 7, .nilCheck (.tmp 6), none, false⟩,
    ⟨some 8, .fieldAddr 0 (.tmp 7), none, false⟩,
    ⟨some 9, .load false 1 (.tmp 8), none, false⟩,
    ⟨some 10, .nilCheck (.tmp 9), none, false⟩,
    ⟨some 11, .fieldAddr 1 (.tmp 10), none, false⟩,
    ⟨some 12, .load false 1 (.tmp 11), none, false⟩,
    ⟨some 13, .len .slice (.tmp 12), none, false⟩,
    ⟨some 14, .mov (.const (.int .i64 0)), none, false⟩] [0, 1, 12, 13, 14])
  (.block 0
  (.loop [0, 1, 12, 13, 14]
    (.seq (.ops [
        ⟨some 15, .bin .lss (.tmp 14) (.tmp 13), none, false⟩] [0, 1, 12, 13, 14, 15])
      (.seq (.cond (.tmp 15)
      .skip
      (.exit 0))
      (.seq (.block 1
      (.seq (.ops [
          ⟨some 16, .mov (.tmp 14), none, false⟩,
          ⟨some 17, .indexAddr 1 (.tmp 12) (.tmp 14), none, false⟩,
          ⟨some 18, .load false 1 (.tmp 17), none, false⟩,
          ⟨some 4, .mov (.tmp 16), none, false⟩,
          ⟨some 5, .mov (.tmp 18), none, false⟩] [0, 1, 4, 5, 12, 13, 14])
        (.seq (.ops [
          ⟨some 19, .mov (.tmp 5), none, false⟩,
          ⟨some 20, .mov (.tmp 1), none, false⟩,
          ⟨some 21, .bin .eql (.tmp 19) (.tmp 20), none, false⟩] [0, 1, 4, 12, 13, 14, 21])
        (.cond (.tmp 21)
        (.seq (.ops [
            ⟨some 22, .mov (.tmp 0), none, false⟩,
            ⟨some 23, .mov (.tmp 4), none, false⟩,
            ⟨some 24, .call 42 [(.tmp 22), (.const (.int .i64 1)), (.tmp 23), (.const (.int .i64 0))], none, false⟩] [])
          .ret)
        .skip))))
      (.ops [
        ⟨some 25, .bin .add (.tmp 14) (.const (.int .i64 1)), none, false⟩,
        ⟨some 14, .mov (.tmp 25), none, false⟩] [0, 1, 12, 13, 14])))))))
  (.seq (.opsD [
    (⟨some 26, .mov (.tmp 0), none, false⟩, []),
    (⟨some 27, .nilCheck (.tmp 26), none, false⟩, []),
    (⟨some 28, .fieldAddr 0 (.tmp 27), none, false⟩, []),
    (⟨some 29, .load false 1 (.tmp 28), none, false⟩, []),
    (⟨some 30, .mov (.tmp 0), none, false⟩, []),
    (⟨some 31, .nilCheck (.tmp 30), none, false⟩, []),
    (⟨some 32, .fieldAddr 0 (.tmp 31), none, false⟩, []),
    (⟨some 33, .load false 1 (.tmp 32), none, false⟩, []),
    (⟨some 34, .nilCheck (.tmp 33), none, false⟩, []),
    (⟨some 35, .fieldAddr 1 (.tmp 34), none, false⟩, []),
    (⟨some 36, .load false 1 (.tmp 35), none, false⟩, []),
    (⟨some 37, .mov (.tmp 1), none, false⟩, []),
    (⟨some 38, .buildSlice true 62 1 1 [.int .i64 0] [(0, (.tmp 37))], none, false⟩, []),
    (⟨some 39, .append false 62 1 8 (.tmp 36) (.tmp 38), none, false⟩, [(29, .load false 1 (.tmp 28))]),
    (⟨some 40, .nilCheck (.tmp 29), none, false⟩, []),
    (⟨some 41, .fieldAddr 1 (.tmp 40), none, false⟩, []),
    (⟨none, .store 1 (.tmp 41) (.tmp 39), none, false⟩, [])] [0])
  (.ops [
    ⟨some 42, .mov (.tmp 0), none, false⟩,
    ⟨some 43, .mov (.tmp 0), none, false⟩,
    ⟨some 44, .nilCheck (.tmp 43), none, false⟩,
    ⟨some 45, .fieldAddr 0 (.tmp 44), none, false⟩,
    ⟨some 46, .load false 1 (.tmp 45), none, false⟩,
    ⟨some 47, .nilCheck (.tmp 46), none, false⟩,
    ⟨some 48, .fieldAddr 1 (.tmp 47), none, false⟩,
    ⟨some 49, .load false 1 (.tmp 48), none, false⟩,
    ⟨some 50, .len .slice (.tmp 49), none, false⟩,
    ⟨some 51, .bin .sub (.tmp 50) (.const (.int .i64 1)), none, false⟩,
    ⟨some 52, .call 42 [(.tmp 42), (.const (.int .i64 1)), (.tmp 51), (.const (.int .i64 0))], none, false⟩] [])))⟩
/-- (*scribe/code.compiler).store -/
def af98 : AFunc := ⟨4, [],
  (.seq (.ops [
    ⟨some 5, .boxL 0 4 (.tmp 1), none, false⟩] [0, 2, 3, 5])
  (.seq (.ops [
    ⟨some 12, .fieldL 0 (.tmp 5), none, false⟩,
    ⟨some 13, .loadL false 1 (.tmp 12), none, false⟩] [0, 2, 3, 5, 13])
  (.block 0
  (.seq (.ops [
      ⟨some 37, .bin .eql (.tmp 13) (.const (.string ⟨#[118, 97, 114]⟩)), none, false⟩,
      ⟨some 36, .mov (.tmp 37), none, false⟩] [0, 2, 3, 5, 13, 36])
    (.cond (.tmp 36)
    (.seq (.ops [
        ⟨some 38, .mov (.tmp 3), none, false⟩,
        ⟨some 39, .callv (.tmp 38) [], none, false⟩] [0, 2, 5])
      (.seq (.ops [
        ⟨some 41, .mov (.tmp 0), none, false⟩,
        ⟨some 42, .fieldL 1 (.tmp 5), none, false⟩,
        ⟨some 43, .loadL false 1 (.tmp 42), none, false⟩,
        ⟨some 44, .call 68 [(.tmp 41), (.tmp 43)], none, false⟩,
        ⟨some 40, .mov (.tmp 44), none, false⟩,
        ⟨some 45, .extract (.tmp 40) 0, none, false⟩,
        ⟨some 46, .extract (.tmp 40) 1, none, false⟩,
        ⟨some 8, .mov (.tmp 45), none, false⟩,
        ⟨some 9, .mov (.tmp 46), none, false⟩] [0, 2, 8, 9])
      (.ops [
        ⟨some 47, .mov (.tmp 0), none, false⟩,
        ⟨some 48, .mov (.tmp 8), none, false⟩,
        ⟨some 49, .mov (.tmp 9), none, false⟩,
        ⟨some 50, .mov (.tmp 2), none, false⟩,
        ⟨some 51, .bin .mul (.const (.int .i64 2)) (.tmp 50), none, false⟩,
        ⟨some 52, .bin .add (.tmp 49) (.tmp 51), none, false⟩,
        ⟨some 53, .call 42 [(.tmp 47), (.const (.int .i64 6)), (.tmp 48), (.tmp 52)], none, false⟩] [])))
    (.seq (.ops [
        ⟨some 55, .bin .eql (.tmp 13) (.const (.string ⟨#[102, 105, 101, 108, 100]⟩)), none, false⟩,
        ⟨some 54, .mov (.tmp 55), none, false⟩] [0, 2, 3, 5, 54])
      (.cond (.tmp 54)
      (.seq (.ops [
          ⟨some 56, .mov (.tmp 0), none, false⟩,
          ⟨some 57, .fieldL 3 (.tmp 5), none, false⟩,
          ⟨some 58, .loadL false 1 (.tmp 57), none, false⟩,
          ⟨some 59, .indexAddr 4 (.tmp 58) (.const (.int .i64 0)), none, false⟩,
          ⟨some 60, .load true 4 (.tmp 59), none, false⟩,
          ⟨some 61, .call 63 [(.tmp 56), (.tmp 60)], none, false⟩] [0, 2, 3])
        (.seq (.ops [
          ⟨some 62, .mov (.tmp 3), none, false⟩,
          ⟨some 63, .callv (.tmp 62) [], none, false⟩] [0, 2])
        (.ops [
          ⟨some 64, .mov (.tmp 0), none, false⟩,
          ⟨some 65, .mov (.tmp 2), none, false⟩,
          ⟨some 66, .call 42 [(.tmp 64), (.const (.int .i64 7)), (.const (.int .i64 0)), (.tmp 65)], none, false⟩] [])))
      (.seq (.ops [
          ⟨some 14, .mov (.tmp 0), none, false⟩,
          ⟨some 15, .fieldL 3 (.tmp 5), none, false⟩,
          ⟨some 16, .loadL false 1 (.tmp 15), none, false⟩,
          ⟨some 17, .indexAddr 4 (.tmp 16) (.const (.int .i64 0)), none, false⟩,
          ⟨some 18, .load true 4 (.tmp 17), none, false⟩,
          ⟨some 19, .call 63 [(.tmp 14), (.tmp 18)], none, false⟩] [0, 2, 3, 5])
        (.seq (.ops [
          ⟨some 20, .mov (.tmp 3), none, false⟩,
          ⟨some 21, .callv (.tmp 20) [], none, false⟩] [0, 2, 5])
        (.seq (.ops [
          ⟨some 23, .mov (.tmp 0), none, false⟩,
          ⟨some 24, .fieldL 1 (.tmp 5), none, false⟩,
          ⟨some 25, .loadL false 1 (.tmp 24), none, false⟩,
          ⟨some 26, .call 68 [(.tmp 23), (.tmp 25)], none, false⟩,
          ⟨some 22, .mov (.tmp 26), none, false⟩,
          ⟨some 27, .extract (.tmp 22) 0, none, false⟩,
          ⟨some 28, .extract (.tmp 22) 1, none, false⟩,
          ⟨some 10, .mov (.tmp 27), none, false⟩,
          ⟨some 11, .mov (.tmp 28), none, false⟩] [0, 2, 10, 11])
        (.ops [
          ⟨some 29, .mov (.tmp 0), none, false⟩,
          ⟨some 30, .mov (.tmp 10), none, false⟩,
          ⟨some 31, .mov (.tmp 11), none, false⟩,
          ⟨some 32, .mov (.tmp 2), none, false⟩,
          ⟨some 33, .bin .mul (.const (.int .i64 2)) (.tmp 32), none, false⟩,
          ⟨some 34, .bin .add (.tmp 31) (.tmp 33), none, false⟩,
          ⟨some 35, .call 42 [(.tmp 29), (.const (.int .i64 8)), (.tmp 30), (.tmp 34)], none, false⟩] [])))))))))))⟩
/-- (*scribe/code.compiler).expr$1 -/
def af99 : AFunc := ⟨2, [],
  (.opsD [
    (⟨some 2, .load false 1 (.tmp 0), none, false⟩, []),
    (⟨some 3, .fieldAddr 3 (.tmp 1), none, false⟩, []),
    (⟨some 4, .load false 1 (.tmp 3), none, false⟩, []),
    (⟨some 5, .indexAddr 4 (.tmp 4) (.const (.int .i64 1)), none, false⟩, []),
    (⟨some 6, .load true 4 (.tmp 5), none, false⟩, []),
    (⟨some 7, .call 63 [(.tmp 2), (.tmp 6)], none, false⟩, [])] [])⟩
/-- (*scribe/code.compiler).expr$2 -/
def af100 : AFunc := ⟨0, [],
  .skip⟩
/-- (*scribe/code.compiler).either -/
def af101 : AFunc := ⟨3, [],
  (.seq (.ops [
    ⟨some 4, .boxL 0 4 (.tmp 1), none, false⟩] [0, 2, 4])
  (.seq (.ops [
    ⟨some 7, .mov (.tmp 0), none, false⟩,
    ⟨some 8, .fieldL 3 (.tmp 4), none, false⟩,
    ⟨some 9, .loadL false 1 (.tmp 8), none, false⟩,
    ⟨some 10, .indexAddr 4 (.tmp 9) (.const (.int .i64 0)), none, false⟩,
    ⟨some 11, .load true 4 (.tmp 10), none, false⟩,
    ⟨some 12, .call 63 [(.tmp 7), (.tmp 11)], none, false⟩] [0, 2, 4])
  (.seq (.ops [
    ⟨some 13, .mov (.tmp 0), none, false⟩,
    ⟨some 14, .call 42 [(.tmp 13), (.const (.int .i64 19)), (.const (.int .i64 0)), (.const (.int .i64 0))], none, false⟩] [0, 2, 4])
  (.seq (.ops [
    ⟨some 15, .mov (.tmp 0), none, false⟩,
    ⟨some 16, .call 42 [(.tmp 15), (.const (.int .i64 20)), (.const (.int .i64 0)), (.const (.int .i64 0))], none, false⟩] [0, 2, 4])
  (.seq (.ops [
    ⟨some 17, .mov (.tmp 0), none, false⟩,
    ⟨some 18, .mov (.tmp 2), none, false⟩,
    ⟨some 19, .call 42 [(.tmp 17), (.tmp 18), (.const (.int .i64 0)), (.const (.int .i64 0))], none, false⟩,
    ⟨some 6, .mov (.tmp 19), none, false⟩] [0, 4, 6])
  (.seq (.ops [
    ⟨some 20, .mov (.tmp 0), none, false⟩,
    ⟨some 21, .call 42 [(.tmp 20), (.const (.int .i64 18)), (.const (.int .i64 0)), (.const (.int .i64 0))], none, false⟩] [0, 4, 6])
  (.seq (.ops [
    ⟨some 22, .mov (.tmp 0), none, false⟩,
    ⟨some 23, .fieldL 3 (.tmp 4), none, false⟩,
    ⟨some 24, .loadL false 1 (.tmp 23), none, false⟩,
    ⟨some 25, .indexAddr 4 (.tmp 24) (.const (.int .i64 1)), none, false⟩,
    ⟨some 26, .load true 4 (.tmp 25), none, false⟩,
    ⟨some 27, .call 63 [(.tmp 22), (.tmp 26)], none, false⟩] [0, 6])
  (.seq (.ops [
    ⟨some 28, .mov (.tmp 0), none, false⟩,
    ⟨some 29, .call 42 [(.tmp 28), (.const (.int .i64 19)), (.const (.int .i64 0)), (.const (.int .i64 0))], none, false⟩] [0, 6])
  (.ops [
    ⟨some 30, .mov (.tmp 0), none, false⟩,
    ⟨some 31, .mov (.tmp 6), none, false⟩,
    ⟨some 32, .buildSlice true 3 1 1 [.int .i64 0] [(0, (.tmp 31))], none, false⟩,
    ⟨some 33, .call 64 [(.tmp 30), (.tmp 32)], none, false⟩] [])))))))))⟩
/-- (*scribe/code.compiler).pattern -/
def af102 : AFunc := ⟨2, [],
  (.seq (.ops [
    ⟨some 3, .boxL 0 4 (.tmp 1), none, false⟩] [0, 3])
  (.seq (.ops [
    ⟨some 4, .fieldL 0 (.tmp 3), none, false⟩,
    ⟨some 5, .loadL false 1 (.tmp 4), none, false⟩,
    ⟨some 6, .bin .eql (.tmp 5) (.const (.string ⟨#[114, 101]⟩)), none, false⟩] [0, 3, 6])
  (.cond (.tmp 6)
  (.ops [
      ⟨some 7, .mov (.tmp 0), none, false⟩,
      ⟨some 8, .fieldL 1 (.tmp 3), none, false⟩,
      ⟨some 9, .loadL false 1 (.tmp 8), none, false⟩,
      ⟨some 10, .call 41 [(.tmp 7), (.tmp 9)], none, false⟩] [])
  (.ops [
      ⟨some 11, .mov (.tmp 0), none, false⟩,
      ⟨some 12, .loadL true 4 (.tmp 3), none, false⟩,
      ⟨some 13, .call 63 [(.tmp 11), (.tmp 12)], none, false⟩] []))))⟩
end Go.Proofs.YtjbkcboklccmeaaGreatDoor.Abs.R1
