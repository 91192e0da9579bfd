/-
  Functions of the program as abstract code: printed by a program of mine.
-/
import Derived.Test.YtjbkcboklccmeaaGreatDoorGa
set_option linter.unusedVariables false
set_option linter.unusedSimpArgs false
set_option maxRecDepth 100000
namespace Go.Proofs.YtjbkcboklccmeaaGreatDoor.Abs.R2
/-- (*scribe/parse.parser).in -/
def af137 : AFunc := ⟨1, [.cellL true 4 2],
  (.seq (.ops [
    ⟨some 2, .allocL 0 [.str [], .str [], .int .i64 0, .nilSlice], none, false⟩] [0, 2])
  (.seq (.ops [
    ⟨some 4, .mov (.tmp 0), none, false⟩,
    ⟨some 5, .call 146 [(.tmp 4)], none, false⟩,
    ⟨some 3, .allocL 0 [.str [], .str [], .int .i64 0, .nilSlice], none, false⟩,
    ⟨none, .storeL 4 (.tmp 3) (.tmp 5), none, false⟩] [0, 2, 3])
  (.seq (.block 0
  (.loop [0, 2, 3]
    (.seq (.seq (.ops [
        ⟨some 6, .mov (.tmp 0), none, false⟩,
        ⟨some 7, .call 49 [(.tmp 6), (.const (.string ⟨#[105, 110]⟩))], none, false⟩] [0, 2, 3, 7])
      (.cond (.tmp 7)
      .skip
      (.exit 0)))
      (.block 1
      (.opsD [
          (⟨some 8, .mov (.tmp 0), none, false⟩, []),
          (⟨some 9, .buildSlice true 3 1 1 [.int .i64 0] [(0, (.const (.int .i64 5)))], none, false⟩, []),
          (⟨some 10, .call 52 [(.tmp 8), (.tmp 9)], none, false⟩, []),
          (⟨some 11, .loadL true 4 (.tmp 3), none, false⟩, []),
          (⟨some 12, .buildSlice true 25 4 1 [.str [], .str [], .int .i64 0, .nilSlice] [(0, (.tmp 11))], none, false⟩, []),
          (⟨some 13, .call 51 [(.const (.string ⟨#[105, 110]⟩)), (.tmp 10), (.tmp 12)], none, false⟩, []),
          (⟨none, .storeL 4 (.tmp 3) (.tmp 13), none, false⟩, [])] [0, 2, 3])))))
  (.seq (.ops [
    ⟨some 14, .loadL true 4 (.tmp 3), none, false⟩,
    ⟨none, .storeL 4 (.tmp 2) (.tmp 14), none, false⟩] [2])
  .ret))))⟩
/-- (*scribe/parse.parser).listed -/
def af143 : AFunc := ⟨1, [.tmp 2],
  (.seq (.ops [
    ⟨some 2, .mov (.const (.bool false)), none, false⟩] [0])
  (.seq (.seq (.ops [
    ⟨some 7, .mov (.tmp 0), none, false⟩,
    ⟨some 8, .buildSlice true 9 1 1 [.str []] [(0, (.const (.string ⟨#[40]⟩)))], none, false⟩,
    ⟨some 9, .call 29 [(.tmp 7), (.tmp 8)], none, false⟩,
    ⟨some 10, .un .not (.tmp 9), none, false⟩] [0, 10])
  (.cond (.tmp 10)
  (.seq (.ops [
      ⟨some 2, .mov (.const (.bool false)), none, false⟩] [2])
    .ret)
  .skip))
  (.seq (.ops [
    ⟨some 3, .mov (.const (.int .i64 0)), none, false⟩] [0, 3])
  (.seq (.seq (.ops [
    ⟨some 11, .mov (.tmp 0), none, false⟩,
    ⟨some 12, .nilCheck (.tmp 11), none, false⟩,
    ⟨some 13, .fieldAddr 1 (.tmp 12), none, false⟩,
    ⟨some 14, .load false 1 (.tmp 13), none, false⟩,
    ⟨some 4, .mov (.tmp 14), none, false⟩] [0, 3, 4])
  (.block 0
  (.loop [0, 3, 4]
    (.seq (.seq (.ops [
        ⟨some 15, .mov (.tmp 4), none, false⟩,
        ⟨some 16, .mov (.tmp 0), none, false⟩,
        ⟨some 17, .nilCheck (.tmp 16), none, false⟩,
        ⟨some 18, .fieldAddr 0 (.tmp 17), none, false⟩,
        ⟨some 19, .load false 1 (.tmp 18), none, false⟩,
        ⟨some 20, .len .slice (.tmp 19), none, false⟩,
        ⟨some 21, .bin .lss (.tmp 15) (.tmp 20), none, false⟩] [0, 3, 4, 21])
      (.cond (.tmp 21)
      .skip
      (.exit 0)))
      (.seq (.block 1
      (.seq (.ops [
          ⟨some 24, .mov (.tmp 0), none, false⟩,
          ⟨some 25, .nilCheck (.tmp 24), none, false⟩,
          ⟨some 26, .fieldAddr 0 (.tmp 25), none, false⟩,
          ⟨some 27, .load false 1 (.tmp 26), none, false⟩,
          ⟨some 28, .mov (.tmp 4), none, false⟩,
          ⟨some 29, .indexAddr 3 (.tmp 27) (.tmp 28), none, false⟩,
          ⟨some 30, .load true 3 (.tmp 29), none, false⟩,
          ⟨some 5, .allocL 0 [.int .i64 0, .str [], .int .i64 0], none, false⟩,
          ⟨none, .storeL 3 (.tmp 5) (.tmp 30), none, false⟩] [0, 3, 4, 5])
        (.seq (.block 2
        (.seq (.ops [
            ⟨some 32, .fieldL 0 (.tmp 5), none, false⟩,
            ⟨some 33, .loadL false 1 (.tmp 32), none, false⟩,
            ⟨some 34, .bin .eql (.tmp 33) (.const (.int .i64 8)), none, false⟩,
            ⟨some 35, .mov (.tmp 34), none, false⟩,
            ⟨some 36, .fieldL 1 (.tmp 5), some (35, true), false⟩,
            ⟨some 37, .loadL false 1 (.tmp 36), some (35, true), false⟩,
            ⟨some 38, .bin .eql (.tmp 37) (.const (.string ⟨#[40]⟩)), some (35, true), false⟩,
            ⟨some 39, .pick (.tmp 35) (.tmp 38) (.const (.bool false)), none, false⟩,
            ⟨some 31, .mov (.tmp 39), none, false⟩] [0, 3, 4, 5, 31])
          (.cond (.tmp 31)
          (.ops [
              ⟨some 40, .mov (.tmp 3), none, false⟩,
              ⟨some 41, .bin .add (.tmp 40) (.const (.int .i64 1)), none, false⟩,
              ⟨some 3, .mov (.tmp 41), none, false⟩] [0, 3, 4])
          (.seq (.ops [
              ⟨some 43, .fieldL 0 (.tmp 5), none, false⟩,
              ⟨some 44, .loadL false 1 (.tmp 43), none, false⟩,
              ⟨some 45, .bin .eql (.tmp 44) (.const (.int .i64 8)), none, false⟩,
              ⟨some 46, .mov (.tmp 45), none, false⟩,
              ⟨some 47, .fieldL 1 (.tmp 5), some (46, true), false⟩,
              ⟨some 48, .loadL false 1 (.tmp 47), some (46, true), false⟩,
              ⟨some 49, .bin .eql (.tmp 48) (.const (.string ⟨#[41]⟩)), some (46, true), false⟩,
              ⟨some 50, .pick (.tmp 46) (.tmp 49) (.const (.bool false)), none, false⟩,
              ⟨some 42, .mov (.tmp 50), none, false⟩] [0, 3, 4, 42])
            (.cond (.tmp 42)
            (.ops [
                ⟨some 51, .mov (.tmp 3), none, false⟩,
                ⟨some 52, .bin .sub (.tmp 51) (.const (.int .i64 1)), none, false⟩,
                ⟨some 3, .mov (.tmp 52), none, false⟩] [0, 3, 4])
            .skip)))))
        (.seq (.ops [
          ⟨some 53, .mov (.tmp 3), none, false⟩,
          ⟨some 54, .bin .eql (.tmp 53) (.const (.int .i64 0)), none, false⟩] [0, 3, 4, 54])
        (.cond (.tmp 54)
        (.seq (.opsD [
            (⟨some 55, .mov (.tmp 0), none, false⟩, []),
            (⟨some 56, .nilCheck (.tmp 55), none, false⟩, []),
            (⟨some 57, .fieldAddr 0 (.tmp 56), none, false⟩, []),
            (⟨some 58, .load false 1 (.tmp 57), none, false⟩, []),
            (⟨some 59, .mov (.tmp 4), none, false⟩, []),
            (⟨some 60, .bin .add (.tmp 59) (.const (.int .i64 1)), none, false⟩, []),
            (⟨some 61, .mov (.tmp 0), none, false⟩, []),
            (⟨some 62, .nilCheck (.tmp 61), none, false⟩, []),
            (⟨some 63, .fieldAddr 0 (.tmp 62), none, false⟩, []),
            (⟨some 64, .load false 1 (.tmp 63), none, false⟩, []),
            (⟨some 65, .len .slice (.tmp 64), none, false⟩, []),
            (⟨some 66, .bin .sub (.tmp 65) (.const (.int .i64 1)), none, false⟩, []),
            (⟨some 67, .min (.tmp 60) (.tmp 66), none, false⟩, []),
            (⟨some 68, .indexAddr 3 (.tmp 58) (.tmp 67), none, false⟩, []),
            (⟨some 69, .load true 3 (.tmp 68), none, false⟩, []),
            (⟨some 6, .allocL 0 [.int .i64 0, .str [], .int .i64 0], none, false⟩, []),
            (⟨none, .storeL 3 (.tmp 6) (.tmp 69), none, false⟩, [])] [6])
          (.seq (.ops [
            ⟨some 70, .fieldL 0 (.tmp 6), none, false⟩,
            ⟨some 71, .loadL false 1 (.tmp 70), none, false⟩,
            ⟨some 72, .bin .eql (.tmp 71) (.const (.int .i64 0)), none, false⟩,
            ⟨some 73, .mov (.tmp 72), none, false⟩,
            ⟨some 74, .fieldL 0 (.tmp 6), some (73, false), false⟩,
            ⟨some 75, .loadL false 1 (.tmp 74), some (73, false), false⟩,
            ⟨some 76, .bin .eql (.tmp 75) (.const (.int .i64 1)), some (73, false), false⟩,
            ⟨some 77, .pick (.tmp 73) (.const (.bool true)) (.tmp 76), none, false⟩,
            ⟨some 78, .mov (.tmp 77), none, false⟩,
            ⟨some 79, .fieldL 0 (.tmp 6), some (78, false), false⟩,
            ⟨some 80, .loadL false 1 (.tmp 79), some (78, false), false⟩,
            ⟨some 81, .bin .eql (.tmp 80) (.const (.int .i64 8)), some (78, false), false⟩,
            ⟨some 82, .mov (.tmp 81), some (78, false), false⟩,
            ⟨some 83, .fieldL 1 (.tmp 6), some (82, true), false⟩,
            ⟨some 84, .loadL false 1 (.tmp 83), some (82, true), false⟩,
            ⟨some 85, .bin .add (.const (.string ⟨#[32]⟩)) (.tmp 84), some (82, true), false⟩,
            ⟨some 86, .bin .add (.tmp 85) (.const (.string ⟨#[32]⟩)), some (82, true), false⟩,
            ⟨some 87, .ext 111 [(.const (.string ⟨#[32, 59, 32, 125, 32, 62, 32, 62, 62, 32]⟩)), (.tmp 86)], some (82, true), false⟩,
            ⟨some 88, .pick (.tmp 82) (.tmp 87) (.const (.bool false)), some (78, false), false⟩,
            ⟨some 89, .pick (.tmp 78) (.const (.bool true)) (.tmp 88), none, false⟩,
            ⟨some 2, .mov (.tmp 89), none, false⟩] [2])
          .ret))
        .skip)))))
      (.ops [
        ⟨some 22, .mov (.tmp 4), none, false⟩,
        ⟨some 23, .bin .add (.tmp 22) (.const (.int .i64 1)), none, false⟩,
        ⟨some 4, .mov (.tmp 23), none, false⟩] [0, 3, 4]))))))
  (.seq (.ops [
    ⟨some 2, .mov (.const (.bool false)), none, false⟩] [2])
  .ret)))))⟩
/-- (*scribe/parse.parser).list -/
def af144 : AFunc := ⟨2, [.tmp 4],
  (.seq (.ops [
    ⟨some 4, .mov (.const (.slice none 0 0)), none, false⟩] [0, 1])
  (.seq (.ops [
    ⟨some 5, .mov (.const (.slice none 0 0)), none, false⟩] [0, 1, 5])
  (.seq (.ops [
    ⟨some 7, .mov (.tmp 0), none, false⟩,
    ⟨some 8, .nilCheck (.tmp 7), none, false⟩,
    ⟨some 9, .fieldAddr 3 (.tmp 8), none, false⟩,
    ⟨some 10, .load false 1 (.tmp 9), none, false⟩,
    ⟨some 6, .mov (.tmp 10), none, false⟩] [0, 1, 5, 6])
  (.seq (.ops [
    ⟨some 11, .mov (.tmp 0), none, false⟩,
    ⟨some 12, .nilCheck (.tmp 11), none, false⟩,
    ⟨some 13, .fieldAddr 3 (.tmp 12), none, false⟩,
    ⟨none, .store 1 (.tmp 13) (.const (.bool false)), none, false⟩] [0, 1, 5, 6])
  (.seq (.ops [
    ⟨some 14, .mov (.tmp 0), none, false⟩,
    ⟨some 15, .call 54 [(.tmp 14)], none, false⟩] [0, 1, 5, 6])
  (.seq (.block 0
  (.loop [0, 1, 5, 6]
    (.seq (.seq (.ops [
        ⟨some 16, .mov (.tmp 0), none, false⟩,
        ⟨some 17, .nilCheck (.tmp 16), none, false⟩,
        ⟨some 18, .fieldAddr 4 (.tmp 17), none, false⟩,
        ⟨some 19, .load false 1 (.tmp 18), none, false⟩,
        ⟨some 20, .bin .eql (.tmp 19) (.const (.int .i64 0)), none, false⟩,
        ⟨some 21, .mov (.tmp 20), none, false⟩,
        ⟨some 22, .mov (.tmp 0), some (21, true), false⟩,
        ⟨some 23, .mov (.tmp 1), some (21, true), false⟩,
        ⟨some 24, .buildSlice true 9 1 1 [.str []] [(0, (.tmp 23))], some (21, true), false⟩,
        ⟨some 25, .call 29 [(.tmp 22), (.tmp 24)], some (21, true), false⟩,
        ⟨some 26, .un .not (.tmp 25), some (21, true), false⟩,
        ⟨some 27, .pick (.tmp 21) (.tmp 26) (.const (.bool false)), none, false⟩] [0, 1, 5, 6, 27])
      (.cond (.tmp 27)
      .skip
      (.exit 0)))
      (.block 1
      (.seq (.seq (.ops [
          ⟨some 28, .mov (.tmp 5), none, false⟩,
          ⟨some 29, .len .slice (.tmp 28), none, false⟩,
          ⟨some 30, .bin .gtr (.tmp 29) (.const (.int .i64 0)), none, false⟩] [0, 1, 5, 6, 30])
        (.cond (.tmp 30)
        (.seq (.ops [
            ⟨some 31, .mov (.tmp 0), none, false⟩,
            ⟨some 32, .call 53 [(.tmp 31), (.const (.string ⟨#[44]⟩))], none, false⟩] [0, 1, 5, 6])
          (.ops [
            ⟨some 33, .mov (.tmp 0), none, false⟩,
            ⟨some 34, .call 54 [(.tmp 33)], none, false⟩] [0, 1, 5, 6]))
        .skip))
        (.seq (.ops [
          ⟨some 35, .mov (.tmp 5), none, false⟩,
          ⟨some 36, .mov (.tmp 0), none, false⟩,
          ⟨some 37, .call 55 [(.tmp 36)], none, false⟩,
          ⟨some 38, .buildSlice true 25 4 1 [.str [], .str [], .int .i64 0, .nilSlice] [(0, (.tmp 37))], none, false⟩,
          ⟨some 39, .append false 25 4 64 (.tmp 35) (.tmp 38), none, false⟩,
          ⟨some 5, .mov (.tmp 39), none, false⟩] [0, 1, 5, 6])
        (.ops [
          ⟨some 40, .mov (.tmp 0), none, false⟩,
          ⟨some 41, .call 54 [(.tmp 40)], none, false⟩] [0, 1, 5, 6])))))))
  (.seq (.ops [
    ⟨some 42, .mov (.tmp 0), none, false⟩,
    ⟨some 43, .mov (.tmp 1), none, false⟩,
    ⟨some 44, .call 53 [(.tmp 42), (.tmp 43)], none, false⟩] [0, 5, 6])
  (.seq (.ops [
    ⟨some 45, .mov (.tmp 0), none, false⟩,
    ⟨some 46, .mov (.tmp 6), none, false⟩,
    ⟨some 47, .nilCheck (.tmp 45), none, false⟩,
    ⟨some 48, .fieldAddr 3 (.tmp 47), none, false⟩,
    ⟨none, .store 1 (.tmp 48) (.tmp 46), none, false⟩] [5])
  (.seq (.ops [
    ⟨some 49, .mov (.tmp 5), none, false⟩,
    ⟨some 4, .mov (.tmp 49), none, false⟩] [4])
  .ret)))))))))⟩
/-- (*scribe/parse.parser).cat -/
def af145 : AFunc := ⟨1, [.cellL true 4 2],
  (.seq (.ops [
    ⟨some 2, .allocL 0 [.str [], .str [], .int .i64 0, .nilSlice], none, false⟩] [0, 2])
  (.seq (.ops [
    ⟨some 5, .mov (.tmp 0), none, false⟩,
    ⟨some 6, .call 150 [(.tmp 5)], none, false⟩,
    ⟨some 3, .allocL 0 [.str [], .str [], .int .i64 0, .nilSlice], none, false⟩,
    ⟨none, .storeL 4 (.tmp 3) (.tmp 6), none, false⟩] [0, 2, 3])
  (.block 0
  (.loop [0, 2, 3]
    (.block 1
      (.seq (.ops [
          ⟨some 7, .mov (.tmp 0), none, false⟩,
          ⟨some 8, .call 30 [(.tmp 7)], none, false⟩,
          ⟨some 4, .allocL 0 [.int .i64 0, .str [], .int .i64 0], none, false⟩,
          ⟨none, .storeL 3 (.tmp 4) (.tmp 8), none, false⟩] [0, 2, 3, 4])
        (.seq (.seq (.ops [
          ⟨some 9, .buildSlice true 3 1 5 [.int .i64 0] [(0, (.const (.int .i64 2))), (1, (.const (.int .i64 3))), (2, (.const (.int .i64 5))), (3, (.const (.int .i64 6))), (4, (.const (.int .i64 9)))], none, false⟩,
          ⟨some 10, .fieldL 0 (.tmp 4), none, false⟩,
          ⟨some 11, .loadL false 1 (.tmp 10), none, false⟩,
          ⟨some 12, .call 89 [(.tmp 9), (.tmp 11)], none, false⟩,
          ⟨some 13, .un .not (.tmp 12), none, false⟩,
          ⟨some 14, .mov (.tmp 13), none, false⟩,
          ⟨some 15, .mov (.tmp 0), some (14, true), false⟩,
          ⟨some 16, .buildSlice true 9 1 2 [.str []] [(0, (.const (.string ⟨#[36]⟩))), (1, (.const (.string ⟨#[40]⟩)))], some (14, true), false⟩,
          ⟨some 17, .call 29 [(.tmp 15), (.tmp 16)], some (14, true), false⟩,
          ⟨some 18, .un .not (.tmp 17), some (14, true), false⟩,
          ⟨some 19, .pick (.tmp 14) (.tmp 18) (.const (.bool false)), none, false⟩] [0, 2, 3, 19])
        (.cond (.tmp 19)
        (.seq (.ops [
            ⟨some 20, .loadL true 4 (.tmp 3), none, false⟩,
            ⟨none, .storeL 4 (.tmp 2) (.tmp 20), none, false⟩] [2])
          .ret)
        .skip))
        (.opsD [
          (⟨some 21, .loadL true 4 (.tmp 3), none, false⟩, []),
          (⟨some 22, .mov (.tmp 0), none, false⟩, []),
          (⟨some 23, .call 150 [(.tmp 22)], none, false⟩, []),
          (⟨some 24, .buildSlice true 25 4 2 [.str [], .str [], .int .i64 0, .nilSlice] [(0, (.tmp 21)), (1, (.tmp 23))], none, false⟩, []),
          (⟨some 25, .call 28 [(.const (.string ⟨#[99, 97, 116]⟩)), (.tmp 24)], none, false⟩, []),
          (⟨none, .storeL 4 (.tmp 3) (.tmp 25), none, false⟩, [])] [0, 2, 3]))))))))⟩
/-- (*scribe/parse.parser).match -/
def af146 : AFunc := ⟨1, [.cellL true 4 2],
  (.seq (.ops [
    ⟨some 2, .allocL 0 [.str [], .str [], .int .i64 0, .nilSlice], none, false⟩] [0, 2])
  (.seq (.ops [
    ⟨some 3, .mov (.tmp 0), none, false⟩,
    ⟨some 4, .mov (.tmp 0), none, false⟩,
    ⟨some 5, .clos 151 [(.tmp 4)] [], none, false⟩,
    ⟨some 6, .makeMap, none, false⟩,
    ⟨none, .mapUpdate (.cell .str) (.tmp 6) (.const (.string ⟨#[126]⟩)) (.const (.string ⟨#[109, 97, 116, 99, 104]⟩)), none, false⟩,
    ⟨none, .mapUpdate (.cell .str) (.tmp 6) (.const (.string ⟨#[33, 126]⟩)) (.const (.string ⟨#[110, 111, 109, 97, 116, 99, 104]⟩)), none, false⟩,
    ⟨some 7, .mov (.tmp 6), none, false⟩,
    ⟨some 8, .call 120 [(.tmp 3), (.tmp 5), (.const (.bool false)), (.tmp 7)], none, false⟩,
    ⟨none, .storeL 4 (.tmp 2) (.tmp 8), none, false⟩] [2])
  .ret))⟩
/-- (*scribe/parse.parser).add -/
def af150 : AFunc := ⟨1, [.cellL true 4 2],
  (.seq (.ops [
    ⟨some 2, .allocL 0 [.str [], .str [], .int .i64 0, .nilSlice], none, false⟩] [0, 2])
  (.seq (.ops [
    ⟨some 3, .mov (.tmp 0), none, false⟩,
    ⟨some 4, .mov (.tmp 0), none, false⟩,
    ⟨some 5, .clos 153 [(.tmp 4)] [], none, false⟩,
    ⟨some 6, .makeMap, none, false⟩,
    ⟨none, .mapUpdate (.cell .str) (.tmp 6) (.const (.string ⟨#[43]⟩)) (.const (.string ⟨#[97, 100, 100]⟩)), none, false⟩,
    ⟨none, .mapUpdate (.cell .str) (.tmp 6) (.const (.string ⟨#[45]⟩)) (.const (.string ⟨#[115, 117, 98]⟩)), none, false⟩,
    ⟨some 7, .mov (.tmp 6), none, false⟩,
    ⟨some 8, .call 120 [(.tmp 3), (.tmp 5), (.const (.bool false)), (.tmp 7)], none, false⟩,
    ⟨none, .storeL 4 (.tmp 2) (.tmp 8), none, false⟩] [2])
  .ret))⟩
/-- (*scribe/parse.parser).rel -/
def af151 : AFunc := ⟨1, [.cellL true 4 2],
  (.seq (.ops [
    ⟨some 2, .allocL 0 [.str [], .str [], .int .i64 0, .nilSlice], none, false⟩] [0, 2])
  (.seq (.ops [
    ⟨some 6, .mov (.tmp 0), none, false⟩,
    ⟨some 7, .call 145 [(.tmp 6)], none, false⟩,
    ⟨some 3, .allocL 0 [.str [], .str [], .int .i64 0, .nilSlice], none, false⟩,
    ⟨none, .storeL 4 (.tmp 3) (.tmp 7), none, false⟩] [0, 2, 3])
  (.seq (.ops [
    ⟨some 8, .mov (.tmp 0), none, false⟩,
    ⟨some 9, .call 30 [(.tmp 8)], none, false⟩,
    ⟨some 4, .allocL 0 [.int .i64 0, .str [], .int .i64 0], none, false⟩,
    ⟨none, .storeL 3 (.tmp 4) (.tmp 9), none, false⟩] [0, 2, 3, 4])
  (.seq (.ops [
    ⟨some 10, .makeMap, none, false⟩,
    ⟨none, .mapUpdate (.cell .str) (.tmp 10) (.const (.string ⟨#[60]⟩)) (.const (.string ⟨#[108, 101, 115, 115]⟩)), none, false⟩,
    ⟨none, .mapUpdate (.cell .str) (.tmp 10) (.const (.string ⟨#[60, 61]⟩)) (.const (.string ⟨#[108, 101, 115, 115, 101, 113]⟩)), none, false⟩,
    ⟨none, .mapUpdate (.cell .str) (.tmp 10) (.const (.string ⟨#[61, 61]⟩)) (.const (.string ⟨#[101, 113, 117, 97, 108]⟩)), none, false⟩,
    ⟨none, .mapUpdate (.cell .str) (.tmp 10) (.const (.string ⟨#[33, 61]⟩)) (.const (.string ⟨#[110, 111, 116, 101, 113, 117, 97, 108]⟩)), none, false⟩,
    ⟨none, .mapUpdate (.cell .str) (.tmp 10) (.const (.string ⟨#[62]⟩)) (.const (.string ⟨#[103, 114, 101, 97, 116, 101, 114]⟩)), none, false⟩,
    ⟨none, .mapUpdate (.cell .str) (.tmp 10) (.const (.string ⟨#[62, 61]⟩)) (.const (.string ⟨#[103, 114, 101, 97, 116, 101, 114, 101, 113]⟩)), none, false⟩,
    ⟨some 11, .mov (.tmp 10), none, false⟩,
    ⟨some 12, .fieldL 1 (.tmp 4), none, false⟩,
    ⟨some 13, .loadL false 1 (.tmp 12), none, false⟩,
    ⟨some 14, .lookup (.cell .str) (.str []) False (.tmp 11) (.tmp 13), none, false⟩,
    ⟨some 5, .mov (.tmp 14), none, false⟩] [0, 2, 3, 4, 5])
  (.seq (.seq (.ops [
    ⟨some 15, .fieldL 0 (.tmp 4), none, false⟩,
    ⟨some 16, .loadL false 1 (.tmp 15), none, false⟩,
    ⟨some 17, .bin .neq (.tmp 16) (.const (.int .i64 8)), none, false⟩,
    ⟨some 18, .mov (.tmp 17), none, false⟩,
    ⟨some 19, .mov (.tmp 5), some (18, false), false⟩,
    ⟨some 20, .bin .eql (.tmp 19) (.const (.string ⟨#[]⟩)), some (18, false), false⟩,
    ⟨some 21, .pick (.tmp 18) (.const (.bool true)) (.tmp 20), none, false⟩,
    ⟨some 22, .mov (.tmp 21), none, false⟩,
    ⟨some 23, .fieldL 1 (.tmp 4), some (22, false), false⟩,
    ⟨some 24, .loadL false 1 (.tmp 23), some (22, false), false⟩,
    ⟨some 25, .bin .eql (.tmp 24) (.const (.string ⟨#[62]⟩)), some (22, false), false⟩,
    ⟨some 26, .mov (.tmp 25), some (22, false), false⟩,
    ⟨some 27, .mov (.tmp 0), some (26, true), false⟩,
    ⟨some 28, .nilCheck (.tmp 27), some (26, true), false⟩,
    ⟨some 29, .fieldAddr 3 (.tmp 28), some (26, true), false⟩,
    ⟨some 30, .load false 1 (.tmp 29), some (26, true), false⟩,
    ⟨some 31, .pick (.tmp 26) (.tmp 30) (.const (.bool false)), some (22, false), false⟩,
    ⟨some 32, .pick (.tmp 22) (.const (.bool true)) (.tmp 31), none, false⟩] [0, 2, 3, 5, 32])
  (.cond (.tmp 32)
  (.seq (.ops [
      ⟨some 33, .loadL true 4 (.tmp 3), none, false⟩,
      ⟨none, .storeL 4 (.tmp 2) (.tmp 33), none, false⟩] [2])
    .ret)
  .skip))
  (.seq (.ops [
    ⟨some 34, .mov (.tmp 0), none, false⟩,
    ⟨some 35, .call 31 [(.tmp 34)], none, false⟩] [0, 2, 3, 5])
  (.seq (.opsD [
    (⟨some 36, .mov (.tmp 5), none, false⟩, []),
    (⟨some 37, .loadL true 4 (.tmp 3), none, false⟩, []),
    (⟨some 38, .mov (.tmp 0), none, false⟩, []),
    (⟨some 39, .call 145 [(.tmp 38)], none, false⟩, []),
    (⟨some 40, .buildSlice true 25 4 2 [.str [], .str [], .int .i64 0, .nilSlice] [(0, (.tmp 37)), (1, (.tmp 39))], none, false⟩, []),
    (⟨some 41, .call 28 [(.tmp 36), (.tmp 40)], none, false⟩, []),
    (⟨none, .storeL 4 (.tmp 2) (.tmp 41), none, false⟩, [])] [2])
  .ret)))))))⟩
/-- (*scribe/parse.parser).mul -/
def af153 : AFunc := ⟨1, [.cellL true 4 2],
  (.seq (.ops [
    ⟨some 2, .allocL 0 [.str [], .str [], .int .i64 0, .nilSlice], none, false⟩] [0, 2])
  (.seq (.ops [
    ⟨some 3, .mov (.tmp 0), none, false⟩,
    ⟨some 4, .mov (.tmp 0), none, false⟩,
    ⟨some 5, .clos 154 [(.tmp 4)] [], none, false⟩,
    ⟨some 6, .makeMap, none, false⟩,
    ⟨none, .mapUpdate (.cell .str) (.tmp 6) (.const (.string ⟨#[42]⟩)) (.const (.string ⟨#[109, 117, 108]⟩)), none, false⟩,
    ⟨none, .mapUpdate (.cell .str) (.tmp 6) (.const (.string ⟨#[47]⟩)) (.const (.string ⟨#[100, 105, 118]⟩)), none, false⟩,
    ⟨none, .mapUpdate (.cell .str) (.tmp 6) (.const (.string ⟨#[37]⟩)) (.const (.string ⟨#[109, 111, 100]⟩)), none, false⟩,
    ⟨some 7, .mov (.tmp 6), none, false⟩,
    ⟨some 8, .call 120 [(.tmp 3), (.tmp 5), (.const (.bool false)), (.tmp 7)], none, false⟩,
    ⟨none, .storeL 4 (.tmp 2) (.tmp 8), none, false⟩] [2])
  .ret))⟩
/-- (*scribe/parse.parser).unary -/
def af154 : AFunc := ⟨1, [.cellL true 4 2],
  (.seq (.ops [
    ⟨some 2, .allocL 0 [.str [], .str [], .int .i64 0, .nilSlice], none, false⟩] [0, 2])
  (.seq (.seq (.ops [
    ⟨some 5, .makeMap, none, false⟩,
    ⟨none, .mapUpdate (.cell .str) (.tmp 5) (.const (.string ⟨#[33]⟩)) (.const (.string ⟨#[110, 111, 116]⟩)), none, false⟩,
    ⟨none, .mapUpdate (.cell .str) (.tmp 5) (.const (.string ⟨#[45]⟩)) (.const (.string ⟨#[110, 101, 103]⟩)), none, false⟩,
    ⟨none, .mapUpdate (.cell .str) (.tmp 5) (.const (.string ⟨#[43]⟩)) (.const (.string ⟨#[112, 108, 117, 115]⟩)), none, false⟩,
    ⟨some 6, .mov (.tmp 5), none, false⟩,
    ⟨some 7, .range (.tmp 6), none, false⟩] [0, 2, 7])
  (.mblock 0 7 100 [0, 2]
  (.loop [0, 2, 7]
    (.seq (.ops [
        ⟨some 8, .next (.tmp 7), none, false⟩,
        ⟨some 9, .extract (.tmp 8) 0, none, false⟩] [0, 2, 7, 9])
      (.seq (.cond (.tmp 9)
      .skip
      (.exit 0))
      (.block 1
      (.seq (.ops [
          ⟨some 10, .entry (.tmp 7), none, false⟩,
          ⟨some 11, .extract (.tmp 10) 0, none, false⟩,
          ⟨some 12, .extract (.tmp 10) 1, none, false⟩,
          ⟨some 3, .mov (.tmp 11), none, false⟩,
          ⟨some 4, .mov (.tmp 12), none, false⟩] [0, 2, 3, 4, 7])
        (.seq (.ops [
          ⟨some 13, .mov (.tmp 0), none, false⟩,
          ⟨some 14, .mov (.tmp 3), none, false⟩,
          ⟨some 15, .call 49 [(.tmp 13), (.tmp 14)], none, false⟩] [0, 2, 4, 7, 15])
        (.cond (.tmp 15)
        (.seq (.ops [
            ⟨some 16, .mov (.tmp 0), none, false⟩,
            ⟨some 17, .call 90 [(.tmp 16)], none, false⟩] [0, 2, 4])
          (.seq (.ops [
            ⟨some 18, .mov (.tmp 0), none, false⟩,
            ⟨none, .defer 91 [(.tmp 18)], none, false⟩] [0, 2, 4])
          (.seq (.ops [
            ⟨some 19, .mov (.tmp 4), none, false⟩,
            ⟨some 20, .mov (.tmp 0), none, false⟩,
            ⟨some 21, .call 154 [(.tmp 20)], none, false⟩,
            ⟨some 22, .buildSlice true 25 4 1 [.str [], .str [], .int .i64 0, .nilSlice] [(0, (.tmp 21))], none, false⟩,
            ⟨some 23, .call 28 [(.tmp 19), (.tmp 22)], none, false⟩,
            ⟨none, .storeL 4 (.tmp 2) (.tmp 23), none, false⟩] [2])
          .ret)))
        .skip)))))))))
  (.seq (.ops [
    ⟨some 24, .mov (.tmp 0), none, false⟩,
    ⟨some 25, .call 155 [(.tmp 24)], none, false⟩,
    ⟨none, .storeL 4 (.tmp 2) (.tmp 25), none, false⟩] [2])
  .ret)))⟩
/-- (*scribe/parse.parser).post -/
def af155 : AFunc := ⟨1, [.cellL true 4 2],
  (.seq (.ops [
    ⟨some 2, .allocL 0 [.str [], .str [], .int .i64 0, .nilSlice], none, false⟩] [0, 2])
  (.seq (.seq (.ops [
    ⟨some 7, .buildSlice true 9 1 2 [.str []] [(0, (.const (.string ⟨#[43, 43]⟩))), (1, (.const (.string ⟨#[45, 45]⟩)))], none, false⟩,
    ⟨some 8, .len .slice (.tmp 7), none, false⟩,
    ⟨some 9, .mov (.const (.int .i64 0)), none, false⟩] [0, 2, 7, 8, 9])
  (.block 0
  (.loop [0, 2, 7, 8, 9]
    (.seq (.ops [
        ⟨some 10, .bin .lss (.tmp 9) (.tmp 8), none, false⟩] [0, 2, 7, 8, 9, 10])
      (.seq (.cond (.tmp 10)
      .skip
      (.exit 0))
      (.seq (.block 1
      (.seq (.ops [
          ⟨some 11, .indexAddr 1 (.tmp 7) (.tmp 9), none, false⟩,
          ⟨some 12, .load false 1 (.tmp 11), none, false⟩,
          ⟨some 4, .mov (.tmp 12), none, false⟩] [0, 2, 4, 7, 8, 9])
        (.seq (.seq (.ops [
          ⟨some 13, .mov (.tmp 0), none, false⟩,
          ⟨some 14, .mov (.tmp 4), none, false⟩,
          ⟨some 15, .call 49 [(.tmp 13), (.tmp 14)], none, false⟩,
          ⟨some 16, .un .not (.tmp 15), none, false⟩] [0, 2, 4, 7, 8, 9, 16])
        (.cond (.tmp 16)
        (.exit 1)
        .skip))
        (.seq (.seq (.ops [
          ⟨some 17, .mov (.tmp 0), none, false⟩,
          ⟨some 18, .call 156 [(.tmp 17)], none, false⟩,
          ⟨some 5, .allocL 0 [.str [], .str [], .int .i64 0, .nilSlice], none, false⟩,
          ⟨none, .storeL 4 (.tmp 5) (.tmp 18), none, false⟩] [0, 2, 4, 5])
        (.seq (.ops [
          ⟨some 19, .loadL true 4 (.tmp 5), none, false⟩,
          ⟨some 20, .call 93 [(.tmp 19)], none, false⟩] [0, 2, 4, 5, 20])
        (.cond (.tmp 20)
        (.seq (.ops [
            ⟨some 21, .makeMap, none, false⟩,
            ⟨none, .mapUpdate (.cell .str) (.tmp 21) (.const (.string ⟨#[43, 43]⟩)) (.const (.string ⟨#[112, 114, 101, 105, 110, 99]⟩)), none, false⟩,
            ⟨none, .mapUpdate (.cell .str) (.tmp 21) (.const (.string ⟨#[45, 45]⟩)) (.const (.string ⟨#[112, 114, 101, 100, 101, 99]⟩)), none, false⟩,
            ⟨some 22, .mov (.tmp 21), none, false⟩,
            ⟨some 23, .mov (.tmp 4), none, false⟩,
            ⟨some 24, .lookup (.cell .str) (.str []) False (.tmp 22) (.tmp 23), none, false⟩,
            ⟨some 25, .loadL true 4 (.tmp 5), none, false⟩,
            ⟨some 26, .buildSlice true 25 4 1 [.str [], .str [], .int .i64 0, .nilSlice] [(0, (.tmp 25))], none, false⟩,
            ⟨some 27, .call 28 [(.tmp 24), (.tmp 26)], none, false⟩,
            ⟨none, .storeL 4 (.tmp 2) (.tmp 27), none, false⟩] [2])
          .ret)
        .skip)))
        (.seq (.ops [
          ⟨some 28, .mov (.tmp 0), none, false⟩,
          ⟨some 29, .call 56 [(.tmp 28)], none, false⟩] [2])
        (.seq (.ops [
          ⟨some 30, .build [.str [], .str [], .int .i64 0, .nilSlice] [], none, false⟩,
          ⟨none, .storeL 4 (.tmp 2) (.tmp 30), none, false⟩] [2])
        .ret))))))
      (.ops [
        ⟨some 31, .bin .add (.tmp 9) (.const (.int .i64 1)), none, false⟩,
        ⟨some 9, .mov (.tmp 31), none, false⟩] [0, 2, 7, 8, 9])))))))
  (.seq (.ops [
    ⟨some 32, .mov (.tmp 0), none, false⟩,
    ⟨some 33, .call 156 [(.tmp 32)], none, false⟩,
    ⟨some 6, .allocL 0 [.str [], .str [], .int .i64 0, .nilSlice], none, false⟩,
    ⟨none, .storeL 4 (.tmp 6) (.tmp 33), none, false⟩] [0, 2, 6])
  (.seq (.seq (.ops [
    ⟨some 34, .loadL true 4 (.tmp 6), none, false⟩,
    ⟨some 35, .call 93 [(.tmp 34)], none, false⟩,
    ⟨some 36, .un .not (.tmp 35), none, false⟩] [0, 2, 6, 36])
  (.cond (.tmp 36)
  (.seq (.ops [
      ⟨some 37, .loadL true 4 (.tmp 6), none, false⟩,
      ⟨none, .storeL 4 (.tmp 2) (.tmp 37), none, false⟩] [2])
    .ret)
  .skip))
  (.seq (.seq (.ops [
    ⟨some 38, .mov (.tmp 0), none, false⟩,
    ⟨some 39, .call 49 [(.tmp 38), (.const (.string ⟨#[43, 43]⟩))], none, false⟩] [0, 2, 6, 39])
  (.cond (.tmp 39)
  (.seq (.ops [
      ⟨some 40, .loadL true 4 (.tmp 6), none, false⟩,
      ⟨some 41, .buildSlice true 25 4 1 [.str [], .str [], .int .i64 0, .nilSlice] [(0, (.tmp 40))], none, false⟩,
      ⟨some 42, .call 28 [(.const (.string ⟨#[112, 111, 115, 116, 105, 110, 99]⟩)), (.tmp 41)], none, false⟩,
      ⟨none, .storeL 4 (.tmp 2) (.tmp 42), none, false⟩] [2])
    .ret)
  .skip))
  (.seq (.seq (.ops [
    ⟨some 43, .mov (.tmp 0), none, false⟩,
    ⟨some 44, .call 49 [(.tmp 43), (.const (.string ⟨#[45, 45]⟩))], none, false⟩] [2, 6, 44])
  (.cond (.tmp 44)
  (.seq (.ops [
      ⟨some 45, .loadL true 4 (.tmp 6), none, false⟩,
      ⟨some 46, .buildSlice true 25 4 1 [.str [], .str [], .int .i64 0, .nilSlice] [(0, (.tmp 45))], none, false⟩,
      ⟨some 47, .call 28 [(.const (.string ⟨#[112, 111, 115, 116, 100, 101, 99]⟩)), (.tmp 46)], none, false⟩,
      ⟨none, .storeL 4 (.tmp 2) (.tmp 47), none, false⟩] [2])
    .ret)
  .skip))
  (.seq (.ops [
    ⟨some 48, .loadL true 4 (.tmp 6), none, false⟩,
    ⟨none, .storeL 4 (.tmp 2) (.tmp 48), none, false⟩] [2])
  .ret)))))))⟩
/-- (*scribe/parse.parser).primary -/
def af156 : AFunc := ⟨1, [.cellL true 4 2],
  (.seq (.ops [
    ⟨some 2, .allocL 0 [.str [], .str [], .int .i64 0, .nilSlice], none, false⟩] [0, 2])
  (.seq (.ops [
    ⟨some 7, .mov (.tmp 0), none, false⟩,
    ⟨some 8, .call 30 [(.tmp 7)], none, false⟩,
    ⟨some 3, .allocL 0 [.int .i64 0, .str [], .int .i64 0], none, false⟩,
    ⟨none, .storeL 3 (.tmp 3) (.tmp 8), none, false⟩] [0, 2, 3])
  (.seq (.block 0
  (.seq (.ops [
      ⟨some 10, .fieldL 0 (.tmp 3), none, false⟩,
      ⟨some 11, .loadL false 1 (.tmp 10), none, false⟩,
      ⟨some 12, .bin .eql (.tmp 11) (.const (.int .i64 2)), none, false⟩,
      ⟨some 9, .mov (.tmp 12), none, false⟩] [0, 2, 3, 9])
    (.cond (.tmp 9)
    (.seq (.ops [
        ⟨some 13, .mov (.tmp 0), none, false⟩,
        ⟨some 14, .call 31 [(.tmp 13)], none, false⟩] [2, 3])
      (.seq (.ops [
        ⟨some 15, .loadL true 3 (.tmp 3), none, false⟩,
        ⟨some 16, .call 51 [(.const (.string ⟨#[110, 117, 109]⟩)), (.tmp 15), (.const (.slice none 0 0))], none, false⟩,
        ⟨none, .storeL 4 (.tmp 2) (.tmp 16), none, false⟩] [2])
      .ret))
    (.seq (.ops [
        ⟨some 18, .fieldL 0 (.tmp 3), none, false⟩,
        ⟨some 19, .loadL false 1 (.tmp 18), none, false⟩,
        ⟨some 20, .bin .eql (.tmp 19) (.const (.int .i64 3)), none, false⟩,
        ⟨some 17, .mov (.tmp 20), none, false⟩] [0, 2, 3, 17])
      (.cond (.tmp 17)
      (.seq (.ops [
          ⟨some 21, .mov (.tmp 0), none, false⟩,
          ⟨some 22, .call 31 [(.tmp 21)], none, false⟩] [2, 3])
        (.seq (.ops [
          ⟨some 23, .loadL true 3 (.tmp 3), none, false⟩,
          ⟨some 24, .call 51 [(.const (.string ⟨#[115, 116, 114]⟩)), (.tmp 23), (.const (.slice none 0 0))], none, false⟩,
          ⟨none, .storeL 4 (.tmp 2) (.tmp 24), none, false⟩] [2])
        .ret))
      (.seq (.ops [
          ⟨some 26, .fieldL 0 (.tmp 3), none, false⟩,
          ⟨some 27, .loadL false 1 (.tmp 26), none, false⟩,
          ⟨some 28, .bin .eql (.tmp 27) (.const (.int .i64 4)), none, false⟩,
          ⟨some 25, .mov (.tmp 28), none, false⟩] [0, 2, 3, 25])
        (.cond (.tmp 25)
        (.seq (.seq (.ops [
            ⟨some 30, .fieldL 1 (.tmp 3), none, false⟩,
            ⟨some 31, .loadL false 1 (.tmp 30), none, false⟩,
            ⟨some 32, .call 157 [(.tmp 31)], none, false⟩,
            ⟨some 29, .mov (.tmp 32), none, false⟩,
            ⟨some 33, .extract (.tmp 29) 0, none, false⟩,
            ⟨some 34, .extract (.tmp 29) 1, none, false⟩,
            ⟨some 35, .extract (.tmp 29) 2, none, false⟩,
            ⟨some 4, .allocL 0 [.int .i64 0, .int .u64 0, .int .u64 0, .int .u64 0, .int .u64 0, .nilSlice], none, false⟩,
            ⟨none, .storeL 6 (.tmp 4) (.tmp 33), none, false⟩,
            ⟨some 5, .mov (.tmp 34), none, false⟩,
            ⟨some 6, .mov (.tmp 35), none, false⟩] [0, 2, 3, 6])
          (.seq (.ops [
            ⟨some 36, .mov (.tmp 6), none, false⟩,
            ⟨some 37, .bin .neq (.tmp 36) (.const (.int .i64 0)), none, false⟩] [0, 2, 3, 37])
          (.cond (.tmp 37)
          (.ops [
              ⟨some 38, .mov (.tmp 0), none, false⟩,
              ⟨some 39, .call 56 [(.tmp 38)], none, false⟩] [0, 2, 3])
          .skip)))
          (.seq (.ops [
            ⟨some 40, .mov (.tmp 0), none, false⟩,
            ⟨some 41, .call 31 [(.tmp 40)], none, false⟩] [2, 3])
          (.seq (.ops [
            ⟨some 42, .loadL true 3 (.tmp 3), none, false⟩,
            ⟨some 43, .call 51 [(.const (.string ⟨#[114, 101]⟩)), (.tmp 42), (.const (.slice none 0 0))], none, false⟩,
            ⟨none, .storeL 4 (.tmp 2) (.tmp 43), none, false⟩] [2])
          .ret)))
        (.seq (.ops [
            ⟨some 45, .fieldL 0 (.tmp 3), none, false⟩,
            ⟨some 46, .loadL false 1 (.tmp 45), none, false⟩,
            ⟨some 47, .bin .eql (.tmp 46) (.const (.int .i64 5)), none, false⟩,
            ⟨some 44, .mov (.tmp 47), none, false⟩] [0, 2, 3, 44])
          (.cond (.tmp 44)
          (.seq (.ops [
              ⟨some 48, .mov (.tmp 0), none, false⟩,
              ⟨some 49, .call 31 [(.tmp 48)], none, false⟩] [0, 2, 3])
            (.seq (.seq (.ops [
              ⟨some 50, .mov (.tmp 0), none, false⟩,
              ⟨some 51, .call 49 [(.tmp 50), (.const (.string ⟨#[91]⟩))], none, false⟩] [0, 2, 3, 51])
            (.cond (.tmp 51)
            (.seq (.opsD [
                (⟨some 52, .loadL true 3 (.tmp 3), none, false⟩, []),
                (⟨some 53, .mov (.tmp 0), none, false⟩, []),
                (⟨some 54, .call 114 [(.tmp 53), (.const (.string ⟨#[93]⟩))], none, false⟩, []),
                (⟨some 55, .buildSlice true 25 4 1 [.str [], .str [], .int .i64 0, .nilSlice] [(0, (.tmp 54))], none, false⟩, []),
                (⟨some 56, .call 51 [(.const (.string ⟨#[105, 110, 100, 101, 120]⟩)), (.tmp 52), (.tmp 55)], none, false⟩, []),
                (⟨none, .storeL 4 (.tmp 2) (.tmp 56), none, false⟩, [])] [2])
              .ret)
            .skip))
            (.seq (.ops [
              ⟨some 57, .loadL true 3 (.tmp 3), none, false⟩,
              ⟨some 58, .call 51 [(.const (.string ⟨#[118, 97, 114]⟩)), (.tmp 57), (.const (.slice none 0 0))], none, false⟩,
              ⟨none, .storeL 4 (.tmp 2) (.tmp 58), none, false⟩] [2])
            .ret)))
          (.seq (.ops [
              ⟨some 60, .fieldL 0 (.tmp 3), none, false⟩,
              ⟨some 61, .loadL false 1 (.tmp 60), none, false⟩,
              ⟨some 62, .bin .eql (.tmp 61) (.const (.int .i64 6)), none, false⟩,
              ⟨some 59, .mov (.tmp 62), none, false⟩] [0, 2, 3, 59])
            (.cond (.tmp 59)
            (.seq (.ops [
                ⟨some 63, .mov (.tmp 0), none, false⟩,
                ⟨some 64, .call 31 [(.tmp 63)], none, false⟩] [0, 2, 3])
              (.seq (.ops [
                ⟨some 65, .mov (.tmp 0), none, false⟩,
                ⟨some 66, .call 53 [(.tmp 65), (.const (.string ⟨#[40]⟩))], none, false⟩] [0, 2, 3])
              (.seq (.opsD [
                (⟨some 67, .loadL true 3 (.tmp 3), none, false⟩, []),
                (⟨some 68, .mov (.tmp 0), none, false⟩, []),
                (⟨some 69, .call 144 [(.tmp 68), (.const (.string ⟨#[41]⟩))], none, false⟩, []),
                (⟨some 70, .call 51 [(.const (.string ⟨#[99, 97, 108, 108]⟩)), (.tmp 67), (.tmp 69)], none, false⟩, []),
                (⟨none, .storeL 4 (.tmp 2) (.tmp 70), none, false⟩, [])] [2])
              .ret)))
            (.seq (.ops [
                ⟨some 72, .fieldL 0 (.tmp 3), none, false⟩,
                ⟨some 73, .loadL false 1 (.tmp 72), none, false⟩,
                ⟨some 74, .bin .eql (.tmp 73) (.const (.int .i64 9)), none, false⟩,
                ⟨some 71, .mov (.tmp 74), none, false⟩] [0, 2, 71])
              (.cond (.tmp 71)
              (.seq (.ops [
                  ⟨some 75, .mov (.tmp 0), none, false⟩,
                  ⟨some 76, .call 158 [(.tmp 75)], none, false⟩,
                  ⟨none, .storeL 4 (.tmp 2) (.tmp 76), none, false⟩] [2])
                .ret)
              (.seq (.ops [
                  ⟨some 78, .mov (.tmp 0), none, false⟩,
                  ⟨some 79, .call 49 [(.tmp 78), (.const (.string ⟨#[40]⟩))], none, false⟩,
                  ⟨some 77, .mov (.tmp 79), none, false⟩] [0, 2, 77])
                (.cond (.tmp 77)
                (.seq (.ops [
                    ⟨some 80, .mov (.tmp 0), none, false⟩,
                    ⟨some 81, .call 114 [(.tmp 80), (.const (.string ⟨#[41]⟩))], none, false⟩,
                    ⟨none, .storeL 4 (.tmp 2) (.tmp 81), none, false⟩] [2])
                  .ret)
                (.seq (.ops [
                    ⟨some 83, .mov (.tmp 0), none, false⟩,
                    ⟨some 84, .call 49 [(.tmp 83), (.const (.string ⟨#[36]⟩))], none, false⟩,
                    ⟨some 82, .mov (.tmp 84), none, false⟩] [0, 2, 82])
                  (.cond (.tmp 82)
                  (.seq (.ops [
                      ⟨some 85, .mov (.tmp 0), none, false⟩,
                      ⟨some 86, .call 90 [(.tmp 85)], none, false⟩] [0, 2])
                    (.seq (.ops [
                      ⟨some 87, .mov (.tmp 0), none, false⟩,
                      ⟨none, .defer 91 [(.tmp 87)], none, false⟩] [0, 2])
                    (.seq (.seq (.ops [
                      ⟨some 88, .mov (.tmp 0), none, false⟩,
                      ⟨some 89, .buildSlice true 9 1 2 [.str []] [(0, (.const (.string ⟨#[43, 43]⟩))), (1, (.const (.string ⟨#[45, 45]⟩)))], none, false⟩,
                      ⟨some 90, .call 29 [(.tmp 88), (.tmp 89)], none, false⟩] [0, 2, 90])
                    (.cond (.tmp 90)
                    (.seq (.ops [
                        ⟨some 91, .mov (.tmp 0), none, false⟩,
                        ⟨some 92, .call 155 [(.tmp 91)], none, false⟩,
                        ⟨some 93, .buildSlice true 25 4 1 [.str [], .str [], .int .i64 0, .nilSlice] [(0, (.tmp 92))], none, false⟩,
                        ⟨some 94, .call 28 [(.const (.string ⟨#[102, 105, 101, 108, 100]⟩)), (.tmp 93)], none, false⟩,
                        ⟨none, .storeL 4 (.tmp 2) (.tmp 94), none, false⟩] [2])
                      .ret)
                    .skip))
                    (.seq (.ops [
                      ⟨some 95, .mov (.tmp 0), none, false⟩,
                      ⟨some 96, .call 156 [(.tmp 95)], none, false⟩,
                      ⟨some 97, .buildSlice true 25 4 1 [.str [], .str [], .int .i64 0, .nilSlice] [(0, (.tmp 96))], none, false⟩,
                      ⟨some 98, .call 28 [(.const (.string ⟨#[102, 105, 101, 108, 100]⟩)), (.tmp 97)], none, false⟩,
                      ⟨none, .storeL 4 (.tmp 2) (.tmp 98), none, false⟩] [2])
                    .ret))))
                  .skip)))))))))))))))))
  (.seq (.ops [
    ⟨some 99, .mov (.tmp 0), none, false⟩,
    ⟨some 100, .call 56 [(.tmp 99)], none, false⟩] [2])
  (.seq (.ops [
    ⟨some 101, .build [.str [], .str [], .int .i64 0, .nilSlice] [], none, false⟩,
    ⟨none, .storeL 4 (.tmp 2) (.tmp 101), none, false⟩] [2])
  .ret)))))⟩
/-- scribe/regex.Parse -/
def af157 : AFunc := ⟨1, [.cellL true 6 2, .tmp 3, .tmp 4],
  (.seq (.ops [
    ⟨some 2, .allocL 0 [.int .i64 0, .int .u64 0, .int .u64 0, .int .u64 0, .int .u64 0, .nilSlice], none, false⟩,
    ⟨some 3, .mov (.const (.int .i64 0)), none, false⟩,
    ⟨some 4, .mov (.const (.int .i64 0)), none, false⟩] [0, 2])
  (.seq (.seq (.ops [
    ⟨some 7, .mov (.tmp 0), none, false⟩,
    ⟨some 8, .len .str (.tmp 7), none, false⟩,
    ⟨some 9, .bin .gtr (.tmp 8) (.const (.int .i64 300)), none, false⟩] [0, 2, 9])
  (.cond (.tmp 9)
  (.seq (.ops [
      ⟨some 10, .build [.int .i64 0, .int .u64 0, .int .u64 0, .int .u64 0, .int .u64 0, .nilSlice] [], none, false⟩,
      ⟨none, .storeL 6 (.tmp 2) (.tmp 10), none, false⟩,
      ⟨some 3, .mov (.const (.int .i64 0)), none, false⟩,
      ⟨some 4, .mov (.const (.int .i64 12)), none, false⟩] [2, 3, 4])
    .ret)
  .skip))
  (.seq (.ops [
    ⟨some 11, .mov (.tmp 0), none, false⟩,
    ⟨some 12, .build [.str [], .int .i64 0, .int .i64 0, .int .i64 0, .int .i64 0] [(0, 1, (.tmp 11))], none, false⟩,
    ⟨some 13, .boxH 221 5 (.tmp 12), none, false⟩,
    ⟨some 5, .mov (.tmp 13), none, false⟩] [2, 5])
  (.seq (.ops [
    ⟨some 14, .mov (.tmp 5), none, false⟩,
    ⟨some 15, .call 159 [(.tmp 14)], none, false⟩,
    ⟨some 6, .allocL 0 [.int .i64 0, .int .u64 0, .int .u64 0, .int .u64 0, .int .u64 0, .nilSlice], none, false⟩,
    ⟨none, .storeL 6 (.tmp 6) (.tmp 15), none, false⟩] [2, 5, 6])
  (.seq (.seq (.ops [
    ⟨some 16, .mov (.tmp 5), none, false⟩,
    ⟨some 17, .nilCheck (.tmp 16), none, false⟩,
    ⟨some 18, .fieldAddr 3 (.tmp 17), none, false⟩,
    ⟨some 19, .load false 1 (.tmp 18), none, false⟩,
    ⟨some 20, .bin .neq (.tmp 19) (.const (.int .i64 0)), none, false⟩] [2, 5, 6, 20])
  (.cond (.tmp 20)
  (.seq (.opsD [
      (⟨some 21, .build [.int .i64 0, .int .u64 0, .int .u64 0, .int .u64 0, .int .u64 0, .nilSlice] [], none, false⟩, []),
      (⟨some 22, .mov (.tmp 5), none, false⟩, []),
      (⟨some 23, .nilCheck (.tmp 22), none, false⟩, []),
      (⟨some 24, .fieldAddr 4 (.tmp 23), none, false⟩, []),
      (⟨some 25, .load false 1 (.tmp 24), none, false⟩, []),
      (⟨some 26, .mov (.tmp 5), none, false⟩, []),
      (⟨some 27, .nilCheck (.tmp 26), none, false⟩, []),
      (⟨some 28, .fieldAddr 3 (.tmp 27), none, false⟩, []),
      (⟨some 29, .load false 1 (.tmp 28), none, false⟩, []),
      (⟨none, .storeL 6 (.tmp 2) (.tmp 21), none, false⟩, []),
      (⟨some 3, .mov (.tmp 25), none, false⟩, []),
      (⟨some 4, .mov (.tmp 29), none, false⟩, [])] [2, 3, 4])
    .ret)
  .skip))
  (.seq (.ops [
    ⟨some 30, .loadL true 6 (.tmp 6), none, false⟩,
    ⟨none, .storeL 6 (.tmp 2) (.tmp 30), none, false⟩,
    ⟨some 3, .mov (.const (.int .i64 0)), none, false⟩,
    ⟨some 4, .mov (.const (.int .i64 0)), none, false⟩] [2, 3, 4])
  .ret))))))⟩
/-- (*scribe/parse.parser).builtin -/
def af158 : AFunc := ⟨1, [.cellL true 4 2],
  (.seq (.ops [
    ⟨some 1, .boxH 89 1 (.tmp 0), none, false⟩,
    ⟨some 2, .allocL 0 [.str [], .str [], .int .i64 0, .nilSlice], none, false⟩] [1, 2])
  (.seq (.ops [
    ⟨some 7, .load false 1 (.tmp 1), none, false⟩,
    ⟨some 8, .call 30 [(.tmp 7)], none, false⟩,
    ⟨some 3, .allocH 95 [.int .i64 0, .str [], .int .i64 0], none, false⟩,
    ⟨none, .store 3 (.tmp 3) (.tmp 8), none, false⟩] [1, 2, 3])
  (.seq (.ops [
    ⟨some 9, .load false 1 (.tmp 1), none, false⟩,
    ⟨some 10, .call 31 [(.tmp 9)], none, false⟩] [1, 2, 3])
  (.seq (.seq (.ops [
    ⟨some 11, .fieldAddr 1 (.tmp 3), none, false⟩,
    ⟨some 12, .load false 1 (.tmp 11), none, false⟩,
    ⟨some 13, .bin .eql (.tmp 12) (.const (.string ⟨#[108, 101, 110, 103, 116, 104]⟩)), none, false⟩,
    ⟨some 14, .mov (.tmp 13), none, false⟩,
    ⟨some 15, .load false 1 (.tmp 1), some (14, true), false⟩,
    ⟨some 16, .buildSlice true 9 1 1 [.str []] [(0, (.const (.string ⟨#[40]⟩)))], some (14, true), false⟩,
    ⟨some 17, .call 29 [(.tmp 15), (.tmp 16)], some (14, true), false⟩,
    ⟨some 18, .un .not (.tmp 17), some (14, true), false⟩,
    ⟨some 19, .pick (.tmp 14) (.tmp 18) (.const (.bool false)), none, false⟩] [1, 2, 3, 19])
  (.cond (.tmp 19)
  (.seq (.ops [
      ⟨some 20, .load true 3 (.tmp 3), none, false⟩,
      ⟨some 21, .call 51 [(.const (.string ⟨#[98, 117, 105, 108, 116, 105, 110]⟩)), (.tmp 20), (.const (.slice none 0 0))], none, false⟩,
      ⟨none, .storeL 4 (.tmp 2) (.tmp 21), none, false⟩] [2])
    .ret)
  .skip))
  (.seq (.ops [
    ⟨some 22, .load false 1 (.tmp 1), none, false⟩,
    ⟨some 23, .call 53 [(.tmp 22), (.const (.string ⟨#[40]⟩))], none, false⟩] [1, 2, 3])
  (.seq (.ops [
    ⟨some 24, .load false 1 (.tmp 1), none, false⟩,
    ⟨some 25, .call 144 [(.tmp 24), (.const (.string ⟨#[41]⟩))], none, false⟩,
    ⟨some 4, .mov (.tmp 25), none, false⟩] [1, 2, 3, 4])
  (.seq (.ops [
    ⟨some 26, .clos 160 [] [(.tmp 1), (.tmp 3)], none, false⟩,
    ⟨some 5, .mov (.tmp 26), none, false⟩] [1, 2, 3, 4, 5])
  (.seq (.ops [
    ⟨some 27, .mov (.tmp 4), none, false⟩,
    ⟨some 28, .len .slice (.tmp 27), none, false⟩,
    ⟨some 6, .mov (.tmp 28), none, false⟩] [1, 2, 3, 4, 5, 6])
  (.seq (.seq (.ops [
    ⟨some 29, .fieldAddr 1 (.tmp 3), none, false⟩,
    ⟨some 30, .load false 1 (.tmp 29), none, false⟩] [1, 2, 3, 4, 5, 6, 30])
  (.block 0
  (.seq (.block 9
    (.seq (.block 8
      (.seq (.block 7
        (.seq (.block 6
          (.seq (.block 5
            (.seq (.block 4
              (.seq (.block 3
                (.seq (.block 2
                  (.seq (.block 1
                    (.seq (.seq (.seq (.ops [
                        ⟨some 32, .bin .eql (.tmp 30) (.const (.string ⟨#[108, 101, 110, 103, 116, 104]⟩)), none, false⟩,
                        ⟨some 31, .mov (.tmp 32), none, false⟩] [1, 2, 3, 4, 5, 6, 30, 31])
                      (.cond (.tmp 31)
                      (.exit 1)
                      .skip))
                      (.seq (.seq (.ops [
                        ⟨some 34, .bin .eql (.tmp 30) (.const (.string ⟨#[115, 117, 98, 115, 116, 114]⟩)), none, false⟩,
                        ⟨some 33, .mov (.tmp 34), none, false⟩] [1, 2, 3, 4, 5, 6, 30, 33])
                      (.cond (.tmp 33)
                      (.exit 2)
                      .skip))
                      (.seq (.seq (.ops [
                        ⟨some 36, .bin .eql (.tmp 30) (.const (.string ⟨#[115, 112, 108, 105, 116]⟩)), none, false⟩,
                        ⟨some 35, .mov (.tmp 36), none, false⟩] [1, 2, 3, 4, 5, 6, 30, 35])
                      (.cond (.tmp 35)
                      (.exit 3)
                      .skip))
                      (.seq (.seq (.seq (.ops [
                        ⟨some 38, .bin .eql (.tmp 30) (.const (.string ⟨#[115, 117, 98]⟩)), none, false⟩,
                        ⟨some 37, .mov (.tmp 38), none, false⟩] [2, 3, 4, 5, 6, 30, 37])
                      (.cond (.tmp 37)
                      .skip
                      (.ops [
                          ⟨some 39, .bin .eql (.tmp 30) (.const (.string ⟨#[103, 115, 117, 98]⟩)), none, false⟩,
                          ⟨some 37, .mov (.tmp 39), none, false⟩] [2, 3, 4, 5, 6, 30, 37])))
                      (.cond (.tmp 37)
                      (.exit 4)
                      .skip))
                      (.seq (.seq (.seq (.ops [
                        ⟨some 41, .bin .eql (.tmp 30) (.const (.string ⟨#[105, 110, 100, 101, 120]⟩)), none, false⟩,
                        ⟨some 40, .mov (.tmp 41), none, false⟩] [2, 3, 4, 5, 6, 30, 40])
                      (.cond (.tmp 40)
                      .skip
                      (.ops [
                          ⟨some 42, .bin .eql (.tmp 30) (.const (.string ⟨#[109, 97, 116, 99, 104]⟩)), none, false⟩,
                          ⟨some 40, .mov (.tmp 42), none, false⟩] [2, 3, 4, 5, 6, 30, 40])))
                      (.cond (.tmp 40)
                      (.exit 5)
                      .skip))
                      (.seq (.seq (.ops [
                        ⟨some 44, .bin .eql (.tmp 30) (.const (.string ⟨#[115, 112, 114, 105, 110, 116, 102]⟩)), none, false⟩,
                        ⟨some 43, .mov (.tmp 44), none, false⟩] [2, 3, 4, 5, 6, 30, 43])
                      (.cond (.tmp 43)
                      (.exit 6)
                      .skip))
                      (.seq (.seq (.ops [
                        ⟨some 46, .bin .eql (.tmp 30) (.const (.string ⟨#[114, 97, 110, 100]⟩)), none, false⟩,
                        ⟨some 45, .mov (.tmp 46), none, false⟩] [2, 3, 4, 5, 6, 30, 45])
                      (.cond (.tmp 45)
                      (.exit 7)
                      .skip))
                      (.seq (.ops [
                        ⟨some 48, .bin .eql (.tmp 30) (.const (.string ⟨#[115, 114, 97, 110, 100]⟩)), none, false⟩,
                        ⟨some 47, .mov (.tmp 48), none, false⟩] [2, 3, 4, 5, 6, 47])
                      (.cond (.tmp 47)
                      (.exit 8)
                      .skip)))))))))
                      (.exit 9)))
                    (.seq (.ops [
                      ⟨some 49, .mov (.tmp 5), none, false⟩,
                      ⟨some 50, .mov (.tmp 6), none, false⟩,
                      ⟨some 51, .bin .gtr (.tmp 50) (.const (.int .i64 1)), none, false⟩,
                      ⟨some 52, .callv (.tmp 49) [(.tmp 51), (.const (.int .i64 9))], none, false⟩] [2, 3, 4])
                    (.exit 0))))
                  (.seq (.ops [
                    ⟨some 53, .mov (.tmp 5), none, false⟩,
                    ⟨some 54, .mov (.tmp 6), none, false⟩,
                    ⟨some 55, .bin .lss (.tmp 54) (.const (.int .i64 2)), none, false⟩,
                    ⟨some 56, .mov (.tmp 55), none, false⟩,
                    ⟨some 57, .mov (.tmp 6), some (56, false), false⟩,
                    ⟨some 58, .bin .gtr (.tmp 57) (.const (.int .i64 3)), some (56, false), false⟩,
                    ⟨some 59, .pick (.tmp 56) (.const (.bool true)) (.tmp 58), none, false⟩,
                    ⟨some 60, .callv (.tmp 53) [(.tmp 59), (.const (.int .i64 9))], none, false⟩] [2, 3, 4])
                  (.exit 0))))
                (.seq (.seq (.ops [
                  ⟨some 61, .mov (.tmp 5), none, false⟩,
                  ⟨some 62, .mov (.tmp 6), none, false⟩,
                  ⟨some 63, .bin .lss (.tmp 62) (.const (.int .i64 2)), none, false⟩,
                  ⟨some 64, .mov (.tmp 63), none, false⟩,
                  ⟨some 65, .mov (.tmp 6), some (64, false), false⟩,
                  ⟨some 66, .bin .gtr (.tmp 65) (.const (.int .i64 3)), some (64, false), false⟩,
                  ⟨some 67, .pick (.tmp 64) (.const (.bool true)) (.tmp 66), none, false⟩,
                  ⟨some 68, .mov (.tmp 67), none, false⟩,
                  ⟨some 69, .mov (.tmp 4), some (68, false), false⟩,
                  ⟨some 70, .indexAddr 4 (.tmp 69) (.const (.int .i64 1)), some (68, false), false⟩,
                  ⟨some 71, .fieldAddr 0 (.tmp 70), some (68, false), false⟩,
                  ⟨some 72, .load false 1 (.tmp 71), some (68, false), false⟩,
                  ⟨some 73, .bin .neq (.tmp 72) (.const (.string ⟨#[118, 97, 114]⟩)), some (68, false), false⟩,
                  ⟨some 74, .pick (.tmp 68) (.const (.bool true)) (.tmp 73), none, false⟩,
                  ⟨some 75, .callv (.tmp 61) [(.tmp 74), (.const (.int .i64 9))], none, false⟩] [1, 2, 3, 4])
                (.seq (.ops [
                  ⟨some 76, .load false 1 (.tmp 1), none, false⟩,
                  ⟨some 77, .nilCheck (.tmp 76), none, false⟩,
                  ⟨some 78, .fieldAddr 4 (.tmp 77), none, false⟩,
                  ⟨some 79, .load false 1 (.tmp 78), none, false⟩,
                  ⟨some 80, .bin .eql (.tmp 79) (.const (.int .i64 0)), none, false⟩] [2, 3, 4, 80])
                (.cond (.tmp 80)
                (.ops [
                    ⟨some 81, .mov (.tmp 4), none, false⟩,
                    ⟨some 82, .indexAddr 4 (.tmp 81) (.const (.int .i64 1)), none, false⟩,
                    ⟨some 83, .fieldAddr 0 (.tmp 82), none, false⟩,
                    ⟨none, .store 1 (.tmp 83) (.const (.string ⟨#[110, 97, 109, 101]⟩)), none, false⟩] [2, 3, 4])
                .skip)))
                (.exit 0))))
              (.seq (.seq (.ops [
                ⟨some 84, .mov (.tmp 5), none, false⟩,
                ⟨some 85, .mov (.tmp 6), none, false⟩,
                ⟨some 86, .bin .lss (.tmp 85) (.const (.int .i64 2)), none, false⟩,
                ⟨some 87, .mov (.tmp 86), none, false⟩,
                ⟨some 88, .mov (.tmp 6), some (87, false), false⟩,
                ⟨some 89, .bin .gtr (.tmp 88) (.const (.int .i64 3)), some (87, false), false⟩,
                ⟨some 90, .pick (.tmp 87) (.const (.bool true)) (.tmp 89), none, false⟩,
                ⟨some 91, .mov (.tmp 90), none, false⟩,
                ⟨some 92, .mov (.tmp 6), some (91, false), false⟩,
                ⟨some 93, .bin .eql (.tmp 92) (.const (.int .i64 3)), some (91, false), false⟩,
                ⟨some 94, .mov (.tmp 93), some (91, false), false⟩,
                ⟨some 95, .mov (.tmp 4), some (94, true), false⟩,
                ⟨some 96, .indexAddr 4 (.tmp 95) (.const (.int .i64 2)), some (94, true), false⟩,
                ⟨some 97, .load true 4 (.tmp 96), some (94, true), false⟩,
                ⟨some 98, .call 93 [(.tmp 97)], some (94, true), false⟩,
                ⟨some 99, .un .not (.tmp 98), some (94, true), false⟩,
                ⟨some 100, .pick (.tmp 94) (.tmp 99) (.const (.bool false)), some (91, false), false⟩,
                ⟨some 101, .pick (.tmp 91) (.const (.bool true)) (.tmp 100), none, false⟩,
                ⟨some 102, .callv (.tmp 84) [(.tmp 101), (.const (.int .i64 9))], none, false⟩] [2, 3, 4, 6])
              (.seq (.ops [
                ⟨some 103, .mov (.tmp 6), none, false⟩,
                ⟨some 104, .bin .eql (.tmp 103) (.const (.int .i64 2)), none, false⟩] [2, 3, 4, 104])
              (.cond (.tmp 104)
              (.ops [
                  ⟨some 105, .mov (.tmp 4), none, false⟩,
                  ⟨some 106, .fieldAddr 2 (.tmp 3), none, false⟩,
                  ⟨some 107, .load false 1 (.tmp 106), none, false⟩,
                  ⟨some 108, .build [.str [], .str [], .int .i64 0, .nilSlice] [(0, 1, (.const (.string ⟨#[110, 117, 109]⟩))), (1, 1, (.const (.string ⟨#[48]⟩))), (2, 1, (.tmp 107))], none, false⟩,
                  ⟨some 109, .buildSlice true 25 4 1 [.str [], .str [], .int .i64 0, .nilSlice] [(0, (.tmp 108))], none, false⟩,
                  ⟨some 110, .call 28 [(.const (.string ⟨#[102, 105, 101, 108, 100]⟩)), (.tmp 109)], none, false⟩,
                  ⟨some 111, .buildSlice true 25 4 1 [.str [], .str [], .int .i64 0, .nilSlice] [(0, (.tmp 110))], none, false⟩,
                  ⟨some 112, .append false 25 4 64 (.tmp 105) (.tmp 111), none, false⟩,
                  ⟨some 4, .mov (.tmp 112), none, false⟩] [2, 3, 4])
              .skip)))
              (.exit 0))))
            (.seq (.ops [
              ⟨some 113, .mov (.tmp 5), none, false⟩,
              ⟨some 114, .mov (.tmp 6), none, false⟩,
              ⟨some 115, .bin .neq (.tmp 114) (.const (.int .i64 2)), none, false⟩,
              ⟨some 116, .callv (.tmp 113) [(.tmp 115), (.const (.int .i64 9))], none, false⟩] [2, 3, 4])
            (.exit 0))))
          (.seq (.ops [
            ⟨some 117, .mov (.tmp 5), none, false⟩,
            ⟨some 118, .mov (.tmp 6), none, false⟩,
            ⟨some 119, .bin .lss (.tmp 118) (.const (.int .i64 1)), none, false⟩,
            ⟨some 120, .callv (.tmp 117) [(.tmp 119), (.const (.int .i64 9))], none, false⟩] [2, 3, 4])
          (.exit 0))))
        (.seq (.ops [
          ⟨some 121, .mov (.tmp 5), none, false⟩,
          ⟨some 122, .mov (.tmp 6), none, false⟩,
          ⟨some 123, .bin .neq (.tmp 122) (.const (.int .i64 0)), none, false⟩,
          ⟨some 124, .callv (.tmp 121) [(.tmp 123), (.const (.int .i64 9))], none, false⟩] [2, 3, 4])
        (.exit 0))))
      (.ops [
        ⟨some 125, .mov (.tmp 5), none, false⟩,
        ⟨some 126, .mov (.tmp 6), none, false⟩,
        ⟨some 127, .bin .eql (.tmp 126) (.const (.int .i64 0)), none, false⟩,
        ⟨some 128, .callv (.tmp 125) [(.tmp 127), (.const (.int .i64 10))], none, false⟩] [2, 3, 4, 5, 6])))
    (.seq (.ops [
      ⟨some 129, .mov (.tmp 5), none, false⟩,
      ⟨some 130, .mov (.tmp 6), none, false⟩,
      ⟨some 131, .bin .neq (.tmp 130) (.const (.int .i64 1)), none, false⟩,
      ⟨some 132, .callv (.tmp 129) [(.tmp 131), (.const (.int .i64 9))], none, false⟩] [2, 3, 4])
    (.exit 0)))))
  (.seq (.ops [
    ⟨some 133, .load true 3 (.tmp 3), none, false⟩,
    ⟨some 134, .mov (.tmp 4), none, false⟩,
    ⟨some 135, .call 51 [(.const (.string ⟨#[98, 117, 105, 108, 116, 105, 110]⟩)), (.tmp 133), (.tmp 134)], none, false⟩,
    ⟨none, .storeL 4 (.tmp 2) (.tmp 135), none, false⟩] [2])
  .ret))))))))))⟩
/-- (*scribe/regex.reader).alt -/
def af159 : AFunc := ⟨1, [.cellL true 6 2],
  (.seq (.ops [
    ⟨some 2, .allocL 0 [.int .i64 0, .int .u64 0, .int .u64 0, .int .u64 0, .int .u64 0, .nilSlice], none, false⟩] [0, 2])
  (.seq (.ops [
    ⟨some 6, .mov (.tmp 0), none, false⟩,
    ⟨some 7, .call 161 [(.tmp 6)], none, false⟩,
    ⟨some 8, .buildSlice true 216 6 1 [.int .i64 0, .int .u64 0, .int .u64 0, .int .u64 0, .int .u64 0, .nilSlice] [(0, (.tmp 7))], none, false⟩,
    ⟨some 3, .mov (.tmp 8), none, false⟩] [0, 2, 3])
  (.seq (.seq (.ops [
    ⟨some 10, .mov (.tmp 0), none, false⟩,
    ⟨some 11, .call 162 [(.tmp 10)], none, false⟩,
    ⟨some 9, .mov (.tmp 11), none, false⟩,
    ⟨some 12, .extract (.tmp 9) 0, none, false⟩,
    ⟨some 13, .extract (.tmp 9) 1, none, false⟩,
    ⟨some 4, .mov (.tmp 12), none, false⟩,
    ⟨some 5, .mov (.tmp 13), none, false⟩] [0, 2, 3, 4, 5])
  (.block 0
  (.loop [0, 2, 3, 4, 5]
    (.seq (.seq (.ops [
        ⟨some 14, .mov (.tmp 5), none, false⟩,
        ⟨some 15, .mov (.tmp 14), none, false⟩,
        ⟨some 16, .mov (.tmp 4), some (15, true), false⟩,
        ⟨some 17, .bin .eql (.tmp 16) (.const (.int .u8 124)), some (15, true), false⟩,
        ⟨some 18, .pick (.tmp 15) (.tmp 17) (.const (.bool false)), none, false⟩] [0, 2, 3, 18])
      (.cond (.tmp 18)
      .skip
      (.exit 0)))
      (.seq (.block 1
      (.seq (.ops [
          ⟨some 24, .mov (.tmp 0), none, false⟩,
          ⟨some 25, .nilCheck (.tmp 24), none, false⟩,
          ⟨some 26, .fieldAddr 1 (.tmp 25), none, false⟩,
          ⟨some 27, .load false 1 (.tmp 26), none, false⟩,
          ⟨some 28, .bin .add (.tmp 27) (.const (.int .i64 1)), none, false⟩,
          ⟨some 29, .nilCheck (.tmp 24), none, false⟩,
          ⟨some 30, .fieldAddr 1 (.tmp 29), none, false⟩,
          ⟨none, .store 1 (.tmp 30) (.tmp 28), none, false⟩] [0, 2, 3])
        (.ops [
          ⟨some 31, .mov (.tmp 3), none, false⟩,
          ⟨some 32, .mov (.tmp 0), none, false⟩,
          ⟨some 33, .call 161 [(.tmp 32)], none, false⟩,
          ⟨some 34, .buildSlice true 216 6 1 [.int .i64 0, .int .u64 0, .int .u64 0, .int .u64 0, .int .u64 0, .nilSlice] [(0, (.tmp 33))], none, false⟩,
          ⟨some 35, .append false 216 6 64 (.tmp 31) (.tmp 34), none, false⟩,
          ⟨some 3, .mov (.tmp 35), none, false⟩] [0, 2, 3])))
      (.ops [
        ⟨some 20, .mov (.tmp 0), none, false⟩,
        ⟨some 21, .call 162 [(.tmp 20)], none, false⟩,
        ⟨some 19, .mov (.tmp 21), none, false⟩,
        ⟨some 22, .extract (.tmp 19) 0, none, false⟩,
        ⟨some 23, .extract (.tmp 19) 1, none, false⟩,
        ⟨some 4, .mov (.tmp 22), none, false⟩,
        ⟨some 5, .mov (.tmp 23), none, false⟩] [0, 2, 3, 4, 5]))))))
  (.seq (.seq (.ops [
    ⟨some 36, .mov (.tmp 3), none, false⟩,
    ⟨some 37, .len .slice (.tmp 36), none, false⟩,
    ⟨some 38, .bin .eql (.tmp 37) (.const (.int .i64 1)), none, false⟩] [2, 3, 38])
  (.cond (.tmp 38)
  (.seq (.ops [
      ⟨some 39, .mov (.tmp 3), none, false⟩,
      ⟨some 40, .indexAddr 6 (.tmp 39) (.const (.int .i64 0)), none, false⟩,
      ⟨some 41, .load true 6 (.tmp 40), none, false⟩,
      ⟨none, .storeL 6 (.tmp 2) (.tmp 41), none, false⟩] [2])
    .ret)
  .skip))
  (.seq (.ops [
    ⟨some 42, .mov (.tmp 3), none, false⟩,
    ⟨some 43, .build [.int .i64 0, .int .u64 0, .int .u64 0, .int .u64 0, .int .u64 0, .nilSlice] [(0, 1, (.const (.int .i64 3))), (5, 1, (.tmp 42))], none, false⟩,
    ⟨none, .storeL 6 (.tmp 2) (.tmp 43), none, false⟩] [2])
  .ret)))))⟩
/-- (*scribe/parse.parser).builtin$1 -/
def af160 : AFunc := ⟨4, [],
  (.seq (.ops [
    ⟨some 6, .mov (.tmp 0), none, false⟩,
    ⟨some 7, .mov (.tmp 6), none, false⟩,
    ⟨some 8, .load false 1 (.tmp 2), some (7, true), false⟩,
    ⟨some 9, .nilCheck (.tmp 8), some (7, true), false⟩,
    ⟨some 10, .fieldAddr 4 (.tmp 9), some (7, true), false⟩,
    ⟨some 11, .load false 1 (.tmp 10), some (7, true), false⟩,
    ⟨some 12, .bin .eql (.tmp 11) (.const (.int .i64 0)), some (7, true), false⟩,
    ⟨some 13, .pick (.tmp 7) (.tmp 12) (.const (.bool false)), none, false⟩] [1, 2, 3, 13])
  (.cond (.tmp 13)
  (.opsD [
      (⟨some 14, .load false 1 (.tmp 2), none, false⟩, []),
      (⟨some 15, .load false 1 (.tmp 2), none, false⟩, []),
      (⟨some 16, .mov (.tmp 1), none, false⟩, []),
      (⟨some 17, .fieldAddr 2 (.tmp 3), none, false⟩, []),
      (⟨some 18, .load false 1 (.tmp 17), none, false⟩, []),
      (⟨some 19, .nilCheck (.tmp 14), none, false⟩, []),
      (⟨some 20, .fieldAddr 4 (.tmp 19), none, false⟩, []),
      (⟨none, .store 1 (.tmp 20) (.tmp 16), none, false⟩, [(15, .load false 1 (.tmp 2)), (18, .load false 1 (.tmp 17))]),
      (⟨some 21, .nilCheck (.tmp 15), none, false⟩, []),
      (⟨some 22, .fieldAddr 5 (.tmp 21), none, false⟩, []),
      (⟨none, .store 1 (.tmp 22) (.tmp 18), none, false⟩, [])] [])
  .skip))⟩
/-- (*scribe/regex.reader).cat -/
def af161 : AFunc := ⟨1, [.cellL true 6 2],
  (.seq (.ops [
    ⟨some 2, .allocL 0 [.int .i64 0, .int .u64 0, .int .u64 0, .int .u64 0, .int .u64 0, .nilSlice], none, false⟩] [0, 2])
  (.seq (.ops [
    ⟨some 3, .mov (.const (.slice none 0 0)), none, false⟩] [0, 2, 3])
  (.seq (.block 0
  (.loop [0, 2, 3]
    (.block 1
      (.seq (.seq (.ops [
          ⟨some 11, .mov (.tmp 0), none, false⟩,
          ⟨some 12, .call 162 [(.tmp 11)], none, false⟩,
          ⟨some 10, .mov (.tmp 12), none, false⟩,
          ⟨some 13, .extract (.tmp 10) 0, none, false⟩,
          ⟨some 14, .extract (.tmp 10) 1, none, false⟩,
          ⟨some 4, .mov (.tmp 13), none, false⟩,
          ⟨some 5, .mov (.tmp 14), none, false⟩] [0, 2, 3, 4, 5])
        (.block 2
        (.seq (.seq (.ops [
            ⟨some 16, .mov (.tmp 5), none, false⟩,
            ⟨some 17, .un .not (.tmp 16), none, false⟩,
            ⟨some 15, .mov (.tmp 17), none, false⟩] [0, 2, 3, 4, 15])
          (.cond (.tmp 15)
          .skip
          (.seq (.ops [
              ⟨some 18, .mov (.tmp 4), none, false⟩,
              ⟨some 19, .bin .eql (.tmp 18) (.const (.int .u8 124)), none, false⟩,
              ⟨some 15, .mov (.tmp 19), none, false⟩] [0, 2, 3, 4, 15])
            (.cond (.tmp 15)
            .skip
            (.ops [
                ⟨some 20, .mov (.tmp 4), none, false⟩,
                ⟨some 21, .bin .eql (.tmp 20) (.const (.int .u8 41)), none, false⟩,
                ⟨some 22, .mov (.tmp 21), none, false⟩,
                ⟨some 23, .mov (.tmp 0), some (22, true), false⟩,
                ⟨some 24, .nilCheck (.tmp 23), some (22, true), false⟩,
                ⟨some 25, .fieldAddr 2 (.tmp 24), some (22, true), false⟩,
                ⟨some 26, .load false 1 (.tmp 25), some (22, true), false⟩,
                ⟨some 27, .bin .gtr (.tmp 26) (.const (.int .i64 0)), some (22, true), false⟩,
                ⟨some 28, .pick (.tmp 22) (.tmp 27) (.const (.bool false)), none, false⟩,
                ⟨some 15, .mov (.tmp 28), none, false⟩] [0, 2, 3, 4, 15])))))
          (.cond (.tmp 15)
          (.exit 0)
          (.seq (.ops [
              ⟨some 30, .mov (.tmp 4), none, false⟩,
              ⟨some 31, .bin .eql (.tmp 30) (.const (.int .u8 41)), none, false⟩,
              ⟨some 29, .mov (.tmp 31), none, false⟩] [0, 2, 3, 29])
            (.cond (.tmp 29)
            (.seq (.ops [
                ⟨some 32, .mov (.tmp 0), none, false⟩,
                ⟨some 33, .mov (.tmp 0), none, false⟩,
                ⟨some 34, .nilCheck (.tmp 33), none, false⟩,
                ⟨some 35, .fieldAddr 1 (.tmp 34), none, false⟩,
                ⟨some 36, .load false 1 (.tmp 35), none, false⟩,
                ⟨some 37, .call 163 [(.tmp 32), (.tmp 36), (.const (.int .i64 9))], none, false⟩] [2, 3])
              (.exit 0))
            .skip))))))
        (.seq (.ops [
          ⟨some 38, .mov (.tmp 0), none, false⟩,
          ⟨some 39, .call 164 [(.tmp 38)], none, false⟩,
          ⟨some 6, .allocL 0 [.int .i64 0, .int .u64 0, .int .u64 0, .int .u64 0, .int .u64 0, .nilSlice], none, false⟩,
          ⟨none, .storeL 6 (.tmp 6) (.tmp 39), none, false⟩] [0, 2, 3, 6])
        (.seq (.block 3
        (.loop [0, 2, 3, 6]
          (.block 4
            (.seq (.ops [
                ⟨some 41, .mov (.tmp 0), none, false⟩,
                ⟨some 42, .call 162 [(.tmp 41)], none, false⟩,
                ⟨some 40, .mov (.tmp 42), none, false⟩,
                ⟨some 43, .extract (.tmp 40) 0, none, false⟩,
                ⟨some 44, .extract (.tmp 40) 1, none, false⟩,
                ⟨some 7, .mov (.tmp 43), none, false⟩,
                ⟨some 8, .mov (.tmp 44), none, false⟩] [0, 2, 3, 6, 7, 8])
              (.seq (.ops [
                ⟨some 45, .makeMap, none, false⟩,
                ⟨none, .mapUpdate (.cell .int) (.tmp 45) (.const (.int .u8 42)) (.const (.int .i64 4)), none, false⟩,
                ⟨none, .mapUpdate (.cell .int) (.tmp 45) (.const (.int .u8 43)) (.const (.int .i64 5)), none, false⟩,
                ⟨none, .mapUpdate (.cell .int) (.tmp 45) (.const (.int .u8 63)) (.const (.int .i64 6)), none, false⟩,
                ⟨some 46, .mov (.tmp 45), none, false⟩,
                ⟨some 47, .mov (.tmp 7), none, false⟩,
                ⟨some 48, .lookup (.cell .int) (.int .i64 0) False (.tmp 46) (.tmp 47), none, false⟩,
                ⟨some 9, .mov (.tmp 48), none, false⟩] [0, 2, 3, 6, 8, 9])
              (.seq (.seq (.ops [
                ⟨some 49, .mov (.tmp 8), none, false⟩,
                ⟨some 50, .un .not (.tmp 49), none, false⟩,
                ⟨some 51, .mov (.tmp 50), none, false⟩,
                ⟨some 52, .mov (.tmp 9), some (51, false), false⟩,
                ⟨some 53, .bin .eql (.tmp 52) (.const (.int .i64 0)), some (51, false), false⟩,
                ⟨some 54, .pick (.tmp 51) (.const (.bool true)) (.tmp 53), none, false⟩] [0, 2, 3, 6, 9, 54])
              (.cond (.tmp 54)
              (.exit 3)
              .skip))
              (.seq (.ops [
                ⟨some 55, .mov (.tmp 0), none, false⟩,
                ⟨some 56, .nilCheck (.tmp 55), none, false⟩,
                ⟨some 57, .fieldAddr 1 (.tmp 56), none, false⟩,
                ⟨some 58, .load false 1 (.tmp 57), none, false⟩,
                ⟨some 59, .bin .add (.tmp 58) (.const (.int .i64 1)), none, false⟩,
                ⟨some 60, .nilCheck (.tmp 55), none, false⟩,
                ⟨some 61, .fieldAddr 1 (.tmp 60), none, false⟩,
                ⟨none, .store 1 (.tmp 61) (.tmp 59), none, false⟩] [0, 2, 3, 6, 9])
              (.ops [
                ⟨some 62, .mov (.tmp 9), none, false⟩,
                ⟨some 63, .loadL true 6 (.tmp 6), none, false⟩,
                ⟨some 64, .buildSlice true 216 6 1 [.int .i64 0, .int .u64 0, .int .u64 0, .int .u64 0, .int .u64 0, .nilSlice] [(0, (.tmp 63))], none, false⟩,
                ⟨some 65, .build [.int .i64 0, .int .u64 0, .int .u64 0, .int .u64 0, .int .u64 0, .nilSlice] [(0, 1, (.tmp 62)), (5, 1, (.tmp 64))], none, false⟩,
                ⟨none, .storeL 6 (.tmp 6) (.tmp 65), none, false⟩] [0, 2, 3, 6]))))))))
        (.ops [
          ⟨some 66, .mov (.tmp 3), none, false⟩,
          ⟨some 67, .loadL true 6 (.tmp 6), none, false⟩,
          ⟨some 68, .buildSlice true 216 6 1 [.int .i64 0, .int .u64 0, .int .u64 0, .int .u64 0, .int .u64 0, .nilSlice] [(0, (.tmp 67))], none, false⟩,
          ⟨some 69, .append false 216 6 64 (.tmp 66) (.tmp 68), none, false⟩,
          ⟨some 3, .mov (.tmp 69), none, false⟩] [0, 2, 3])))))))
  (.seq (.seq (.ops [
    ⟨some 70, .mov (.tmp 3), none, false⟩,
    ⟨some 71, .len .slice (.tmp 70), none, false⟩] [2, 3, 71])
  (.block 5
  (.seq (.ops [
      ⟨some 73, .bin .eql (.tmp 71) (.const (.int .i64 0)), none, false⟩,
      ⟨some 72, .mov (.tmp 73), none, false⟩] [2, 3, 71, 72])
    (.cond (.tmp 72)
    (.seq (.ops [
        ⟨some 74, .build [.int .i64 0, .int .u64 0, .int .u64 0, .int .u64 0, .int .u64 0, .nilSlice] [], none, false⟩,
        ⟨none, .storeL 6 (.tmp 2) (.tmp 74), none, false⟩] [2])
      .ret)
    (.seq (.ops [
        ⟨some 76, .bin .eql (.tmp 71) (.const (.int .i64 1)), none, false⟩,
        ⟨some 75, .mov (.tmp 76), none, false⟩] [2, 3, 75])
      (.cond (.tmp 75)
      (.seq (.ops [
          ⟨some 77, .mov (.tmp 3), none, false⟩,
          ⟨some 78, .indexAddr 6 (.tmp 77) (.const (.int .i64 0)), none, false⟩,
          ⟨some 79, .load true 6 (.tmp 78), none, false⟩,
          ⟨none, .storeL 6 (.tmp 2) (.tmp 79), none, false⟩] [2])
        .ret)
      .skip))))))
  (.seq (.ops [
    ⟨some 80, .mov (.tmp 3), none, false⟩,
    ⟨some 81, .build [.int .i64 0, .int .u64 0, .int .u64 0, .int .u64 0, .int .u64 0, .nilSlice] [(0, 1, (.const (.int .i64 2))), (5, 1, (.tmp 80))], none, false⟩,
    ⟨none, .storeL 6 (.tmp 2) (.tmp 81), none, false⟩] [2])
  .ret)))))⟩
/-- (*scribe/regex.reader).next -/
def af162 : AFunc := ⟨1, [.tmp 2, .tmp 3],
  (.seq (.ops [
    ⟨some 2, .mov (.const (.int .u8 0)), none, false⟩,
    ⟨some 3, .mov (.const (.bool false)), none, false⟩] [0])
  (.seq (.seq (.opsD [
    (⟨some 4, .mov (.tmp 0), none, false⟩, []),
    (⟨some 5, .nilCheck (.tmp 4), none, false⟩, []),
    (⟨some 6, .fieldAddr 3 (.tmp 5), none, false⟩, []),
    (⟨some 7, .load false 1 (.tmp 6), none, false⟩, []),
    (⟨some 8, .bin .neq (.tmp 7) (.const (.int .i64 0)), none, false⟩, []),
    (⟨some 9, .mov (.tmp 8), none, false⟩, []),
    (⟨some 10, .mov (.tmp 0), some (9, false), false⟩, []),
    (⟨some 11, .nilCheck (.tmp 10), some (9, false), false⟩, []),
    (⟨some 12, .fieldAddr 1 (.tmp 11), some (9, false), false⟩, []),
    (⟨some 13, .load false 1 (.tmp 12), some (9, false), false⟩, []),
    (⟨some 14, .mov (.tmp 0), some (9, false), false⟩, []),
    (⟨some 15, .nilCheck (.tmp 14), some (9, false), false⟩, []),
    (⟨some 16, .fieldAddr 0 (.tmp 15), some (9, false), false⟩, []),
    (⟨some 17, .load false 1 (.tmp 16), some (9, false), false⟩, []),
    (⟨some 18, .len .str (.tmp 17), some (9, false), false⟩, []),
    (⟨some 19, .bin .geq (.tmp 13) (.tmp 18), some (9, false), false⟩, []),
    (⟨some 20, .pick (.tmp 9) (.const (.bool true)) (.tmp 19), none, false⟩, [])] [0, 20])
  (.cond (.tmp 20)
  (.seq (.ops [
      ⟨some 2, .mov (.const (.int .u8 0)), none, false⟩,
      ⟨some 3, .mov (.const (.bool false)), none, false⟩] [2, 3])
    .ret)
  .skip))
  (.seq (.opsD [
    (⟨some 21, .mov (.tmp 0), none, false⟩, []),
    (⟨some 22, .nilCheck (.tmp 21), none, false⟩, []),
    (⟨some 23, .fieldAddr 0 (.tmp 22), none, false⟩, []),
    (⟨some 24, .load false 1 (.tmp 23), none, false⟩, []),
    (⟨some 25, .mov (.tmp 0), none, false⟩, []),
    (⟨some 26, .nilCheck (.tmp 25), none, false⟩, []),
    (⟨some 27, .fieldAddr 1 (.tmp 26), none, false⟩, []),
    (⟨some 28, .load false 1 (.tmp 27), none, false⟩, []),
    (⟨some 29, .indexStr (.tmp 24) (.tmp 28), none, false⟩, []),
    (⟨some 2, .mov (.tmp 29), none, false⟩, []),
    (⟨some 3, .mov (.const (.bool true)), none, false⟩, [])] [2, 3])
  .ret)))⟩
/-- (*scribe/regex.reader).fail -/
def af163 : AFunc := ⟨3, [],
  (.seq (.ops [
    ⟨some 6, .mov (.tmp 0), none, false⟩,
    ⟨some 7, .nilCheck (.tmp 6), none, false⟩,
    ⟨some 8, .fieldAddr 3 (.tmp 7), none, false⟩,
    ⟨some 9, .load false 1 (.tmp 8), none, false⟩,
    ⟨some 10, .bin .eql (.tmp 9) (.const (.int .i64 0)), none, false⟩] [0, 1, 2, 10])
  (.cond (.tmp 10)
  (.ops [
      ⟨some 11, .mov (.tmp 0), none, false⟩,
      ⟨some 12, .mov (.tmp 0), none, false⟩,
      ⟨some 13, .mov (.tmp 2), none, false⟩,
      ⟨some 14, .mov (.tmp 1), none, false⟩,
      ⟨some 15, .nilCheck (.tmp 11), none, false⟩,
      ⟨some 16, .fieldAddr 3 (.tmp 15), none, false⟩,
      ⟨none, .store 1 (.tmp 16) (.tmp 13), none, false⟩,
      ⟨some 17, .nilCheck (.tmp 12), none, false⟩,
      ⟨some 18, .fieldAddr 4 (.tmp 17), none, false⟩,
      ⟨none, .store 1 (.tmp 18) (.tmp 14), none, false⟩] [])
  .skip))⟩
/-- (*scribe/regex.reader).atom -/
def af164 : AFunc := ⟨1, [.cellL true 6 2],
  (.seq (.ops [
    ⟨some 2, .allocL 0 [.int .i64 0, .int .u64 0, .int .u64 0, .int .u64 0, .int .u64 0, .nilSlice], none, false⟩] [0, 2])
  (.seq (.ops [
    ⟨some 10, .mov (.tmp 0), none, false⟩,
    ⟨some 11, .call 162 [(.tmp 10)], none, false⟩,
    ⟨some 9, .mov (.tmp 11), none, false⟩,
    ⟨some 12, .extract (.tmp 9) 0, none, false⟩,
    ⟨some 13, .extract (.tmp 9) 1, none, false⟩,
    ⟨some 3, .mov (.tmp 12), none, false⟩,
    ⟨some 4, .mov (.tmp 13), none, false⟩] [0, 2, 3])
  (.seq (.ops [
    ⟨some 14, .mov (.tmp 0), none, false⟩,
    ⟨some 15, .nilCheck (.tmp 14), none, false⟩,
    ⟨some 16, .fieldAddr 1 (.tmp 15), none, false⟩,
    ⟨some 17, .load false 1 (.tmp 16), none, false⟩,
    ⟨some 18, .bin .add (.tmp 17) (.const (.int .i64 1)), none, false⟩,
    ⟨some 19, .nilCheck (.tmp 14), none, false⟩,
    ⟨some 20, .fieldAddr 1 (.tmp 19), none, false⟩,
    ⟨none, .store 1 (.tmp 20) (.tmp 18), none, false⟩] [0, 2, 3])
  (.seq (.seq (.ops [
    ⟨some 21, .mov (.tmp 3), none, false⟩] [0, 2, 3, 21])
  (.block 0
  (.seq (.ops [
      ⟨some 23, .bin .eql (.tmp 21) (.const (.int .u8 40)), none, false⟩,
      ⟨some 22, .mov (.tmp 23), none, false⟩] [0, 2, 3, 21, 22])
    (.cond (.tmp 22)
    (.seq (.ops [
        ⟨some 24, .mov (.tmp 0), none, false⟩,
        ⟨some 25, .nilCheck (.tmp 24), none, false⟩,
        ⟨some 26, .fieldAddr 1 (.tmp 25), none, false⟩,
        ⟨some 27, .load false 1 (.tmp 26), none, false⟩,
        ⟨some 28, .bin .sub (.tmp 27) (.const (.int .i64 1)), none, false⟩,
        ⟨some 5, .mov (.tmp 28), none, false⟩] [0, 2, 5])
      (.seq (.seq (.ops [
        ⟨some 29, .mov (.tmp 0), none, false⟩,
        ⟨some 30, .nilCheck (.tmp 29), none, false⟩,
        ⟨some 31, .fieldAddr 2 (.tmp 30), none, false⟩,
        ⟨some 32, .load false 1 (.tmp 31), none, false⟩,
        ⟨some 33, .bin .add (.tmp 32) (.const (.int .i64 1)), none, false⟩,
        ⟨some 34, .nilCheck (.tmp 29), none, false⟩,
        ⟨some 35, .fieldAddr 2 (.tmp 34), none, false⟩,
        ⟨none, .store 1 (.tmp 35) (.tmp 33), none, false⟩] [0, 2, 5])
      (.seq (.ops [
        ⟨some 36, .mov (.tmp 0), none, false⟩,
        ⟨some 37, .nilCheck (.tmp 36), none, false⟩,
        ⟨some 38, .fieldAddr 2 (.tmp 37), none, false⟩,
        ⟨some 39, .load false 1 (.tmp 38), none, false⟩,
        ⟨some 40, .bin .gtr (.tmp 39) (.const (.int .i64 20)), none, false⟩] [0, 2, 5, 40])
      (.cond (.tmp 40)
      (.ops [
          ⟨some 41, .mov (.tmp 0), none, false⟩,
          ⟨some 42, .mov (.tmp 5), none, false⟩,
          ⟨some 43, .call 163 [(.tmp 41), (.tmp 42), (.const (.int .i64 14))], none, false⟩] [0, 2, 5])
      .skip)))
      (.seq (.ops [
        ⟨some 44, .mov (.tmp 0), none, false⟩,
        ⟨some 45, .call 159 [(.tmp 44)], none, false⟩,
        ⟨some 6, .allocL 0 [.int .i64 0, .int .u64 0, .int .u64 0, .int .u64 0, .int .u64 0, .nilSlice], none, false⟩,
        ⟨none, .storeL 6 (.tmp 6) (.tmp 45), none, false⟩] [0, 2, 5, 6])
      (.seq (.seq (.ops [
        ⟨some 47, .mov (.tmp 0), none, false⟩,
        ⟨some 48, .call 162 [(.tmp 47)], none, false⟩,
        ⟨some 46, .mov (.tmp 48), none, false⟩,
        ⟨some 49, .extract (.tmp 46) 0, none, false⟩,
        ⟨some 50, .extract (.tmp 46) 1, none, false⟩,
        ⟨some 7, .mov (.tmp 49), none, false⟩,
        ⟨some 8, .mov (.tmp 50), none, false⟩] [0, 2, 5, 6, 7, 8])
      (.seq (.ops [
        ⟨some 51, .mov (.tmp 8), none, false⟩,
        ⟨some 52, .un .not (.tmp 51), none, false⟩,
        ⟨some 53, .mov (.tmp 52), none, false⟩,
        ⟨some 54, .mov (.tmp 7), some (53, false), false⟩,
        ⟨some 55, .bin .neq (.tmp 54) (.const (.int .u8 41)), some (53, false), false⟩,
        ⟨some 56, .pick (.tmp 53) (.const (.bool true)) (.tmp 55), none, false⟩] [0, 2, 5, 6, 56])
      (.cond (.tmp 56)
      (.ops [
          ⟨some 57, .mov (.tmp 0), none, false⟩,
          ⟨some 58, .mov (.tmp 5), none, false⟩,
          ⟨some 59, .call 163 [(.tmp 57), (.tmp 58), (.const (.int .i64 9))], none, false⟩] [0, 2, 6])
      .skip)))
      (.seq (.ops [
        ⟨some 60, .mov (.tmp 0), none, false⟩,
        ⟨some 61, .nilCheck (.tmp 60), none, false⟩,
        ⟨some 62, .fieldAddr 1 (.tmp 61), none, false⟩,
        ⟨some 63, .load false 1 (.tmp 62), none, false⟩,
        ⟨some 64, .bin .add (.tmp 63) (.const (.int .i64 1)), none, false⟩,
        ⟨some 65, .nilCheck (.tmp 60), none, false⟩,
        ⟨some 66, .fieldAddr 1 (.tmp 65), none, false⟩,
        ⟨none, .store 1 (.tmp 66) (.tmp 64), none, false⟩] [0, 2, 6])
      (.seq (.ops [
        ⟨some 67, .mov (.tmp 0), none, false⟩,
        ⟨some 68, .nilCheck (.tmp 67), none, false⟩,
        ⟨some 69, .fieldAddr 2 (.tmp 68), none, false⟩,
        ⟨some 70, .load false 1 (.tmp 69), none, false⟩,
        ⟨some 71, .bin .sub (.tmp 70) (.const (.int .i64 1)), none, false⟩,
        ⟨some 72, .nilCheck (.tmp 67), none, false⟩,
        ⟨some 73, .fieldAddr 2 (.tmp 72), none, false⟩,
        ⟨none, .store 1 (.tmp 73) (.tmp 71), none, false⟩] [2, 6])
      (.seq (.ops [
        ⟨some 74, .loadL true 6 (.tmp 6), none, false⟩,
        ⟨none, .storeL 6 (.tmp 2) (.tmp 74), none, false⟩] [2])
      .ret)))))))
    (.seq (.ops [
        ⟨some 76, .bin .eql (.tmp 21) (.const (.int .u8 91)), none, false⟩,
        ⟨some 75, .mov (.tmp 76), none, false⟩] [0, 2, 3, 21, 75])
      (.cond (.tmp 75)
      (.seq (.ops [
          ⟨some 77, .mov (.tmp 0), none, false⟩,
          ⟨some 78, .call 165 [(.tmp 77)], none, false⟩,
          ⟨some 79, .build [.int .i64 0, .int .u64 0, .int .u64 0, .int .u64 0, .int .u64 0, .nilSlice] [(0, 1, (.const (.int .i64 1))), (1, 4, (.tmp 78))], none, false⟩,
          ⟨none, .storeL 6 (.tmp 2) (.tmp 79), none, false⟩] [2])
        .ret)
      (.seq (.ops [
          ⟨some 81, .bin .eql (.tmp 21) (.const (.int .u8 46)), none, false⟩,
          ⟨some 80, .mov (.tmp 81), none, false⟩] [0, 2, 3, 21, 80])
        (.cond (.tmp 80)
        (.seq (.ops [
            ⟨some 82, .build [.int .u64 0, .int .u64 0, .int .u64 0, .int .u64 0] [], none, false⟩,
            ⟨some 83, .call 166 [(.tmp 82)], none, false⟩,
            ⟨some 84, .build [.int .i64 0, .int .u64 0, .int .u64 0, .int .u64 0, .int .u64 0, .nilSlice] [(0, 1, (.const (.int .i64 1))), (1, 4, (.tmp 83))], none, false⟩,
            ⟨none, .storeL 6 (.tmp 2) (.tmp 84), none, false⟩] [2])
          .ret)
        (.seq (.ops [
            ⟨some 86, .bin .eql (.tmp 21) (.const (.int .u8 94)), none, false⟩,
            ⟨some 85, .mov (.tmp 86), none, false⟩] [0, 2, 3, 21, 85])
          (.cond (.tmp 85)
          (.seq (.ops [
              ⟨some 87, .build [.int .i64 0, .int .u64 0, .int .u64 0, .int .u64 0, .int .u64 0, .nilSlice] [(0, 1, (.const (.int .i64 7)))], none, false⟩,
              ⟨none, .storeL 6 (.tmp 2) (.tmp 87), none, false⟩] [2])
            .ret)
          (.seq (.ops [
              ⟨some 89, .bin .eql (.tmp 21) (.const (.int .u8 36)), none, false⟩,
              ⟨some 88, .mov (.tmp 89), none, false⟩] [0, 2, 3, 21, 88])
            (.cond (.tmp 88)
            (.seq (.ops [
                ⟨some 90, .build [.int .i64 0, .int .u64 0, .int .u64 0, .int .u64 0, .int .u64 0, .nilSlice] [(0, 1, (.const (.int .i64 8)))], none, false⟩,
                ⟨none, .storeL 6 (.tmp 2) (.tmp 90), none, false⟩] [2])
              .ret)
            (.seq (.seq (.ops [
                ⟨some 92, .bin .eql (.tmp 21) (.const (.int .u8 42)), none, false⟩,
                ⟨some 91, .mov (.tmp 92), none, false⟩] [0, 2, 3, 21, 91])
              (.cond (.tmp 91)
              .skip
              (.seq (.ops [
                  ⟨some 93, .bin .eql (.tmp 21) (.const (.int .u8 43)), none, false⟩,
                  ⟨some 91, .mov (.tmp 93), none, false⟩] [0, 2, 3, 21, 91])
                (.cond (.tmp 91)
                .skip
                (.ops [
                    ⟨some 94, .bin .eql (.tmp 21) (.const (.int .u8 63)), none, false⟩,
                    ⟨some 91, .mov (.tmp 94), none, false⟩] [0, 2, 3, 21, 91])))))
              (.cond (.tmp 91)
              (.ops [
                  ⟨some 95, .mov (.tmp 0), none, false⟩,
                  ⟨some 96, .mov (.tmp 0), none, false⟩,
                  ⟨some 97, .nilCheck (.tmp 96), none, false⟩,
                  ⟨some 98, .fieldAddr 1 (.tmp 97), none, false⟩,
                  ⟨some 99, .load false 1 (.tmp 98), none, false⟩,
                  ⟨some 100, .bin .sub (.tmp 99) (.const (.int .i64 1)), none, false⟩,
                  ⟨some 101, .call 163 [(.tmp 95), (.tmp 100), (.const (.int .i64 9))], none, false⟩] [2, 3])
              (.seq (.ops [
                  ⟨some 103, .bin .eql (.tmp 21) (.const (.int .u8 92)), none, false⟩,
                  ⟨some 102, .mov (.tmp 103), none, false⟩] [0, 2, 3, 102])
                (.cond (.tmp 102)
                (.ops [
                    ⟨some 104, .mov (.tmp 0), none, false⟩,
                    ⟨some 105, .call 167 [(.tmp 104)], none, false⟩,
                    ⟨some 3, .mov (.tmp 105), none, false⟩] [2, 3])
                .skip))))))))))))))))
  (.seq (.ops [
    ⟨some 106, .build [.int .u64 0, .int .u64 0, .int .u64 0, .int .u64 0] [], none, false⟩,
    ⟨some 107, .mov (.tmp 3), none, false⟩,
    ⟨some 108, .call 168 [(.tmp 106), (.tmp 107)], none, false⟩,
    ⟨some 109, .build [.int .i64 0, .int .u64 0, .int .u64 0, .int .u64 0, .int .u64 0, .nilSlice] [(0, 1, (.const (.int .i64 1))), (1, 4, (.tmp 108))], none, false⟩,
    ⟨none, .storeL 6 (.tmp 2) (.tmp 109), none, false⟩] [2])
  .ret)))))⟩
/-- (*scribe/regex.reader).set -/
def af165 : AFunc := ⟨1, [.cellL true 4 2],
  (.seq (.ops [
    ⟨some 2, .allocL 0 [.int .u64 0, .int .u64 0, .int .u64 0, .int .u64 0], none, false⟩] [0, 2])
  (.seq (.ops [
    ⟨some 13, .mov (.tmp 0), none, false⟩,
    ⟨some 14, .nilCheck (.tmp 13), none, false⟩,
    ⟨some 15, .fieldAddr 1 (.tmp 14), none, false⟩,
    ⟨some 16, .load false 1 (.tmp 15), none, false⟩,
    ⟨some 17, .bin .sub (.tmp 16) (.const (.int .i64 1)), none, false⟩,
    ⟨some 3, .mov (.tmp 17), none, false⟩] [0, 2, 3])
  (.seq (.ops [
    ⟨some 4, .allocL 0 [.int .u64 0, .int .u64 0, .int .u64 0, .int .u64 0], none, false⟩] [0, 2, 3, 4])
  (.seq (.ops [
    ⟨some 19, .mov (.tmp 0), none, false⟩,
    ⟨some 20, .call 162 [(.tmp 19)], none, false⟩,
    ⟨some 18, .mov (.tmp 20), none, false⟩,
    ⟨some 21, .extract (.tmp 18) 0, none, false⟩,
    ⟨some 22, .extract (.tmp 18) 1, none, false⟩,
    ⟨some 5, .mov (.tmp 21), none, false⟩,
    ⟨some 6, .mov (.tmp 22), none, false⟩] [0, 2, 3, 4, 5])
  (.seq (.ops [
    ⟨some 23, .mov (.tmp 5), none, false⟩,
    ⟨some 24, .bin .eql (.tmp 23) (.const (.int .u8 94)), none, false⟩,
    ⟨some 7, .mov (.tmp 24), none, false⟩] [0, 2, 3, 4, 7])
  (.seq (.seq (.ops [
    ⟨some 25, .mov (.tmp 7), none, false⟩] [0, 2, 3, 4, 7, 25])
  (.cond (.tmp 25)
  (.ops [
      ⟨some 26, .mov (.tmp 0), none, false⟩,
      ⟨some 27, .nilCheck (.tmp 26), none, false⟩,
      ⟨some 28, .fieldAddr 1 (.tmp 27), none, false⟩,
      ⟨some 29, .load false 1 (.tmp 28), none, false⟩,
      ⟨some 30, .bin .add (.tmp 29) (.const (.int .i64 1)), none, false⟩,
      ⟨some 31, .nilCheck (.tmp 26), none, false⟩,
      ⟨some 32, .fieldAddr 1 (.tmp 31), none, false⟩,
      ⟨none, .store 1 (.tmp 32) (.tmp 30), none, false⟩] [0, 2, 3, 4, 7])
  .skip))
  (.seq (.seq (.ops [
    ⟨some 8, .mov (.const (.bool true)), none, false⟩] [0, 2, 3, 4, 7, 8])
  (.block 0
  (.loop [0, 2, 3, 4, 7, 8]
    (.seq (.block 1
      (.seq (.ops [
          ⟨some 34, .mov (.tmp 0), none, false⟩,
          ⟨some 35, .call 162 [(.tmp 34)], none, false⟩,
          ⟨some 33, .mov (.tmp 35), none, false⟩,
          ⟨some 36, .extract (.tmp 33) 0, none, false⟩,
          ⟨some 37, .extract (.tmp 33) 1, none, false⟩,
          ⟨some 9, .mov (.tmp 36), none, false⟩,
          ⟨some 10, .mov (.tmp 37), none, false⟩] [0, 2, 3, 4, 7, 8, 9, 10])
        (.seq (.seq (.ops [
          ⟨some 38, .mov (.tmp 10), none, false⟩,
          ⟨some 39, .un .not (.tmp 38), none, false⟩] [0, 2, 3, 4, 7, 8, 9, 39])
        (.cond (.tmp 39)
        (.seq (.ops [
            ⟨some 40, .mov (.tmp 0), none, false⟩,
            ⟨some 41, .mov (.tmp 3), none, false⟩,
            ⟨some 42, .call 163 [(.tmp 40), (.tmp 41), (.const (.int .i64 9))], none, false⟩] [2, 4, 7])
          (.exit 0))
        .skip))
        (.seq (.ops [
          ⟨some 43, .mov (.tmp 0), none, false⟩,
          ⟨some 44, .nilCheck (.tmp 43), none, false⟩,
          ⟨some 45, .fieldAddr 1 (.tmp 44), none, false⟩,
          ⟨some 46, .load false 1 (.tmp 45), none, false⟩,
          ⟨some 47, .bin .add (.tmp 46) (.const (.int .i64 1)), none, false⟩,
          ⟨some 48, .nilCheck (.tmp 43), none, false⟩,
          ⟨some 49, .fieldAddr 1 (.tmp 48), none, false⟩,
          ⟨none, .store 1 (.tmp 49) (.tmp 47), none, false⟩] [0, 2, 3, 4, 7, 8, 9])
        (.seq (.seq (.ops [
          ⟨some 50, .mov (.tmp 9), none, false⟩,
          ⟨some 51, .bin .eql (.tmp 50) (.const (.int .u8 93)), none, false⟩,
          ⟨some 52, .mov (.tmp 51), none, false⟩,
          ⟨some 53, .mov (.tmp 8), some (52, true), false⟩,
          ⟨some 54, .un .not (.tmp 53), some (52, true), false⟩,
          ⟨some 55, .pick (.tmp 52) (.tmp 54) (.const (.bool false)), none, false⟩] [0, 2, 3, 4, 7, 9, 55])
        (.cond (.tmp 55)
        (.exit 0)
        .skip))
        (.seq (.seq (.ops [
          ⟨some 56, .mov (.tmp 9), none, false⟩,
          ⟨some 57, .bin .eql (.tmp 56) (.const (.int .u8 92)), none, false⟩] [0, 2, 3, 4, 7, 9, 57])
        (.cond (.tmp 57)
        (.ops [
            ⟨some 58, .mov (.tmp 0), none, false⟩,
            ⟨some 59, .call 167 [(.tmp 58)], none, false⟩,
            ⟨some 9, .mov (.tmp 59), none, false⟩] [0, 2, 3, 4, 7, 9])
        .skip))
        (.seq (.ops [
          ⟨some 60, .mov (.tmp 9), none, false⟩,
          ⟨some 11, .mov (.tmp 60), none, false⟩] [0, 2, 3, 4, 7, 9, 11])
        (.seq (.seq (.opsD [
          (⟨some 61, .mov (.tmp 0), none, false⟩, []),
          (⟨some 62, .nilCheck (.tmp 61), none, false⟩, []),
          (⟨some 63, .fieldAddr 1 (.tmp 62), none, false⟩, []),
          (⟨some 64, .load false 1 (.tmp 63), none, false⟩, []),
          (⟨some 65, .bin .add (.tmp 64) (.const (.int .i64 1)), none, false⟩, []),
          (⟨some 66, .mov (.tmp 0), none, false⟩, []),
          (⟨some 67, .nilCheck (.tmp 66), none, false⟩, []),
          (⟨some 68, .fieldAddr 0 (.tmp 67), none, false⟩, []),
          (⟨some 69, .load false 1 (.tmp 68), none, false⟩, []),
          (⟨some 70, .len .str (.tmp 69), none, false⟩, []),
          (⟨some 71, .bin .lss (.tmp 65) (.tmp 70), none, false⟩, []),
          (⟨some 72, .mov (.tmp 71), none, false⟩, []),
          (⟨some 73, .mov (.tmp 0), some (72, true), false⟩, []),
          (⟨some 74, .nilCheck (.tmp 73), some (72, true), false⟩, []),
          (⟨some 75, .fieldAddr 0 (.tmp 74), some (72, true), false⟩, []),
          (⟨some 76, .load false 1 (.tmp 75), some (72, true), false⟩, []),
          (⟨some 77, .mov (.tmp 0), some (72, true), false⟩, []),
          (⟨some 78, .nilCheck (.tmp 77), some (72, true), false⟩, []),
          (⟨some 79, .fieldAddr 1 (.tmp 78), some (72, true), false⟩, []),
          (⟨some 80, .load false 1 (.tmp 79), some (72, true), false⟩, []),
          (⟨some 81, .indexStr (.tmp 76) (.tmp 80), some (72, true), false⟩, []),
          (⟨some 82, .bin .eql (.tmp 81) (.const (.int .u8 45)), some (72, true), false⟩, []),
          (⟨some 83, .pick (.tmp 72) (.tmp 82) (.const (.bool false)), none, false⟩, []),
          (⟨some 84, .mov (.tmp 83), none, false⟩, []),
          (⟨some 85, .mov (.tmp 0), some (84, true), false⟩, []),
          (⟨some 86, .nilCheck (.tmp 85), some (84, true), false⟩, []),
          (⟨some 87, .fieldAddr 0 (.tmp 86), some (84, true), false⟩, []),
          (⟨some 88, .load false 1 (.tmp 87), some (84, true), false⟩, []),
          (⟨some 89, .mov (.tmp 0), some (84, true), false⟩, []),
          (⟨some 90, .nilCheck (.tmp 89), some (84, true), false⟩, []),
          (⟨some 91, .fieldAddr 1 (.tmp 90), some (84, true), false⟩, []),
          (⟨some 92, .load false 1 (.tmp 91), some (84, true), false⟩, []),
          (⟨some 93, .bin .add (.tmp 92) (.const (.int .i64 1)), some (84, true), false⟩, []),
          (⟨some 94, .indexStr (.tmp 88) (.tmp 93), some (84, true), false⟩, []),
          (⟨some 95, .bin .neq (.tmp 94) (.const (.int .u8 93)), some (84, true), false⟩, []),
          (⟨some 96, .pick (.tmp 84) (.tmp 95) (.const (.bool false)), none, false⟩, []),
          (⟨some 97, .mov (.tmp 96), none, false⟩, []),
          (⟨some 98, .mov (.tmp 0), some (97, true), false⟩, []),
          (⟨some 99, .nilCheck (.tmp 98), some (97, true), false⟩, []),
          (⟨some 100, .fieldAddr 3 (.tmp 99), some (97, true), false⟩, []),
          (⟨some 101, .load false 1 (.tmp 100), some (97, true), false⟩, []),
          (⟨some 102, .bin .eql (.tmp 101) (.const (.int .i64 0)), some (97, true), false⟩, []),
          (⟨some 103, .pick (.tmp 97) (.tmp 102) (.const (.bool false)), none, false⟩, [])] [0, 2, 3, 4, 7, 9, 11, 103])
        (.cond (.tmp 103)
        (.seq (.ops [
            ⟨some 104, .mov (.tmp 0), none, false⟩,
            ⟨some 105, .nilCheck (.tmp 104), none, false⟩,
            ⟨some 106, .fieldAddr 1 (.tmp 105), none, false⟩,
            ⟨some 107, .load false 1 (.tmp 106), none, false⟩,
            ⟨some 108, .bin .add (.tmp 107) (.const (.int .i64 2)), none, false⟩,
            ⟨some 109, .nilCheck (.tmp 104), none, false⟩,
            ⟨some 110, .fieldAddr 1 (.tmp 109), none, false⟩,
            ⟨none, .store 1 (.tmp 110) (.tmp 108), none, false⟩] [0, 2, 3, 4, 7, 9])
          (.seq (.seq (.opsD [
            (⟨some 111, .mov (.tmp 0), none, false⟩, []),
            (⟨some 112, .nilCheck (.tmp 111), none, false⟩, []),
            (⟨some 113, .fieldAddr 0 (.tmp 112), none, false⟩, []),
            (⟨some 114, .load false 1 (.tmp 113), none, false⟩, []),
            (⟨some 115, .mov (.tmp 0), none, false⟩, []),
            (⟨some 116, .nilCheck (.tmp 115), none, false⟩, []),
            (⟨some 117, .fieldAddr 1 (.tmp 116), none, false⟩, []),
            (⟨some 118, .load false 1 (.tmp 117), none, false⟩, []),
            (⟨some 119, .bin .sub (.tmp 118) (.const (.int .i64 1)), none, false⟩, []),
            (⟨some 120, .indexStr (.tmp 114) (.tmp 119), none, false⟩, []),
            (⟨some 11, .mov (.tmp 120), none, false⟩, [])] [0, 2, 3, 4, 7, 9, 11])
          (.seq (.ops [
            ⟨some 121, .mov (.tmp 11), none, false⟩,
            ⟨some 122, .bin .eql (.tmp 121) (.const (.int .u8 92)), none, false⟩] [0, 2, 3, 4, 7, 9, 11, 122])
          (.cond (.tmp 122)
          (.ops [
              ⟨some 123, .mov (.tmp 0), none, false⟩,
              ⟨some 124, .call 167 [(.tmp 123)], none, false⟩,
              ⟨some 11, .mov (.tmp 124), none, false⟩] [0, 2, 3, 4, 7, 9, 11])
          .skip)))
          (.seq (.ops [
            ⟨some 125, .mov (.tmp 11), none, false⟩,
            ⟨some 126, .mov (.tmp 9), none, false⟩,
            ⟨some 127, .bin .lss (.tmp 125) (.tmp 126), none, false⟩] [0, 2, 3, 4, 7, 9, 11, 127])
          (.cond (.tmp 127)
          (.ops [
              ⟨some 128, .mov (.tmp 0), none, false⟩,
              ⟨some 129, .mov (.tmp 3), none, false⟩,
              ⟨some 130, .call 163 [(.tmp 128), (.tmp 129), (.const (.int .i64 9))], none, false⟩] [0, 2, 3, 4, 7, 9, 11])
          .skip))))
        .skip))
        (.seq (.ops [
          ⟨some 131, .mov (.tmp 9), none, false⟩,
          ⟨some 132, .convInt .i64 (.tmp 131), none, false⟩,
          ⟨some 12, .mov (.tmp 132), none, false⟩] [0, 2, 3, 4, 7, 11, 12])
        (.block 2
        (.loop [0, 2, 3, 4, 7, 11, 12]
          (.seq (.seq (.ops [
              ⟨some 133, .mov (.tmp 12), none, false⟩,
              ⟨some 134, .mov (.tmp 11), none, false⟩,
              ⟨some 135, .convInt .i64 (.tmp 134), none, false⟩,
              ⟨some 136, .bin .leq (.tmp 133) (.tmp 135), none, false⟩] [0, 2, 3, 4, 7, 11, 12, 136])
            (.cond (.tmp 136)
            .skip
            (.exit 2)))
            (.seq (.block 3
            (.ops [
                ⟨some 139, .loadL true 4 (.tmp 4), none, false⟩,
                ⟨some 140, .mov (.tmp 12), none, false⟩,
                ⟨some 141, .convInt .u8 (.tmp 140), none, false⟩,
                ⟨some 142, .call 168 [(.tmp 139), (.tmp 141)], none, false⟩,
                ⟨none, .storeL 4 (.tmp 4) (.tmp 142), none, false⟩] [0, 2, 3, 4, 7, 11, 12]))
            (.ops [
              ⟨some 137, .mov (.tmp 12), none, false⟩,
              ⟨some 138, .bin .add (.tmp 137) (.const (.int .i64 1)), none, false⟩,
              ⟨some 12, .mov (.tmp 138), none, false⟩] [0, 2, 3, 4, 7, 11, 12]))))))))))))))
      (.ops [
        ⟨some 8, .mov (.const (.bool false)), none, false⟩] [0, 2, 3, 4, 7, 8])))))
  (.seq (.seq (.ops [
    ⟨some 143, .mov (.tmp 7), none, false⟩] [2, 4, 143])
  (.cond (.tmp 143)
  (.ops [
      ⟨some 144, .loadL true 4 (.tmp 4), none, false⟩,
      ⟨some 145, .call 166 [(.tmp 144)], none, false⟩,
      ⟨none, .storeL 4 (.tmp 4) (.tmp 145), none, false⟩] [2, 4])
  .skip))
  (.seq (.ops [
    ⟨some 146, .loadL true 4 (.tmp 4), none, false⟩,
    ⟨none, .storeL 4 (.tmp 2) (.tmp 146), none, false⟩] [2])
  .ret)))))))))⟩
/-- (scribe/regex.Set).Not -/
def af166 : AFunc := ⟨1, [.cellL true 4 2],
  (.seq (.ops [
    ⟨some 1, .boxL 0 4 (.tmp 0), none, false⟩,
    ⟨some 2, .allocL 1 [.int .u64 0, .int .u64 0, .int .u64 0, .int .u64 0], none, false⟩] [1, 2])
  (.seq (.ops [
    ⟨some 3, .idxL 1 4 (.tmp 1) (.const (.int .i64 0)), none, false⟩,
    ⟨some 4, .loadL false 1 (.tmp 3), none, false⟩,
    ⟨some 5, .un .xor (.tmp 4), none, false⟩,
    ⟨some 6, .idxL 1 4 (.tmp 1) (.const (.int .i64 1)), none, false⟩,
    ⟨some 7, .loadL false 1 (.tmp 6), none, false⟩,
    ⟨some 8, .un .xor (.tmp 7), none, false⟩,
    ⟨some 9, .idxL 1 4 (.tmp 1) (.const (.int .i64 2)), none, false⟩,
    ⟨some 10, .loadL false 1 (.tmp 9), none, false⟩,
    ⟨some 11, .un .xor (.tmp 10), none, false⟩,
    ⟨some 12, .idxL 1 4 (.tmp 1) (.const (.int .i64 3)), none, false⟩,
    ⟨some 13, .loadL false 1 (.tmp 12), none, false⟩,
    ⟨some 14, .un .xor (.tmp 13), none, false⟩,
    ⟨some 15, .build [.int .u64 0, .int .u64 0, .int .u64 0, .int .u64 0] [(0, 1, (.tmp 5)), (1, 1, (.tmp 8)), (2, 1, (.tmp 11)), (3, 1, (.tmp 14))], none, false⟩,
    ⟨none, .storeL 4 (.tmp 2) (.tmp 15), none, false⟩] [2])
  .ret))⟩
/-- (*scribe/regex.reader).escape -/
def af167 : AFunc := ⟨1, [.tmp 2],
  (.seq (.ops [
    ⟨some 2, .mov (.const (.int .u8 0)), none, false⟩] [0])
  (.seq (.ops [
    ⟨some 6, .mov (.tmp 0), none, false⟩,
    ⟨some 7, .nilCheck (.tmp 6), none, false⟩,
    ⟨some 8, .fieldAddr 1 (.tmp 7), none, false⟩,
    ⟨some 9, .load false 1 (.tmp 8), none, false⟩,
    ⟨some 10, .bin .sub (.tmp 9) (.const (.int .i64 1)), none, false⟩,
    ⟨some 3, .mov (.tmp 10), none, false⟩] [0, 3])
  (.seq (.ops [
    ⟨some 12, .mov (.tmp 0), none, false⟩,
    ⟨some 13, .call 162 [(.tmp 12)], none, false⟩,
    ⟨some 11, .mov (.tmp 13), none, false⟩,
    ⟨some 14, .extract (.tmp 11) 0, none, false⟩,
    ⟨some 15, .extract (.tmp 11) 1, none, false⟩,
    ⟨some 4, .mov (.tmp 14), none, false⟩,
    ⟨some 5, .mov (.tmp 15), none, false⟩] [0, 3, 4, 5])
  (.seq (.ops [
    ⟨some 16, .mov (.tmp 0), none, false⟩,
    ⟨some 17, .nilCheck (.tmp 16), none, false⟩,
    ⟨some 18, .fieldAddr 1 (.tmp 17), none, false⟩,
    ⟨some 19, .load false 1 (.tmp 18), none, false⟩,
    ⟨some 20, .bin .add (.tmp 19) (.const (.int .i64 1)), none, false⟩,
    ⟨some 21, .nilCheck (.tmp 16), none, false⟩,
    ⟨some 22, .fieldAddr 1 (.tmp 21), none, false⟩,
    ⟨none, .store 1 (.tmp 22) (.tmp 20), none, false⟩] [0, 3, 4, 5])
  (.seq (.block 0
  (.seq (.ops [
      ⟨some 24, .mov (.tmp 5), none, false⟩,
      ⟨some 25, .un .not (.tmp 24), none, false⟩,
      ⟨some 23, .mov (.tmp 25), none, false⟩] [0, 3, 4, 23])
    (.cond (.tmp 23)
    (.ops [
        ⟨some 26, .mov (.tmp 0), none, false⟩,
        ⟨some 27, .mov (.tmp 3), none, false⟩,
        ⟨some 28, .call 163 [(.tmp 26), (.tmp 27), (.const (.int .i64 9))], none, false⟩] [4])
    (.seq (.ops [
        ⟨some 30, .mov (.tmp 4), none, false⟩,
        ⟨some 31, .bin .eql (.tmp 30) (.const (.int .u8 110)), none, false⟩,
        ⟨some 29, .mov (.tmp 31), none, false⟩] [0, 3, 4, 29])
      (.cond (.tmp 29)
      (.seq (.ops [
          ⟨some 2, .mov (.const (.int .u8 10)), none, false⟩] [2])
        .ret)
      (.seq (.ops [
          ⟨some 33, .mov (.tmp 4), none, false⟩,
          ⟨some 34, .bin .eql (.tmp 33) (.const (.int .u8 116)), none, false⟩,
          ⟨some 32, .mov (.tmp 34), none, false⟩] [0, 3, 4, 32])
        (.cond (.tmp 32)
        (.seq (.ops [
            ⟨some 2, .mov (.const (.int .u8 9)), none, false⟩] [2])
          .ret)
        (.seq (.seq (.ops [
            ⟨some 36, .mov (.tmp 4), none, false⟩,
            ⟨some 37, .bin .geq (.tmp 36) (.const (.int .u8 48)), none, false⟩,
            ⟨some 38, .mov (.tmp 37), none, false⟩,
            ⟨some 39, .mov (.tmp 4), some (38, true), false⟩,
            ⟨some 40, .bin .leq (.tmp 39) (.const (.int .u8 57)), some (38, true), false⟩,
            ⟨some 41, .pick (.tmp 38) (.tmp 40) (.const (.bool false)), none, false⟩,
            ⟨some 35, .mov (.tmp 41), none, false⟩] [0, 3, 4, 35])
          (.cond (.tmp 35)
          .skip
          (.seq (.ops [
              ⟨some 42, .mov (.tmp 4), none, false⟩,
              ⟨some 43, .bin .geq (.tmp 42) (.const (.int .u8 97)), none, false⟩,
              ⟨some 44, .mov (.tmp 43), none, false⟩,
              ⟨some 45, .mov (.tmp 4), some (44, true), false⟩,
              ⟨some 46, .bin .leq (.tmp 45) (.const (.int .u8 122)), some (44, true), false⟩,
              ⟨some 47, .pick (.tmp 44) (.tmp 46) (.const (.bool false)), none, false⟩,
              ⟨some 35, .mov (.tmp 47), none, false⟩] [0, 3, 4, 35])
            (.cond (.tmp 35)
            .skip
            (.seq (.ops [
                ⟨some 48, .mov (.tmp 4), none, false⟩,
                ⟨some 49, .bin .geq (.tmp 48) (.const (.int .u8 65)), none, false⟩,
                ⟨some 50, .mov (.tmp 49), none, false⟩,
                ⟨some 51, .mov (.tmp 4), some (50, true), false⟩,
                ⟨some 52, .bin .leq (.tmp 51) (.const (.int .u8 90)), some (50, true), false⟩,
                ⟨some 53, .pick (.tmp 50) (.tmp 52) (.const (.bool false)), none, false⟩,
                ⟨some 35, .mov (.tmp 53), none, false⟩] [0, 3, 4, 35])
              (.cond (.tmp 35)
              .skip
              (.seq (.ops [
                  ⟨some 54, .mov (.tmp 4), none, false⟩,
                  ⟨some 55, .bin .lss (.tmp 54) (.const (.int .u8 32)), none, false⟩,
                  ⟨some 35, .mov (.tmp 55), none, false⟩] [0, 3, 4, 35])
                (.cond (.tmp 35)
                .skip
                (.ops [
                    ⟨some 56, .mov (.tmp 4), none, false⟩,
                    ⟨some 57, .bin .gtr (.tmp 56) (.const (.int .u8 126)), none, false⟩,
                    ⟨some 35, .mov (.tmp 57), none, false⟩] [0, 3, 4, 35])))))))))
          (.cond (.tmp 35)
          (.ops [
              ⟨some 58, .mov (.tmp 0), none, false⟩,
              ⟨some 59, .mov (.tmp 3), none, false⟩,
              ⟨some 60, .call 163 [(.tmp 58), (.tmp 59), (.const (.int .i64 9))], none, false⟩] [4])
          .skip)))))))))
  (.seq (.ops [
    ⟨some 61, .mov (.tmp 4), none, false⟩,
    ⟨some 2, .mov (.tmp 61), none, false⟩] [2])
  .ret))))))⟩
/-- (scribe/regex.Set).With -/
def af168 : AFunc := ⟨2, [.cellL true 4 4],
  (.seq (.ops [
    ⟨some 2, .boxL 0 4 (.tmp 0), none, false⟩,
    ⟨some 4, .allocL 1 [.int .u64 0, .int .u64 0, .int .u64 0, .int .u64 0], none, false⟩] [1, 2, 4])
  (.seq (.ops [
    ⟨some 5, .mov (.tmp 1), none, false⟩,
    ⟨some 6, .bin .shr (.tmp 5) (.const (.int .u64 6)), none, false⟩,
    ⟨some 7, .idxL 1 4 (.tmp 2) (.tmp 6), none, false⟩,
    ⟨some 8, .loadL false 1 (.tmp 7), none, false⟩,
    ⟨some 9, .mov (.tmp 1), none, false⟩,
    ⟨some 10, .bin .and (.tmp 9) (.const (.int .u8 63)), none, false⟩,
    ⟨some 11, .bin .shl (.const (.int .u64 1)) (.tmp 10), none, false⟩,
    ⟨some 12, .bin .or (.tmp 8) (.tmp 11), none, false⟩,
    ⟨some 13, .idxL 1 4 (.tmp 2) (.tmp 6), none, false⟩,
    ⟨none, .storeL 1 (.tmp 13) (.tmp 12), none, false⟩] [2, 4])
  (.seq (.ops [
    ⟨some 14, .loadL true 4 (.tmp 2), none, false⟩,
    ⟨none, .storeL 4 (.tmp 4) (.tmp 14), none, false⟩] [4])
  .ret)))⟩
end Go.Proofs.YtjbkcboklccmeaaGreatDoor.Abs.R2
