/- Closed facts on the types of the translation (laid by a program of mine). -/
import Derived.Test.YtdcomhdadnhpnaaM8
import Derived.Test.YtdcomhdadnhpnaaProg
set_option linter.unusedSimpArgs false
set_option linter.unusedVariables false
namespace Go.Proofs.Ytdcomhdadnhpnaa
open Go Go.Am
theorem hmix : Try.prog.follows .mixedOrders = true := by kernel_rfl
theorem sz2 : szOf Try.prog 2 = some 1 := by kernel_rfl
theorem ze2 : zeroOf Try.prog 2 = some (.int .i64 0) := by kernel_rfl
theorem by2 : byOf Try.prog 2 = some 8 := by kernel_rfl
theorem ag2 : aggB Try.prog 2 = some false := by kernel_rfl
theorem sz3 : szOf Try.prog 3 = some 1 := by kernel_rfl
theorem ze3 : zeroOf Try.prog 3 = some (.int .i64 0) := by kernel_rfl
theorem by3 : byOf Try.prog 3 = some 8 := by kernel_rfl
theorem ag3 : aggB Try.prog 3 = some false := by kernel_rfl
theorem sz4 : szOf Try.prog 4 = some 1 := by kernel_rfl
theorem ze4 : zeroOf Try.prog 4 = some (.bool false) := by kernel_rfl
theorem by4 : byOf Try.prog 4 = some 1 := by kernel_rfl
theorem ag4 : aggB Try.prog 4 = some false := by kernel_rfl
theorem sz5 : szOf Try.prog 5 = some 1 := by kernel_rfl
theorem ze5 : zeroOf Try.prog 5 = some (.int .u8 0) := by kernel_rfl
theorem by5 : byOf Try.prog 5 = some 1 := by kernel_rfl
theorem ag5 : aggB Try.prog 5 = some false := by kernel_rfl
theorem sz6 : szOf Try.prog 6 = some 1 := by kernel_rfl
theorem ze6 : zeroOf Try.prog 6 = some (.int .u8 0) := by kernel_rfl
theorem by6 : byOf Try.prog 6 = some 1 := by kernel_rfl
theorem ag6 : aggB Try.prog 6 = some false := by kernel_rfl
theorem sz7 : szOf Try.prog 7 = some 4 := by kernel_rfl
theorem ze7 : zeroOf Try.prog 7 = some (.agg #[(.int .i64 0), (.int .i64 0), (.bool false), (.int .u8 0)]) := by kernel_rfl
theorem by7 : byOf Try.prog 7 = some 24 := by kernel_rfl
theorem ag7 : aggB Try.prog 7 = some true := by kernel_rfl
theorem fo7_0 : fieldOff Try.prog 7 0 = some (0, 2) := by kernel_rfl
theorem fo7_1 : fieldOff Try.prog 7 1 = some (1, 3) := by kernel_rfl
theorem fo7_2 : fieldOff Try.prog 7 2 = some (2, 4) := by kernel_rfl
theorem fo7_3 : fieldOff Try.prog 7 3 = some (3, 6) := by kernel_rfl
theorem bu7 (parts : List (Nat × AV)) : aBuild Try.prog 7 parts = (aFill (fun i => [(0, 1), (1, 1), (2, 1), (3, 1)][i]?) [.sc (.int .i64 0), .sc (.int .i64 0), .sc (.bool false), .sc (.int .u8 0)] parts).map .agg := by kernel_rfl
theorem sz8 : szOf Try.prog 8 = some 4 := by kernel_rfl
theorem ze8 : zeroOf Try.prog 8 = some (.agg #[(.int .i64 0), (.int .i64 0), (.bool false), (.int .u8 0)]) := by kernel_rfl
theorem by8 : byOf Try.prog 8 = some 24 := by kernel_rfl
theorem ag8 : aggB Try.prog 8 = some true := by kernel_rfl
theorem fo8_0 : fieldOff Try.prog 8 0 = some (0, 2) := by kernel_rfl
theorem fo8_1 : fieldOff Try.prog 8 1 = some (1, 3) := by kernel_rfl
theorem fo8_2 : fieldOff Try.prog 8 2 = some (2, 4) := by kernel_rfl
theorem fo8_3 : fieldOff Try.prog 8 3 = some (3, 6) := by kernel_rfl
theorem bu8 (parts : List (Nat × AV)) : aBuild Try.prog 8 parts = (aFill (fun i => [(0, 1), (1, 1), (2, 1), (3, 1)][i]?) [.sc (.int .i64 0), .sc (.int .i64 0), .sc (.bool false), .sc (.int .u8 0)] parts).map .agg := by kernel_rfl
theorem sz9 : szOf Try.prog 9 = some 1 := by kernel_rfl
theorem ze9 : zeroOf Try.prog 9 = some (.string (ByteArray.mk #[])) := by kernel_rfl
theorem by9 : byOf Try.prog 9 = some 16 := by kernel_rfl
theorem ag9 : aggB Try.prog 9 = some false := by kernel_rfl
theorem sz10 : szOf Try.prog 10 = some 1 := by kernel_rfl
theorem ze10 : zeroOf Try.prog 10 = some (.string (ByteArray.mk #[])) := by kernel_rfl
theorem by10 : byOf Try.prog 10 = some 16 := by kernel_rfl
theorem ag10 : aggB Try.prog 10 = some false := by kernel_rfl
theorem sz11 : szOf Try.prog 11 = some 1 := by kernel_rfl
theorem ze11 : zeroOf Try.prog 11 = some (.string (ByteArray.mk #[])) := by kernel_rfl
theorem by11 : byOf Try.prog 11 = some 16 := by kernel_rfl
theorem ag11 : aggB Try.prog 11 = some false := by kernel_rfl
theorem sz12 : szOf Try.prog 12 = some 1 := by kernel_rfl
theorem ze12 : zeroOf Try.prog 12 = some (.int .u64 0) := by kernel_rfl
theorem by12 : byOf Try.prog 12 = some 8 := by kernel_rfl
theorem ag12 : aggB Try.prog 12 = some false := by kernel_rfl
theorem sz13 : szOf Try.prog 13 = some 2 := by kernel_rfl
theorem ze13 : zeroOf Try.prog 13 = some (.agg #[(.string (ByteArray.mk #[])), (.int .u64 0)]) := by kernel_rfl
theorem by13 : byOf Try.prog 13 = some 24 := by kernel_rfl
theorem ag13 : aggB Try.prog 13 = some true := by kernel_rfl
theorem fo13_0 : fieldOff Try.prog 13 0 = some (0, 9) := by kernel_rfl
theorem fo13_1 : fieldOff Try.prog 13 1 = some (1, 12) := by kernel_rfl
theorem bu13 (parts : List (Nat × AV)) : aBuild Try.prog 13 parts = (aFill (fun i => [(0, 1), (1, 1)][i]?) [.sc (.string (ByteArray.mk #[])), .sc (.int .u64 0)] parts).map .agg := by kernel_rfl
theorem sz14 : szOf Try.prog 14 = some 2 := by kernel_rfl
theorem ze14 : zeroOf Try.prog 14 = some (.agg #[(.string (ByteArray.mk #[])), (.int .u64 0)]) := by kernel_rfl
theorem by14 : byOf Try.prog 14 = some 24 := by kernel_rfl
theorem ag14 : aggB Try.prog 14 = some true := by kernel_rfl
theorem fo14_0 : fieldOff Try.prog 14 0 = some (0, 9) := by kernel_rfl
theorem fo14_1 : fieldOff Try.prog 14 1 = some (1, 12) := by kernel_rfl
theorem bu14 (parts : List (Nat × AV)) : aBuild Try.prog 14 parts = (aFill (fun i => [(0, 1), (1, 1)][i]?) [.sc (.string (ByteArray.mk #[])), .sc (.int .u64 0)] parts).map .agg := by kernel_rfl
theorem sz15 : szOf Try.prog 15 = some 1 := by kernel_rfl
theorem ze15 : zeroOf Try.prog 15 = some (.pointer none) := by kernel_rfl
theorem by15 : byOf Try.prog 15 = some 8 := by kernel_rfl
theorem ag15 : aggB Try.prog 15 = some false := by kernel_rfl
theorem sz16 : szOf Try.prog 16 = some 1 := by kernel_rfl
theorem ze16 : zeroOf Try.prog 16 = some (.pointer none) := by kernel_rfl
theorem by16 : byOf Try.prog 16 = some 8 := by kernel_rfl
theorem ag16 : aggB Try.prog 16 = some false := by kernel_rfl
theorem sz17 : szOf Try.prog 17 = some 1 := by kernel_rfl
theorem ze17 : zeroOf Try.prog 17 = some (.pointer none) := by kernel_rfl
theorem by17 : byOf Try.prog 17 = some 8 := by kernel_rfl
theorem ag17 : aggB Try.prog 17 = some false := by kernel_rfl
theorem sz18 : szOf Try.prog 18 = some 1 := by kernel_rfl
theorem ze18 : zeroOf Try.prog 18 = some (.agg #[(.pointer none)]) := by kernel_rfl
theorem by18 : byOf Try.prog 18 = some 8 := by kernel_rfl
theorem ag18 : aggB Try.prog 18 = some true := by kernel_rfl
theorem fo18_0 : fieldOff Try.prog 18 0 = some (0, 17) := by kernel_rfl
theorem bu18 (parts : List (Nat × AV)) : aBuild Try.prog 18 parts = (aFill (fun i => [(0, 1)][i]?) [.sc (.pointer none)] parts).map .agg := by kernel_rfl
theorem sz19 : szOf Try.prog 19 = some 1 := by kernel_rfl
theorem ze19 : zeroOf Try.prog 19 = some (.agg #[(.pointer none)]) := by kernel_rfl
theorem by19 : byOf Try.prog 19 = some 8 := by kernel_rfl
theorem ag19 : aggB Try.prog 19 = some true := by kernel_rfl
theorem fo19_0 : fieldOff Try.prog 19 0 = some (0, 17) := by kernel_rfl
theorem bu19 (parts : List (Nat × AV)) : aBuild Try.prog 19 parts = (aFill (fun i => [(0, 1)][i]?) [.sc (.pointer none)] parts).map .agg := by kernel_rfl
theorem sz20 : szOf Try.prog 20 = some 1 := by kernel_rfl
theorem ze20 : zeroOf Try.prog 20 = some .nilIface := by kernel_rfl
theorem by20 : byOf Try.prog 20 = some 16 := by kernel_rfl
theorem ag20 : aggB Try.prog 20 = some false := by kernel_rfl
theorem sz21 : szOf Try.prog 21 = some 1 := by kernel_rfl
theorem ze21 : zeroOf Try.prog 21 = some (.int .i32 0) := by kernel_rfl
theorem by21 : byOf Try.prog 21 = some 4 := by kernel_rfl
theorem ag21 : aggB Try.prog 21 = some false := by kernel_rfl
theorem sz22 : szOf Try.prog 22 = some 1 := by kernel_rfl
theorem ze22 : zeroOf Try.prog 22 = some .nilFunc := by kernel_rfl
theorem by22 : byOf Try.prog 22 = some 8 := by kernel_rfl
theorem ag22 : aggB Try.prog 22 = some false := by kernel_rfl
theorem sz23 : szOf Try.prog 23 = some 1 := by kernel_rfl
theorem ze23 : zeroOf Try.prog 23 = some (.int .i64 0) := by kernel_rfl
theorem by23 : byOf Try.prog 23 = some 8 := by kernel_rfl
theorem ag23 : aggB Try.prog 23 = some false := by kernel_rfl
theorem sz25 : szOf Try.prog 25 = some 1 := by kernel_rfl
theorem ze25 : zeroOf Try.prog 25 = some .nilFunc := by kernel_rfl
theorem by25 : byOf Try.prog 25 = some 8 := by kernel_rfl
theorem ag25 : aggB Try.prog 25 = some false := by kernel_rfl
theorem sz26 : szOf Try.prog 26 = some 1 := by kernel_rfl
theorem ze26 : zeroOf Try.prog 26 = some .nilFunc := by kernel_rfl
theorem by26 : byOf Try.prog 26 = some 8 := by kernel_rfl
theorem ag26 : aggB Try.prog 26 = some false := by kernel_rfl
theorem sz27 : szOf Try.prog 27 = some 1 := by kernel_rfl
theorem ze27 : zeroOf Try.prog 27 = some .nilFunc := by kernel_rfl
theorem by27 : byOf Try.prog 27 = some 8 := by kernel_rfl
theorem ag27 : aggB Try.prog 27 = some false := by kernel_rfl
theorem sz28 : szOf Try.prog 28 = some 1 := by kernel_rfl
theorem ze28 : zeroOf Try.prog 28 = some .nilFunc := by kernel_rfl
theorem by28 : byOf Try.prog 28 = some 8 := by kernel_rfl
theorem ag28 : aggB Try.prog 28 = some false := by kernel_rfl
theorem sz29 : szOf Try.prog 29 = some 1 := by kernel_rfl
theorem ze29 : zeroOf Try.prog 29 = some .nilFunc := by kernel_rfl
theorem by29 : byOf Try.prog 29 = some 8 := by kernel_rfl
theorem ag29 : aggB Try.prog 29 = some false := by kernel_rfl
theorem sz30 : szOf Try.prog 30 = some 1 := by kernel_rfl
theorem ze30 : zeroOf Try.prog 30 = some .nilFunc := by kernel_rfl
theorem by30 : byOf Try.prog 30 = some 8 := by kernel_rfl
theorem ag30 : aggB Try.prog 30 = some false := by kernel_rfl
theorem sz31 : szOf Try.prog 31 = some 1 := by kernel_rfl
theorem ze31 : zeroOf Try.prog 31 = some (.slice none 0 0) := by kernel_rfl
theorem by31 : byOf Try.prog 31 = some 24 := by kernel_rfl
theorem ag31 : aggB Try.prog 31 = some false := by kernel_rfl
theorem sz32 : szOf Try.prog 32 = some 1 := by kernel_rfl
theorem ze32 : zeroOf Try.prog 32 = some .nilFunc := by kernel_rfl
theorem by32 : byOf Try.prog 32 = some 8 := by kernel_rfl
theorem ag32 : aggB Try.prog 32 = some false := by kernel_rfl
theorem sz34 : szOf Try.prog 34 = some 1 := by kernel_rfl
theorem ze34 : zeroOf Try.prog 34 = some .nilFunc := by kernel_rfl
theorem by34 : byOf Try.prog 34 = some 8 := by kernel_rfl
theorem ag34 : aggB Try.prog 34 = some false := by kernel_rfl
theorem sz35 : szOf Try.prog 35 = some 1 := by kernel_rfl
theorem ze35 : zeroOf Try.prog 35 = some (.slice none 0 0) := by kernel_rfl
theorem by35 : byOf Try.prog 35 = some 24 := by kernel_rfl
theorem ag35 : aggB Try.prog 35 = some false := by kernel_rfl
theorem sz37 : szOf Try.prog 37 = some 1 := by kernel_rfl
theorem ze37 : zeroOf Try.prog 37 = some .nilFunc := by kernel_rfl
theorem by37 : byOf Try.prog 37 = some 8 := by kernel_rfl
theorem ag37 : aggB Try.prog 37 = some false := by kernel_rfl
theorem sz38 : szOf Try.prog 38 = some 1 := by kernel_rfl
theorem ze38 : zeroOf Try.prog 38 = some .nilFunc := by kernel_rfl
theorem by38 : byOf Try.prog 38 = some 8 := by kernel_rfl
theorem ag38 : aggB Try.prog 38 = some false := by kernel_rfl
theorem sz39 : szOf Try.prog 39 = some 1 := by kernel_rfl
theorem ze39 : zeroOf Try.prog 39 = some .nilFunc := by kernel_rfl
theorem by39 : byOf Try.prog 39 = some 8 := by kernel_rfl
theorem ag39 : aggB Try.prog 39 = some false := by kernel_rfl
theorem sz40 : szOf Try.prog 40 = some 1 := by kernel_rfl
theorem ze40 : zeroOf Try.prog 40 = some (.slice none 0 0) := by kernel_rfl
theorem by40 : byOf Try.prog 40 = some 24 := by kernel_rfl
theorem ag40 : aggB Try.prog 40 = some false := by kernel_rfl
theorem sz41 : szOf Try.prog 41 = some 1 := by kernel_rfl
theorem ze41 : zeroOf Try.prog 41 = some (.slice none 0 0) := by kernel_rfl
theorem by41 : byOf Try.prog 41 = some 24 := by kernel_rfl
theorem ag41 : aggB Try.prog 41 = some false := by kernel_rfl
theorem sz42 : szOf Try.prog 42 = some 2 := by kernel_rfl
theorem ze42 : zeroOf Try.prog 42 = some (.agg #[(.int .i64 0), (.int .i64 0)]) := by kernel_rfl
theorem by42 : byOf Try.prog 42 = some 16 := by kernel_rfl
theorem ag42 : aggB Try.prog 42 = some true := by kernel_rfl
theorem fo42_0 : fieldOff Try.prog 42 0 = some (0, 3) := by kernel_rfl
theorem fo42_1 : fieldOff Try.prog 42 1 = some (1, 3) := by kernel_rfl
theorem bu42 (parts : List (Nat × AV)) : aBuild Try.prog 42 parts = (aFill (fun i => [(0, 1), (1, 1)][i]?) [.sc (.int .i64 0), .sc (.int .i64 0)] parts).map .agg := by kernel_rfl
theorem sz43 : szOf Try.prog 43 = some 2 := by kernel_rfl
theorem ze43 : zeroOf Try.prog 43 = some (.agg #[(.int .i64 0), (.int .i64 0)]) := by kernel_rfl
theorem by43 : byOf Try.prog 43 = some 16 := by kernel_rfl
theorem ag43 : aggB Try.prog 43 = some true := by kernel_rfl
theorem fo43_0 : fieldOff Try.prog 43 0 = some (0, 3) := by kernel_rfl
theorem fo43_1 : fieldOff Try.prog 43 1 = some (1, 3) := by kernel_rfl
theorem bu43 (parts : List (Nat × AV)) : aBuild Try.prog 43 parts = (aFill (fun i => [(0, 1), (1, 1)][i]?) [.sc (.int .i64 0), .sc (.int .i64 0)] parts).map .agg := by kernel_rfl
theorem sz45 : szOf Try.prog 45 = some 1 := by kernel_rfl
theorem ze45 : zeroOf Try.prog 45 = some .nilFunc := by kernel_rfl
theorem by45 : byOf Try.prog 45 = some 8 := by kernel_rfl
theorem ag45 : aggB Try.prog 45 = some false := by kernel_rfl
theorem sz46 : szOf Try.prog 46 = some 1 := by kernel_rfl
theorem ze46 : zeroOf Try.prog 46 = some .nilFunc := by kernel_rfl
theorem by46 : byOf Try.prog 46 = some 8 := by kernel_rfl
theorem ag46 : aggB Try.prog 46 = some false := by kernel_rfl
theorem sz47 : szOf Try.prog 47 = some 1 := by kernel_rfl
theorem ze47 : zeroOf Try.prog 47 = some .nilFunc := by kernel_rfl
theorem by47 : byOf Try.prog 47 = some 8 := by kernel_rfl
theorem ag47 : aggB Try.prog 47 = some false := by kernel_rfl
theorem sz48 : szOf Try.prog 48 = some 1 := by kernel_rfl
theorem ze48 : zeroOf Try.prog 48 = some .nilFunc := by kernel_rfl
theorem by48 : byOf Try.prog 48 = some 8 := by kernel_rfl
theorem ag48 : aggB Try.prog 48 = some false := by kernel_rfl
theorem sz49 : szOf Try.prog 49 = some 1 := by kernel_rfl
theorem ze49 : zeroOf Try.prog 49 = some .nilFunc := by kernel_rfl
theorem by49 : byOf Try.prog 49 = some 8 := by kernel_rfl
theorem ag49 : aggB Try.prog 49 = some false := by kernel_rfl
theorem sz50 : szOf Try.prog 50 = some 1 := by kernel_rfl
theorem ze50 : zeroOf Try.prog 50 = some (.slice none 0 0) := by kernel_rfl
theorem by50 : byOf Try.prog 50 = some 24 := by kernel_rfl
theorem ag50 : aggB Try.prog 50 = some false := by kernel_rfl
theorem sz51 : szOf Try.prog 51 = some 5 := by kernel_rfl
theorem ze51 : zeroOf Try.prog 51 = some (.agg #[(.slice none 0 0), (.slice none 0 0), (.bool false), (.int .i64 0), (.int .i64 0)]) := by kernel_rfl
theorem by51 : byOf Try.prog 51 = some 72 := by kernel_rfl
theorem ag51 : aggB Try.prog 51 = some true := by kernel_rfl
theorem fo51_0 : fieldOff Try.prog 51 0 = some (0, 40) := by kernel_rfl
theorem fo51_1 : fieldOff Try.prog 51 1 = some (1, 50) := by kernel_rfl
theorem fo51_2 : fieldOff Try.prog 51 2 = some (2, 4) := by kernel_rfl
theorem fo51_3 : fieldOff Try.prog 51 3 = some (3, 3) := by kernel_rfl
theorem fo51_4 : fieldOff Try.prog 51 4 = some (4, 3) := by kernel_rfl
theorem bu51 (parts : List (Nat × AV)) : aBuild Try.prog 51 parts = (aFill (fun i => [(0, 1), (1, 1), (2, 1), (3, 1), (4, 1)][i]?) [.sc (.slice none 0 0), .sc (.slice none 0 0), .sc (.bool false), .sc (.int .i64 0), .sc (.int .i64 0)] parts).map .agg := by kernel_rfl
theorem sz52 : szOf Try.prog 52 = some 5 := by kernel_rfl
theorem ze52 : zeroOf Try.prog 52 = some (.agg #[(.slice none 0 0), (.slice none 0 0), (.bool false), (.int .i64 0), (.int .i64 0)]) := by kernel_rfl
theorem by52 : byOf Try.prog 52 = some 72 := by kernel_rfl
theorem ag52 : aggB Try.prog 52 = some true := by kernel_rfl
theorem fo52_0 : fieldOff Try.prog 52 0 = some (0, 40) := by kernel_rfl
theorem fo52_1 : fieldOff Try.prog 52 1 = some (1, 50) := by kernel_rfl
theorem fo52_2 : fieldOff Try.prog 52 2 = some (2, 4) := by kernel_rfl
theorem fo52_3 : fieldOff Try.prog 52 3 = some (3, 3) := by kernel_rfl
theorem fo52_4 : fieldOff Try.prog 52 4 = some (4, 3) := by kernel_rfl
theorem bu52 (parts : List (Nat × AV)) : aBuild Try.prog 52 parts = (aFill (fun i => [(0, 1), (1, 1), (2, 1), (3, 1), (4, 1)][i]?) [.sc (.slice none 0 0), .sc (.slice none 0 0), .sc (.bool false), .sc (.int .i64 0), .sc (.int .i64 0)] parts).map .agg := by kernel_rfl
theorem sz53 : szOf Try.prog 53 = some 1 := by kernel_rfl
theorem ze53 : zeroOf Try.prog 53 = some .nilFunc := by kernel_rfl
theorem by53 : byOf Try.prog 53 = some 8 := by kernel_rfl
theorem ag53 : aggB Try.prog 53 = some false := by kernel_rfl
theorem sz54 : szOf Try.prog 54 = some 1 := by kernel_rfl
theorem ze54 : zeroOf Try.prog 54 = some .nilFunc := by kernel_rfl
theorem by54 : byOf Try.prog 54 = some 8 := by kernel_rfl
theorem ag54 : aggB Try.prog 54 = some false := by kernel_rfl
theorem sz55 : szOf Try.prog 55 = some 1 := by kernel_rfl
theorem ze55 : zeroOf Try.prog 55 = some .nilFunc := by kernel_rfl
theorem by55 : byOf Try.prog 55 = some 8 := by kernel_rfl
theorem ag55 : aggB Try.prog 55 = some false := by kernel_rfl
theorem sz56 : szOf Try.prog 56 = some 1 := by kernel_rfl
theorem ze56 : zeroOf Try.prog 56 = some .nilFunc := by kernel_rfl
theorem by56 : byOf Try.prog 56 = some 8 := by kernel_rfl
theorem ag56 : aggB Try.prog 56 = some false := by kernel_rfl
theorem sz58 : szOf Try.prog 58 = some 1 := by kernel_rfl
theorem ze58 : zeroOf Try.prog 58 = some .nilFunc := by kernel_rfl
theorem by58 : byOf Try.prog 58 = some 8 := by kernel_rfl
theorem ag58 : aggB Try.prog 58 = some false := by kernel_rfl
theorem sz59 : szOf Try.prog 59 = some 1 := by kernel_rfl
theorem ze59 : zeroOf Try.prog 59 = some .nilFunc := by kernel_rfl
theorem by59 : byOf Try.prog 59 = some 8 := by kernel_rfl
theorem ag59 : aggB Try.prog 59 = some false := by kernel_rfl
theorem sz61 : szOf Try.prog 61 = some 1 := by kernel_rfl
theorem ze61 : zeroOf Try.prog 61 = some .nilFunc := by kernel_rfl
theorem by61 : byOf Try.prog 61 = some 8 := by kernel_rfl
theorem ag61 : aggB Try.prog 61 = some false := by kernel_rfl
theorem sz62 : szOf Try.prog 62 = some 1 := by kernel_rfl
theorem ze62 : zeroOf Try.prog 62 = some .nilFunc := by kernel_rfl
theorem by62 : byOf Try.prog 62 = some 8 := by kernel_rfl
theorem ag62 : aggB Try.prog 62 = some false := by kernel_rfl
theorem sz63 : szOf Try.prog 63 = some 4 := by kernel_rfl
theorem ze63 : zeroOf Try.prog 63 = some (.agg #[(.int .i64 0), (.int .i64 0), (.int .i64 0), (.int .i64 0)]) := by kernel_rfl
theorem by63 : byOf Try.prog 63 = some 32 := by kernel_rfl
theorem ag63 : aggB Try.prog 63 = some true := by kernel_rfl
theorem fo63_0 : fieldOff Try.prog 63 0 = some (0, 3) := by kernel_rfl
theorem fo63_1 : fieldOff Try.prog 63 1 = some (1, 3) := by kernel_rfl
theorem fo63_2 : fieldOff Try.prog 63 2 = some (2, 3) := by kernel_rfl
theorem fo63_3 : fieldOff Try.prog 63 3 = some (3, 3) := by kernel_rfl
theorem bu63 (parts : List (Nat × AV)) : aBuild Try.prog 63 parts = (aFill (fun i => [(0, 1), (1, 1), (2, 1), (3, 1)][i]?) [.sc (.int .i64 0), .sc (.int .i64 0), .sc (.int .i64 0), .sc (.int .i64 0)] parts).map .agg := by kernel_rfl
theorem sz64 : szOf Try.prog 64 = some 4 := by kernel_rfl
theorem ze64 : zeroOf Try.prog 64 = some (.agg #[(.int .i64 0), (.int .i64 0), (.int .i64 0), (.int .i64 0)]) := by kernel_rfl
theorem by64 : byOf Try.prog 64 = some 32 := by kernel_rfl
theorem ag64 : aggB Try.prog 64 = some true := by kernel_rfl
theorem fo64_0 : fieldOff Try.prog 64 0 = some (0, 3) := by kernel_rfl
theorem fo64_1 : fieldOff Try.prog 64 1 = some (1, 3) := by kernel_rfl
theorem fo64_2 : fieldOff Try.prog 64 2 = some (2, 3) := by kernel_rfl
theorem fo64_3 : fieldOff Try.prog 64 3 = some (3, 3) := by kernel_rfl
theorem bu64 (parts : List (Nat × AV)) : aBuild Try.prog 64 parts = (aFill (fun i => [(0, 1), (1, 1), (2, 1), (3, 1)][i]?) [.sc (.int .i64 0), .sc (.int .i64 0), .sc (.int .i64 0), .sc (.int .i64 0)] parts).map .agg := by kernel_rfl
theorem sz65 : szOf Try.prog 65 = some 2 := by kernel_rfl
theorem ze65 : zeroOf Try.prog 65 = some (.agg #[(.slice none 0 0), (.int .i64 0)]) := by kernel_rfl
theorem by65 : byOf Try.prog 65 = some 32 := by kernel_rfl
theorem ag65 : aggB Try.prog 65 = some true := by kernel_rfl
theorem fo65_0 : fieldOff Try.prog 65 0 = some (0, 41) := by kernel_rfl
theorem fo65_1 : fieldOff Try.prog 65 1 = some (1, 23) := by kernel_rfl
theorem bu65 (parts : List (Nat × AV)) : aBuild Try.prog 65 parts = (aFill (fun i => [(0, 1), (1, 1)][i]?) [.sc (.slice none 0 0), .sc (.int .i64 0)] parts).map .agg := by kernel_rfl
theorem sz66 : szOf Try.prog 66 = some 2 := by kernel_rfl
theorem ze66 : zeroOf Try.prog 66 = some (.agg #[(.slice none 0 0), (.int .i64 0)]) := by kernel_rfl
theorem by66 : byOf Try.prog 66 = some 32 := by kernel_rfl
theorem ag66 : aggB Try.prog 66 = some true := by kernel_rfl
theorem fo66_0 : fieldOff Try.prog 66 0 = some (0, 41) := by kernel_rfl
theorem fo66_1 : fieldOff Try.prog 66 1 = some (1, 23) := by kernel_rfl
theorem bu66 (parts : List (Nat × AV)) : aBuild Try.prog 66 parts = (aFill (fun i => [(0, 1), (1, 1)][i]?) [.sc (.slice none 0 0), .sc (.int .i64 0)] parts).map .agg := by kernel_rfl
theorem sz67 : szOf Try.prog 67 = some 1 := by kernel_rfl
theorem ze67 : zeroOf Try.prog 67 = some .nilFunc := by kernel_rfl
theorem by67 : byOf Try.prog 67 = some 8 := by kernel_rfl
theorem ag67 : aggB Try.prog 67 = some false := by kernel_rfl
theorem sz68 : szOf Try.prog 68 = some 1 := by kernel_rfl
theorem ze68 : zeroOf Try.prog 68 = some .nilFunc := by kernel_rfl
theorem by68 : byOf Try.prog 68 = some 8 := by kernel_rfl
theorem ag68 : aggB Try.prog 68 = some false := by kernel_rfl
theorem sz69 : szOf Try.prog 69 = some 1 := by kernel_rfl
theorem ze69 : zeroOf Try.prog 69 = some .nilFunc := by kernel_rfl
theorem by69 : byOf Try.prog 69 = some 8 := by kernel_rfl
theorem ag69 : aggB Try.prog 69 = some false := by kernel_rfl
theorem sz70 : szOf Try.prog 70 = some 1 := by kernel_rfl
theorem ze70 : zeroOf Try.prog 70 = some .nilFunc := by kernel_rfl
theorem by70 : byOf Try.prog 70 = some 8 := by kernel_rfl
theorem ag70 : aggB Try.prog 70 = some false := by kernel_rfl
theorem sz71 : szOf Try.prog 71 = some 1 := by kernel_rfl
theorem ze71 : zeroOf Try.prog 71 = some .nilFunc := by kernel_rfl
theorem by71 : byOf Try.prog 71 = some 8 := by kernel_rfl
theorem ag71 : aggB Try.prog 71 = some false := by kernel_rfl
theorem sz72 : szOf Try.prog 72 = some 1 := by kernel_rfl
theorem ze72 : zeroOf Try.prog 72 = some .nilFunc := by kernel_rfl
theorem by72 : byOf Try.prog 72 = some 8 := by kernel_rfl
theorem ag72 : aggB Try.prog 72 = some false := by kernel_rfl
theorem sz73 : szOf Try.prog 73 = some 1 := by kernel_rfl
theorem ze73 : zeroOf Try.prog 73 = some .nilFunc := by kernel_rfl
theorem by73 : byOf Try.prog 73 = some 8 := by kernel_rfl
theorem ag73 : aggB Try.prog 73 = some false := by kernel_rfl
theorem sz75 : szOf Try.prog 75 = some 1 := by kernel_rfl
theorem ze75 : zeroOf Try.prog 75 = some .nilFunc := by kernel_rfl
theorem by75 : byOf Try.prog 75 = some 8 := by kernel_rfl
theorem ag75 : aggB Try.prog 75 = some false := by kernel_rfl
theorem sz76 : szOf Try.prog 76 = some 1 := by kernel_rfl
theorem ze76 : zeroOf Try.prog 76 = some .nilFunc := by kernel_rfl
theorem by76 : byOf Try.prog 76 = some 8 := by kernel_rfl
theorem ag76 : aggB Try.prog 76 = some false := by kernel_rfl
theorem sz77 : szOf Try.prog 77 = some 2 := by kernel_rfl
theorem ze77 : zeroOf Try.prog 77 = some (.agg #[(.slice none 0 0), (.slice none 0 0)]) := by kernel_rfl
theorem by77 : byOf Try.prog 77 = some 48 := by kernel_rfl
theorem ag77 : aggB Try.prog 77 = some true := by kernel_rfl
theorem fo77_0 : fieldOff Try.prog 77 0 = some (0, 40) := by kernel_rfl
theorem fo77_1 : fieldOff Try.prog 77 1 = some (1, 35) := by kernel_rfl
theorem bu77 (parts : List (Nat × AV)) : aBuild Try.prog 77 parts = (aFill (fun i => [(0, 1), (1, 1)][i]?) [.sc (.slice none 0 0), .sc (.slice none 0 0)] parts).map .agg := by kernel_rfl
theorem sz78 : szOf Try.prog 78 = some 2 := by kernel_rfl
theorem ze78 : zeroOf Try.prog 78 = some (.agg #[(.slice none 0 0), (.slice none 0 0)]) := by kernel_rfl
theorem by78 : byOf Try.prog 78 = some 48 := by kernel_rfl
theorem ag78 : aggB Try.prog 78 = some true := by kernel_rfl
theorem fo78_0 : fieldOff Try.prog 78 0 = some (0, 40) := by kernel_rfl
theorem fo78_1 : fieldOff Try.prog 78 1 = some (1, 35) := by kernel_rfl
theorem bu78 (parts : List (Nat × AV)) : aBuild Try.prog 78 parts = (aFill (fun i => [(0, 1), (1, 1)][i]?) [.sc (.slice none 0 0), .sc (.slice none 0 0)] parts).map .agg := by kernel_rfl
theorem sz79 : szOf Try.prog 79 = some 1 := by kernel_rfl
theorem ze79 : zeroOf Try.prog 79 = some .nilFunc := by kernel_rfl
theorem by79 : byOf Try.prog 79 = some 8 := by kernel_rfl
theorem ag79 : aggB Try.prog 79 = some false := by kernel_rfl
theorem sz80 : szOf Try.prog 80 = some 1 := by kernel_rfl
theorem ze80 : zeroOf Try.prog 80 = some .nilFunc := by kernel_rfl
theorem by80 : byOf Try.prog 80 = some 8 := by kernel_rfl
theorem ag80 : aggB Try.prog 80 = some false := by kernel_rfl
theorem sz81 : szOf Try.prog 81 = some 1 := by kernel_rfl
theorem ze81 : zeroOf Try.prog 81 = some .nilFunc := by kernel_rfl
theorem by81 : byOf Try.prog 81 = some 8 := by kernel_rfl
theorem ag81 : aggB Try.prog 81 = some false := by kernel_rfl
theorem sz82 : szOf Try.prog 82 = some 1 := by kernel_rfl
theorem ze82 : zeroOf Try.prog 82 = some .nilFunc := by kernel_rfl
theorem by82 : byOf Try.prog 82 = some 8 := by kernel_rfl
theorem ag82 : aggB Try.prog 82 = some false := by kernel_rfl
theorem sz83 : szOf Try.prog 83 = some 1 := by kernel_rfl
theorem ze83 : zeroOf Try.prog 83 = some (.slice none 0 0) := by kernel_rfl
theorem by83 : byOf Try.prog 83 = some 24 := by kernel_rfl
theorem ag83 : aggB Try.prog 83 = some false := by kernel_rfl
theorem sz84 : szOf Try.prog 84 = some 2 := by kernel_rfl
theorem ze84 : zeroOf Try.prog 84 = some (.agg #[(.int .i64 0), (.int .i64 0)]) := by kernel_rfl
theorem by84 : byOf Try.prog 84 = some 16 := by kernel_rfl
theorem ag84 : aggB Try.prog 84 = some true := by kernel_rfl
theorem bu84 (parts : List (Nat × AV)) : aBuild Try.prog 84 parts = (aFill (fun i => some (i * 1, 1)) [.sc (.int .i64 0), .sc (.int .i64 0)] parts).map .agg := by kernel_rfl
theorem sz85 : szOf Try.prog 85 = some 1 := by kernel_rfl
theorem ze85 : zeroOf Try.prog 85 = some .nilFunc := by kernel_rfl
theorem by85 : byOf Try.prog 85 = some 8 := by kernel_rfl
theorem ag85 : aggB Try.prog 85 = some false := by kernel_rfl
theorem sz86 : szOf Try.prog 86 = some 1 := by kernel_rfl
theorem ze86 : zeroOf Try.prog 86 = some .nilFunc := by kernel_rfl
theorem by86 : byOf Try.prog 86 = some 8 := by kernel_rfl
theorem ag86 : aggB Try.prog 86 = some false := by kernel_rfl
theorem sz87 : szOf Try.prog 87 = some 1 := by kernel_rfl
theorem ze87 : zeroOf Try.prog 87 = some .nilFunc := by kernel_rfl
theorem by87 : byOf Try.prog 87 = some 8 := by kernel_rfl
theorem ag87 : aggB Try.prog 87 = some false := by kernel_rfl
theorem sz88 : szOf Try.prog 88 = some 1 := by kernel_rfl
theorem ze88 : zeroOf Try.prog 88 = some .nilFunc := by kernel_rfl
theorem by88 : byOf Try.prog 88 = some 8 := by kernel_rfl
theorem ag88 : aggB Try.prog 88 = some false := by kernel_rfl
theorem sz89 : szOf Try.prog 89 = some 1 := by kernel_rfl
theorem ze89 : zeroOf Try.prog 89 = some .nilFunc := by kernel_rfl
theorem by89 : byOf Try.prog 89 = some 8 := by kernel_rfl
theorem ag89 : aggB Try.prog 89 = some false := by kernel_rfl
theorem sz90 : szOf Try.prog 90 = some 1 := by kernel_rfl
theorem ze90 : zeroOf Try.prog 90 = some (.agg #[(.slice none 0 0)]) := by kernel_rfl
theorem by90 : byOf Try.prog 90 = some 24 := by kernel_rfl
theorem ag90 : aggB Try.prog 90 = some true := by kernel_rfl
theorem fo90_0 : fieldOff Try.prog 90 0 = some (0, 31) := by kernel_rfl
theorem bu90 (parts : List (Nat × AV)) : aBuild Try.prog 90 parts = (aFill (fun i => [(0, 1)][i]?) [.sc (.slice none 0 0)] parts).map .agg := by kernel_rfl
theorem sz91 : szOf Try.prog 91 = some 1 := by kernel_rfl
theorem ze91 : zeroOf Try.prog 91 = some (.agg #[(.slice none 0 0)]) := by kernel_rfl
theorem by91 : byOf Try.prog 91 = some 24 := by kernel_rfl
theorem ag91 : aggB Try.prog 91 = some true := by kernel_rfl
theorem fo91_0 : fieldOff Try.prog 91 0 = some (0, 31) := by kernel_rfl
theorem bu91 (parts : List (Nat × AV)) : aBuild Try.prog 91 parts = (aFill (fun i => [(0, 1)][i]?) [.sc (.slice none 0 0)] parts).map .agg := by kernel_rfl
theorem sz92 : szOf Try.prog 92 = some 1 := by kernel_rfl
theorem ze92 : zeroOf Try.prog 92 = some (.pointer none) := by kernel_rfl
theorem by92 : byOf Try.prog 92 = some 8 := by kernel_rfl
theorem ag92 : aggB Try.prog 92 = some false := by kernel_rfl
theorem sz93 : szOf Try.prog 93 = some 1 := by kernel_rfl
theorem ze93 : zeroOf Try.prog 93 = some .nilFunc := by kernel_rfl
theorem by93 : byOf Try.prog 93 = some 8 := by kernel_rfl
theorem ag93 : aggB Try.prog 93 = some false := by kernel_rfl
theorem sz95 : szOf Try.prog 95 = some 1 := by kernel_rfl
theorem ze95 : zeroOf Try.prog 95 = some .nilFunc := by kernel_rfl
theorem by95 : byOf Try.prog 95 = some 8 := by kernel_rfl
theorem ag95 : aggB Try.prog 95 = some false := by kernel_rfl
theorem sz96 : szOf Try.prog 96 = some 1 := by kernel_rfl
theorem ze96 : zeroOf Try.prog 96 = some .nilFunc := by kernel_rfl
theorem by96 : byOf Try.prog 96 = some 8 := by kernel_rfl
theorem ag96 : aggB Try.prog 96 = some false := by kernel_rfl
theorem sz97 : szOf Try.prog 97 = some 1 := by kernel_rfl
theorem ze97 : zeroOf Try.prog 97 = some .nilFunc := by kernel_rfl
theorem by97 : byOf Try.prog 97 = some 8 := by kernel_rfl
theorem ag97 : aggB Try.prog 97 = some false := by kernel_rfl
theorem sz98 : szOf Try.prog 98 = some 1 := by kernel_rfl
theorem ze98 : zeroOf Try.prog 98 = some .nilFunc := by kernel_rfl
theorem by98 : byOf Try.prog 98 = some 8 := by kernel_rfl
theorem ag98 : aggB Try.prog 98 = some false := by kernel_rfl
theorem sz99 : szOf Try.prog 99 = some 1 := by kernel_rfl
theorem ze99 : zeroOf Try.prog 99 = some .nilFunc := by kernel_rfl
theorem by99 : byOf Try.prog 99 = some 8 := by kernel_rfl
theorem ag99 : aggB Try.prog 99 = some false := by kernel_rfl
theorem sz100 : szOf Try.prog 100 = some 1 := by kernel_rfl
theorem ze100 : zeroOf Try.prog 100 = some .nilFunc := by kernel_rfl
theorem by100 : byOf Try.prog 100 = some 8 := by kernel_rfl
theorem ag100 : aggB Try.prog 100 = some false := by kernel_rfl
theorem sz101 : szOf Try.prog 101 = some 2 := by kernel_rfl
theorem ze101 : zeroOf Try.prog 101 = some (.agg #[(.pointer none), (.int .i64 0)]) := by kernel_rfl
theorem by101 : byOf Try.prog 101 = some 16 := by kernel_rfl
theorem ag101 : aggB Try.prog 101 = some true := by kernel_rfl
theorem fo101_0 : fieldOff Try.prog 101 0 = some (0, 92) := by kernel_rfl
theorem fo101_1 : fieldOff Try.prog 101 1 = some (1, 3) := by kernel_rfl
theorem bu101 (parts : List (Nat × AV)) : aBuild Try.prog 101 parts = (aFill (fun i => [(0, 1), (1, 1)][i]?) [.sc (.pointer none), .sc (.int .i64 0)] parts).map .agg := by kernel_rfl
theorem sz102 : szOf Try.prog 102 = some 2 := by kernel_rfl
theorem ze102 : zeroOf Try.prog 102 = some (.agg #[(.pointer none), (.int .i64 0)]) := by kernel_rfl
theorem by102 : byOf Try.prog 102 = some 16 := by kernel_rfl
theorem ag102 : aggB Try.prog 102 = some true := by kernel_rfl
theorem fo102_0 : fieldOff Try.prog 102 0 = some (0, 92) := by kernel_rfl
theorem fo102_1 : fieldOff Try.prog 102 1 = some (1, 3) := by kernel_rfl
theorem bu102 (parts : List (Nat × AV)) : aBuild Try.prog 102 parts = (aFill (fun i => [(0, 1), (1, 1)][i]?) [.sc (.pointer none), .sc (.int .i64 0)] parts).map .agg := by kernel_rfl
theorem sz103 : szOf Try.prog 103 = some 1 := by kernel_rfl
theorem ze103 : zeroOf Try.prog 103 = some .nilFunc := by kernel_rfl
theorem by103 : byOf Try.prog 103 = some 8 := by kernel_rfl
theorem ag103 : aggB Try.prog 103 = some false := by kernel_rfl
theorem sz104 : szOf Try.prog 104 = some 1 := by kernel_rfl
theorem ze104 : zeroOf Try.prog 104 = some .nilFunc := by kernel_rfl
theorem by104 : byOf Try.prog 104 = some 8 := by kernel_rfl
theorem ag104 : aggB Try.prog 104 = some false := by kernel_rfl
theorem sz105 : szOf Try.prog 105 = some 1 := by kernel_rfl
theorem ze105 : zeroOf Try.prog 105 = some .nilFunc := by kernel_rfl
theorem by105 : byOf Try.prog 105 = some 8 := by kernel_rfl
theorem ag105 : aggB Try.prog 105 = some false := by kernel_rfl
theorem sz107 : szOf Try.prog 107 = some 1 := by kernel_rfl
theorem ze107 : zeroOf Try.prog 107 = some .nilFunc := by kernel_rfl
theorem by107 : byOf Try.prog 107 = some 8 := by kernel_rfl
theorem ag107 : aggB Try.prog 107 = some false := by kernel_rfl
theorem sz108 : szOf Try.prog 108 = some 1 := by kernel_rfl
theorem ze108 : zeroOf Try.prog 108 = some .nilFunc := by kernel_rfl
theorem by108 : byOf Try.prog 108 = some 8 := by kernel_rfl
theorem ag108 : aggB Try.prog 108 = some false := by kernel_rfl
theorem sz109 : szOf Try.prog 109 = some 1 := by kernel_rfl
theorem ze109 : zeroOf Try.prog 109 = some .nilFunc := by kernel_rfl
theorem by109 : byOf Try.prog 109 = some 8 := by kernel_rfl
theorem ag109 : aggB Try.prog 109 = some false := by kernel_rfl
theorem sz110 : szOf Try.prog 110 = some 1 := by kernel_rfl
theorem ze110 : zeroOf Try.prog 110 = some .nilFunc := by kernel_rfl
theorem by110 : byOf Try.prog 110 = some 8 := by kernel_rfl
theorem ag110 : aggB Try.prog 110 = some false := by kernel_rfl
theorem sz111 : szOf Try.prog 111 = some 1 := by kernel_rfl
theorem ze111 : zeroOf Try.prog 111 = some .nilFunc := by kernel_rfl
theorem by111 : byOf Try.prog 111 = some 8 := by kernel_rfl
theorem ag111 : aggB Try.prog 111 = some false := by kernel_rfl
theorem sz112 : szOf Try.prog 112 = some 1 := by kernel_rfl
theorem ze112 : zeroOf Try.prog 112 = some (.pointer none) := by kernel_rfl
theorem by112 : byOf Try.prog 112 = some 8 := by kernel_rfl
theorem ag112 : aggB Try.prog 112 = some false := by kernel_rfl
theorem sz113 : szOf Try.prog 113 = some 1 := by kernel_rfl
theorem ze113 : zeroOf Try.prog 113 = some .nilFunc := by kernel_rfl
theorem by113 : byOf Try.prog 113 = some 8 := by kernel_rfl
theorem ag113 : aggB Try.prog 113 = some false := by kernel_rfl
theorem sz115 : szOf Try.prog 115 = some 1 := by kernel_rfl
theorem ze115 : zeroOf Try.prog 115 = some .nilFunc := by kernel_rfl
theorem by115 : byOf Try.prog 115 = some 8 := by kernel_rfl
theorem ag115 : aggB Try.prog 115 = some false := by kernel_rfl
theorem sz116 : szOf Try.prog 116 = some 1 := by kernel_rfl
theorem ze116 : zeroOf Try.prog 116 = some .nilFunc := by kernel_rfl
theorem by116 : byOf Try.prog 116 = some 8 := by kernel_rfl
theorem ag116 : aggB Try.prog 116 = some false := by kernel_rfl
theorem sz117 : szOf Try.prog 117 = some 1 := by kernel_rfl
theorem ze117 : zeroOf Try.prog 117 = some (.map none) := by kernel_rfl
theorem by117 : byOf Try.prog 117 = some 8 := by kernel_rfl
theorem ag117 : aggB Try.prog 117 = some false := by kernel_rfl
theorem sz118 : szOf Try.prog 118 = some 1 := by kernel_rfl
theorem ze118 : zeroOf Try.prog 118 = some .nilFunc := by kernel_rfl
theorem by118 : byOf Try.prog 118 = some 8 := by kernel_rfl
theorem ag118 : aggB Try.prog 118 = some false := by kernel_rfl
theorem sz119 : szOf Try.prog 119 = some 1 := by kernel_rfl
theorem ze119 : zeroOf Try.prog 119 = some .nilFunc := by kernel_rfl
theorem by119 : byOf Try.prog 119 = some 8 := by kernel_rfl
theorem ag119 : aggB Try.prog 119 = some false := by kernel_rfl
theorem sz120 : szOf Try.prog 120 = some 1 := by kernel_rfl
theorem ze120 : zeroOf Try.prog 120 = some (.map none) := by kernel_rfl
theorem by120 : byOf Try.prog 120 = some 8 := by kernel_rfl
theorem ag120 : aggB Try.prog 120 = some false := by kernel_rfl
theorem sz122 : szOf Try.prog 122 = some 1 := by kernel_rfl
theorem ze122 : zeroOf Try.prog 122 = some .nilFunc := by kernel_rfl
theorem by122 : byOf Try.prog 122 = some 8 := by kernel_rfl
theorem ag122 : aggB Try.prog 122 = some false := by kernel_rfl
theorem sz123 : szOf Try.prog 123 = some 1 := by kernel_rfl
theorem ze123 : zeroOf Try.prog 123 = some .nilFunc := by kernel_rfl
theorem by123 : byOf Try.prog 123 = some 8 := by kernel_rfl
theorem ag123 : aggB Try.prog 123 = some false := by kernel_rfl
theorem sz124 : szOf Try.prog 124 = some 1 := by kernel_rfl
theorem ze124 : zeroOf Try.prog 124 = some .nilFunc := by kernel_rfl
theorem by124 : byOf Try.prog 124 = some 8 := by kernel_rfl
theorem ag124 : aggB Try.prog 124 = some false := by kernel_rfl
theorem sz125 : szOf Try.prog 125 = some 1 := by kernel_rfl
theorem ze125 : zeroOf Try.prog 125 = some .nilFunc := by kernel_rfl
theorem by125 : byOf Try.prog 125 = some 8 := by kernel_rfl
theorem ag125 : aggB Try.prog 125 = some false := by kernel_rfl
theorem sz126 : szOf Try.prog 126 = some 1 := by kernel_rfl
theorem ze126 : zeroOf Try.prog 126 = some .nilFunc := by kernel_rfl
theorem by126 : byOf Try.prog 126 = some 8 := by kernel_rfl
theorem ag126 : aggB Try.prog 126 = some false := by kernel_rfl
theorem sz127 : szOf Try.prog 127 = some 1 := by kernel_rfl
theorem ze127 : zeroOf Try.prog 127 = some .nilFunc := by kernel_rfl
theorem by127 : byOf Try.prog 127 = some 8 := by kernel_rfl
theorem ag127 : aggB Try.prog 127 = some false := by kernel_rfl
theorem sz129 : szOf Try.prog 129 = some 1 := by kernel_rfl
theorem ze129 : zeroOf Try.prog 129 = some .nilFunc := by kernel_rfl
theorem by129 : byOf Try.prog 129 = some 8 := by kernel_rfl
theorem ag129 : aggB Try.prog 129 = some false := by kernel_rfl
theorem sz130 : szOf Try.prog 130 = some 0 := by kernel_rfl
theorem ze130 : zeroOf Try.prog 130 = some (.agg #[]) := by kernel_rfl
theorem by130 : byOf Try.prog 130 = some 0 := by kernel_rfl
theorem ag130 : aggB Try.prog 130 = some true := by kernel_rfl
theorem sz131 : szOf Try.prog 131 = some 0 := by kernel_rfl
theorem ze131 : zeroOf Try.prog 131 = some (.agg #[]) := by kernel_rfl
theorem by131 : byOf Try.prog 131 = some 0 := by kernel_rfl
theorem ag131 : aggB Try.prog 131 = some true := by kernel_rfl
theorem sz132 : szOf Try.prog 132 = some 1 := by kernel_rfl
theorem ze132 : zeroOf Try.prog 132 = some .nilFunc := by kernel_rfl
theorem by132 : byOf Try.prog 132 = some 8 := by kernel_rfl
theorem ag132 : aggB Try.prog 132 = some false := by kernel_rfl
theorem sz133 : szOf Try.prog 133 = some 1 := by kernel_rfl
theorem ze133 : zeroOf Try.prog 133 = some (.slice none 0 0) := by kernel_rfl
theorem by133 : byOf Try.prog 133 = some 24 := by kernel_rfl
theorem ag133 : aggB Try.prog 133 = some false := by kernel_rfl
theorem sz134 : szOf Try.prog 134 = some 1 := by kernel_rfl
theorem ze134 : zeroOf Try.prog 134 = some .nilFunc := by kernel_rfl
theorem by134 : byOf Try.prog 134 = some 8 := by kernel_rfl
theorem ag134 : aggB Try.prog 134 = some false := by kernel_rfl
theorem sz135 : szOf Try.prog 135 = some 1 := by kernel_rfl
theorem ze135 : zeroOf Try.prog 135 = some .nilFunc := by kernel_rfl
theorem by135 : byOf Try.prog 135 = some 8 := by kernel_rfl
theorem ag135 : aggB Try.prog 135 = some false := by kernel_rfl
theorem sz136 : szOf Try.prog 136 = some 1 := by kernel_rfl
theorem ze136 : zeroOf Try.prog 136 = some .nilFunc := by kernel_rfl
theorem by136 : byOf Try.prog 136 = some 8 := by kernel_rfl
theorem ag136 : aggB Try.prog 136 = some false := by kernel_rfl
theorem sz137 : szOf Try.prog 137 = some 1 := by kernel_rfl
theorem ze137 : zeroOf Try.prog 137 = some .nilFunc := by kernel_rfl
theorem by137 : byOf Try.prog 137 = some 8 := by kernel_rfl
theorem ag137 : aggB Try.prog 137 = some false := by kernel_rfl
theorem sz138 : szOf Try.prog 138 = some 1 := by kernel_rfl
theorem ze138 : zeroOf Try.prog 138 = some .nilFunc := by kernel_rfl
theorem by138 : byOf Try.prog 138 = some 8 := by kernel_rfl
theorem ag138 : aggB Try.prog 138 = some false := by kernel_rfl
theorem sz139 : szOf Try.prog 139 = some 4 := by kernel_rfl
theorem ze139 : zeroOf Try.prog 139 = some (.agg #[(.pointer none), (.pointer none), (.pointer none), (.string (ByteArray.mk #[]))]) := by kernel_rfl
theorem by139 : byOf Try.prog 139 = some 40 := by kernel_rfl
theorem ag139 : aggB Try.prog 139 = some true := by kernel_rfl
theorem fo139_0 : fieldOff Try.prog 139 0 = some (0, 17) := by kernel_rfl
theorem fo139_1 : fieldOff Try.prog 139 1 = some (1, 17) := by kernel_rfl
theorem fo139_2 : fieldOff Try.prog 139 2 = some (2, 17) := by kernel_rfl
theorem fo139_3 : fieldOff Try.prog 139 3 = some (3, 9) := by kernel_rfl
theorem bu139 (parts : List (Nat × AV)) : aBuild Try.prog 139 parts = (aFill (fun i => [(0, 1), (1, 1), (2, 1), (3, 1)][i]?) [.sc (.pointer none), .sc (.pointer none), .sc (.pointer none), .sc (.string (ByteArray.mk #[]))] parts).map .agg := by kernel_rfl
theorem sz140 : szOf Try.prog 140 = some 4 := by kernel_rfl
theorem ze140 : zeroOf Try.prog 140 = some (.agg #[(.pointer none), (.pointer none), (.pointer none), (.string (ByteArray.mk #[]))]) := by kernel_rfl
theorem by140 : byOf Try.prog 140 = some 40 := by kernel_rfl
theorem ag140 : aggB Try.prog 140 = some true := by kernel_rfl
theorem fo140_0 : fieldOff Try.prog 140 0 = some (0, 17) := by kernel_rfl
theorem fo140_1 : fieldOff Try.prog 140 1 = some (1, 17) := by kernel_rfl
theorem fo140_2 : fieldOff Try.prog 140 2 = some (2, 17) := by kernel_rfl
theorem fo140_3 : fieldOff Try.prog 140 3 = some (3, 9) := by kernel_rfl
theorem bu140 (parts : List (Nat × AV)) : aBuild Try.prog 140 parts = (aFill (fun i => [(0, 1), (1, 1), (2, 1), (3, 1)][i]?) [.sc (.pointer none), .sc (.pointer none), .sc (.pointer none), .sc (.string (ByteArray.mk #[]))] parts).map .agg := by kernel_rfl
theorem sz141 : szOf Try.prog 141 = some 0 := by kernel_rfl
theorem ze141 : zeroOf Try.prog 141 = some (.agg #[]) := by kernel_rfl
theorem by141 : byOf Try.prog 141 = some 0 := by kernel_rfl
theorem ag141 : aggB Try.prog 141 = some true := by kernel_rfl
theorem bu141 (parts : List (Nat × AV)) : aBuild Try.prog 141 parts = (aFill (fun i => some (i * 1, 1)) [] parts).map .agg := by kernel_rfl
theorem sz142 : szOf Try.prog 142 = some 0 := by kernel_rfl
theorem ze142 : zeroOf Try.prog 142 = some (.agg #[]) := by kernel_rfl
theorem by142 : byOf Try.prog 142 = some 0 := by kernel_rfl
theorem ag142 : aggB Try.prog 142 = some true := by kernel_rfl
theorem fo142_0 : fieldOff Try.prog 142 0 = some (0, 141) := by kernel_rfl
theorem bu142 (parts : List (Nat × AV)) : aBuild Try.prog 142 parts = (aFill (fun i => [(0, 0)][i]?) [] parts).map .agg := by kernel_rfl
theorem sz143 : szOf Try.prog 143 = some 0 := by kernel_rfl
theorem ze143 : zeroOf Try.prog 143 = some (.agg #[]) := by kernel_rfl
theorem by143 : byOf Try.prog 143 = some 0 := by kernel_rfl
theorem ag143 : aggB Try.prog 143 = some true := by kernel_rfl
theorem fo143_0 : fieldOff Try.prog 143 0 = some (0, 141) := by kernel_rfl
theorem bu143 (parts : List (Nat × AV)) : aBuild Try.prog 143 parts = (aFill (fun i => [(0, 0)][i]?) [] parts).map .agg := by kernel_rfl
theorem sz144 : szOf Try.prog 144 = some 1 := by kernel_rfl
theorem ze144 : zeroOf Try.prog 144 = some (.int .u32 0) := by kernel_rfl
theorem by144 : byOf Try.prog 144 = some 4 := by kernel_rfl
theorem ag144 : aggB Try.prog 144 = some false := by kernel_rfl
theorem sz145 : szOf Try.prog 145 = some 1 := by kernel_rfl
theorem ze145 : zeroOf Try.prog 145 = some (.int .u8 0) := by kernel_rfl
theorem by145 : byOf Try.prog 145 = some 1 := by kernel_rfl
theorem ag145 : aggB Try.prog 145 = some false := by kernel_rfl
theorem sz146 : szOf Try.prog 146 = some 1 := by kernel_rfl
theorem ze146 : zeroOf Try.prog 146 = some (.int .u8 0) := by kernel_rfl
theorem by146 : byOf Try.prog 146 = some 1 := by kernel_rfl
theorem ag146 : aggB Try.prog 146 = some false := by kernel_rfl
theorem sz147 : szOf Try.prog 147 = some 1 := by kernel_rfl
theorem ze147 : zeroOf Try.prog 147 = some .nilFunc := by kernel_rfl
theorem by147 : byOf Try.prog 147 = some 8 := by kernel_rfl
theorem ag147 : aggB Try.prog 147 = some false := by kernel_rfl
theorem sz148 : szOf Try.prog 148 = some 1 := by kernel_rfl
theorem ze148 : zeroOf Try.prog 148 = some (.pointer none) := by kernel_rfl
theorem by148 : byOf Try.prog 148 = some 8 := by kernel_rfl
theorem ag148 : aggB Try.prog 148 = some false := by kernel_rfl
theorem sz149 : szOf Try.prog 149 = some 1 := by kernel_rfl
theorem ze149 : zeroOf Try.prog 149 = some (.int .i32 0) := by kernel_rfl
theorem by149 : byOf Try.prog 149 = some 4 := by kernel_rfl
theorem ag149 : aggB Try.prog 149 = some false := by kernel_rfl
theorem sz150 : szOf Try.prog 150 = some 1 := by kernel_rfl
theorem ze150 : zeroOf Try.prog 150 = some (.int .i32 0) := by kernel_rfl
theorem by150 : byOf Try.prog 150 = some 4 := by kernel_rfl
theorem ag150 : aggB Try.prog 150 = some false := by kernel_rfl
theorem sz151 : szOf Try.prog 151 = some 11 := by kernel_rfl
theorem ze151 : zeroOf Try.prog 151 = some (.agg #[(.int .u64 0), (.int .u64 0), (.int .u32 0), (.int .u8 0), (.int .u8 0), (.int .u8 0), (.int .u8 0), .nilFunc, (.pointer none), (.int .i32 0), (.int .i32 0)]) := by kernel_rfl
theorem by151 : byOf Try.prog 151 = some 48 := by kernel_rfl
theorem ag151 : aggB Try.prog 151 = some true := by kernel_rfl
theorem fo151_0 : fieldOff Try.prog 151 0 = some (0, 12) := by kernel_rfl
theorem fo151_1 : fieldOff Try.prog 151 1 = some (1, 12) := by kernel_rfl
theorem fo151_2 : fieldOff Try.prog 151 2 = some (2, 144) := by kernel_rfl
theorem fo151_3 : fieldOff Try.prog 151 3 = some (3, 145) := by kernel_rfl
theorem fo151_4 : fieldOff Try.prog 151 4 = some (4, 5) := by kernel_rfl
theorem fo151_5 : fieldOff Try.prog 151 5 = some (5, 5) := by kernel_rfl
theorem fo151_6 : fieldOff Try.prog 151 6 = some (6, 146) := by kernel_rfl
theorem fo151_7 : fieldOff Try.prog 151 7 = some (7, 147) := by kernel_rfl
theorem fo151_8 : fieldOff Try.prog 151 8 = some (8, 148) := by kernel_rfl
theorem fo151_9 : fieldOff Try.prog 151 9 = some (9, 149) := by kernel_rfl
theorem fo151_10 : fieldOff Try.prog 151 10 = some (10, 150) := by kernel_rfl
theorem bu151 (parts : List (Nat × AV)) : aBuild Try.prog 151 parts = (aFill (fun i => [(0, 1), (1, 1), (2, 1), (3, 1), (4, 1), (5, 1), (6, 1), (7, 1), (8, 1), (9, 1), (10, 1)][i]?) [.sc (.int .u64 0), .sc (.int .u64 0), .sc (.int .u32 0), .sc (.int .u8 0), .sc (.int .u8 0), .sc (.int .u8 0), .sc (.int .u8 0), .sc .nilFunc, .sc (.pointer none), .sc (.int .i32 0), .sc (.int .i32 0)] parts).map .agg := by kernel_rfl
theorem sz152 : szOf Try.prog 152 = some 11 := by kernel_rfl
theorem ze152 : zeroOf Try.prog 152 = some (.agg #[(.int .u64 0), (.int .u64 0), (.int .u32 0), (.int .u8 0), (.int .u8 0), (.int .u8 0), (.int .u8 0), .nilFunc, (.pointer none), (.int .i32 0), (.int .i32 0)]) := by kernel_rfl
theorem by152 : byOf Try.prog 152 = some 48 := by kernel_rfl
theorem ag152 : aggB Try.prog 152 = some true := by kernel_rfl
theorem fo152_0 : fieldOff Try.prog 152 0 = some (0, 12) := by kernel_rfl
theorem fo152_1 : fieldOff Try.prog 152 1 = some (1, 12) := by kernel_rfl
theorem fo152_2 : fieldOff Try.prog 152 2 = some (2, 144) := by kernel_rfl
theorem fo152_3 : fieldOff Try.prog 152 3 = some (3, 145) := by kernel_rfl
theorem fo152_4 : fieldOff Try.prog 152 4 = some (4, 5) := by kernel_rfl
theorem fo152_5 : fieldOff Try.prog 152 5 = some (5, 5) := by kernel_rfl
theorem fo152_6 : fieldOff Try.prog 152 6 = some (6, 146) := by kernel_rfl
theorem fo152_7 : fieldOff Try.prog 152 7 = some (7, 147) := by kernel_rfl
theorem fo152_8 : fieldOff Try.prog 152 8 = some (8, 148) := by kernel_rfl
theorem fo152_9 : fieldOff Try.prog 152 9 = some (9, 149) := by kernel_rfl
theorem fo152_10 : fieldOff Try.prog 152 10 = some (10, 150) := by kernel_rfl
theorem bu152 (parts : List (Nat × AV)) : aBuild Try.prog 152 parts = (aFill (fun i => [(0, 1), (1, 1), (2, 1), (3, 1), (4, 1), (5, 1), (6, 1), (7, 1), (8, 1), (9, 1), (10, 1)][i]?) [.sc (.int .u64 0), .sc (.int .u64 0), .sc (.int .u32 0), .sc (.int .u8 0), .sc (.int .u8 0), .sc (.int .u8 0), .sc (.int .u8 0), .sc .nilFunc, .sc (.pointer none), .sc (.int .i32 0), .sc (.int .i32 0)] parts).map .agg := by kernel_rfl
end Go.Proofs.Ytdcomhdadnhpnaa
