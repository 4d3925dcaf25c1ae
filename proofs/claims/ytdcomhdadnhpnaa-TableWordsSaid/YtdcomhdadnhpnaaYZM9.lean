import Derived.Test.YtdcomhdadnhpnaaYZM8
import Derived.Test.YtdcomhdadnhpnaaProg
set_option linter.all false
namespace Go.Proofs.Ytdcomhdadnhpnaa
open Go Go.Am
theorem hmix:Try.prog.follows .mixedOrders=true:=by kernel_rfl
theorem sz3:szOf Try.prog 3=some 1:=by kernel_rfl
theorem ze3:zeroOf Try.prog 3=some (.int .i64 0):=by kernel_rfl
theorem by3:byOf Try.prog 3=some 8:=by kernel_rfl
theorem ag3:aggB Try.prog 3=some false:=by kernel_rfl
theorem sz4:szOf Try.prog 4=some 1:=by kernel_rfl
theorem ze4:zeroOf Try.prog 4=some (.bool false):=by kernel_rfl
theorem by4:byOf Try.prog 4=some 1:=by kernel_rfl
theorem ag4:aggB Try.prog 4=some false:=by kernel_rfl
theorem sz23:szOf Try.prog 23=some 1:=by kernel_rfl
theorem ze23:zeroOf Try.prog 23=some (.int .i64 0):=by kernel_rfl
theorem by23:byOf Try.prog 23=some 8:=by kernel_rfl
theorem ag23:aggB Try.prog 23=some false:=by kernel_rfl
theorem sz31:szOf Try.prog 31=some 1:=by kernel_rfl
theorem ze31:zeroOf Try.prog 31=some (.slice none 0 0):=by kernel_rfl
theorem by31:byOf Try.prog 31=some 24:=by kernel_rfl
theorem ag31:aggB Try.prog 31=some false:=by kernel_rfl
theorem sz35:szOf Try.prog 35=some 1:=by kernel_rfl
theorem ze35:zeroOf Try.prog 35=some (.slice none 0 0):=by kernel_rfl
theorem by35:byOf Try.prog 35=some 24:=by kernel_rfl
theorem ag35:aggB Try.prog 35=some false:=by kernel_rfl
theorem sz40:szOf Try.prog 40=some 1:=by kernel_rfl
theorem ze40:zeroOf Try.prog 40=some (.slice none 0 0):=by kernel_rfl
theorem by40:byOf Try.prog 40=some 24:=by kernel_rfl
theorem ag40:aggB Try.prog 40=some false:=by kernel_rfl
theorem sz41:szOf Try.prog 41=some 1:=by kernel_rfl
theorem ze41:zeroOf Try.prog 41=some (.slice none 0 0):=by kernel_rfl
theorem by41:byOf Try.prog 41=some 24:=by kernel_rfl
theorem ag41:aggB Try.prog 41=some false:=by kernel_rfl
theorem sz43:szOf Try.prog 43=some 2:=by kernel_rfl
theorem ze43:zeroOf Try.prog 43=some (.agg #[(.int .i64 0),(.int .i64 0)]):=by kernel_rfl
theorem by43:byOf Try.prog 43=some 16:=by kernel_rfl
theorem ag43:aggB Try.prog 43=some true:=by kernel_rfl
theorem fo43_0:fieldOff Try.prog 43 0=some (0,3):=by kernel_rfl
theorem fo43_1:fieldOff Try.prog 43 1=some (1,3):=by kernel_rfl
theorem bu43 (parts:List (Nat×AV)):aBuild Try.prog 43 parts=(aFill (fun i=>[(0,1),(1,1)][i]?) [.sc (.int .i64 0),.sc (.int .i64 0)] parts).map .agg:=by kernel_rfl
theorem sz50:szOf Try.prog 50=some 1:=by kernel_rfl
theorem ze50:zeroOf Try.prog 50=some (.slice none 0 0):=by kernel_rfl
theorem by50:byOf Try.prog 50=some 24:=by kernel_rfl
theorem ag50:aggB Try.prog 50=some false:=by kernel_rfl
theorem sz52:szOf Try.prog 52=some 5:=by kernel_rfl
theorem ze52:zeroOf Try.prog 52=some (.agg #[(.slice none 0 0),(.slice none 0 0),(.bool false),(.int .i64 0),(.int .i64 0)]):=by kernel_rfl
theorem by52:byOf Try.prog 52=some 72:=by kernel_rfl
theorem ag52:aggB Try.prog 52=some true:=by kernel_rfl
theorem fo52_0:fieldOff Try.prog 52 0=some (0,40):=by kernel_rfl
theorem fo52_1:fieldOff Try.prog 52 1=some (1,50):=by kernel_rfl
theorem fo52_2:fieldOff Try.prog 52 2=some (2,4):=by kernel_rfl
theorem fo52_3:fieldOff Try.prog 52 3=some (3,3):=by kernel_rfl
theorem fo52_4:fieldOff Try.prog 52 4=some (4,3):=by kernel_rfl
theorem bu52 (parts:List (Nat×AV)):aBuild Try.prog 52 parts=(aFill (fun i=>[(0,1),(1,1),(2,1),(3,1),(4,1)][i]?) [.sc (.slice none 0 0),.sc (.slice none 0 0),.sc (.bool false),.sc (.int .i64 0),.sc (.int .i64 0)] parts).map .agg:=by kernel_rfl
theorem sz64:szOf Try.prog 64=some 4:=by kernel_rfl
theorem ze64:zeroOf Try.prog 64=some (.agg #[(.int .i64 0),(.int .i64 0),(.int .i64 0),(.int .i64 0)]):=by kernel_rfl
theorem by64:byOf Try.prog 64=some 32:=by kernel_rfl
theorem ag64:aggB Try.prog 64=some true:=by kernel_rfl
theorem fo64_0:fieldOff Try.prog 64 0=some (0,3):=by kernel_rfl
theorem fo64_1:fieldOff Try.prog 64 1=some (1,3):=by kernel_rfl
theorem fo64_2:fieldOff Try.prog 64 2=some (2,3):=by kernel_rfl
theorem fo64_3:fieldOff Try.prog 64 3=some (3,3):=by kernel_rfl
theorem bu64 (parts:List (Nat×AV)):aBuild Try.prog 64 parts=(aFill (fun i=>[(0,1),(1,1),(2,1),(3,1)][i]?) [.sc (.int .i64 0),.sc (.int .i64 0),.sc (.int .i64 0),.sc (.int .i64 0)] parts).map .agg:=by kernel_rfl
theorem sz66:szOf Try.prog 66=some 2:=by kernel_rfl
theorem ze66:zeroOf Try.prog 66=some (.agg #[(.slice none 0 0),(.int .i64 0)]):=by kernel_rfl
theorem by66:byOf Try.prog 66=some 32:=by kernel_rfl
theorem ag66:aggB Try.prog 66=some true:=by kernel_rfl
theorem fo66_0:fieldOff Try.prog 66 0=some (0,41):=by kernel_rfl
theorem fo66_1:fieldOff Try.prog 66 1=some (1,23):=by kernel_rfl
theorem bu66 (parts:List (Nat×AV)):aBuild Try.prog 66 parts=(aFill (fun i=>[(0,1),(1,1)][i]?) [.sc (.slice none 0 0),.sc (.int .i64 0)] parts).map .agg:=by kernel_rfl
theorem sz78:szOf Try.prog 78=some 2:=by kernel_rfl
theorem ze78:zeroOf Try.prog 78=some (.agg #[(.slice none 0 0),(.slice none 0 0)]):=by kernel_rfl
theorem by78:byOf Try.prog 78=some 48:=by kernel_rfl
theorem ag78:aggB Try.prog 78=some true:=by kernel_rfl
theorem fo78_0:fieldOff Try.prog 78 0=some (0,40):=by kernel_rfl
theorem fo78_1:fieldOff Try.prog 78 1=some (1,35):=by kernel_rfl
theorem bu78 (parts:List (Nat×AV)):aBuild Try.prog 78 parts=(aFill (fun i=>[(0,1),(1,1)][i]?) [.sc (.slice none 0 0),.sc (.slice none 0 0)] parts).map .agg:=by kernel_rfl
theorem sz83:szOf Try.prog 83=some 1:=by kernel_rfl
theorem ze83:zeroOf Try.prog 83=some (.slice none 0 0):=by kernel_rfl
theorem by83:byOf Try.prog 83=some 24:=by kernel_rfl
theorem ag83:aggB Try.prog 83=some false:=by kernel_rfl
theorem sz84:szOf Try.prog 84=some 2:=by kernel_rfl
theorem ze84:zeroOf Try.prog 84=some (.agg #[(.int .i64 0),(.int .i64 0)]):=by kernel_rfl
theorem by84:byOf Try.prog 84=some 16:=by kernel_rfl
theorem ag84:aggB Try.prog 84=some true:=by kernel_rfl
theorem bu84 (parts:List (Nat×AV)):aBuild Try.prog 84 parts=(aFill (fun i=>some (i*1,1)) [.sc (.int .i64 0),.sc (.int .i64 0)] parts).map .agg:=by kernel_rfl
theorem sz91:szOf Try.prog 91=some 1:=by kernel_rfl
theorem ze91:zeroOf Try.prog 91=some (.agg #[(.slice none 0 0)]):=by kernel_rfl
theorem by91:byOf Try.prog 91=some 24:=by kernel_rfl
theorem ag91:aggB Try.prog 91=some true:=by kernel_rfl
theorem fo91_0:fieldOff Try.prog 91 0=some (0,31):=by kernel_rfl
theorem bu91 (parts:List (Nat×AV)):aBuild Try.prog 91 parts=(aFill (fun i=>[(0,1)][i]?) [.sc (.slice none 0 0)] parts).map .agg:=by kernel_rfl
theorem sz92:szOf Try.prog 92=some 1:=by kernel_rfl
theorem ze92:zeroOf Try.prog 92=some (.pointer none):=by kernel_rfl
theorem by92:byOf Try.prog 92=some 8:=by kernel_rfl
theorem ag92:aggB Try.prog 92=some false:=by kernel_rfl
theorem sz102:szOf Try.prog 102=some 2:=by kernel_rfl
theorem ze102:zeroOf Try.prog 102=some (.agg #[(.pointer none),(.int .i64 0)]):=by kernel_rfl
theorem by102:byOf Try.prog 102=some 16:=by kernel_rfl
theorem ag102:aggB Try.prog 102=some true:=by kernel_rfl
theorem fo102_0:fieldOff Try.prog 102 0=some (0,92):=by kernel_rfl
theorem fo102_1:fieldOff Try.prog 102 1=some (1,3):=by kernel_rfl
theorem bu102 (parts:List (Nat×AV)):aBuild Try.prog 102 parts=(aFill (fun i=>[(0,1),(1,1)][i]?) [.sc (.pointer none),.sc (.int .i64 0)] parts).map .agg:=by kernel_rfl
theorem sz120:szOf Try.prog 120=some 1:=by kernel_rfl
theorem ze120:zeroOf Try.prog 120=some (.map none):=by kernel_rfl
theorem by120:byOf Try.prog 120=some 8:=by kernel_rfl
theorem ag120:aggB Try.prog 120=some false:=by kernel_rfl
end Go.Proofs.Ytdcomhdadnhpnaa
