/-
  LoaderLoads: part 5 of the proof.
-/
import Derived.Test.YtliidiceljdgmaaGreatQLoaderLoadsD
set_option linter.unusedSimpArgs false
set_option linter.unusedVariables false
set_option linter.unusedSectionVars false
namespace Go.Proofs.YtliidiceljdgmaaGreat
open Go.IntKind (u8 u16 u32 u64 i64)
open Go.RowKit
open Sy
theorem Zo7 (Ze Zc types:Int) (nc:Nat) (data:List UInt8) (rs:List Rl) (Za:List Nat):evF Tryz.prog (ZH 3 YT) Zf 100 10 55 [YE Ze Zc types nc rs.length Za.length data] ⟨67,imH rs Za,[],0,(tb 16 65535),0,True⟩=some (Value.int .i64 3,{ n:=68,h:=[(65,⟨false,some (0,0),rels rs,none⟩),(66,⟨false,some (0,0),Zk Za,none⟩)],lo:=[],esc:=0,T:=[],k:=16,O:=(((((((((((((((True∧decide ((↑nc:Int)>(4096:Int))=true)∧decide ((↑nc:Int)>(4096:Int))=true)∧decide ((↑nc:Int)>(4096:Int))=true)∧decide ((↑nc:Int)>(4096:Int))=true)∧decide ((↑nc:Int)>(4096:Int))=true)∧tt)∧tt)∧tt)∧tt)∧tt)∧tt)∧tt)∧tt)∧tt)∧tt)∧true=true:St }):=by kernel_rfl
theorem Zo8 (Ze Zc types:Int) (nc:Nat) (data:List UInt8) (rs:List Rl) (Za:List Nat):evF Tryz.prog (ZH 3 YT) Zf 100 10 55 [YE Ze Zc types nc rs.length Za.length data] ⟨67,imH rs Za,[],0,(tb 16 65504),0,True⟩=some (Value.int .i64 3,{ n:=68,h:=[(65,⟨false,some (0,0),rels rs,none⟩),(66,⟨false,some (0,0),Zk Za,none⟩)],lo:=[],esc:=0,T:=[],k:=16,O:=(((((((((((((((True∧decide ((↑nc:Int)>(4096:Int))=false)∧decide ((↑nc:Int)>(4096:Int))=false)∧decide ((↑nc:Int)>(4096:Int))=false)∧decide ((↑nc:Int)>(4096:Int))=false)∧decide ((↑nc:Int)>(4096:Int))=false)∧decide ((↑(Zr data):Int)>(16384:Int))=true)∧decide ((↑(Zr data):Int)>(16384:Int))=true)∧decide ((↑(Zr data):Int)>(16384:Int))=true)∧decide ((↑(Zr data):Int)>(16384:Int))=true)∧decide ((↑(Zr data):Int)>(16384:Int))=true)∧tt)∧tt)∧tt)∧tt)∧tt)∧true=true:St }):=by kernel_rfl
theorem Zo9 (Ze Zc types:Int) (nc:Nat) (data:List UInt8) (rs:List Rl) (Za:List Nat):evF Tryz.prog (ZH 3 YT) Zf 100 10 55 [YE Ze Zc types nc rs.length Za.length data] ⟨67,imH rs Za,[],0,(tb 16 64512),0,True⟩=some (Value.int .i64 3,{ n:=68,h:=[(65,⟨false,some (0,0),rels rs,none⟩),(66,⟨false,some (0,0),Zk Za,none⟩)],lo:=[],esc:=0,T:=[],k:=16,O:=(((((((((((((((True∧decide ((↑nc:Int)>(4096:Int))=false)∧decide ((↑nc:Int)>(4096:Int))=false)∧decide ((↑nc:Int)>(4096:Int))=false)∧decide ((↑nc:Int)>(4096:Int))=false)∧decide ((↑nc:Int)>(4096:Int))=false)∧decide ((↑(Zr data):Int)>(16384:Int))=false)∧decide ((↑(Zr data):Int)>(16384:Int))=false)∧decide ((↑(Zr data):Int)>(16384:Int))=false)∧decide ((↑(Zr data):Int)>(16384:Int))=false)∧decide ((↑(Zr data):Int)>(16384:Int))=false)∧decide ((↑rs.length:Int)>(256:Int))=true)∧decide ((↑rs.length:Int)>(256:Int))=true)∧decide ((↑rs.length:Int)>(256:Int))=true)∧decide ((↑rs.length:Int)>(256:Int))=true)∧decide ((↑rs.length:Int)>(256:Int))=true)∧true=true:St }):=by kernel_rfl
theorem Zpa (Ze Zc types:Int) (nc:Nat) (data:List UInt8) (rs:List Rl) (Za:List Nat):evF Tryz.prog (ZH 3 YT) Zf 100 10 55 [YE Ze Zc types nc rs.length Za.length data] ⟨67,imH rs Za,[],0,(tb 16 32768),0,True⟩=some (Value.int .i64 3,{ n:=68,h:=[(65,⟨false,some (0,0),rels rs,none⟩),(66,⟨false,some (0,0),Zk Za,none⟩)],lo:=[],esc:=0,T:=[],k:=16,O:=(((((((((((((((True∧decide ((↑nc:Int)>(4096:Int))=false)∧decide ((↑nc:Int)>(4096:Int))=false)∧decide ((↑nc:Int)>(4096:Int))=false)∧decide ((↑nc:Int)>(4096:Int))=false)∧decide ((↑nc:Int)>(4096:Int))=false)∧decide ((↑(Zr data):Int)>(16384:Int))=false)∧decide ((↑(Zr data):Int)>(16384:Int))=false)∧decide ((↑(Zr data):Int)>(16384:Int))=false)∧decide ((↑(Zr data):Int)>(16384:Int))=false)∧decide ((↑(Zr data):Int)>(16384:Int))=false)∧decide ((↑rs.length:Int)>(256:Int))=false)∧decide ((↑rs.length:Int)>(256:Int))=false)∧decide ((↑rs.length:Int)>(256:Int))=false)∧decide ((↑rs.length:Int)>(256:Int))=false)∧decide ((↑rs.length:Int)>(256:Int))=false)∧decide ((↑Za.length:Int)>(4:Int))=true:St }):=by kernel_rfl
theorem Zpb (Ze Zc types:Int) (nc:Nat) (data:List UInt8) (rs:List Rl) (Za:List Nat):evF Tryz.prog (ZH 3 YT) Zf 100 10 55 [YE Ze Zc types nc rs.length Za.length data] ⟨67,imH rs Za,[],0,(tb 52 4503599627304960),0,True⟩=some (Value.int .i64 2,{ n:=68,h:=[(65,⟨false,some (0,0),rels rs,none⟩),(66,⟨false,some (0,0),Zk Za,none⟩)],lo:=[],esc:=0,T:=[],k:=52,O:=(((((((((((((((((((((((((((((((((((((((((((((((((((True∧decide ((↑nc:Int)>(4096:Int))=false)∧decide ((↑nc:Int)>(4096:Int))=false)∧decide ((↑nc:Int)>(4096:Int))=false)∧decide ((↑nc:Int)>(4096:Int))=false)∧decide ((↑nc:Int)>(4096:Int))=false)∧decide ((↑(Zr data):Int)>(16384:Int))=false)∧decide ((↑(Zr data):Int)>(16384:Int))=false)∧decide ((↑(Zr data):Int)>(16384:Int))=false)∧decide ((↑(Zr data):Int)>(16384:Int))=false)∧decide ((↑(Zr data):Int)>(16384:Int))=false)∧decide ((↑rs.length:Int)>(256:Int))=false)∧decide ((↑rs.length:Int)>(256:Int))=false)∧decide ((↑rs.length:Int)>(256:Int))=false)∧decide ((↑rs.length:Int)>(256:Int))=false)∧decide ((↑rs.length:Int)>(256:Int))=false)∧decide ((↑Za.length:Int)>(4:Int))=false)∧decide (Ze<(16:Int))=true)∧decide (Ze<(16:Int))=true)∧decide (Ze<(16:Int))=true)∧decide (Ze<(16:Int))=true)∧tt)∧tt)∧tt)∧tt)∧tt)∧tt)∧tt)∧tt)∧tt)∧tt)∧tt)∧tt)∧tt)∧tt)∧tt)∧tt)∧tt)∧tt)∧tt)∧tt)∧tt)∧tt)∧tt)∧tt)∧tt)∧tt)∧tt)∧tt)∧tt)∧tt)∧tt)∧true=true:St }):=by kernel_rfl
theorem Zpc (Ze Zc types:Int) (nc:Nat) (data:List UInt8) (rs:List Rl) (Za:List Nat):evF Tryz.prog (ZH 3 YT) Zf 100 10 55 [YE Ze Zc types nc rs.length Za.length data] ⟨67,imH rs Za,[],0,(tb 52 4503599626321920),0,True⟩=some (Value.int .i64 2,{ n:=68,h:=[(65,⟨false,some (0,0),rels rs,none⟩),(66,⟨false,some (0,0),Zk Za,none⟩)],lo:=[],esc:=0,T:=[],k:=52,O:=(((((((((((((((((((((((((((((((((((((((((((((((((((True∧decide ((↑nc:Int)>(4096:Int))=false)∧decide ((↑nc:Int)>(4096:Int))=false)∧decide ((↑nc:Int)>(4096:Int))=false)∧decide ((↑nc:Int)>(4096:Int))=false)∧decide ((↑nc:Int)>(4096:Int))=false)∧decide ((↑(Zr data):Int)>(16384:Int))=false)∧decide ((↑(Zr data):Int)>(16384:Int))=false)∧decide ((↑(Zr data):Int)>(16384:Int))=false)∧decide ((↑(Zr data):Int)>(16384:Int))=false)∧decide ((↑(Zr data):Int)>(16384:Int))=false)∧decide ((↑rs.length:Int)>(256:Int))=false)∧decide ((↑rs.length:Int)>(256:Int))=false)∧decide ((↑rs.length:Int)>(256:Int))=false)∧decide ((↑rs.length:Int)>(256:Int))=false)∧decide ((↑rs.length:Int)>(256:Int))=false)∧decide ((↑Za.length:Int)>(4:Int))=false)∧decide (Ze<(16:Int))=false)∧decide (Ze<(16:Int))=false)∧decide (Ze<(16:Int))=false)∧decide (Ze<(16:Int))=false)∧decide (Ze>(1024:Int))=true)∧decide (Ze>(1024:Int))=true)∧decide (Ze>(1024:Int))=true)∧decide (Ze>(1024:Int))=true)∧tt)∧tt)∧tt)∧tt)∧tt)∧tt)∧tt)∧tt)∧tt)∧tt)∧tt)∧tt)∧tt)∧tt)∧tt)∧tt)∧tt)∧tt)∧tt)∧tt)∧tt)∧tt)∧tt)∧tt)∧tt)∧tt)∧tt)∧true=true:St }):=by kernel_rfl
theorem Zpd (Ze Zc types:Int) (nc:Nat) (data:List UInt8) (rs:List Rl) (Za:List Nat):evF Tryz.prog (ZH 3 YT) Zf 100 10 55 [YE Ze Zc types nc rs.length Za.length data] ⟨67,imH rs Za,[],0,(tb 52 4503599610593280),0,True⟩=some (Value.int .i64 2,{ n:=68,h:=[(65,⟨false,some (0,0),rels rs,none⟩),(66,⟨false,some (0,0),Zk Za,none⟩)],lo:=[],esc:=0,T:=[],k:=52,O:=(((((((((((((((((((((((((((((((((((((((((((((((((((True∧decide ((↑nc:Int)>(4096:Int))=false)∧decide ((↑nc:Int)>(4096:Int))=false)∧decide ((↑nc:Int)>(4096:Int))=false)∧decide ((↑nc:Int)>(4096:Int))=false)∧decide ((↑nc:Int)>(4096:Int))=false)∧decide ((↑(Zr data):Int)>(16384:Int))=false)∧decide ((↑(Zr data):Int)>(16384:Int))=false)∧decide ((↑(Zr data):Int)>(16384:Int))=false)∧decide ((↑(Zr data):Int)>(16384:Int))=false)∧decide ((↑(Zr data):Int)>(16384:Int))=false)∧decide ((↑rs.length:Int)>(256:Int))=false)∧decide ((↑rs.length:Int)>(256:Int))=false)∧decide ((↑rs.length:Int)>(256:Int))=false)∧decide ((↑rs.length:Int)>(256:Int))=false)∧decide ((↑rs.length:Int)>(256:Int))=false)∧decide ((↑Za.length:Int)>(4:Int))=false)∧decide (Ze<(16:Int))=false)∧decide (Ze<(16:Int))=false)∧decide (Ze<(16:Int))=false)∧decide (Ze<(16:Int))=false)∧decide (Ze>(1024:Int))=false)∧decide (Ze>(1024:Int))=false)∧decide (Ze>(1024:Int))=false)∧decide (Ze>(1024:Int))=false)∧decide (Zc<(256:Int))=true)∧decide (Zc<(256:Int))=true)∧decide (Zc<(256:Int))=true)∧decide (Zc<(256:Int))=true)∧tt)∧tt)∧tt)∧tt)∧tt)∧tt)∧tt)∧tt)∧tt)∧tt)∧tt)∧tt)∧tt)∧tt)∧tt)∧tt)∧tt)∧tt)∧tt)∧tt)∧tt)∧tt)∧tt)∧true=true:St }):=by kernel_rfl
theorem Zpe (Ze Zc types:Int) (nc:Nat) (data:List UInt8) (rs:List Rl) (Za:List Nat):evF Tryz.prog (ZH 3 YT) Zf 100 10 55 [YE Ze Zc types nc rs.length Za.length data] ⟨67,imH rs Za,[],0,(tb 52 4503599358935040),0,True⟩=some (Value.int .i64 2,{ n:=68,h:=[(65,⟨false,some (0,0),rels rs,none⟩),(66,⟨false,some (0,0),Zk Za,none⟩)],lo:=[],esc:=0,T:=[],k:=52,O:=(((((((((((((((((((((((((((((((((((((((((((((((((((True∧decide ((↑nc:Int)>(4096:Int))=false)∧decide ((↑nc:Int)>(4096:Int))=false)∧decide ((↑nc:Int)>(4096:Int))=false)∧decide ((↑nc:Int)>(4096:Int))=false)∧decide ((↑nc:Int)>(4096:Int))=false)∧decide ((↑(Zr data):Int)>(16384:Int))=false)∧decide ((↑(Zr data):Int)>(16384:Int))=false)∧decide ((↑(Zr data):Int)>(16384:Int))=false)∧decide ((↑(Zr data):Int)>(16384:Int))=false)∧decide ((↑(Zr data):Int)>(16384:Int))=false)∧decide ((↑rs.length:Int)>(256:Int))=false)∧decide ((↑rs.length:Int)>(256:Int))=false)∧decide ((↑rs.length:Int)>(256:Int))=false)∧decide ((↑rs.length:Int)>(256:Int))=false)∧decide ((↑rs.length:Int)>(256:Int))=false)∧decide ((↑Za.length:Int)>(4:Int))=false)∧decide (Ze<(16:Int))=false)∧decide (Ze<(16:Int))=false)∧decide (Ze<(16:Int))=false)∧decide (Ze<(16:Int))=false)∧decide (Ze>(1024:Int))=false)∧decide (Ze>(1024:Int))=false)∧decide (Ze>(1024:Int))=false)∧decide (Ze>(1024:Int))=false)∧decide (Zc<(256:Int))=false)∧decide (Zc<(256:Int))=false)∧decide (Zc<(256:Int))=false)∧decide (Zc<(256:Int))=false)∧decide (Zc>(4096:Int))=true)∧decide (Zc>(4096:Int))=true)∧decide (Zc>(4096:Int))=true)∧decide (Zc>(4096:Int))=true)∧decide (Zc>(4096:Int))=true)∧tt)∧tt)∧tt)∧tt)∧tt)∧tt)∧tt)∧tt)∧tt)∧tt)∧tt)∧tt)∧tt)∧tt)∧tt)∧tt)∧tt)∧tt)∧true=true:St }):=by kernel_rfl
theorem Zpf (Ze Zc types:Int) (nc:Nat) (data:List UInt8) (rs:List Rl) (Za:List Nat):evF Tryz.prog (ZH 3 YT) Zf 100 10 55 [YE Ze Zc types nc rs.length Za.length data] ⟨67,imH rs Za,[],0,(tb 52 4503591037435904),0,True⟩=some (Value.int .i64 2,{ n:=68,h:=[(65,⟨false,some (0,0),rels rs,none⟩),(66,⟨false,some (0,0),Zk Za,none⟩)],lo:=[],esc:=0,T:=[],k:=52,O:=(((((((((((((((((((((((((((((((((((((((((((((((((((True∧decide ((↑nc:Int)>(4096:Int))=false)∧decide ((↑nc:Int)>(4096:Int))=false)∧decide ((↑nc:Int)>(4096:Int))=false)∧decide ((↑nc:Int)>(4096:Int))=false)∧decide ((↑nc:Int)>(4096:Int))=false)∧decide ((↑(Zr data):Int)>(16384:Int))=false)∧decide ((↑(Zr data):Int)>(16384:Int))=false)∧decide ((↑(Zr data):Int)>(16384:Int))=false)∧decide ((↑(Zr data):Int)>(16384:Int))=false)∧decide ((↑(Zr data):Int)>(16384:Int))=false)∧decide ((↑rs.length:Int)>(256:Int))=false)∧decide ((↑rs.length:Int)>(256:Int))=false)∧decide ((↑rs.length:Int)>(256:Int))=false)∧decide ((↑rs.length:Int)>(256:Int))=false)∧decide ((↑rs.length:Int)>(256:Int))=false)∧decide ((↑Za.length:Int)>(4:Int))=false)∧decide (Ze<(16:Int))=false)∧decide (Ze<(16:Int))=false)∧decide (Ze<(16:Int))=false)∧decide (Ze<(16:Int))=false)∧decide (Ze>(1024:Int))=false)∧decide (Ze>(1024:Int))=false)∧decide (Ze>(1024:Int))=false)∧decide (Ze>(1024:Int))=false)∧decide (Zc<(256:Int))=false)∧decide (Zc<(256:Int))=false)∧decide (Zc<(256:Int))=false)∧decide (Zc<(256:Int))=false)∧decide (Zc>(4096:Int))=false)∧decide (Zc>(4096:Int))=false)∧decide (Zc>(4096:Int))=false)∧decide (Zc>(4096:Int))=false)∧decide (Zc>(4096:Int))=false)∧(Zc.tmod (256:Int) !=(0:Int))=true)∧(Zc.tmod (256:Int) !=(0:Int))=true)∧(Zc.tmod (256:Int) !=(0:Int))=true)∧(Zc.tmod (256:Int) !=(0:Int))=true)∧tt)∧tt)∧tt)∧tt)∧tt)∧tt)∧tt)∧tt)∧tt)∧tt)∧tt)∧tt)∧tt)∧tt)∧true=true:St }):=by kernel_rfl
theorem Zpg (Ze Zc types:Int) (nc:Nat) (data:List UInt8) (rs:List Rl) (Za:List Nat):evF Tryz.prog (ZH 3 YT) Zf 100 10 55 [YE Ze Zc types nc rs.length Za.length data] ⟨67,imH rs Za,[],0,(tb 52 4503462188417024),0,True⟩=some (Value.int .i64 2,{ n:=68,h:=[(65,⟨false,some (0,0),rels rs,none⟩),(66,⟨false,some (0,0),Zk Za,none⟩)],lo:=[],esc:=0,T:=[],k:=52,O:=(((((((((((((((((((((((((((((((((((((((((((((((((((True∧decide ((↑nc:Int)>(4096:Int))=false)∧decide ((↑nc:Int)>(4096:Int))=false)∧decide ((↑nc:Int)>(4096:Int))=false)∧decide ((↑nc:Int)>(4096:Int))=false)∧decide ((↑nc:Int)>(4096:Int))=false)∧decide ((↑(Zr data):Int)>(16384:Int))=false)∧decide ((↑(Zr data):Int)>(16384:Int))=false)∧decide ((↑(Zr data):Int)>(16384:Int))=false)∧decide ((↑(Zr data):Int)>(16384:Int))=false)∧decide ((↑(Zr data):Int)>(16384:Int))=false)∧decide ((↑rs.length:Int)>(256:Int))=false)∧decide ((↑rs.length:Int)>(256:Int))=false)∧decide ((↑rs.length:Int)>(256:Int))=false)∧decide ((↑rs.length:Int)>(256:Int))=false)∧decide ((↑rs.length:Int)>(256:Int))=false)∧decide ((↑Za.length:Int)>(4:Int))=false)∧decide (Ze<(16:Int))=false)∧decide (Ze<(16:Int))=false)∧decide (Ze<(16:Int))=false)∧decide (Ze<(16:Int))=false)∧decide (Ze>(1024:Int))=false)∧decide (Ze>(1024:Int))=false)∧decide (Ze>(1024:Int))=false)∧decide (Ze>(1024:Int))=false)∧decide (Zc<(256:Int))=false)∧decide (Zc<(256:Int))=false)∧decide (Zc<(256:Int))=false)∧decide (Zc<(256:Int))=false)∧decide (Zc>(4096:Int))=false)∧decide (Zc>(4096:Int))=false)∧decide (Zc>(4096:Int))=false)∧decide (Zc>(4096:Int))=false)∧decide (Zc>(4096:Int))=false)∧(Zc.tmod (256:Int) !=(0:Int))=false)∧(Zc.tmod (256:Int) !=(0:Int))=false)∧(Zc.tmod (256:Int) !=(0:Int))=false)∧(Zc.tmod (256:Int) !=(0:Int))=false)∧decide (types<(0:Int))=true)∧decide (types<(0:Int))=true)∧decide (types<(0:Int))=true)∧decide (types<(0:Int))=true)∧tt)∧tt)∧tt)∧tt)∧tt)∧tt)∧tt)∧tt)∧tt)∧tt)∧true=true:St }):=by kernel_rfl
theorem Zph (Ze Zc types:Int) (nc:Nat) (data:List UInt8) (rs:List Rl) (Za:List Nat):evF Tryz.prog (ZH 3 YT) Zf 100 10 55 [YE Ze Zc types nc rs.length Za.length data] ⟨67,imH rs Za,[],0,(tb 52 4501400604114944),0,True⟩=some (Value.int .i64 2,{ n:=68,h:=[(65,⟨false,some (0,0),rels rs,none⟩),(66,⟨false,some (0,0),Zk Za,none⟩)],lo:=[],esc:=0,T:=[],k:=52,O:=(((((((((((((((((((((((((((((((((((((((((((((((((((True∧decide ((↑nc:Int)>(4096:Int))=false)∧decide ((↑nc:Int)>(4096:Int))=false)∧decide ((↑nc:Int)>(4096:Int))=false)∧decide ((↑nc:Int)>(4096:Int))=false)∧decide ((↑nc:Int)>(4096:Int))=false)∧decide ((↑(Zr data):Int)>(16384:Int))=false)∧decide ((↑(Zr data):Int)>(16384:Int))=false)∧decide ((↑(Zr data):Int)>(16384:Int))=false)∧decide ((↑(Zr data):Int)>(16384:Int))=false)∧decide ((↑(Zr data):Int)>(16384:Int))=false)∧decide ((↑rs.length:Int)>(256:Int))=false)∧decide ((↑rs.length:Int)>(256:Int))=false)∧decide ((↑rs.length:Int)>(256:Int))=false)∧decide ((↑rs.length:Int)>(256:Int))=false)∧decide ((↑rs.length:Int)>(256:Int))=false)∧decide ((↑Za.length:Int)>(4:Int))=false)∧decide (Ze<(16:Int))=false)∧decide (Ze<(16:Int))=false)∧decide (Ze<(16:Int))=false)∧decide (Ze<(16:Int))=false)∧decide (Ze>(1024:Int))=false)∧decide (Ze>(1024:Int))=false)∧decide (Ze>(1024:Int))=false)∧decide (Ze>(1024:Int))=false)∧decide (Zc<(256:Int))=false)∧decide (Zc<(256:Int))=false)∧decide (Zc<(256:Int))=false)∧decide (Zc<(256:Int))=false)∧decide (Zc>(4096:Int))=false)∧decide (Zc>(4096:Int))=false)∧decide (Zc>(4096:Int))=false)∧decide (Zc>(4096:Int))=false)∧decide (Zc>(4096:Int))=false)∧(Zc.tmod (256:Int) !=(0:Int))=false)∧(Zc.tmod (256:Int) !=(0:Int))=false)∧(Zc.tmod (256:Int) !=(0:Int))=false)∧(Zc.tmod (256:Int) !=(0:Int))=false)∧decide (types<(0:Int))=false)∧decide (types<(0:Int))=false)∧decide (types<(0:Int))=false)∧decide (types<(0:Int))=false)∧decide (types>(2048:Int))=true)∧decide (types>(2048:Int))=true)∧decide (types>(2048:Int))=true)∧decide (types>(2048:Int))=true)∧decide (types>(2048:Int))=true)∧tt)∧tt)∧tt)∧tt)∧tt)∧true=true:St }):=by kernel_rfl
theorem Zpi (Ze Zc types:Int) (nc:Nat) (data:List UInt8) (rs:List Rl) (Za:List Nat):evF Tryz.prog (ZH 3 YT) Zf 100 10 55 [YE Ze Zc types nc rs.length Za.length data] ⟨67,imH rs Za,[],0,(tb 52 4433230883192832),0,True⟩=some (Value.int .i64 2,{ n:=68,h:=[(65,⟨false,some (0,0),rels rs,none⟩),(66,⟨false,some (0,0),Zk Za,none⟩)],lo:=[],esc:=0,T:=[],k:=52,O:=(((((((((((((((((((((((((((((((((((((((((((((((((((True∧decide ((↑nc:Int)>(4096:Int))=false)∧decide ((↑nc:Int)>(4096:Int))=false)∧decide ((↑nc:Int)>(4096:Int))=false)∧decide ((↑nc:Int)>(4096:Int))=false)∧decide ((↑nc:Int)>(4096:Int))=false)∧decide ((↑(Zr data):Int)>(16384:Int))=false)∧decide ((↑(Zr data):Int)>(16384:Int))=false)∧decide ((↑(Zr data):Int)>(16384:Int))=false)∧decide ((↑(Zr data):Int)>(16384:Int))=false)∧decide ((↑(Zr data):Int)>(16384:Int))=false)∧decide ((↑rs.length:Int)>(256:Int))=false)∧decide ((↑rs.length:Int)>(256:Int))=false)∧decide ((↑rs.length:Int)>(256:Int))=false)∧decide ((↑rs.length:Int)>(256:Int))=false)∧decide ((↑rs.length:Int)>(256:Int))=false)∧decide ((↑Za.length:Int)>(4:Int))=false)∧decide (Ze<(16:Int))=false)∧decide (Ze<(16:Int))=false)∧decide (Ze<(16:Int))=false)∧decide (Ze<(16:Int))=false)∧decide (Ze>(1024:Int))=false)∧decide (Ze>(1024:Int))=false)∧decide (Ze>(1024:Int))=false)∧decide (Ze>(1024:Int))=false)∧decide (Zc<(256:Int))=false)∧decide (Zc<(256:Int))=false)∧decide (Zc<(256:Int))=false)∧decide (Zc<(256:Int))=false)∧decide (Zc>(4096:Int))=false)∧decide (Zc>(4096:Int))=false)∧decide (Zc>(4096:Int))=false)∧decide (Zc>(4096:Int))=false)∧decide (Zc>(4096:Int))=false)∧(Zc.tmod (256:Int) !=(0:Int))=false)∧(Zc.tmod (256:Int) !=(0:Int))=false)∧(Zc.tmod (256:Int) !=(0:Int))=false)∧(Zc.tmod (256:Int) !=(0:Int))=false)∧decide (types<(0:Int))=false)∧decide (types<(0:Int))=false)∧decide (types<(0:Int))=false)∧decide (types<(0:Int))=false)∧decide (types>(2048:Int))=false)∧decide (types>(2048:Int))=false)∧decide (types>(2048:Int))=false)∧decide (types>(2048:Int))=false)∧decide (types>(2048:Int))=false)∧((↑nc:Int)==(0:Int))=true)∧((↑nc:Int)==(0:Int))=true)∧((↑nc:Int)==(0:Int))=true)∧((↑nc:Int)==(0:Int))=true)∧((↑nc:Int)==(0:Int))=true)∧true=true:St }):=by kernel_rfl
theorem Zpj (Ze Zc types:Int) (nc:Nat) (data:List UInt8) (rs:List Rl) (Za:List Nat):evF Tryz.prog (ZH 3 YT) Zf 100 10 55 [YE Ze Zc types nc rs.length Za.length data] ⟨67,imH rs Za,[],0,(tb 52 2251799813685248),0,True⟩=some (Value.int .i64 2,{ n:=68,h:=[(65,⟨false,some (0,0),rels rs,none⟩),(66,⟨false,some (0,0),Zk Za,none⟩)],lo:=[],esc:=0,T:=[],k:=52,O:=(((((((((((((((((((((((((((((((((((((((((((((((((((True∧decide ((↑nc:Int)>(4096:Int))=false)∧decide ((↑nc:Int)>(4096:Int))=false)∧decide ((↑nc:Int)>(4096:Int))=false)∧decide ((↑nc:Int)>(4096:Int))=false)∧decide ((↑nc:Int)>(4096:Int))=false)∧decide ((↑(Zr data):Int)>(16384:Int))=false)∧decide ((↑(Zr data):Int)>(16384:Int))=false)∧decide ((↑(Zr data):Int)>(16384:Int))=false)∧decide ((↑(Zr data):Int)>(16384:Int))=false)∧decide ((↑(Zr data):Int)>(16384:Int))=false)∧decide ((↑rs.length:Int)>(256:Int))=false)∧decide ((↑rs.length:Int)>(256:Int))=false)∧decide ((↑rs.length:Int)>(256:Int))=false)∧decide ((↑rs.length:Int)>(256:Int))=false)∧decide ((↑rs.length:Int)>(256:Int))=false)∧decide ((↑Za.length:Int)>(4:Int))=false)∧decide (Ze<(16:Int))=false)∧decide (Ze<(16:Int))=false)∧decide (Ze<(16:Int))=false)∧decide (Ze<(16:Int))=false)∧decide (Ze>(1024:Int))=false)∧decide (Ze>(1024:Int))=false)∧decide (Ze>(1024:Int))=false)∧decide (Ze>(1024:Int))=false)∧decide (Zc<(256:Int))=false)∧decide (Zc<(256:Int))=false)∧decide (Zc<(256:Int))=false)∧decide (Zc<(256:Int))=false)∧decide (Zc>(4096:Int))=false)∧decide (Zc>(4096:Int))=false)∧decide (Zc>(4096:Int))=false)∧decide (Zc>(4096:Int))=false)∧decide (Zc>(4096:Int))=false)∧(Zc.tmod (256:Int) !=(0:Int))=false)∧(Zc.tmod (256:Int) !=(0:Int))=false)∧(Zc.tmod (256:Int) !=(0:Int))=false)∧(Zc.tmod (256:Int) !=(0:Int))=false)∧decide (types<(0:Int))=false)∧decide (types<(0:Int))=false)∧decide (types<(0:Int))=false)∧decide (types<(0:Int))=false)∧decide (types>(2048:Int))=false)∧decide (types>(2048:Int))=false)∧decide (types>(2048:Int))=false)∧decide (types>(2048:Int))=false)∧decide (types>(2048:Int))=false)∧((↑nc:Int)==(0:Int))=false)∧((↑nc:Int)==(0:Int))=false)∧((↑nc:Int)==(0:Int))=false)∧((↑nc:Int)==(0:Int))=false)∧((↑nc:Int)==(0:Int))=false)∧((↑Za.length:Int)==(0:Int))=true:St }):=by kernel_rfl
theorem ZlL (Ze Zc types:Int) (nc:Nat) (data:List UInt8) (rs:List Rl) (Za:List Nat) (j:Nat) (hl:Za.length<9000000000000000000) (hx:∀ (x:Nat),x∈Za→x<4294967296) (hcn:nc<9000000000000000000) (hj:j<Za.length) (hv:nc≤Za.getD j 0) (hn:∀ (i:Nat),i<j→Za.getD i 0<nc):evF Tryz.prog (ZH 3 YT) (Ut [Znz Ze Zc types nc rs.length data Za j hl hx hcn hj hv hn]) 100 10 55 [YE Ze Zc types nc rs.length Za.length data] ⟨67,imH rs Za,[],0,(tb 52 0),0,True⟩=some (Value.int .i64 2,{ n:=68,h:=[(65,⟨false,some (0,0),rels rs,none⟩),(66,⟨false,some (0,0),Zk Za,none⟩)],lo:=[],esc:=0,T:=[],k:=52,O:=((((((((((((((((((((((((((((((((((((((((((((((((((((True∧decide ((↑nc:Int)>(4096:Int))=false)∧decide ((↑nc:Int)>(4096:Int))=false)∧decide ((↑nc:Int)>(4096:Int))=false)∧decide ((↑nc:Int)>(4096:Int))=false)∧decide ((↑nc:Int)>(4096:Int))=false)∧decide ((↑(Zr data):Int)>(16384:Int))=false)∧decide ((↑(Zr data):Int)>(16384:Int))=false)∧decide ((↑(Zr data):Int)>(16384:Int))=false)∧decide ((↑(Zr data):Int)>(16384:Int))=false)∧decide ((↑(Zr data):Int)>(16384:Int))=false)∧decide ((↑rs.length:Int)>(256:Int))=false)∧decide ((↑rs.length:Int)>(256:Int))=false)∧decide ((↑rs.length:Int)>(256:Int))=false)∧decide ((↑rs.length:Int)>(256:Int))=false)∧decide ((↑rs.length:Int)>(256:Int))=false)∧decide ((↑Za.length:Int)>(4:Int))=false)∧decide (Ze<(16:Int))=false)∧decide (Ze<(16:Int))=false)∧decide (Ze<(16:Int))=false)∧decide (Ze<(16:Int))=false)∧decide (Ze>(1024:Int))=false)∧decide (Ze>(1024:Int))=false)∧decide (Ze>(1024:Int))=false)∧decide (Ze>(1024:Int))=false)∧decide (Zc<(256:Int))=false)∧decide (Zc<(256:Int))=false)∧decide (Zc<(256:Int))=false)∧decide (Zc<(256:Int))=false)∧decide (Zc>(4096:Int))=false)∧decide (Zc>(4096:Int))=false)∧decide (Zc>(4096:Int))=false)∧decide (Zc>(4096:Int))=false)∧decide (Zc>(4096:Int))=false)∧(Zc.tmod (256:Int) !=(0:Int))=false)∧(Zc.tmod (256:Int) !=(0:Int))=false)∧(Zc.tmod (256:Int) !=(0:Int))=false)∧(Zc.tmod (256:Int) !=(0:Int))=false)∧decide (types<(0:Int))=false)∧decide (types<(0:Int))=false)∧decide (types<(0:Int))=false)∧decide (types<(0:Int))=false)∧decide (types>(2048:Int))=false)∧decide (types>(2048:Int))=false)∧decide (types>(2048:Int))=false)∧decide (types>(2048:Int))=false)∧decide (types>(2048:Int))=false)∧((↑nc:Int)==(0:Int))=false)∧((↑nc:Int)==(0:Int))=false)∧((↑nc:Int)==(0:Int))=false)∧((↑nc:Int)==(0:Int))=false)∧((↑nc:Int)==(0:Int))=false)∧((↑Za.length:Int)==(0:Int))=false)∧(rr (Value.pointer (some ⟨67,0,none⟩))∧rr (Value.int .i64 0)∧True)∧((tt∧tt∧True∧rr (Zk Za))∧(tt∧tt∧True∧rr [Value.int .i64 Ze,.int .i64 Zc,.int .i64 types,.slice (some ⟨64,0,none⟩) nc 9223372036854775872,.string ⟨⟨data⟩⟩,.slice (some ⟨65,0,none⟩) rs.length 9223372036854775873,.slice (some ⟨66,0,none⟩) Za.length 9223372036854775874])∧True)∧True∧True:St }):=by kernel_rfl
theorem ZlM (Ze Zc types:Int) (nc:Nat) (data:List UInt8) (rs:List Rl) (Za:List Nat) (hl:Za.length<9000000000000000000) (hx:∀ (x:Nat),x∈Za→x<4294967296) (hcn:nc<9000000000000000000) (hn:∀ (i:Nat),i<Za.length→Za.getD i 0<nc):evF Tryz.prog (ZH 3 YT) (Ut [Zhd Ze Zc types nc rs.length data Za hl hx hcn hn]) 100 10 55 [YE Ze Zc types nc rs.length Za.length data] ⟨67,imH rs Za,[],0,(tb 53 4503599627370496),0,True⟩=some (Value.int .i64 13,{ n:=69,h:=[(65,⟨false,some (0,0),rels rs,none⟩),(66,⟨false,some (0,0),Zk Za,none⟩)],lo:=[],esc:=0,T:=[],k:=53,O:=((((((((((((((((((((((((((((((((((((((((((((((((((((((True∧decide ((↑nc:Int)>(4096:Int))=false)∧decide ((↑nc:Int)>(4096:Int))=false)∧decide ((↑nc:Int)>(4096:Int))=false)∧decide ((↑nc:Int)>(4096:Int))=false)∧decide ((↑nc:Int)>(4096:Int))=false)∧decide ((↑(Zr data):Int)>(16384:Int))=false)∧decide ((↑(Zr data):Int)>(16384:Int))=false)∧decide ((↑(Zr data):Int)>(16384:Int))=false)∧decide ((↑(Zr data):Int)>(16384:Int))=false)∧decide ((↑(Zr data):Int)>(16384:Int))=false)∧decide ((↑rs.length:Int)>(256:Int))=false)∧decide ((↑rs.length:Int)>(256:Int))=false)∧decide ((↑rs.length:Int)>(256:Int))=false)∧decide ((↑rs.length:Int)>(256:Int))=false)∧decide ((↑rs.length:Int)>(256:Int))=false)∧decide ((↑Za.length:Int)>(4:Int))=false)∧decide (Ze<(16:Int))=false)∧decide (Ze<(16:Int))=false)∧decide (Ze<(16:Int))=false)∧decide (Ze<(16:Int))=false)∧decide (Ze>(1024:Int))=false)∧decide (Ze>(1024:Int))=false)∧decide (Ze>(1024:Int))=false)∧decide (Ze>(1024:Int))=false)∧decide (Zc<(256:Int))=false)∧decide (Zc<(256:Int))=false)∧decide (Zc<(256:Int))=false)∧decide (Zc<(256:Int))=false)∧decide (Zc>(4096:Int))=false)∧decide (Zc>(4096:Int))=false)∧decide (Zc>(4096:Int))=false)∧decide (Zc>(4096:Int))=false)∧decide (Zc>(4096:Int))=false)∧(Zc.tmod (256:Int) !=(0:Int))=false)∧(Zc.tmod (256:Int) !=(0:Int))=false)∧(Zc.tmod (256:Int) !=(0:Int))=false)∧(Zc.tmod (256:Int) !=(0:Int))=false)∧decide (types<(0:Int))=false)∧decide (types<(0:Int))=false)∧decide (types<(0:Int))=false)∧decide (types<(0:Int))=false)∧decide (types>(2048:Int))=false)∧decide (types>(2048:Int))=false)∧decide (types>(2048:Int))=false)∧decide (types>(2048:Int))=false)∧decide (types>(2048:Int))=false)∧((↑nc:Int)==(0:Int))=false)∧((↑nc:Int)==(0:Int))=false)∧((↑nc:Int)==(0:Int))=false)∧((↑nc:Int)==(0:Int))=false)∧((↑nc:Int)==(0:Int))=false)∧((↑Za.length:Int)==(0:Int))=false)∧(rr (Value.pointer (some ⟨67,0,none⟩))∧rr (Value.int .i64 0)∧True)∧((tt∧tt∧True∧rr (Zk Za))∧(tt∧tt∧True∧rr [Value.int .i64 Ze,.int .i64 Zc,.int .i64 types,.slice (some ⟨64,0,none⟩) nc 9223372036854775872,.string ⟨⟨data⟩⟩,.slice (some ⟨65,0,none⟩) rs.length 9223372036854775873,.slice (some ⟨66,0,none⟩) Za.length 9223372036854775874])∧True)∧True∧True)∧Xr Ze Zc nc Za.length data.length∧(rr (Value.agg ⟨[.int .i64 Ze,.int .i64 Zc,.int .i64 types,.slice (some ⟨64,0,none⟩) nc 9223372036854775872,.string ⟨⟨data⟩⟩,.slice (some ⟨65,0,none⟩) rs.length 9223372036854775873,.slice (some ⟨66,0,none⟩) Za.length 9223372036854775874]⟩)∧True)∧True∧True)∧(!!Zo Ze Zc nc Za.length data.length)=true:St }):=by kernel_rfl
theorem ZlN (Ze Zc types:Int) (nc:Nat) (data:List UInt8) (rs:List Rl) (Za:List Nat) (hl:Za.length<9000000000000000000) (hx:∀ (x:Nat),x∈Za→x<4294967296) (hcn:nc<9000000000000000000) (hn:∀ (i:Nat),i<Za.length→Za.getD i 0<nc) (j:Nat) (hj:j<rs.length) (hm:rs.length≤100000) (ha:(0:Int)≤(0:Int)) (hc:(0:Int)≤pk (Zo Ze Zc nc Za.length data.length) (ZG (4*nc))) (hr:∀ (i:Nat),i<rs.length→QC nc data.length (Int.toNat (0:Int)) (pk (Zo Ze Zc nc Za.length data.length) (ZG (4*nc))).toNat (rl0 rs i)) (hv:Zy types nc data.length (Int.toNat (0:Int)) (pk (Zo Ze Zc nc Za.length data.length) (ZG (4*nc))).toNat (rl0 rs j) (ZY rs j)=false) (hn2:∀ (i:Nat),i<j→Zy types nc data.length (Int.toNat (0:Int)) (pk (Zo Ze Zc nc Za.length data.length) (ZG (4*nc))).toNat (rl0 rs i) (ZY rs i)=true):evF Tryz.prog (ZH 3 YT) (Ut [Zhd Ze Zc types nc rs.length data Za hl hx hcn hn,ZnA Ze Zc types nc Za.length data rs (0:Int) (pk (Zo Ze Zc nc Za.length data.length) (ZG (4*nc))) (pk (Zo Ze Zc nc Za.length data.length) (ZG (4*nc))) (pk (Zo Ze Zc nc Za.length data.length) (ZG data.length)) (pk (Zo Ze Zc nc Za.length data.length) (ZG (4*nc)+ZG data.length)) (pk (Zo Ze Zc nc Za.length data.length) (Zc.toNat*Za.length)) (pk (Zo Ze Zc nc Za.length data.length) (ZX Zc nc Za.length data.length)) (pk (Zo Ze Zc nc Za.length data.length) (Ze.toNat*256-ZX Zc nc Za.length data.length)) j hj hm ha hc hr hv hn2]) 100 10 55 [YE Ze Zc types nc rs.length Za.length data] ⟨67,imH rs Za,[],0,(tb 53 0),0,True⟩=some (Value.int .i64 2,{ n:=69,h:=[(65,⟨false,some (0,0),rels rs,none⟩),(66,⟨false,some (0,0),Zk Za,none⟩)],lo:=[],esc:=0,T:=[],k:=53,O:=(((((((((((((((((((((((((((((((((((((((((((((((((((((((True∧decide ((↑nc:Int)>(4096:Int))=false)∧decide ((↑nc:Int)>(4096:Int))=false)∧decide ((↑nc:Int)>(4096:Int))=false)∧decide ((↑nc:Int)>(4096:Int))=false)∧decide ((↑nc:Int)>(4096:Int))=false)∧decide ((↑(Zr data):Int)>(16384:Int))=false)∧decide ((↑(Zr data):Int)>(16384:Int))=false)∧decide ((↑(Zr data):Int)>(16384:Int))=false)∧decide ((↑(Zr data):Int)>(16384:Int))=false)∧decide ((↑(Zr data):Int)>(16384:Int))=false)∧decide ((↑rs.length:Int)>(256:Int))=false)∧decide ((↑rs.length:Int)>(256:Int))=false)∧decide ((↑rs.length:Int)>(256:Int))=false)∧decide ((↑rs.length:Int)>(256:Int))=false)∧decide ((↑rs.length:Int)>(256:Int))=false)∧decide ((↑Za.length:Int)>(4:Int))=false)∧decide (Ze<(16:Int))=false)∧decide (Ze<(16:Int))=false)∧decide (Ze<(16:Int))=false)∧decide (Ze<(16:Int))=false)∧decide (Ze>(1024:Int))=false)∧decide (Ze>(1024:Int))=false)∧decide (Ze>(1024:Int))=false)∧decide (Ze>(1024:Int))=false)∧decide (Zc<(256:Int))=false)∧decide (Zc<(256:Int))=false)∧decide (Zc<(256:Int))=false)∧decide (Zc<(256:Int))=false)∧decide (Zc>(4096:Int))=false)∧decide (Zc>(4096:Int))=false)∧decide (Zc>(4096:Int))=false)∧decide (Zc>(4096:Int))=false)∧decide (Zc>(4096:Int))=false)∧(Zc.tmod (256:Int) !=(0:Int))=false)∧(Zc.tmod (256:Int) !=(0:Int))=false)∧(Zc.tmod (256:Int) !=(0:Int))=false)∧(Zc.tmod (256:Int) !=(0:Int))=false)∧decide (types<(0:Int))=false)∧decide (types<(0:Int))=false)∧decide (types<(0:Int))=false)∧decide (types<(0:Int))=false)∧decide (types>(2048:Int))=false)∧decide (types>(2048:Int))=false)∧decide (types>(2048:Int))=false)∧decide (types>(2048:Int))=false)∧decide (types>(2048:Int))=false)∧((↑nc:Int)==(0:Int))=false)∧((↑nc:Int)==(0:Int))=false)∧((↑nc:Int)==(0:Int))=false)∧((↑nc:Int)==(0:Int))=false)∧((↑nc:Int)==(0:Int))=false)∧((↑Za.length:Int)==(0:Int))=false)∧(rr (Value.pointer (some ⟨67,0,none⟩))∧rr (Value.int .i64 0)∧True)∧((tt∧tt∧True∧rr (Zk Za))∧(tt∧tt∧True∧rr [Value.int .i64 Ze,.int .i64 Zc,.int .i64 types,.slice (some ⟨64,0,none⟩) nc 9223372036854775872,.string ⟨⟨data⟩⟩,.slice (some ⟨65,0,none⟩) rs.length 9223372036854775873,.slice (some ⟨66,0,none⟩) Za.length 9223372036854775874])∧True)∧True∧True)∧Xr Ze Zc nc Za.length data.length∧(rr (Value.agg ⟨[.int .i64 Ze,.int .i64 Zc,.int .i64 types,.slice (some ⟨64,0,none⟩) nc 9223372036854775872,.string ⟨⟨data⟩⟩,.slice (some ⟨65,0,none⟩) rs.length 9223372036854775873,.slice (some ⟨66,0,none⟩) Za.length 9223372036854775874]⟩)∧True)∧True∧True)∧(!!Zo Ze Zc nc Za.length data.length)=false)∧(rr (Value.pointer (some ⟨67,0,none⟩))∧rr (Value.pointer (some ⟨68,0,none⟩))∧rr (Value.int .i64 0)∧True)∧((tt∧tt∧True∧rr (rels rs))∧(tt∧tt∧True∧rr [Value.int .i64 Ze,.int .i64 Zc,.int .i64 types,.slice (some ⟨64,0,none⟩) nc 9223372036854775872,.string ⟨⟨data⟩⟩,.slice (some ⟨65,0,none⟩) rs.length 9223372036854775873,.slice (some ⟨66,0,none⟩) Za.length 9223372036854775874])∧(tt∧tt∧True∧rr [Value.int .u32 0,.int .u32 (pk (Zo Ze Zc nc Za.length data.length) (ZG (4*nc))),.int .u32 (pk (Zo Ze Zc nc Za.length data.length) (ZG (4*nc))),.int .u32 (pk (Zo Ze Zc nc Za.length data.length) (ZG data.length)),.int .u32 (pk (Zo Ze Zc nc Za.length data.length) (ZG (4*nc)+ZG data.length)),.int .u32 (pk (Zo Ze Zc nc Za.length data.length) (Zc.toNat*Za.length)),.int .u32 (pk (Zo Ze Zc nc Za.length data.length) (ZX Zc nc Za.length data.length)),.int .u32 (pk (Zo Ze Zc nc Za.length data.length) (Ze.toNat*256-ZX Zc nc Za.length data.length))])∧True)∧True∧True:St }):=by kernel_rfl
theorem ZnC (Ze Zc types:Int) (nc:Nat) (data:List UInt8) (rs:List Rl) (Za:List Nat) (hl:Za.length<9000000000000000000) (hx:∀ (x:Nat),x∈Za→x<4294967296) (hcn:nc<9000000000000000000) (hn:∀ (i:Nat),i<Za.length→Za.getD i 0<nc) (hm:rs.length≤100000) (ha:(0:Int)≤(0:Int)) (hc:(0:Int)≤pk (Zo Ze Zc nc Za.length data.length) (ZG (4*nc))) (hr:∀ (i:Nat),i<rs.length→QC nc data.length (Int.toNat (0:Int)) (pk (Zo Ze Zc nc Za.length data.length) (ZG (4*nc))).toNat (rl0 rs i)) (hn2:∀ (i:Nat),i<rs.length→Zy types nc data.length (Int.toNat (0:Int)) (pk (Zo Ze Zc nc Za.length data.length) (ZG (4*nc))).toNat (rl0 rs i) (ZY rs i)=true):evF Tryz.prog (ZH 3 YT) (Ut [Zhd Ze Zc types nc rs.length data Za hl hx hcn hn,ZnB Ze Zc types nc Za.length data rs (0:Int) (pk (Zo Ze Zc nc Za.length data.length) (ZG (4*nc))) (pk (Zo Ze Zc nc Za.length data.length) (ZG (4*nc))) (pk (Zo Ze Zc nc Za.length data.length) (ZG data.length)) (pk (Zo Ze Zc nc Za.length data.length) (ZG (4*nc)+ZG data.length)) (pk (Zo Ze Zc nc Za.length data.length) (Zc.toNat*Za.length)) (pk (Zo Ze Zc nc Za.length data.length) (ZX Zc nc Za.length data.length)) (pk (Zo Ze Zc nc Za.length data.length) (Ze.toNat*256-ZX Zc nc Za.length data.length)) hm ha hc hr hn2]) 100 10 55 [YE Ze Zc types nc rs.length Za.length data] ⟨67,imH rs Za,[],0,(tb 53 0),0,True⟩=some (Value.int .i64 0,{ n:=69,h:=[(65,⟨false,some (0,0),rels rs,none⟩),(66,⟨false,some (0,0),Zk Za,none⟩)],lo:=[],esc:=0,T:=[],k:=53,O:=(((((((((((((((((((((((((((((((((((((((((((((((((((((((True∧decide ((↑nc:Int)>(4096:Int))=false)∧decide ((↑nc:Int)>(4096:Int))=false)∧decide ((↑nc:Int)>(4096:Int))=false)∧decide ((↑nc:Int)>(4096:Int))=false)∧decide ((↑nc:Int)>(4096:Int))=false)∧decide ((↑(Zr data):Int)>(16384:Int))=false)∧decide ((↑(Zr data):Int)>(16384:Int))=false)∧decide ((↑(Zr data):Int)>(16384:Int))=false)∧decide ((↑(Zr data):Int)>(16384:Int))=false)∧decide ((↑(Zr data):Int)>(16384:Int))=false)∧decide ((↑rs.length:Int)>(256:Int))=false)∧decide ((↑rs.length:Int)>(256:Int))=false)∧decide ((↑rs.length:Int)>(256:Int))=false)∧decide ((↑rs.length:Int)>(256:Int))=false)∧decide ((↑rs.length:Int)>(256:Int))=false)∧decide ((↑Za.length:Int)>(4:Int))=false)∧decide (Ze<(16:Int))=false)∧decide (Ze<(16:Int))=false)∧decide (Ze<(16:Int))=false)∧decide (Ze<(16:Int))=false)∧decide (Ze>(1024:Int))=false)∧decide (Ze>(1024:Int))=false)∧decide (Ze>(1024:Int))=false)∧decide (Ze>(1024:Int))=false)∧decide (Zc<(256:Int))=false)∧decide (Zc<(256:Int))=false)∧decide (Zc<(256:Int))=false)∧decide (Zc<(256:Int))=false)∧decide (Zc>(4096:Int))=false)∧decide (Zc>(4096:Int))=false)∧decide (Zc>(4096:Int))=false)∧decide (Zc>(4096:Int))=false)∧decide (Zc>(4096:Int))=false)∧(Zc.tmod (256:Int) !=(0:Int))=false)∧(Zc.tmod (256:Int) !=(0:Int))=false)∧(Zc.tmod (256:Int) !=(0:Int))=false)∧(Zc.tmod (256:Int) !=(0:Int))=false)∧decide (types<(0:Int))=false)∧decide (types<(0:Int))=false)∧decide (types<(0:Int))=false)∧decide (types<(0:Int))=false)∧decide (types>(2048:Int))=false)∧decide (types>(2048:Int))=false)∧decide (types>(2048:Int))=false)∧decide (types>(2048:Int))=false)∧decide (types>(2048:Int))=false)∧((↑nc:Int)==(0:Int))=false)∧((↑nc:Int)==(0:Int))=false)∧((↑nc:Int)==(0:Int))=false)∧((↑nc:Int)==(0:Int))=false)∧((↑nc:Int)==(0:Int))=false)∧((↑Za.length:Int)==(0:Int))=false)∧(rr (Value.pointer (some ⟨67,0,none⟩))∧rr (Value.int .i64 0)∧True)∧((tt∧tt∧True∧rr (Zk Za))∧(tt∧tt∧True∧rr [Value.int .i64 Ze,.int .i64 Zc,.int .i64 types,.slice (some ⟨64,0,none⟩) nc 9223372036854775872,.string ⟨⟨data⟩⟩,.slice (some ⟨65,0,none⟩) rs.length 9223372036854775873,.slice (some ⟨66,0,none⟩) Za.length 9223372036854775874])∧True)∧True∧True)∧Xr Ze Zc nc Za.length data.length∧(rr (Value.agg ⟨[.int .i64 Ze,.int .i64 Zc,.int .i64 types,.slice (some ⟨64,0,none⟩) nc 9223372036854775872,.string ⟨⟨data⟩⟩,.slice (some ⟨65,0,none⟩) rs.length 9223372036854775873,.slice (some ⟨66,0,none⟩) Za.length 9223372036854775874]⟩)∧True)∧True∧True)∧(!!Zo Ze Zc nc Za.length data.length)=false)∧(rr (Value.pointer (some ⟨67,0,none⟩))∧rr (Value.pointer (some ⟨68,0,none⟩))∧rr (Value.int .i64 0)∧True)∧((tt∧tt∧True∧rr (rels rs))∧(tt∧tt∧True∧rr [Value.int .i64 Ze,.int .i64 Zc,.int .i64 types,.slice (some ⟨64,0,none⟩) nc 9223372036854775872,.string ⟨⟨data⟩⟩,.slice (some ⟨65,0,none⟩) rs.length 9223372036854775873,.slice (some ⟨66,0,none⟩) Za.length 9223372036854775874])∧(tt∧tt∧True∧rr [Value.int .u32 0,.int .u32 (pk (Zo Ze Zc nc Za.length data.length) (ZG (4*nc))),.int .u32 (pk (Zo Ze Zc nc Za.length data.length) (ZG (4*nc))),.int .u32 (pk (Zo Ze Zc nc Za.length data.length) (ZG data.length)),.int .u32 (pk (Zo Ze Zc nc Za.length data.length) (ZG (4*nc)+ZG data.length)),.int .u32 (pk (Zo Ze Zc nc Za.length data.length) (Zc.toNat*Za.length)),.int .u32 (pk (Zo Ze Zc nc Za.length data.length) (ZX Zc nc Za.length data.length)),.int .u32 (pk (Zo Ze Zc nc Za.length data.length) (Ze.toNat*256-ZX Zc nc Za.length data.length))])∧True)∧True∧True:St }):=by kernel_rfl
def Zba (Ze Zc types:Int) (nc:Nat) (data:List UInt8) (rs:List Rl) (Za:List Nat):Value:=.int .i64 (ZZ Ze Zc types nc data rs Za:Nat)
theorem ZlO (Ze Zc types:Int) (nc:Nat) (data:List UInt8) (rs:List Rl) (Za:List Nat) (hi:ImOk rs Za):ConOk Tryz.prog 55 3 (imC Ze Zc types nc data rs Za (Zba Ze Zc types nc data rs Za)):=by
 have hb:=Z1 (d:=3) W3
 by_cases h_a:(decide ((nc:Int)>4096))=true
 ·have he:ZZ Ze Zc types nc data rs Za=3:=by
   unfold ZZ ZO
   simp only[rr, tt, h_a,Bool.true_or,Bool.or_true,Bool.false_or,Bool.or_false,cond_true,cond_false]
  have hh:=Zo7 Ze Zc types nc data rs Za
  try rw[Zq] at hh
  refine Q2 (Zu ZK hb (Zj _) 10) hh ?_ rfl rfl ?_
  ·unfold Zba; rw[he]; rfl
  ·simp only[rr, tt, Bool.not_false,Bool.not_true,h_a]
   repeat' (with_reducible apply And.intro)
   all_goals first|exact hlay|with_reducible trivial|with_reducible rfl
 replace h_a:=eq_false_of_ne_true h_a
 by_cases h_b:(decide ((data.length:Int)>16384))=true
 ·have he:ZZ Ze Zc types nc data rs Za=3:=by
   unfold ZZ ZO
   simp only[rr, tt, h_a,h_b,Bool.true_or,Bool.or_true,Bool.false_or,Bool.or_false,cond_true,cond_false]
  have hh:=Zo8 Ze Zc types nc data rs Za
  try rw[Zq] at hh
  refine Q2 (Zu ZK hb (Zj _) 10) hh ?_ rfl rfl ?_
  ·unfold Zba; rw[he]; rfl
  ·simp only[rr, tt, Bool.not_false,Bool.not_true,h_a,h_b]
   repeat' (with_reducible apply And.intro)
   all_goals first|exact hlay|with_reducible trivial|with_reducible rfl
 replace h_b:=eq_false_of_ne_true h_b
 by_cases h_c:(decide ((rs.length:Int)>256))=true
 ·have he:ZZ Ze Zc types nc data rs Za=3:=by
   unfold ZZ ZO
   simp only[rr, tt, h_a,h_b,h_c,Bool.true_or,Bool.or_true,Bool.false_or,Bool.or_false,cond_true,cond_false]
  have hh:=Zo9 Ze Zc types nc data rs Za
  try rw[Zq] at hh
  refine Q2 (Zu ZK hb (Zj _) 10) hh ?_ rfl rfl ?_
  ·unfold Zba; rw[he]; rfl
  ·simp only[rr, tt, Bool.not_false,Bool.not_true,h_a,h_b,h_c]
   repeat' (with_reducible apply And.intro)
   all_goals first|exact hlay|with_reducible trivial|with_reducible rfl
 replace h_c:=eq_false_of_ne_true h_c
 by_cases h_d:(decide ((Za.length:Int)>4))=true
 ·have he:ZZ Ze Zc types nc data rs Za=3:=by
   unfold ZZ ZO
   simp only[rr, tt, h_a,h_b,h_c,h_d,Bool.true_or,Bool.or_true,Bool.false_or,Bool.or_false,cond_true,cond_false]
  have hh:=Zpa Ze Zc types nc data rs Za
  try rw[Zq] at hh
  refine Q2 (Zu ZK hb (Zj _) 10) hh ?_ rfl rfl ?_
  ·unfold Zba; rw[he]; rfl
  ·simp only[rr, tt, Bool.not_false,Bool.not_true,h_a,h_b,h_c,h_d]
   repeat' (with_reducible apply And.intro)
   all_goals first|exact hlay|with_reducible trivial|with_reducible rfl
 replace h_d:=eq_false_of_ne_true h_d
 by_cases h_e:(decide (Ze<16))=true
 ·have he:ZZ Ze Zc types nc data rs Za=2:=by
   unfold ZZ ZO QF
   simp only[rr, tt, h_a,h_b,h_c,h_d,h_e,Bool.true_or,Bool.or_true,Bool.false_or,Bool.or_false,cond_true,cond_false]
  have hh:=Zpb Ze Zc types nc data rs Za
  try rw[Zq] at hh
  refine Q2 (Zu ZK hb (Zj _) 10) hh ?_ rfl rfl ?_
  ·unfold Zba; rw[he]; rfl
  ·simp only[rr, tt, Bool.not_false,Bool.not_true,h_a,h_b,h_c,h_d,h_e]
   repeat' (with_reducible apply And.intro)
   all_goals first|exact hlay|with_reducible trivial|with_reducible rfl
 replace h_e:=eq_false_of_ne_true h_e
 by_cases h_f:(decide (Ze>1024))=true
 ·have he:ZZ Ze Zc types nc data rs Za=2:=by
   unfold ZZ ZO QF
   simp only[rr, tt, h_a,h_b,h_c,h_d,h_e,h_f,Bool.true_or,Bool.or_true,Bool.false_or,Bool.or_false,cond_true,cond_false]
  have hh:=Zpc Ze Zc types nc data rs Za
  try rw[Zq] at hh
  refine Q2 (Zu ZK hb (Zj _) 10) hh ?_ rfl rfl ?_
  ·unfold Zba; rw[he]; rfl
  ·simp only[rr, tt, Bool.not_false,Bool.not_true,h_a,h_b,h_c,h_d,h_e,h_f]
   repeat' (with_reducible apply And.intro)
   all_goals first|exact hlay|with_reducible trivial|with_reducible rfl
 replace h_f:=eq_false_of_ne_true h_f
 by_cases h_g:(decide (Zc<256))=true
 ·have he:ZZ Ze Zc types nc data rs Za=2:=by
   unfold ZZ ZO QF
   simp only[rr, tt, h_a,h_b,h_c,h_d,h_e,h_f,h_g,Bool.true_or,Bool.or_true,Bool.false_or,Bool.or_false,cond_true,cond_false]
  have hh:=Zpd Ze Zc types nc data rs Za
  try rw[Zq] at hh
  refine Q2 (Zu ZK hb (Zj _) 10) hh ?_ rfl rfl ?_
  ·unfold Zba; rw[he]; rfl
  ·simp only[rr, tt, Bool.not_false,Bool.not_true,h_a,h_b,h_c,h_d,h_e,h_f,h_g]
   repeat' (with_reducible apply And.intro)
   all_goals first|exact hlay|with_reducible trivial|with_reducible rfl
 replace h_g:=eq_false_of_ne_true h_g
 by_cases h_h:(decide (Zc>4096))=true
 ·have he:ZZ Ze Zc types nc data rs Za=2:=by
   unfold ZZ ZO QF
   simp only[rr, tt, h_a,h_b,h_c,h_d,h_e,h_f,h_g,h_h,Bool.true_or,Bool.or_true,Bool.false_or,Bool.or_false,cond_true,cond_false]
  have hh:=Zpe Ze Zc types nc data rs Za
  try rw[Zq] at hh
  refine Q2 (Zu ZK hb (Zj _) 10) hh ?_ rfl rfl ?_
  ·unfold Zba; rw[he]; rfl
  ·simp only[rr, tt, Bool.not_false,Bool.not_true,h_a,h_b,h_c,h_d,h_e,h_f,h_g,h_h]
   repeat' (with_reducible apply And.intro)
   all_goals first|exact hlay|with_reducible trivial|with_reducible rfl
 replace h_h:=eq_false_of_ne_true h_h
 by_cases h_i:((Zc.tmod 256 !=0))=true
 ·have he:ZZ Ze Zc types nc data rs Za=2:=by
   unfold ZZ ZO QF
   simp only[rr, tt, h_a,h_b,h_c,h_d,h_e,h_f,h_g,h_h,h_i,Bool.true_or,Bool.or_true,Bool.false_or,Bool.or_false,cond_true,cond_false]
  have hh:=Zpf Ze Zc types nc data rs Za
  try rw[Zq] at hh
  refine Q2 (Zu ZK hb (Zj _) 10) hh ?_ rfl rfl ?_
  ·unfold Zba; rw[he]; rfl
  ·simp only[rr, tt, Bool.not_false,Bool.not_true,h_a,h_b,h_c,h_d,h_e,h_f,h_g,h_h,h_i]
   repeat' (with_reducible apply And.intro)
   all_goals first|exact hlay|with_reducible trivial|with_reducible rfl
 replace h_i:=eq_false_of_ne_true h_i
 by_cases h_j:(decide (types<0))=true
 ·have he:ZZ Ze Zc types nc data rs Za=2:=by
   unfold ZZ ZO QF
   simp only[rr, tt, h_a,h_b,h_c,h_d,h_e,h_f,h_g,h_h,h_i,h_j,Bool.true_or,Bool.or_true,Bool.false_or,Bool.or_false,cond_true,cond_false]
  have hh:=Zpg Ze Zc types nc data rs Za
  try rw[Zq] at hh
  refine Q2 (Zu ZK hb (Zj _) 10) hh ?_ rfl rfl ?_
  ·unfold Zba; rw[he]; rfl
  ·simp only[rr, tt, Bool.not_false,Bool.not_true,h_a,h_b,h_c,h_d,h_e,h_f,h_g,h_h,h_i,h_j]
   repeat' (with_reducible apply And.intro)
   all_goals first|exact hlay|with_reducible trivial|with_reducible rfl
 replace h_j:=eq_false_of_ne_true h_j
 by_cases h_k:(decide (types>2048))=true
 ·have he:ZZ Ze Zc types nc data rs Za=2:=by
   unfold ZZ ZO QF
   simp only[rr, tt, h_a,h_b,h_c,h_d,h_e,h_f,h_g,h_h,h_i,h_j,h_k,Bool.true_or,Bool.or_true,Bool.false_or,Bool.or_false,cond_true,cond_false]
  have hh:=Zph Ze Zc types nc data rs Za
  try rw[Zq] at hh
  refine Q2 (Zu ZK hb (Zj _) 10) hh ?_ rfl rfl ?_
  ·unfold Zba; rw[he]; rfl
  ·simp only[rr, tt, Bool.not_false,Bool.not_true,h_a,h_b,h_c,h_d,h_e,h_f,h_g,h_h,h_i,h_j,h_k]
   repeat' (with_reducible apply And.intro)
   all_goals first|exact hlay|with_reducible trivial|with_reducible rfl
 replace h_k:=eq_false_of_ne_true h_k
 by_cases h_l:(((nc:Int)==0))=true
 ·have he:ZZ Ze Zc types nc data rs Za=2:=by
   unfold ZZ ZO QF
   simp only[rr, tt, h_a,h_b,h_c,h_d,h_e,h_f,h_g,h_h,h_i,h_j,h_k,h_l,Bool.true_or,Bool.or_true,Bool.false_or,Bool.or_false,cond_true,cond_false]
  have hh:=Zpi Ze Zc types nc data rs Za
  try rw[Zq] at hh
  refine Q2 (Zu ZK hb (Zj _) 10) hh ?_ rfl rfl ?_
  ·unfold Zba; rw[he]; rfl
  ·simp only[rr, tt, Bool.not_false,Bool.not_true,h_a,h_b,h_c,h_d,h_e,h_f,h_g,h_h,h_i,h_j,h_k,h_l]
   repeat' (with_reducible apply And.intro)
   all_goals first|exact hlay|with_reducible trivial|with_reducible rfl
 replace h_l:=eq_false_of_ne_true h_l
 by_cases h_m:(((Za.length:Int)==0))=true
 ·have he:ZZ Ze Zc types nc data rs Za=2:=by
   unfold ZZ ZO QF
   simp only[rr, tt, h_a,h_b,h_c,h_d,h_e,h_f,h_g,h_h,h_i,h_j,h_k,h_l,h_m,Bool.true_or,Bool.or_true,Bool.false_or,Bool.or_false,cond_true,cond_false]
  have hh:=Zpj Ze Zc types nc data rs Za
  try rw[Zq] at hh
  refine Q2 (Zu ZK hb (Zj _) 10) hh ?_ rfl rfl ?_
  ·unfold Zba; rw[he]; rfl
  ·simp only[rr, tt, Bool.not_false,Bool.not_true,h_a,h_b,h_c,h_d,h_e,h_f,h_g,h_h,h_i,h_j,h_k,h_l,h_m]
   repeat' (with_reducible apply And.intro)
   all_goals first|exact hlay|with_reducible trivial|with_reducible rfl
 replace h_m:=eq_false_of_ne_true h_m
 have hl:ZO nc data.length rs.length Za.length=false:=by unfold ZO; simp only[rr, tt, h_a,h_b,h_c,h_d,Bool.or_false]
 have ha:QF Ze Zc types nc Za.length=false:=by unfold QF; simp only[rr, tt, h_e,h_f,h_g,h_h,h_i,h_j,h_k,h_l,h_m,Bool.or_false]
 have hlay:=VO hl ha
 have hcn:nc<9000000000000000000:=by have:=hlay.2.2.2.2.2.1; omega
 cases hf:UC nc Za
 ·have hn:∀ i,i<Za.length→Za.getD i 0<nc:=fun i hi=>by
   have:=VN hf i hi; simpa using this
  cases hg:Zo Ze Zc nc Za.length data.length
  ·have hm:rs.length≤100000:=by simp only[rr, tt, decide_eq_false_iff_not] at h_c; omega
   have hpk:pk (Zo Ze Zc nc Za.length data.length) (ZG (4*nc))=((ZG (4*nc):Nat):Int):=by rw[hg]; rfl
   have hc:0≤pk (Zo Ze Zc nc Za.length data.length) (ZG (4*nc)):=by rw[hpk]; omega
   have hct:(pk (Zo Ze Zc nc Za.length data.length) (ZG (4*nc))).toNat=ZG (4*nc):=by rw[hpk]; rfl
   have hro:∀ i,i<rs.length→QC nc data.length (0:Int).toNat (pk (Zo Ze Zc nc Za.length data.length) (ZG (4*nc))).toNat (rl0 rs i):=fun i hir=>by
    rw[hct]
    have:=Xg (4*nc)
    refine⟨?_,hlay.2.2.2.2.2.1,hlay.2.2.2.2.2.2.2,by simp,by have:=hlay.2.2.2.2.2.1; omega⟩
    unfold rl0; rw[List.getD_eq_getElem?_getD,List.getElem?_eq_getElem hir]; exact hi.rels _ (List.getElem_mem hir)
   cases hd:UD types nc data.length rs
   ·have he:ZZ Ze Zc types nc data rs Za=0:=by unfold ZZ; rw[hl,ha,hf,hg,hd]; rfl
    have hn2:∀ i,i<rs.length→Zy types nc data.length (0:Int).toNat (pk (Zo Ze Zc nc Za.length data.length) (ZG (4*nc))).toNat (rl0 rs i) (ZY rs i)=true:=fun i hir=>by
     rw[hct]; have:=VN hd i hir; simpa [W4] using this
    have hh:=ZnC Ze Zc types nc data rs Za hi.len hi.nums hcn hn hm (by omega) hc hro hn2
    try rw[Zq] at hh
    refine Q2 (Zu ZK hb (QR _) 10) hh ?_ rfl rfl ?_
    ·unfold Zba; rw[he]; rfl
    ·simp only[rr, tt, Bool.not_false,Bool.not_true,hg,h_a,h_b,h_c,h_d,h_e,h_f,h_g,h_h,h_i,h_j,h_k,h_l,h_m]
     repeat' (with_reducible apply And.intro)
     all_goals first|exact hlay|with_reducible trivial|with_reducible rfl
   ·obtain⟨j,hj,hv,hn2⟩:=XU _ _ hd
    have he:ZZ Ze Zc types nc data rs Za=2:=by unfold ZZ; rw[hl,ha,hf,hg,hd]; rfl
    have hv':Zy types nc data.length (0:Int).toNat (pk (Zo Ze Zc nc Za.length data.length) (ZG (4*nc))).toNat (rl0 rs j) (ZY rs j)=false:=by
     rw[hct]; simpa [W4] using hv
    have hn2':∀ i,i<j→Zy types nc data.length (0:Int).toNat (pk (Zo Ze Zc nc Za.length data.length) (ZG (4*nc))).toNat (rl0 rs i) (ZY rs i)=true:=fun i hij=>by
     rw[hct]; have:=hn2 i hij; simpa [W4] using this
    have hh:=ZlN Ze Zc types nc data rs Za hi.len hi.nums hcn hn j hj hm (by omega) hc hro hv' hn2'
    try rw[Zq] at hh
    refine Q2 (Zu ZK hb (QR _) 10) hh ?_ rfl rfl ?_
    ·unfold Zba; rw[he]; rfl
    ·simp only[rr, tt, Bool.not_false,Bool.not_true,hg,h_a,h_b,h_c,h_d,h_e,h_f,h_g,h_h,h_i,h_j,h_k,h_l,h_m]
     repeat' (with_reducible apply And.intro)
     all_goals first|exact hlay|with_reducible trivial|with_reducible rfl
  ·have he:ZZ Ze Zc types nc data rs Za=13:=by unfold ZZ; rw[hl,ha,hf,hg]; rfl
   have hh:=ZlM Ze Zc types nc data rs Za hi.len hi.nums hcn hn
   try rw[Zq] at hh
   refine Q2 (Zu ZK hb (QR _) 10) hh ?_ rfl rfl ?_
   ·unfold Zba; rw[he]; rfl
   ·simp only[rr, tt, Bool.not_false,Bool.not_true,hg,h_a,h_b,h_c,h_d,h_e,h_f,h_g,h_h,h_i,h_j,h_k,h_l,h_m]
    repeat' (with_reducible apply And.intro)
    all_goals first|exact hlay|with_reducible trivial|with_reducible rfl
 ·obtain⟨j,hj,hv,hn⟩:=XU _ _ hf
  have he:ZZ Ze Zc types nc data rs Za=2:=by unfold ZZ; rw[hl,ha,hf]; rfl
  have hh:=ZlL Ze Zc types nc data rs Za j hi.len hi.nums hcn hj (by simpa using hv) (fun i hij=>by have:=hn i hij; simpa using this)
  try rw[Zq] at hh
  refine Q2 (Zu ZK hb (QR _) 10) hh ?_ rfl rfl ?_
  ·unfold Zba; rw[he]; rfl
  ·simp only[rr, tt, Bool.not_false,Bool.not_true,h_a,h_b,h_c,h_d,h_e,h_f,h_g,h_h,h_i,h_j,h_k,h_l,h_m]
   repeat' (with_reducible apply And.intro)
   all_goals first|exact hlay|with_reducible trivial|with_reducible rfl
def imD (Ze Zc types:Int) (nc:Nat) (data:List UInt8) (rs:List Rl) (Za:List Nat) (v:Value):Con:=⟨[YE Ze Zc types nc rs.length Za.length data],67,imH rs Za,[],v,67,[],[]⟩
def Js (rs:List Rl) (Za:List Nat):WH:=fun f args _ =>
 match args with
 | [.agg ⟨[.int _ Ze,.int _ Zc,.int _ types,.slice (some i) nc _,.string ⟨⟨data⟩⟩,.slice (some j) _ _,.slice (some k) _ _]⟩] =>
  bif Nat.beq f 9 then some (imD Ze Zc types nc data rs Za (Qo Ze Zc types nc data rs Za),[i.block,j.block,k.block],ImOk rs Za)
  else bif Nat.beq f 55 then some (imD Ze Zc types nc data rs Za (Zba Ze Zc types nc data rs Za),[i.block,j.block,k.block],ImOk rs Za) else none
 | _=>none
theorem Zdc (rs:List Rl) (Za:List Nat):YN Tryz.prog 3 (Js rs Za):=by
 intro f args s c ρ q h hq
 unfold Js at h
 split at h
 ·rename_i Ze _ Zc _ types i nc _ data j _ _ k _ _
  cases h1:Nat.beq f 9<;>rw[h1] at h
  ·simp only[rr, tt, cond_false] at h
   obtain⟨h2,h⟩:=ZL h
   have h2:=eB h2
   subst h2
   cases h
   exact(ZlO _ _ _ _ _ rs Za hq).drop
  ·have h1:=eB h1
   subst h1
   cases h
   exact(Zha _ _ _ _ _ rs Za hq).drop
 ·cases h
theorem ZnD (Ze Zc types:Int) (nc:Nat) (data:List UInt8) (rs:List Rl) (Za:List Nat):evF Tryz.prog (ZeT 3 (Js rs Za) (ZH 3 YT)) Zf 100 10 16 [YE Ze Zc types nc rs.length Za.length data] ⟨67,imH rs Za,[],0,[(0,true)],0,True⟩=some (Value.tuple { toList:=[Value.agg ⟨[.int .u32 0,.int .u32 0,.int .u32 0,.int .u32 0,.int .u32 0,.int .u32 0,.int .u32 0,.int .u32 0]⟩,.int .i64 (↑(ZZ Ze Zc types nc data rs Za))] },{ n:=69,h:=[(65,⟨false,some (0,0),rels rs,none⟩),(66,⟨false,some (0,0),Zk Za,none⟩)],lo:=[],esc:=0,T:=[],k:=1,O:=(True∧ImOk rs Za∧(rr (Value.agg ⟨[.int .i64 Ze,.int .i64 Zc,.int .i64 types,.slice (some ⟨64,0,none⟩) nc 9223372036854775872,.string ⟨⟨data⟩⟩,.slice (some ⟨65,0,none⟩) rs.length 9223372036854775873,.slice (some ⟨66,0,none⟩) Za.length 9223372036854775874]⟩)∧True)∧(((tt∧(rels rs).all (okV (fun l=>l.blt 67) 3)=true∧tt∧tt∧tt∧True∧rels rs=List.map (rnV (lift 67 69 [64,65,66]) 3) (rels rs))∧(tt∧(Zk Za).all (okV (fun l=>l.blt 67) 3)=true∧tt∧tt∧tt∧True∧Zk Za=List.map (rnV (lift 67 69 [64,65,66]) 3) (Zk Za))∧True)∧tt∧tt)∧True)∧((↑(ZZ Ze Zc types nc data rs Za):Int) !=(0:Int))=true:St }):=by kernel_rfl
theorem ZnE (Ze Zc types:Int) (nc:Nat) (data:List UInt8) (rs:List Rl) (Za:List Nat):evF Tryz.prog (ZeT 3 (Js rs Za) (ZH 3 YT)) Zf 100 10 16 [YE Ze Zc types nc rs.length Za.length data] ⟨67,imH rs Za,[],0,[(0,false)],0,True⟩=some (Value.tuple { toList:=[Value.agg ⟨[.int .u32 0,.int .u32 (pk (Zo Ze Zc nc Za.length data.length) (ZG (4*nc))),.int .u32 (pk (Zo Ze Zc nc Za.length data.length) (ZG (4*nc))),.int .u32 (pk (Zo Ze Zc nc Za.length data.length) (ZG data.length)),.int .u32 (pk (Zo Ze Zc nc Za.length data.length) (ZG (4*nc)+ZG data.length)),.int .u32 (pk (Zo Ze Zc nc Za.length data.length) (Zc.toNat*Za.length)),.int .u32 (pk (Zo Ze Zc nc Za.length data.length) (ZX Zc nc Za.length data.length)),.int .u32 (pk (Zo Ze Zc nc Za.length data.length) (Ze.toNat*256-ZX Zc nc Za.length data.length))]⟩,.int .i64 0] },{ n:=70,h:=[(65,⟨false,some (0,0),rels rs,none⟩),(66,⟨false,some (0,0),Zk Za,none⟩)],lo:=[],esc:=0,T:=[],k:=1,O:=((True∧ImOk rs Za∧(rr (Value.agg ⟨[.int .i64 Ze,.int .i64 Zc,.int .i64 types,.slice (some ⟨64,0,none⟩) nc 9223372036854775872,.string ⟨⟨data⟩⟩,.slice (some ⟨65,0,none⟩) rs.length 9223372036854775873,.slice (some ⟨66,0,none⟩) Za.length 9223372036854775874]⟩)∧True)∧(((tt∧(rels rs).all (okV (fun l=>l.blt 67) 3)=true∧tt∧tt∧tt∧True∧rels rs=List.map (rnV (lift 67 69 [64,65,66]) 3) (rels rs))∧(tt∧(Zk Za).all (okV (fun l=>l.blt 67) 3)=true∧tt∧tt∧tt∧True∧Zk Za=List.map (rnV (lift 67 69 [64,65,66]) 3) (Zk Za))∧True)∧tt∧tt)∧True)∧((↑(ZZ Ze Zc types nc data rs Za):Int) !=(0:Int))=false)∧((0:Int)≤Ze∧Ze≤(1024:Int)∧(0:Int)≤Zc∧Zc≤(4096:Int)∧Zc%(256:Int)=(0:Int)∧nc≤4096∧Za.length≤4∧data.length≤16384)∧(rr (Value.agg ⟨[.int .i64 Ze,.int .i64 Zc,.int .i64 types,.slice (some ⟨64,0,none⟩) nc 9223372036854775872,.string ⟨⟨data⟩⟩,.slice (some ⟨65,0,none⟩) rs.length 9223372036854775873,.slice (some ⟨66,0,none⟩) Za.length 9223372036854775874]⟩)∧True)∧True∧True:St }):=by kernel_rfl
theorem Zeg (Ze Zc types:Int) (nc:Nat) (data:List UInt8) (rs:List Rl) (Za:List Nat) (he:ZZ Ze Zc types nc data rs Za=0):Xr Ze Zc nc Za.length data.length∧Zo Ze Zc nc Za.length data.length=false∧UD types nc data.length rs=false:=by
 unfold ZZ at he
 cases hl:ZO nc data.length rs.length Za.length<;>rw[hl] at he<;>try (simp at he; done)
 cases ha:QF Ze Zc types nc Za.length<;>rw[ha] at he<;>try (simp at he; done)
 cases hf:UC nc Za<;>rw[hf] at he<;>try (simp at he; done)
 cases hg:Zo Ze Zc nc Za.length data.length<;>rw[hg] at he<;>try (simp at he; done)
 cases hb:UD types nc data.length rs<;>rw[hb] at he<;>try (simp at he; done)
 exact⟨VO hl ha,rfl,rfl⟩
theorem ZiX (Ze Zc types:Int) (nc:Nat) (data:List UInt8) (rs:List Rl) (Za:List Nat) (hi:ImOk rs Za):ConOk Tryz.prog 16 3 (imD Ze Zc types nc data rs Za (Qo Ze Zc types nc data rs Za)):=by
 have hr:=Zu (L:=100) ZK (ZdN (Zdc rs Za) (Z1 (d:=3) W3)) (Zj _) 10
 by_cases he:ZZ Ze Zc types nc data rs Za=0
 ·have h0:(((ZZ Ze Zc types nc data rs Za:Nat):Int) !=0)=false:=by rw[he]; rfl
  obtain⟨hk,hg,_⟩:=Zeg Ze Zc types nc data rs Za he
  refine(Q2 (v':=Qo Ze Zc types nc data rs Za) (T:=[(0,false)]) hr (ZnE Ze Zc types nc data rs Za) ?_ rfl rfl ?_).drop
  ·unfold Qo Kn; rw[he,hg]; rfl
  ·repeat' (with_reducible apply And.intro)
   all_goals first|exact hi|exact hk.1|exact hk.2.1|exact hk.2.2.1|exact hk.2.2.2.1|exact hk.2.2.2.2.1|exact hk.2.2.2.2.2.1|exact hk.2.2.2.2.2.2.1|exact hk.2.2.2.2.2.2.2|exact h0|with_reducible trivial|with_reducible rfl|exact Zh (ZC rs)|exact(Zi (ZC rs)).symm|exact Zh (Zg Za)|exact(Zi (Zg Za)).symm
 ·have h0:(((ZZ Ze Zc types nc data rs Za:Nat):Int) !=0)=true:=by simp; omega
  have hz:∀ x,pe (ZZ Ze Zc types nc data rs Za) x=0:=Znu he
  refine(Q2 (v':=Qo Ze Zc types nc data rs Za) (T:=[(0,true)]) hr (ZnD Ze Zc types nc data rs Za) ?_ rfl rfl ?_).drop
  ·unfold Qo Kn; rw[hz,hz,hz,hz,hz,hz]
  ·repeat' (with_reducible apply And.intro)
   all_goals first|exact hi|exact h0|with_reducible trivial|with_reducible rfl|exact Zh (ZC rs)|exact(Zi (ZC rs)).symm|exact Zh (Zg Za)|exact(Zi (Zg Za)).symm
section
variable {P:Program} {call:Qb} {f:FuncId} {d:Nat}
end
def Vm (Ze Zc types:Int) (nc nr ns:Nat) (data:List UInt8):Value :=
 .agg ⟨[.int .i64 Ze,.int .i64 Zc,.int .i64 types,.slice (some ⟨64,0,none⟩) nc (big+64),.string ⟨⟨data⟩⟩,.slice none 0 0,.slice (some ⟨66,0,none⟩) ns (big+66)]⟩
def Zpk (rs:List Rl) (Za:List Nat):Sy.Heap:=[(66,⟨false,some (0,0),Zk Za,none⟩)]
def ZnF (Ze Zc types:Int) (nc:Nat) (data:List UInt8) (rs:List Rl) (Za:List Nat) (v:Value):Con:=⟨[Vm Ze Zc types nc rs.length Za.length data],67,Zpk rs Za,[],v,67,Zpk rs Za,[]⟩
def Yj (p s t:Int) (d:List UInt8) (a1 a2 a3:Option Addr) (n1 n2 n3 c1 c2 c3:Nat):Value:=.agg ⟨[.int .i64 p,.int .i64 s,.int .i64 t,.slice a1 n1 c1,.string ⟨⟨d⟩⟩,.slice a2 n2 c2,.slice a3 n3 c3]⟩
def ZnG (e:Int):Value:=.tuple ⟨[.agg ⟨[.int .u32 0,.int .u32 0,.int .u32 0,.int .u32 0,.int .u32 0,.int .u32 0,.int .u32 0,.int .u32 0]⟩,.int .i64 e]⟩
def Zdd (v:Value) (e:Int):Con:=⟨[v],67,[],[],ZnG e,67,[],[]⟩
theorem Zpl (p s t:Int) (d:List UInt8) (a1 a2 a3:Option Addr) (n1 n2 n3 c1 c2 c3:Nat):obs (evF Tryz.prog (ZH 3 Ze7) Zf 100 10 9 [Yj p s t d a1 a2 a3 n1 n2 n3 c1 c2 c3] ⟨67,[],[],0,[(0,true)],0,True⟩)=some (Value.tuple { toList:=[Value.agg ⟨[.int .u32 0,.int .u32 0,.int .u32 0,.int .u32 0,.int .u32 0,.int .u32 0,.int .u32 0,.int .u32 0]⟩,.int .i64 3] },(True∧(tt∧4<9000000000000000000)∧(rr (Value.slice (some ⟨69,0,none⟩) 4 4)∧True)∧((tt∧tt∧tt∧tt∧tt∧True∧rr [Value.bool (decide ((↑n1:Int)>(4096:Int))),.bool (decide ((↑(Zr d):Int)>(16384:Int))),.bool (decide ((↑n2:Int)>(256:Int))),.bool (decide ((↑n3:Int)>(4:Int)))])∧True)∧True)∧(!!(decide ((↑n1:Int)>(4096:Int))||(decide ((↑(Zr d):Int)>(16384:Int))||(decide ((↑n2:Int)>(256:Int))||(decide ((↑n3:Int)>(4:Int))||false)))))=true):=by kernel_rfl
theorem Zpm (p s t:Int) (d:List UInt8) (a1 a2 a3:Option Addr) (n1 n2 n3 c1 c2 c3:Nat):obs (evF Tryz.prog (ZH 3 Ze7) Zf 100 10 9 [Yj p s t d a1 a2 a3 n1 n2 n3 c1 c2 c3] ⟨67,[],[],0,[(0,false),(1,true)],0,True⟩)=some (Value.tuple { toList:=[Value.agg ⟨[.int .u32 0,.int .u32 0,.int .u32 0,.int .u32 0,.int .u32 0,.int .u32 0,.int .u32 0,.int .u32 0]⟩,.int .i64 2] },(((True∧(tt∧4<9000000000000000000)∧(rr (Value.slice (some ⟨69,0,none⟩) 4 4)∧True)∧((tt∧tt∧tt∧tt∧tt∧True∧rr [Value.bool (decide ((↑n1:Int)>(4096:Int))),.bool (decide ((↑(Zr d):Int)>(16384:Int))),.bool (decide ((↑n2:Int)>(256:Int))),.bool (decide ((↑n3:Int)>(4:Int)))])∧True)∧True)∧(!!(decide ((↑n1:Int)>(4096:Int))||(decide ((↑(Zr d):Int)>(16384:Int))||(decide ((↑n2:Int)>(256:Int))||(decide ((↑n3:Int)>(4:Int))||false)))))=false)∧(tt∧9<9000000000000000000)∧(rr (Value.slice (some ⟨70,0,none⟩) 9 9)∧True)∧((tt∧tt∧tt∧tt∧tt∧True∧rr [Value.bool (decide (p<(16:Int))),.bool (decide (p>(1024:Int))),.bool (decide (s<(256:Int))),.bool (decide (s>(4096:Int))),.bool (s.tmod (256:Int) !=(0:Int)),.bool (decide (t<(0:Int))),.bool (decide (t>(2048:Int))),.bool ((↑n1:Int)==(0:Int)),.bool ((↑n3:Int)==(0:Int))])∧True)∧True)∧(!!(decide (p<(16:Int))||(decide (p>(1024:Int))||(decide (s<(256:Int))||(decide (s>(4096:Int))||(s.tmod (256:Int) !=(0:Int)||(decide (t<(0:Int))||(decide (t>(2048:Int))||((↑n1:Int)==(0:Int)||((↑n3:Int)==(0:Int)||false))))))))))=true):=by kernel_rfl
theorem ZiY (p s t:Int) (d:List UInt8) (a1 a2 a3:Option Addr) (nc nr ns c1 c2 c3:Nat) (h:ZO nc d.length nr ns=true∨nc=0∨ns=0) (hv:okV (fun l=>Nat.blt l 67) 3 (Yj p s t d a1 a2 a3 nc nr ns c1 c2 c3)=true) :
  ConOk Tryz.prog 9 3 (Zdd (Yj p s t d a1 a2 a3 nc nr ns c1 c2 c3) (bif ZO nc d.length nr ns then 3 else 2)):=by
 have ha:ZO nc d.length nr ns=false→QF p s t nc ns=true:=fun hl=>by
  rw[hl] at h
  unfold QF
  rcases h with h|h|h
  ·cases h
  ·subst h; simp
  ·subst h; simp
 have h4:(4:Nat)<9000000000000000000:=by omega
 have h9:(9:Nat)<9000000000000000000:=by omega
 have hw:∀ e:Int,(Zdd (Yj p s t d a1 a2 a3 nc nr ns c1 c2 c3) e).Wf 3:=fun e=>⟨by show NG≤67; decide,Nat.le_refl _,trivial,rfl,rfl,rfl,by simp only[rr, tt, Zdd,List.all_cons,List.all_nil,hv,Bool.and_true],rfl,fun x hx=>by cases hx⟩
 have hobs:∀ (e:Int) (T:List (Nat×Bool)) (q:Prop),obs (evF Tryz.prog (ZH 3 Ze7) Zf 100 10 9 [Yj p s t d a1 a2 a3 nc nr ns c1 c2 c3] ⟨67,[],[],0,T,0,True⟩)=some (ZnG e,q)→q→ConOk Tryz.prog 9 3 (Zdd (Yj p s t d a1 a2 a3 nc nr ns c1 c2 c3) e):=by
  intro e T q hr hq
  unfold obs at hr
  obtain⟨⟨v,s'⟩,h1,h2⟩:=oM hr
  cases h2
  exact ZF (Zu (L:=100) ZK (Z1 (d:=3) Uj) (Zj _) 10) (hw e) h1 hq (p:=fun l=>Nat.blt l 67) (σ:=id) ⟨fun _ _=>rfl,trivial,rfl,trivial,⟨rfl,rfl⟩,rfl,trivial,rfl,ZM 3 _ rfl,fun x hx=>by cases hx⟩
 cases hl:ZO nc d.length nr ns
 ·refine hobs 2 _ _ (Zpm p s t d a1 a2 a3 nc nr ns c1 c2 c3) ?_
  have hl':(!!ZO nc d.length nr ns)=false:=by rw[hl]; rfl
  have ha':(!!QF p s t nc ns)=true:=by rw[ha hl]; rfl
  rw[Zq]
  repeat' (with_reducible apply And.intro)
  all_goals first|exact h4|exact h9|exact hl'|exact ha'|with_reducible trivial|with_reducible rfl
 ·refine hobs 3 _ _ (Zpl p s t d a1 a2 a3 nc nr ns c1 c2 c3) ?_
  have hl':(!!ZO nc d.length nr ns)=true:=by rw[hl]; rfl
  rw[Zq]
  repeat' (with_reducible apply And.intro)
  all_goals first|exact h4|exact h9|exact hl'|with_reducible trivial|with_reducible rfl
set_option maxRecDepth 100000
def Zhe (zs:List UInt8) (N m n:Nat):Sy.Heap:=[(72,⟨true,none,[.pointer (some ⟨71,0,none⟩),.slice (some ⟨69,0,none⟩) N (big+69)],none⟩),(71,⟨true,none,[.int .i64 (m:Nat),.slice (some ⟨70,0,none⟩) n (big+70)],none⟩),(70,⟨true,some (70,1),z64 n,none⟩),(69,⟨true,some (69,1),u8s zs,none⟩)]
def YQ (c da ds sa ss ha hs:Nat):List Value:=[.int .u32 0,.int .u32 (c:Nat),.int .u32 (da:Nat),.int .u32 (ds:Nat),.int .u32 (sa:Nat),.int .u32 (ss:Nat),.int .u32 (ha:Nat),.int .u32 (hs:Nat)]
def Zj3:List (Nat×Value):=[(1,.pointer (some ⟨67,0,none⟩)),(2,.pointer (some ⟨72,0,none⟩)),(3,.slice none 0 0),(4,.int .i64 0),(5,.pointer (some ⟨68,0,none⟩)),(6,.pointer (some ⟨73,0,none⟩))]
def ZlP (cs:List Nat) (zs:List UInt8) (N m n:Nat) (c da ds sa ss ha hs:Nat) (k:Int):Sf :=
 ⟨74,Zj3++[(33,.slice (some ⟨64,0,none⟩) cs.length (big+64)),(34,.int .i64 (cs.length:Nat)),(35,.int .i64 k)],Zhe zs N m n++[(68,⟨false,none,YQ c da ds sa ss ha hs,none⟩),(64,⟨false,some (0,0),Zk cs,none⟩)],[(70,n),(69,N)]⟩
def ldaL (a v:Nat) (zs:List UInt8) (N m n:Nat):Sy.Steps:=[(74,11,ZoE a v zs N m n,[69,70,71,72])]
theorem Zpn (cs:List Nat) (zs:List UInt8) (N:Nat) (m:Nat) (n:Nat) (c:Nat) (da:Nat) (ds:Nat) (sa:Nat) (ss:Nat) (ha:Nat) (hs:Nat) (k:Int) (a:Nat) (v:Nat):evC Tryz.prog (evF Tryz.prog (QA 3 (ZT (ldaL a v zs N m n)) ZD) Zf 100 20) (Zf 4) 92 100 (ZB Tryz.prog 4 0) (Sf.frT 92 (ZlP cs zs N m n c da ds sa ss ha hs k) [(0,true)])=some (Exit.normal,{ e:=mkE 92 [(1,.pointer (some ⟨67,0,none⟩)),(2,.pointer (some ⟨72,0,none⟩)),(3,.slice none 0 0),(4,.int .i64 0),(5,.pointer (some ⟨68,0,none⟩)),(6,.pointer (some ⟨73,0,none⟩)),(7,.int .i64 k),(8,.int .u32 (Zb (Zd undef (Zk cs) (0+k.toNat*1)))),(33,.slice (some ⟨64,0,none⟩) cs.length 9223372036854775872),(34,.int .i64 (↑cs.length)),(35,.int .i64 (i64.wrap (k+(1:Int)))),(36,.bool (decide (k<(↑cs.length:Int)))),(37,.int .i64 k),(38,.pointer (some { block:=64,off:=0+k.toNat*1 })),(39,.int .u32 (Zb (Zd undef (Zk cs) (0+k.toNat*1)))),(40,.pointer (some ⟨72,0,none⟩)),(41,.pointer (some ⟨68,0,none⟩)),(42,.pointer (some ⟨68,0,none⟩)),(43,.int .u32 0),(44,.int .i64 k),(45,.int .u32 (u32.wrap k)),(46,.int .u32 (u32.wrap ((4:Int)*u32.wrap k))),(47,.int .u32 (u32.wrap ((0:Int)+u32.wrap ((4:Int)*u32.wrap k)))),(48,Value.int .u32 (Zb (Zd undef (Zk cs) (0+k.toNat*1)))),(49,.bool true),(50,.int .i64 (i64.wrap (k+(1:Int))))],s:={ n:=74,h:=[(72,⟨true,none,[Value.pointer (some ⟨71,0,none⟩),.slice (some ⟨69,0,none⟩) N 9223372036854775877],none⟩),(71,⟨true,none,[Value.int .i64 (↑m),.slice (some ⟨70,0,none⟩) n 9223372036854775878],none⟩),(70,⟨true,some (70,1),z64 n,none⟩),(69,⟨true,some (69,1),u8s (QK a (leW 4 v) zs),none⟩),(68,⟨false,none,[Value.int .u32 0,.int .u32 (↑c),.int .u32 (↑da),.int .u32 (↑ds),.int .u32 (↑sa),.int .u32 (↑ss),.int .u32 (↑ha),.int .u32 (↑hs)],none⟩),(64,⟨false,some (0,0),Zk cs,none⟩)],lo:=[(70,n),(69,N),(70,n),(69,N)],esc:=0,T:=[],k:=1,O:=(bif Qc (0+k.toNat*1+1) (Zk cs)&&Zs [Value.int .u32 0] (Zk cs) (0+k.toNat*1) then bif decide ((0:Int)≤k)&&decide (k<(↑cs.length:Int)) then True∧decide (k<(↑cs.length:Int))=true else False else False)∧True∧(rr (Value.pointer (some ⟨72,0,none⟩))∧Value.int .u32 (u32.wrap ((0:Int)+u32.wrap ((4:Int)*u32.wrap k)))=Value.int .u32 (↑a)∧rr (Value.int .i64 4)∧Value.int .u32 (Zb (Zd undef (Zk cs) (0+k.toNat*1)))=Value.int .u32 (↑v)∧True)∧((tt∧tt∧tt∧tt∧tt∧True∧rr [Value.pointer (some ⟨71,0,none⟩),.slice (some ⟨69,0,none⟩) N 9223372036854775877])∧(tt∧tt∧tt∧tt∧tt∧True∧rr [Value.int .i64 (↑m),.slice (some ⟨70,0,none⟩) n 9223372036854775878])∧(tt∧(z64 n).all (okV (fun l=>l.blt 68) 3)=true∧tt∧tt∧tt∧True∧z64 n=List.map (rnV (lift 68 74 [69,70,71,72]) 3) (z64 n))∧(tt∧(u8s zs).all (okV (fun l=>l.blt 68) 3)=true∧tt∧tt∧tt∧True∧u8s zs=List.map (rnV (lift 68 74 [69,70,71,72]) 3) (u8s zs))∧True)∧(tt∧n≤n)∧(tt∧N≤N)∧True:St }:Fr }):=by kernel_rfl
theorem Zpo (cs:List Nat) (zs:List UInt8) (N:Nat) (m:Nat) (n:Nat) (c:Nat) (da:Nat) (ds:Nat) (sa:Nat) (ss:Nat) (ha:Nat) (hs:Nat) (k:Int):evC Tryz.prog (evF Tryz.prog ZD Zf 100 20) (Zf 4) 92 100 (ZB Tryz.prog 4 0) (Sf.frT 92 (ZlP cs zs N m n c da ds sa ss ha hs k) [(0,false)])=some (Exit.exit 0,{ e:=mkE 92 [(1,.pointer (some ⟨67,0,none⟩)),(2,.pointer (some ⟨72,0,none⟩)),(3,.slice none 0 0),(4,.int .i64 0),(5,.pointer (some ⟨68,0,none⟩)),(6,.pointer (some ⟨73,0,none⟩)),(33,.slice (some ⟨64,0,none⟩) cs.length 9223372036854775872),(34,.int .i64 (↑cs.length)),(35,.int .i64 k),(36,.bool (decide (k<(↑cs.length:Int))))],s:={ n:=74,h:=[(72,⟨true,none,[Value.pointer (some ⟨71,0,none⟩),.slice (some ⟨69,0,none⟩) N 9223372036854775877],none⟩),(71,⟨true,none,[Value.int .i64 (↑m),.slice (some ⟨70,0,none⟩) n 9223372036854775878],none⟩),(70,⟨true,some (70,1),z64 n,none⟩),(69,⟨true,some (69,1),u8s zs,none⟩),(68,⟨false,none,[Value.int .u32 0,.int .u32 (↑c),.int .u32 (↑da),.int .u32 (↑ds),.int .u32 (↑sa),.int .u32 (↑ss),.int .u32 (↑ha),.int .u32 (↑hs)],none⟩),(64,⟨false,some (0,0),Zk cs,none⟩)],lo:=[(70,n),(69,N)],esc:=0,T:=[],k:=1,O:=True∧decide (k<(↑cs.length:Int))=false:St }:Fr }):=by kernel_rfl
theorem Q3 {q:Nat→Bool} (h9:q 69=true) (h0:q 70=true) (h1:q 71=true) (N m n:Nat):(∀ v∈([.pointer (some ⟨71,0,none⟩),.slice (some ⟨69,0,none⟩) N (big+69)]:List Value),okV q 3 v=true)∧∀ v∈([.int .i64 (m:Nat),.slice (some ⟨70,0,none⟩) n (big+70)]:List Value),okV q 3 v=true:=by
 constructor<;>intro v hv<;>simp only[rr, tt, List.mem_cons,List.not_mem_nil,or_false] at hv<;>rcases hv with rfl|rfl<;>simp[okV,QP,h9,h0,h1,ZP]
theorem Zbb {q:Nat→Bool} (h:∀ l,l<74→q l=true) (zs:List UInt8) (N m n:Nat) {l:Sy.Heap} (hl:OkH q l):OkH q (Zhe zs N m n++l) :=
 ⟨⟨h 72 (by omega),rfl,fun v hv=>ZM 3 v ((Q3 (h 69 (by omega)) (h 70 (by omega)) (h 71 (by omega)) N m n).1 v hv)⟩,⟨h 71 (by omega),rfl,fun v hv=>ZM 3 v ((Q3 (h 69 (by omega)) (h 70 (by omega)) (h 71 (by omega)) N m n).2 v hv)⟩,⟨h 70 (by omega),h 70 (by omega),Zv (Qu n)⟩,⟨h 69 (by omega),h 69 (by omega),Zv (Zp zs)⟩,hl⟩
theorem Zeh:∀ l,l<74→(fun l=>Nat.blt l 74) l=true:=fun l hl=>Zt hl
theorem Zbc (l:Nat) (h:l<74):Z3 74 74 id (fun l=>Nat.blt l 74) l=true:=by
 show(Nat.blt l NG||(bif Nat.blt l 74 then(Nat.beq l l&&Nat.blt l 74) else Nat.blt l 74))=true
 rw[Zt h,Nat.beq_refl]
 cases Nat.blt l NG<;>rfl
theorem XE (c da ds sa ss ha hs:Nat):∀ v∈YQ c da ds sa ss ha hs,ZP v=true:=fun v hv=>by
 simp only[rr, tt, YQ,List.mem_cons,List.not_mem_nil,or_false] at hv
 rcases hv with rfl|rfl|rfl|rfl|rfl|rfl|rfl|rfl<;>rfl
def Zop (zs:List UInt8) (N m n:Nat):Sf:=⟨74,Zj3,Zhe zs N m n,[(70,n),(69,N)]⟩
theorem Zbd {q:Nat→Bool} (h:∀ l,l<74→q l=true):∀ x∈Zj3,okV q 3 x.2=true:=fun x hx=>by
 have h7:=h 67 (by omega)
 have h2:=h 72 (by omega)
 have h8:=h 68 (by omega)
 have h3:=h 73 (by omega)
 simp only[rr, tt, Zj3,List.mem_cons,List.not_mem_nil,or_false] at hx
 rcases hx with rfl|rfl|rfl|rfl|rfl|rfl<;>simp[okV,QP,h7,h2,h8,h3,ZP,big]
theorem ZlQ (cs:List Nat) (zs:List UInt8) (N m n:Nat) (c da ds sa ss ha hs:Nat) (k:Int):(ZlP cs zs N m n c da ds sa ss ha hs k).Wf :=
 ⟨by show 64≤74; omega,Sf.Ok.mk' 3 (Zbb Zeh zs N m n ⟨⟨rfl,rfl,Zv (XE c da ds sa ss ha hs)⟩,⟨rfl,rfl,Zv (Zg cs)⟩,trivial⟩) rfl (fun x hx=>by
  rw[show(ZlP cs zs N m n c da ds sa ss ha hs k).e=Zj3++[(33,.slice (some ⟨64,0,none⟩) cs.length (big+64)),(34,.int .i64 (cs.length:Nat)),(35,.int .i64 k)] from rfl,List.mem_append] at hx
  rcases hx with hx|hx
  ·exact Zbd Zeh x hx
  ·simp only[rr, tt, List.mem_cons,List.not_mem_nil,or_false] at hx
   rcases hx with rfl|rfl|rfl<;>rfl)⟩
theorem Zhf (zs:List UInt8) (N m n:Nat):(Zop zs N m n).Ok (Z3 74 74 id (fun l=>Nat.blt l 74)) :=
 Sf.Ok.mk' 3 (by have:=Zbb Zbc zs N m n (l:=[]) trivial; rwa [List.append_nil] at this) rfl (fun x hx=>Zbd Zbc x hx)
theorem Uk {h1:Sy.Heap} {p:Nat→Bool} (hp:∀ l,l<74→p l=true) (zs:List UInt8) (N m n:Nat) (cs:List Value) {l:Sy.Heap} (h72:Sy.look h1 72=some ⟨true,none,[.pointer (some ⟨71,0,none⟩),.slice (some ⟨69,0,none⟩) N (big+69)],none⟩) (h71:Sy.look h1 71=some ⟨true,none,[.int .i64 (m:Nat),.slice (some ⟨70,0,none⟩) n (big+70)],none⟩)
  (h70:Sy.look h1 70=some ⟨true,some (70,1),z64 n,none⟩) (h69:Sy.look h1 69=some ⟨true,some (69,1),cs,none⟩) (hc:cs=u8s zs) (hl:Ya 3 p id h1 l):Ya 3 p id h1 (Zhe zs N m n++l):=by
 have hc1:=Q3 (hp 69 (by omega)) (hp 70 (by omega)) (hp 71 (by omega)) N m n
 refine⟨⟨hp 72 (by omega),List.all_eq_true.2 hc1.1,rfl,?_⟩,⟨hp 71 (by omega),List.all_eq_true.2 hc1.2,rfl,?_⟩,⟨hp 70 (by omega),Zh (Qu n),hp 70 (by omega),?_⟩,⟨hp 69 (by omega),Zh (Zp zs),hp 69 (by omega),?_⟩,hl⟩
 ·simp only[rr, tt, id,h72]; exact⟨rfl,rfl,trivial,(Qr _ rfl _).symm⟩
 ·simp only[rr, tt, id,h71]; exact⟨rfl,rfl,trivial,(Qr _ rfl _).symm⟩
 ·simp only[rr, tt, id,h70]; exact⟨rfl,rfl,trivial,by rw[Qr _ rfl]⟩
 ·simp only[rr, tt, id,h69]; exact⟨rfl,rfl,trivial,by rw[Qr _ rfl,hc]⟩
theorem Zcd (xs:List Nat) (n:Nat):Qc n (Zk xs)=decide (n≤xs.length):=Q8 xs n
theorem ZiZ (cs:List Nat) (zs:List UInt8) (N m n:Nat) (c da ds sa ss ha hs:Nat) (h:ArOk zs N m n) (hc:∀ x∈cs,x<4294967296) (hl:cs.length≤4096) (hN:4*cs.length≤N) :
  ∀ k:{ k:Nat // k≤cs.length },Qj Tryz.prog 92 (ZB Tryz.prog 4 0) ((ZlP cs (ZR cs k.1 zs) N m n c da ds sa ss ha hs (k.1:Int)).fr 92) (.exit 0) ((Zop (ZR cs cs.length zs) N m n).fr 92):=by
 refine Xn (L:=100) (ZU _ _ 4) (fun _ h=>h) (X:={ k:Nat // k≤cs.length }) (fun k=>ZlP cs (ZR cs k.1 zs) N m n c da ds sa ss ha hs (k.1:Int)) (fun _=>Zop (ZR cs cs.length zs) N m n) (fun _ => .exit 0) (fun k=>cs.length-k.1) (fun k=>ZlQ _ _ _ _ _ _ _ _ _ _ _ _ _) ?_
 rintro⟨k,hk⟩
 have hzl:(ZR cs k zs).length=N:=by rw[YA _ _ _ (by rw[h.len]; omega),h.len]
 by_cases hlt:k<cs.length
 ·have hx:cs.getD k 0<4294967296:=by
   rw[List.getD_eq_getElem?_getD,List.getElem?_eq_getElem hlt]; exact hc _ (List.getElem_mem hlt)
  have hcon:=ZkW (4*k) (cs.getD k 0) (ZR cs k zs) N m n ⟨hzl,h.tags,h.words,h.few,h.big⟩ hx (by omega)
  have hr:=Zpn cs (ZR cs k zs) N m n c da ds sa ss ha hs (k:Int) (4*k) (cs.getD k 0)
  have e1:u32.wrap (k:Int)=(k:Int):=YR k (by omega)
  have e2:u32.wrap ((4:Int)*(k:Int))=((4*k:Nat):Int):=by rw[show(4:Int)*(k:Int)=((4*k:Nat):Int) by omega,YR _ (by omega)]
  have e3:u32.wrap ((0:Int)+((4*k:Nat):Int))=((4*k:Nat):Int):=by rw[Int.zero_add,YR _ (by omega)]
  have e4:i64.wrap ((k:Int)+(1:Int))=((k+1:Nat):Int):=ZQ k (by omega)
  simp only[rr, tt, e1,e2,e3,e4,Int.toNat_natCast,Nat.zero_add,Nat.mul_one,Yn] at hr
  refine⟨_,_,.normal,_,3,fun l=>Nat.blt l 74,id,Zu (L:=100) Zn (Qe (ZW fun x hx=>by
   obtain rfl:=List.mem_singleton.1 hx; exact hcon) (Zx _)) (Zj _) 20,hr,?_,.inl ⟨rfl,⟨k+1,by omega⟩,by show cs.length-(k+1)<cs.length-k; omega,rfl,rfl,?_⟩⟩
  ·have f1:∀ p,(u8s (ZR cs k zs)).all (okV p 3)=true:=fun p=>Zh (Zp _)
   have f2:∀ σ,(u8s (ZR cs k zs)).map (rnV σ 3)=u8s (ZR cs k zs):=fun σ=>Zi (Zp _)
   simp(disch:=omega) only[rr, tt, Zcd,Qd,QV,Qn,f1,f2,decide_eq_true,decide_eq_false,Bool.and_self,cond_true,and_true,true_and,and_self,Nat.le_refl]
  ·refine⟨fun _ _=>rfl,Uk Zeh _ N m n _ rfl rfl rfl rfl rfl ⟨⟨rfl,Zh (XE c da ds sa ss ha hs),rfl,rfl,rfl,trivial,(Zi (XE c da ds sa ss ha hs)).symm⟩,⟨rfl,Zh (Zg cs),rfl,rfl,rfl,trivial,(Zi (Zg cs)).symm⟩,trivial⟩,rfl,⟨⟨rfl,Nat.le_refl _⟩,⟨rfl,Nat.le_refl _⟩,trivial⟩,?_,Nat.le_refl _,fun l hl=>ZN hl,Zhf _ N m n,fun x _ _ => .inl rfl⟩
   exact⟨⟨by kernel_rfl,by kernel_rfl⟩,⟨by kernel_rfl,by kernel_rfl⟩,⟨by kernel_rfl,by kernel_rfl⟩,⟨by kernel_rfl,by kernel_rfl⟩,⟨by kernel_rfl,by kernel_rfl⟩,⟨by kernel_rfl,by kernel_rfl⟩,⟨by kernel_rfl,by kernel_rfl⟩,⟨by kernel_rfl,by kernel_rfl⟩,⟨by kernel_rfl,by kernel_rfl⟩,trivial⟩
 ·have hkk:k=cs.length:=by omega
  subst hkk
  have hr:=Zpo cs (ZR cs cs.length zs) N m n c da ds sa ss ha hs (cs.length:Int)
  refine⟨_,_,.exit 0,_,3,fun l=>Nat.blt l 74,id,Zu (L:=100) Zn (Zx _) (Zj _) 20,hr,?_,.inr ⟨by simp,rfl,?_⟩⟩
  ·exact⟨trivial,decide_eq_false (by omega)⟩
  ·have hs:=Uk (l:=[]) Zeh (ZR cs cs.length zs) N m n _ (by rfl) (by rfl) (by rfl) (by rfl) rfl trivial (h1:=Zhe (ZR cs cs.length zs) N m n++[(68,⟨false,none,YQ c da ds sa ss ha hs,none⟩),(64,⟨false,some (0,0),Zk cs,none⟩)])
   rw[List.append_nil] at hs
   exact⟨fun _ _=>rfl,hs,rfl,⟨⟨rfl,Nat.le_refl _⟩,⟨rfl,Nat.le_refl _⟩,trivial⟩,⟨⟨by kernel_rfl,by kernel_rfl⟩,⟨by kernel_rfl,by kernel_rfl⟩,⟨by kernel_rfl,by kernel_rfl⟩,⟨by kernel_rfl,by kernel_rfl⟩,⟨by kernel_rfl,by kernel_rfl⟩,⟨by kernel_rfl,by kernel_rfl⟩,trivial⟩,Nat.le_refl _,fun l hl=>ZN hl,Zhf _ N m n,fun x _ _ => .inl rfl⟩
def XV (cs:List Nat) (zs:List UInt8) (N m n:Nat) (c da ds sa ss ha hs:Nat) (h:ArOk zs N m n) (hc:∀ x∈cs,x<4294967296) (hl:cs.length≤4096) (hN:4*cs.length≤N):Ent Tryz.prog :=
 Vl Tryz.prog 4 0 92 (ZlP cs zs N m n c da ds sa ss ha hs 0) (.exit 0) (Zop (ZR cs cs.length zs) N m n) (by kernel_rfl) (by kernel_rfl) (ZiZ cs zs N m n c da ds sa ss ha hs h hc hl hN ⟨0,Nat.zero_le _⟩)
theorem Zj4 (y:Nat) (h:y<65536):bits .or .u16 (0:Int) (y:Int)=(y:Int):=by
 show u16.wrap ((BitVec.ofInt 16 (0:Int)|||BitVec.ofInt 16 (y:Int)).toNat:Int)=_
 rw[BitVec.toNat_or,BitVec.ofInt_natCast,BitVec.toNat_ofNat,Nat.mod_eq_of_lt (by omega),show(BitVec.ofInt 16 (0:Int)).toNat=0 from rfl,Nat.zero_or,IntKind.wrap_u16]
 omega
def Yq (da:Nat) (x:Rl):Cp:=Jc (bif x.code then x.off else(da+x.off)%4294967296) x.size x.perms x.typ
def toσ (m g:Nat) (l:Nat):Nat:=if l=m then g else l
theorem XW (l:List Cp) (σ:Nat→Nat):(cpL l).map (rnV σ 3)=cpL l:=Zi (Z7 l)
theorem XX (l:List Cp) (p:Nat→Bool):(cpL l).all (okV p 3)=true:=Zh (Z7 l)
def VP (zs:List UInt8) (f:Nat→Bool) (N m n:Nat):Sy.Heap:=[(72,⟨true,none,[.pointer (some ⟨71,0,none⟩),.slice (some ⟨69,0,none⟩) N (big+69)],none⟩),(71,⟨true,none,[.int .i64 (m:Nat),.slice (some ⟨70,0,none⟩) n (big+70)],none⟩),(70,⟨true,some (70,1),v64 (Zm f n),none⟩),(69,⟨true,some (69,1),u8s zs,none⟩)]
def Zj5 (p s t:Nat) (nc ns:Nat) (d:List UInt8) (rs:List Rl) (c da ds sa ss ha hs:Nat) (zs:List UInt8) (f:Nat→Bool) (N m n:Nat) (k:Nat):Sf :=
 ⟨74,Zj3++[(59,.slice (some ⟨65,0,none⟩) rs.length (big+65)),(60,.int .i64 (rs.length:Nat)),(61,.int .i64 (k:Nat))],VP zs f N m n++[(68,⟨false,none,YQ c da ds sa ss ha hs,none⟩),(73,⟨false,none,plQ (p:Nat) (s:Nat) (t:Nat) nc ns d (some ⟨65,0,none⟩) rs.length (big+65) (c:Nat) (da:Nat) (ds:Nat) (sa:Nat) (ss:Nat) (ha:Nat) (hs:Nat),none⟩),(65,⟨false,some (0,0),rels rs,none⟩)],[(70,n),(69,N)]⟩
theorem Zpp (p:Nat) (s:Nat) (t:Nat) (nc:Nat) (ns:Nat) (d:List UInt8) (rs:List Rl) (c:Nat) (da:Nat) (ds:Nat) (sa:Nat) (ss:Nat) (ha:Nat) (hs:Nat) (zs:List UInt8) (f:Nat→Bool) (N:Nat) (m:Nat) (n:Nat) (k:Nat) (a:Nat) (ca:Nat) (ce:Nat) (cb:Nat) (ct:Nat) (cp:Nat) (cy:Nat):evC Tryz.prog (evF Tryz.prog (QA 3 (ZT [(83,13,scC a ca ce cb ct cp cy 0 zs f N m n,[69,70,71,72])]) (ZH 3 WF)) Zf 100 20) (Zf 4) 92 100 (ZB Tryz.prog 4 1) (Sf.frT 92 (Zj5 p s t nc ns d rs c da ds sa ss ha hs zs f N m n k) [(0,true),(1,false)])=some (Exit.normal,{ e:=mkE 92 [(1,.pointer (some ⟨67,0,none⟩)),(2,.pointer (some ⟨72,0,none⟩)),(3,.slice none 0 0),(4,.int .i64 0),(5,.pointer (some ⟨68,0,none⟩)),(6,.pointer (some ⟨73,0,none⟩)),(10,.pointer (some ⟨74,0,none⟩)),(59,.slice (some ⟨65,0,none⟩) rs.length 9223372036854775873),(60,.int .i64 (↑rs.length)),(61,.int .i64 (i64.wrap ((↑k:Int)+(1:Int)))),(62,.bool (decide ((↑k:Int)<(↑rs.length:Int)))),(63,.pointer (some { block:=65,off:=0+(↑k:Int).toNat*6 })),(64,Value.agg ⟨[.int .u32 (Zb (Zd undef (rels rs) (0+(↑k:Int).toNat*6))),.bool (Zw (Zd undef (rels rs) (0+(↑k:Int).toNat*6+1))),.int .u32 (Zb (Zd undef (rels rs) (0+(↑k:Int).toNat*6+1+1))),.int .u32 (Zb (Zd undef (rels rs) (0+(↑k:Int).toNat*6+1+1+1))),.int .u16 (Zb (Zd undef (rels rs) (0+(↑k:Int).toNat*6+1+1+1+1))),.int .u16 (Zb (Zd undef (rels rs) (0+(↑k:Int).toNat*6+1+1+1+1+1)))]⟩),(65,.pointer (some ⟨72,0,none⟩)),(66,.pointer (some { block:=68,off:=2 })),(67,.pointer (some { block:=68,off:=2 })),(68,.int .u32 (↑da)),(69,.pointer (some ⟨74,0,none⟩)),(70,.int .u32 (Zb (Zd undef (rels rs) (0+(↑k:Int).toNat*6)))),(71,.int .u32 (u32.wrap ((↑da:Int)+Zb (Zd undef (rels rs) (0+(↑k:Int).toNat*6))))),(72,.agg ⟨[.int .i64 (↑p),.int .i64 (↑s),.int .i64 (↑t),.slice (some ⟨64,0,none⟩) nc 9223372036854775872,.string ⟨⟨d⟩⟩,.slice (some ⟨65,0,none⟩) rs.length 9223372036854775873,.slice (some ⟨66,0,none⟩) ns 9223372036854775874,.int .u32 0,.int .u32 (↑c),.int .u32 (↑da),.int .u32 (↑ds),.int .u32 (↑sa),.int .u32 (↑ss),.int .u32 (↑ha),.int .u32 (↑hs)]⟩),(73,.agg ⟨[.int .u32 (Zb (Zd undef (rels rs) (0+(↑k:Int).toNat*6))),.bool (Zw (Zd undef (rels rs) (0+(↑k:Int).toNat*6+1))),.int .u32 (Zb (Zd undef (rels rs) (0+(↑k:Int).toNat*6+1+1))),.int .u32 (Zb (Zd undef (rels rs) (0+(↑k:Int).toNat*6+1+1+1))),.int .u16 (Zb (Zd undef (rels rs) (0+(↑k:Int).toNat*6+1+1+1+1))),.int .u16 (Zb (Zd undef (rels rs) (0+(↑k:Int).toNat*6+1+1+1+1+1)))]⟩),(74,.agg ⟨[.int .u32 (↑(mA (u32.wrap ((↑da:Int)+Zb (Zd undef (rels rs) (0+(↑k:Int).toNat*6+1+1)))).toNat (Zb (Zd undef (rels rs) (0+(↑k:Int).toNat*6+1+1+1))).toNat (bits BinOp.or u16 (0:Int) (Zb (Zd undef (rels rs) (0+(↑k:Int).toNat*6+1+1+1+1)))).toNat):Int),.int .u8 (↑(mE (u32.wrap ((↑da:Int)+Zb (Zd undef (rels rs) (0+(↑k:Int).toNat*6+1+1)))).toNat (Zb (Zd undef (rels rs) (0+(↑k:Int).toNat*6+1+1+1))).toNat (bits BinOp.or u16 (0:Int) (Zb (Zd undef (rels rs) (0+(↑k:Int).toNat*6+1+1+1+1)))).toNat):Int),.int .u16 (↑(mB (u32.wrap ((↑da:Int)+Zb (Zd undef (rels rs) (0+(↑k:Int).toNat*6+1+1)))).toNat (Zb (Zd undef (rels rs) (0+(↑k:Int).toNat*6+1+1+1))).toNat (bits BinOp.or u16 (0:Int) (Zb (Zd undef (rels rs) (0+(↑k:Int).toNat*6+1+1+1+1)))).toNat):Int),.int .u16 (↑(mT (u32.wrap ((↑da:Int)+Zb (Zd undef (rels rs) (0+(↑k:Int).toNat*6+1+1)))).toNat (Zb (Zd undef (rels rs) (0+(↑k:Int).toNat*6+1+1+1))).toNat (bits BinOp.or u16 (0:Int) (Zb (Zd undef (rels rs) (0+(↑k:Int).toNat*6+1+1+1+1)))).toNat):Int),.int .u16 (↑(mP (u32.wrap ((↑da:Int)+Zb (Zd undef (rels rs) (0+(↑k:Int).toNat*6+1+1)))).toNat (Zb (Zd undef (rels rs) (0+(↑k:Int).toNat*6+1+1+1))).toNat (bits BinOp.or u16 (0:Int) (Zb (Zd undef (rels rs) (0+(↑k:Int).toNat*6+1+1+1+1)))).toNat):Int),.int .u16 (Zb (Zd undef (rels rs) (0+(↑k:Int).toNat*6+1+1+1+1+1))),.int .u32 0,.bool (mV (u32.wrap ((↑da:Int)+Zb (Zd undef (rels rs) (0+(↑k:Int).toNat*6+1+1)))).toNat (Zb (Zd undef (rels rs) (0+(↑k:Int).toNat*6+1+1+1))).toNat (bits BinOp.or u16 (0:Int) (Zb (Zd undef (rels rs) (0+(↑k:Int).toNat*6+1+1+1+1)))).toNat)]⟩),(75,.bool true),(76,.int .i64 (i64.wrap ((↑k:Int)+(1:Int))))],s:={ n:=83,h:=[(72,⟨true,none,[Value.pointer (some ⟨71,0,none⟩),.slice (some ⟨69,0,none⟩) N 9223372036854775877],none⟩),(71,⟨true,none,[Value.int .i64 (↑m),.slice (some ⟨70,0,none⟩) n 9223372036854775878],none⟩),(70,⟨true,some (70,1),v64 (Zm (XH f (a/16) true) n),none⟩),(69,⟨true,some (69,1),u8s (QK a (cbL ca ce cb ct cp cy 0) zs),none⟩),(73,⟨false,none,[Value.int .i64 (↑p),.int .i64 (↑s),.int .i64 (↑t),.slice (some ⟨64,0,none⟩) nc 9223372036854775872,.string ⟨⟨d⟩⟩,.slice (some ⟨65,0,none⟩) rs.length 9223372036854775873,.slice (some ⟨66,0,none⟩) ns 9223372036854775874,.int .u32 0,.int .u32 (↑c),.int .u32 (↑da),.int .u32 (↑ds),.int .u32 (↑sa),.int .u32 (↑ss),.int .u32 (↑ha),.int .u32 (↑hs)],none⟩),(65,⟨false,some (0,0),rels rs,none⟩),(74,⟨true,none,[Value.int .u32 (Zb (Zd undef (rels rs) (0+(↑k:Int).toNat*6))),.bool (Zw (Zd undef (rels rs) (0+(↑k:Int).toNat*6+1))),.int .u32 (Zb (Zd undef (rels rs) (0+(↑k:Int).toNat*6+1+1))),.int .u32 (Zb (Zd undef (rels rs) (0+(↑k:Int).toNat*6+1+1+1))),.int .u16 (Zb (Zd undef (rels rs) (0+(↑k:Int).toNat*6+1+1+1+1))),.int .u16 (Zb (Zd undef (rels rs) (0+(↑k:Int).toNat*6+1+1+1+1+1)))],none⟩),(68,⟨false,none,[Value.int .u32 0,.int .u32 (↑c),.int .u32 (↑da),.int .u32 (↑ds),.int .u32 (↑sa),.int .u32 (↑ss),.int .u32 (↑ha),.int .u32 (↑hs)],none⟩)],lo:=[(70,n),(69,N)],esc:=0,T:=[],k:=2,O:=(((bif Qc (0+(↑k:Int).toNat*6+6) (rels rs)&&Zs [Value.int .u32 0,.bool false,.int .u32 0,.int .u32 0,.int .u16 0,.int .u16 0] (rels rs) (0+(↑k:Int).toNat*6) then bif decide ((0:Int)≤(↑k:Int))&&decide ((↑k:Int)<(↑rs.length:Int)) then True∧decide ((↑k:Int)<(↑rs.length:Int))=true else False else False)∧Zw (Zd undef (rels rs) (0+(↑k:Int).toNat*6+1))=false)∧((0:Int)≤u32.wrap ((↑da:Int)+Zb (Zd undef (rels rs) (0+(↑k:Int).toNat*6+1+1)))∧u32.wrap ((↑da:Int)+Zb (Zd undef (rels rs) (0+(↑k:Int).toNat*6+1+1)))<(4294967296:Int)∧(0:Int)≤Zb (Zd undef (rels rs) (0+(↑k:Int).toNat*6+1+1+1))∧Zb (Zd undef (rels rs) (0+(↑k:Int).toNat*6+1+1+1))<(4294967296:Int)∧(0:Int)≤bits BinOp.or u16 (0:Int) (Zb (Zd undef (rels rs) (0+(↑k:Int).toNat*6+1+1+1+1))))∧(rr (Value.agg ⟨[.int .u32 (u32.wrap ((↑da:Int)+Zb (Zd undef (rels rs) (0+(↑k:Int).toNat*6+1+1)))),.int .u32 (Zb (Zd undef (rels rs) (0+(↑k:Int).toNat*6+1+1+1)))]⟩)∧rr (Value.int .u16 (bits BinOp.or u16 (0:Int) (Zb (Zd undef (rels rs) (0+(↑k:Int).toNat*6+1+1+1+1)))))∧True)∧True∧True)∧True∧(rr (Value.pointer (some ⟨72,0,none⟩))∧Value.int .u32 (u32.wrap ((↑da:Int)+Zb (Zd undef (rels rs) (0+(↑k:Int).toNat*6))))=Value.int .u32 (↑a)∧Value.agg ⟨[.int .u32 (↑(mA (u32.wrap ((↑da:Int)+Zb (Zd undef (rels rs) (0+(↑k:Int).toNat*6+1+1)))).toNat (Zb (Zd undef (rels rs) (0+(↑k:Int).toNat*6+1+1+1))).toNat (bits BinOp.or u16 (0:Int) (Zb (Zd undef (rels rs) (0+(↑k:Int).toNat*6+1+1+1+1)))).toNat):Int),.int .u8 (↑(mE (u32.wrap ((↑da:Int)+Zb (Zd undef (rels rs) (0+(↑k:Int).toNat*6+1+1)))).toNat (Zb (Zd undef (rels rs) (0+(↑k:Int).toNat*6+1+1+1))).toNat (bits BinOp.or u16 (0:Int) (Zb (Zd undef (rels rs) (0+(↑k:Int).toNat*6+1+1+1+1)))).toNat):Int),.int .u16 (↑(mB (u32.wrap ((↑da:Int)+Zb (Zd undef (rels rs) (0+(↑k:Int).toNat*6+1+1)))).toNat (Zb (Zd undef (rels rs) (0+(↑k:Int).toNat*6+1+1+1))).toNat (bits BinOp.or u16 (0:Int) (Zb (Zd undef (rels rs) (0+(↑k:Int).toNat*6+1+1+1+1)))).toNat):Int),.int .u16 (↑(mT (u32.wrap ((↑da:Int)+Zb (Zd undef (rels rs) (0+(↑k:Int).toNat*6+1+1)))).toNat (Zb (Zd undef (rels rs) (0+(↑k:Int).toNat*6+1+1+1))).toNat (bits BinOp.or u16 (0:Int) (Zb (Zd undef (rels rs) (0+(↑k:Int).toNat*6+1+1+1+1)))).toNat):Int),.int .u16 (↑(mP (u32.wrap ((↑da:Int)+Zb (Zd undef (rels rs) (0+(↑k:Int).toNat*6+1+1)))).toNat (Zb (Zd undef (rels rs) (0+(↑k:Int).toNat*6+1+1+1))).toNat (bits BinOp.or u16 (0:Int) (Zb (Zd undef (rels rs) (0+(↑k:Int).toNat*6+1+1+1+1)))).toNat):Int),.int .u16 (Zb (Zd undef (rels rs) (0+(↑k:Int).toNat*6+1+1+1+1+1))),.int .u32 0,.bool (mV (u32.wrap ((↑da:Int)+Zb (Zd undef (rels rs) (0+(↑k:Int).toNat*6+1+1)))).toNat (Zb (Zd undef (rels rs) (0+(↑k:Int).toNat*6+1+1+1))).toNat (bits BinOp.or u16 (0:Int) (Zb (Zd undef (rels rs) (0+(↑k:Int).toNat*6+1+1+1+1)))).toNat)]⟩=Value.agg ⟨[.int .u32 (↑ca),.int .u8 (↑ce),.int .u16 (↑cb),.int .u16 (↑ct),.int .u16 (↑cp),.int .u16 (↑cy),.int .u32 0,.bool true]⟩∧True)∧((tt∧tt∧tt∧tt∧tt∧True∧rr [Value.pointer (some ⟨71,0,none⟩),.slice (some ⟨69,0,none⟩) N 9223372036854775877])∧(tt∧tt∧tt∧tt∧tt∧True∧rr [Value.int .i64 (↑m),.slice (some ⟨70,0,none⟩) n 9223372036854775878])∧(tt∧(v64 (Zm f n)).all (okV (fun l=>l.blt 68) 3)=true∧tt∧tt∧tt∧True∧v64 (Zm f n)=List.map (rnV (lift 68 83 [69,70,71,72]) 3) (v64 (Zm f n)))∧(tt∧(u8s zs).all (okV (fun l=>l.blt 68) 3)=true∧tt∧tt∧tt∧True∧u8s zs=List.map (rnV (lift 68 83 [69,70,71,72]) 3) (u8s zs))∧True)∧(tt∧n≤n)∧(tt∧N≤N)∧True:St }:Fr }):=by kernel_rfl
theorem Zpq (p:Nat) (s:Nat) (t:Nat) (nc:Nat) (ns:Nat) (d:List UInt8) (rs:List Rl) (c:Nat) (da:Nat) (ds:Nat) (sa:Nat) (ss:Nat) (ha:Nat) (hs:Nat) (zs:List UInt8) (f:Nat→Bool) (N:Nat) (m:Nat) (n:Nat) (k:Nat) (a:Nat) (ca:Nat) (ce:Nat) (cb:Nat) (ct:Nat) (cp:Nat) (cy:Nat):evC Tryz.prog (evF Tryz.prog (QA 3 (ZT [(83,13,scC a ca ce cb ct cp cy 0 zs f N m n,[69,70,71,72])]) (ZH 3 WF)) Zf 100 20) (Zf 4) 92 100 (ZB Tryz.prog 4 1) (Sf.frT 92 (Zj5 p s t nc ns d rs c da ds sa ss ha hs zs f N m n k) [(0,true),(1,true)])=some (Exit.normal,{ e:=mkE 92 [(1,.pointer (some ⟨67,0,none⟩)),(2,.pointer (some ⟨72,0,none⟩)),(3,.slice none 0 0),(4,.int .i64 0),(5,.pointer (some ⟨68,0,none⟩)),(6,.pointer (some ⟨73,0,none⟩)),(10,.pointer (some ⟨74,0,none⟩)),(59,.slice (some ⟨65,0,none⟩) rs.length 9223372036854775873),(60,.int .i64 (↑rs.length)),(61,.int .i64 (i64.wrap ((↑k:Int)+(1:Int)))),(62,.bool (decide ((↑k:Int)<(↑rs.length:Int)))),(63,.pointer (some { block:=65,off:=0+(↑k:Int).toNat*6 })),(64,Value.agg ⟨[.int .u32 (Zb (Zd undef (rels rs) (0+(↑k:Int).toNat*6))),.bool (Zw (Zd undef (rels rs) (0+(↑k:Int).toNat*6+1))),.int .u32 (Zb (Zd undef (rels rs) (0+(↑k:Int).toNat*6+1+1))),.int .u32 (Zb (Zd undef (rels rs) (0+(↑k:Int).toNat*6+1+1+1))),.int .u16 (Zb (Zd undef (rels rs) (0+(↑k:Int).toNat*6+1+1+1+1))),.int .u16 (Zb (Zd undef (rels rs) (0+(↑k:Int).toNat*6+1+1+1+1+1)))]⟩),(65,.pointer (some ⟨72,0,none⟩)),(66,.pointer (some { block:=68,off:=2 })),(67,.pointer (some { block:=68,off:=2 })),(68,.int .u32 (↑da)),(69,.pointer (some ⟨74,0,none⟩)),(70,.int .u32 (Zb (Zd undef (rels rs) (0+(↑k:Int).toNat*6)))),(71,.int .u32 (u32.wrap ((↑da:Int)+Zb (Zd undef (rels rs) (0+(↑k:Int).toNat*6))))),(72,.agg ⟨[.int .i64 (↑p),.int .i64 (↑s),.int .i64 (↑t),.slice (some ⟨64,0,none⟩) nc 9223372036854775872,.string ⟨⟨d⟩⟩,.slice (some ⟨65,0,none⟩) rs.length 9223372036854775873,.slice (some ⟨66,0,none⟩) ns 9223372036854775874,.int .u32 0,.int .u32 (↑c),.int .u32 (↑da),.int .u32 (↑ds),.int .u32 (↑sa),.int .u32 (↑ss),.int .u32 (↑ha),.int .u32 (↑hs)]⟩),(73,.agg ⟨[.int .u32 (Zb (Zd undef (rels rs) (0+(↑k:Int).toNat*6))),.bool (Zw (Zd undef (rels rs) (0+(↑k:Int).toNat*6+1))),.int .u32 (Zb (Zd undef (rels rs) (0+(↑k:Int).toNat*6+1+1))),.int .u32 (Zb (Zd undef (rels rs) (0+(↑k:Int).toNat*6+1+1+1))),.int .u16 (Zb (Zd undef (rels rs) (0+(↑k:Int).toNat*6+1+1+1+1))),.int .u16 (Zb (Zd undef (rels rs) (0+(↑k:Int).toNat*6+1+1+1+1+1)))]⟩),(74,.agg ⟨[.int .u32 (↑(mA (u32.wrap ((0:Int)+Zb (Zd undef (rels rs) (0+(↑k:Int).toNat*6+1+1)))).toNat (Zb (Zd undef (rels rs) (0+(↑k:Int).toNat*6+1+1+1))).toNat (bits BinOp.or u16 (0:Int) (Zb (Zd undef (rels rs) (0+(↑k:Int).toNat*6+1+1+1+1)))).toNat):Int),.int .u8 (↑(mE (u32.wrap ((0:Int)+Zb (Zd undef (rels rs) (0+(↑k:Int).toNat*6+1+1)))).toNat (Zb (Zd undef (rels rs) (0+(↑k:Int).toNat*6+1+1+1))).toNat (bits BinOp.or u16 (0:Int) (Zb (Zd undef (rels rs) (0+(↑k:Int).toNat*6+1+1+1+1)))).toNat):Int),.int .u16 (↑(mB (u32.wrap ((0:Int)+Zb (Zd undef (rels rs) (0+(↑k:Int).toNat*6+1+1)))).toNat (Zb (Zd undef (rels rs) (0+(↑k:Int).toNat*6+1+1+1))).toNat (bits BinOp.or u16 (0:Int) (Zb (Zd undef (rels rs) (0+(↑k:Int).toNat*6+1+1+1+1)))).toNat):Int),.int .u16 (↑(mT (u32.wrap ((0:Int)+Zb (Zd undef (rels rs) (0+(↑k:Int).toNat*6+1+1)))).toNat (Zb (Zd undef (rels rs) (0+(↑k:Int).toNat*6+1+1+1))).toNat (bits BinOp.or u16 (0:Int) (Zb (Zd undef (rels rs) (0+(↑k:Int).toNat*6+1+1+1+1)))).toNat):Int),.int .u16 (↑(mP (u32.wrap ((0:Int)+Zb (Zd undef (rels rs) (0+(↑k:Int).toNat*6+1+1)))).toNat (Zb (Zd undef (rels rs) (0+(↑k:Int).toNat*6+1+1+1))).toNat (bits BinOp.or u16 (0:Int) (Zb (Zd undef (rels rs) (0+(↑k:Int).toNat*6+1+1+1+1)))).toNat):Int),.int .u16 (Zb (Zd undef (rels rs) (0+(↑k:Int).toNat*6+1+1+1+1+1))),.int .u32 0,.bool (mV (u32.wrap ((0:Int)+Zb (Zd undef (rels rs) (0+(↑k:Int).toNat*6+1+1)))).toNat (Zb (Zd undef (rels rs) (0+(↑k:Int).toNat*6+1+1+1))).toNat (bits BinOp.or u16 (0:Int) (Zb (Zd undef (rels rs) (0+(↑k:Int).toNat*6+1+1+1+1)))).toNat)]⟩),(75,.bool true),(76,.int .i64 (i64.wrap ((↑k:Int)+(1:Int))))],s:={ n:=83,h:=[(72,⟨true,none,[Value.pointer (some ⟨71,0,none⟩),.slice (some ⟨69,0,none⟩) N 9223372036854775877],none⟩),(71,⟨true,none,[Value.int .i64 (↑m),.slice (some ⟨70,0,none⟩) n 9223372036854775878],none⟩),(70,⟨true,some (70,1),v64 (Zm (XH f (a/16) true) n),none⟩),(69,⟨true,some (69,1),u8s (QK a (cbL ca ce cb ct cp cy 0) zs),none⟩),(73,⟨false,none,[Value.int .i64 (↑p),.int .i64 (↑s),.int .i64 (↑t),.slice (some ⟨64,0,none⟩) nc 9223372036854775872,.string ⟨⟨d⟩⟩,.slice (some ⟨65,0,none⟩) rs.length 9223372036854775873,.slice (some ⟨66,0,none⟩) ns 9223372036854775874,.int .u32 0,.int .u32 (↑c),.int .u32 (↑da),.int .u32 (↑ds),.int .u32 (↑sa),.int .u32 (↑ss),.int .u32 (↑ha),.int .u32 (↑hs)],none⟩),(65,⟨false,some (0,0),rels rs,none⟩),(74,⟨true,none,[Value.int .u32 (Zb (Zd undef (rels rs) (0+(↑k:Int).toNat*6))),.bool (Zw (Zd undef (rels rs) (0+(↑k:Int).toNat*6+1))),.int .u32 (Zb (Zd undef (rels rs) (0+(↑k:Int).toNat*6+1+1))),.int .u32 (Zb (Zd undef (rels rs) (0+(↑k:Int).toNat*6+1+1+1))),.int .u16 (Zb (Zd undef (rels rs) (0+(↑k:Int).toNat*6+1+1+1+1))),.int .u16 (Zb (Zd undef (rels rs) (0+(↑k:Int).toNat*6+1+1+1+1+1)))],none⟩),(68,⟨false,none,[Value.int .u32 0,.int .u32 (↑c),.int .u32 (↑da),.int .u32 (↑ds),.int .u32 (↑sa),.int .u32 (↑ss),.int .u32 (↑ha),.int .u32 (↑hs)],none⟩)],lo:=[(70,n),(69,N)],esc:=0,T:=[],k:=2,O:=(((bif Qc (0+(↑k:Int).toNat*6+6) (rels rs)&&Zs [Value.int .u32 0,.bool false,.int .u32 0,.int .u32 0,.int .u16 0,.int .u16 0] (rels rs) (0+(↑k:Int).toNat*6) then bif decide ((0:Int)≤(↑k:Int))&&decide ((↑k:Int)<(↑rs.length:Int)) then True∧decide ((↑k:Int)<(↑rs.length:Int))=true else False else False)∧Zw (Zd undef (rels rs) (0+(↑k:Int).toNat*6+1))=true)∧((0:Int)≤u32.wrap ((0:Int)+Zb (Zd undef (rels rs) (0+(↑k:Int).toNat*6+1+1)))∧u32.wrap ((0:Int)+Zb (Zd undef (rels rs) (0+(↑k:Int).toNat*6+1+1)))<(4294967296:Int)∧(0:Int)≤Zb (Zd undef (rels rs) (0+(↑k:Int).toNat*6+1+1+1))∧Zb (Zd undef (rels rs) (0+(↑k:Int).toNat*6+1+1+1))<(4294967296:Int)∧(0:Int)≤bits BinOp.or u16 (0:Int) (Zb (Zd undef (rels rs) (0+(↑k:Int).toNat*6+1+1+1+1))))∧(rr (Value.agg ⟨[.int .u32 (u32.wrap ((0:Int)+Zb (Zd undef (rels rs) (0+(↑k:Int).toNat*6+1+1)))),.int .u32 (Zb (Zd undef (rels rs) (0+(↑k:Int).toNat*6+1+1+1)))]⟩)∧rr (Value.int .u16 (bits BinOp.or u16 (0:Int) (Zb (Zd undef (rels rs) (0+(↑k:Int).toNat*6+1+1+1+1)))))∧True)∧True∧True)∧True∧(rr (Value.pointer (some ⟨72,0,none⟩))∧Value.int .u32 (u32.wrap ((↑da:Int)+Zb (Zd undef (rels rs) (0+(↑k:Int).toNat*6))))=Value.int .u32 (↑a)∧Value.agg ⟨[.int .u32 (↑(mA (u32.wrap ((0:Int)+Zb (Zd undef (rels rs) (0+(↑k:Int).toNat*6+1+1)))).toNat (Zb (Zd undef (rels rs) (0+(↑k:Int).toNat*6+1+1+1))).toNat (bits BinOp.or u16 (0:Int) (Zb (Zd undef (rels rs) (0+(↑k:Int).toNat*6+1+1+1+1)))).toNat):Int),.int .u8 (↑(mE (u32.wrap ((0:Int)+Zb (Zd undef (rels rs) (0+(↑k:Int).toNat*6+1+1)))).toNat (Zb (Zd undef (rels rs) (0+(↑k:Int).toNat*6+1+1+1))).toNat (bits BinOp.or u16 (0:Int) (Zb (Zd undef (rels rs) (0+(↑k:Int).toNat*6+1+1+1+1)))).toNat):Int),.int .u16 (↑(mB (u32.wrap ((0:Int)+Zb (Zd undef (rels rs) (0+(↑k:Int).toNat*6+1+1)))).toNat (Zb (Zd undef (rels rs) (0+(↑k:Int).toNat*6+1+1+1))).toNat (bits BinOp.or u16 (0:Int) (Zb (Zd undef (rels rs) (0+(↑k:Int).toNat*6+1+1+1+1)))).toNat):Int),.int .u16 (↑(mT (u32.wrap ((0:Int)+Zb (Zd undef (rels rs) (0+(↑k:Int).toNat*6+1+1)))).toNat (Zb (Zd undef (rels rs) (0+(↑k:Int).toNat*6+1+1+1))).toNat (bits BinOp.or u16 (0:Int) (Zb (Zd undef (rels rs) (0+(↑k:Int).toNat*6+1+1+1+1)))).toNat):Int),.int .u16 (↑(mP (u32.wrap ((0:Int)+Zb (Zd undef (rels rs) (0+(↑k:Int).toNat*6+1+1)))).toNat (Zb (Zd undef (rels rs) (0+(↑k:Int).toNat*6+1+1+1))).toNat (bits BinOp.or u16 (0:Int) (Zb (Zd undef (rels rs) (0+(↑k:Int).toNat*6+1+1+1+1)))).toNat):Int),.int .u16 (Zb (Zd undef (rels rs) (0+(↑k:Int).toNat*6+1+1+1+1+1))),.int .u32 0,.bool (mV (u32.wrap ((0:Int)+Zb (Zd undef (rels rs) (0+(↑k:Int).toNat*6+1+1)))).toNat (Zb (Zd undef (rels rs) (0+(↑k:Int).toNat*6+1+1+1))).toNat (bits BinOp.or u16 (0:Int) (Zb (Zd undef (rels rs) (0+(↑k:Int).toNat*6+1+1+1+1)))).toNat)]⟩=Value.agg ⟨[.int .u32 (↑ca),.int .u8 (↑ce),.int .u16 (↑cb),.int .u16 (↑ct),.int .u16 (↑cp),.int .u16 (↑cy),.int .u32 0,.bool true]⟩∧True)∧((tt∧tt∧tt∧tt∧tt∧True∧rr [Value.pointer (some ⟨71,0,none⟩),.slice (some ⟨69,0,none⟩) N 9223372036854775877])∧(tt∧tt∧tt∧tt∧tt∧True∧rr [Value.int .i64 (↑m),.slice (some ⟨70,0,none⟩) n 9223372036854775878])∧(tt∧(v64 (Zm f n)).all (okV (fun l=>l.blt 68) 3)=true∧tt∧tt∧tt∧True∧v64 (Zm f n)=List.map (rnV (lift 68 83 [69,70,71,72]) 3) (v64 (Zm f n)))∧(tt∧(u8s zs).all (okV (fun l=>l.blt 68) 3)=true∧tt∧tt∧tt∧True∧u8s zs=List.map (rnV (lift 68 83 [69,70,71,72]) 3) (u8s zs))∧True)∧(tt∧n≤n)∧(tt∧N≤N)∧True:St }:Fr }):=by kernel_rfl
theorem Zpr (p:Nat) (s:Nat) (t:Nat) (nc:Nat) (ns:Nat) (d:List UInt8) (rs:List Rl) (c:Nat) (da:Nat) (ds:Nat) (sa:Nat) (ss:Nat) (ha:Nat) (hs:Nat) (zs:List UInt8) (f:Nat→Bool) (N:Nat) (m:Nat) (n:Nat) (k:Nat):evC Tryz.prog (evF Tryz.prog ZD Zf 100 20) (Zf 4) 92 100 (ZB Tryz.prog 4 1) (Sf.frT 92 (Zj5 p s t nc ns d rs c da ds sa ss ha hs zs f N m n k) [(0,false)])=some (Exit.exit 2,{ e:=mkE 92 [(1,.pointer (some ⟨67,0,none⟩)),(2,.pointer (some ⟨72,0,none⟩)),(3,.slice none 0 0),(4,.int .i64 0),(5,.pointer (some ⟨68,0,none⟩)),(6,.pointer (some ⟨73,0,none⟩)),(59,.slice (some ⟨65,0,none⟩) rs.length 9223372036854775873),(60,.int .i64 (↑rs.length)),(61,.int .i64 (↑k)),(62,.bool (decide ((↑k:Int)<(↑rs.length:Int))))],s:={ n:=74,h:=[(72,⟨true,none,[Value.pointer (some ⟨71,0,none⟩),.slice (some ⟨69,0,none⟩) N 9223372036854775877],none⟩),(71,⟨true,none,[Value.int .i64 (↑m),.slice (some ⟨70,0,none⟩) n 9223372036854775878],none⟩),(70,⟨true,some (70,1),v64 (Zm f n),none⟩),(69,⟨true,some (69,1),u8s zs,none⟩),(68,⟨false,none,[Value.int .u32 0,.int .u32 (↑c),.int .u32 (↑da),.int .u32 (↑ds),.int .u32 (↑sa),.int .u32 (↑ss),.int .u32 (↑ha),.int .u32 (↑hs)],none⟩),(73,⟨false,none,[Value.int .i64 (↑p),.int .i64 (↑s),.int .i64 (↑t),.slice (some ⟨64,0,none⟩) nc 9223372036854775872,.string ⟨⟨d⟩⟩,.slice (some ⟨65,0,none⟩) rs.length 9223372036854775873,.slice (some ⟨66,0,none⟩) ns 9223372036854775874,.int .u32 0,.int .u32 (↑c),.int .u32 (↑da),.int .u32 (↑ds),.int .u32 (↑sa),.int .u32 (↑ss),.int .u32 (↑ha),.int .u32 (↑hs)],none⟩),(65,⟨false,some (0,0),rels rs,none⟩)],lo:=[(70,n),(69,N)],esc:=0,T:=[],k:=1,O:=True∧decide ((↑k:Int)<(↑rs.length:Int))=false:St }:Fr }):=by kernel_rfl
def X9 (da:Nat) (rs:List Rl) (zs:List UInt8):Nat→List UInt8
 | 0=>zs
 | k+1=>QK (da+(rl0 rs k).at_) (cbL (Yq da (rl0 rs k)).a (Yq da (rl0 rs k)).e (Yq da (rl0 rs k)).b (Yq da (rl0 rs k)).t (Yq da (rl0 rs k)).p (Yq da (rl0 rs k)).y 0) (X9 da rs zs k)
def rlT (da:Nat) (rs:List Rl):Nat→Nat→Bool
 | 0=>fun _=>false
 | k+1=>XH (rlT da rs k) ((da+(rl0 rs k).at_)/16) true
structure RlFit (da N:Nat) (r:Rl):Prop where
 ok:RlOk r
 al:(da+r.at_)%16=0
 fit:da+r.at_+16≤N
 v:(Yq da r).v=true
 snd:Xa (Yq da r).e (Yq da r).b (Yq da r).t (Yq da r).p (Yq da r).y 0=true
theorem Jt (da:Nat) (rs:List Rl) (zs:List UInt8) (N:Nat) (hN:zs.length=N) (h:∀ r∈rs,RlFit da N r):∀ k,k≤rs.length→(X9 da rs zs k).length=N
 | 0,_=>hN
 | k+1,hk=>by
  have ih:=Jt da rs zs N hN h k (by omega)
  have hr:RlFit da N (rl0 rs k):=by
   unfold rl0; rw[List.getD_eq_getElem?_getD,List.getElem?_eq_getElem (by omega)]; exact h _ (List.getElem_mem _)
  have:=hr.fit
  unfold X9
  rw[Kg _ _ _ (by rw[ZaZ,ih]; omega),ih]
def Zoq (zs:List UInt8) (f:Nat→Bool) (N m n:Nat):Sf:=⟨74,Zj3,VP zs f N m n,[(70,n),(69,N)]⟩
theorem Ko {q:Nat→Bool} (h:∀ l,l<74→q l=true) (zs:List UInt8) (f:Nat→Bool) (N m n:Nat) {l:Sy.Heap} (hl:OkH q l):OkH q (VP zs f N m n++l) :=
 ⟨⟨h 72 (by omega),rfl,fun v hv=>ZM 3 v ((Q3 (h 69 (by omega)) (h 70 (by omega)) (h 71 (by omega)) N m n).1 v hv)⟩,⟨h 71 (by omega),rfl,fun v hv=>ZM 3 v ((Q3 (h 69 (by omega)) (h 70 (by omega)) (h 71 (by omega)) N m n).2 v hv)⟩,⟨h 70 (by omega),h 70 (by omega),Zv (Z4 _)⟩,⟨h 69 (by omega),h 69 (by omega),Zv (Zp zs)⟩,hl⟩
theorem Vj {h1:Sy.Heap} {p:Nat→Bool} (hp:∀ l,l<74→p l=true) (zs:List UInt8) (f:Nat→Bool) (N m n:Nat) (cs ws:List Value) {l:Sy.Heap} (h72:Sy.look h1 72=some ⟨true,none,[.pointer (some ⟨71,0,none⟩),.slice (some ⟨69,0,none⟩) N (big+69)],none⟩) (h71:Sy.look h1 71=some ⟨true,none,[.int .i64 (m:Nat),.slice (some ⟨70,0,none⟩) n (big+70)],none⟩)
  (h70:Sy.look h1 70=some ⟨true,some (70,1),ws,none⟩) (h69:Sy.look h1 69=some ⟨true,some (69,1),cs,none⟩) (hw:ws=v64 (Zm f n)) (hc:cs=u8s zs) (hl:Ya 3 p id h1 l):Ya 3 p id h1 (VP zs f N m n++l):=by
 have hc1:=Q3 (hp 69 (by omega)) (hp 70 (by omega)) (hp 71 (by omega)) N m n
 refine⟨⟨hp 72 (by omega),List.all_eq_true.2 hc1.1,rfl,?_⟩,⟨hp 71 (by omega),List.all_eq_true.2 hc1.2,rfl,?_⟩,⟨hp 70 (by omega),Zh (Z4 _),hp 70 (by omega),?_⟩,⟨hp 69 (by omega),Zh (Zp zs),hp 69 (by omega),?_⟩,hl⟩
 ·simp only[rr, tt, id,h72]; exact⟨rfl,rfl,trivial,(Qr _ rfl _).symm⟩
 ·simp only[rr, tt, id,h71]; exact⟨rfl,rfl,trivial,(Qr _ rfl _).symm⟩
 ·simp only[rr, tt, id,h70]; exact⟨rfl,rfl,trivial,by rw[Qr _ rfl,hw]⟩
 ·simp only[rr, tt, id,h69]; exact⟨rfl,rfl,trivial,by rw[Qr _ rfl,hc]⟩
theorem Vk {q:Nat→Bool} {a2:Option Addr} {n2 c2:Nat} (h:okV q 3 (.slice a2 n2 c2)=true) (h4:q 64=true) (h6:q 66=true) (p s t:Int) (nc ns:Nat) (d:List UInt8) (c da ds sa ss ha hs:Int):∀ v∈plQ p s t nc ns d a2 n2 c2 c da ds sa ss ha hs,okV q 3 v=true:=fun v hv=>by
 simp only[rr, tt, plQ,List.mem_cons,List.not_mem_nil,or_false] at hv
 rcases hv with rfl|rfl|rfl|rfl|rfl|rfl|rfl|rfl|rfl|rfl|rfl|rfl|rfl|rfl|rfl
 all_goals first
  | exact h
  | simp[okV,QP,h4,h6,ZP,big]
theorem ZlR (p s t:Nat) (nc ns:Nat) (d:List UInt8) (rs:List Rl) (c da ds sa ss ha hs:Nat) (zs:List UInt8) (f:Nat→Bool) (N m n k:Nat):(Zj5 p s t nc ns d rs c da ds sa ss ha hs zs f N m n k).Wf :=
 ⟨by show 64≤74; omega,Sf.Ok.mk' 3 (Ko Zeh zs f N m n ⟨⟨rfl,rfl,Zv (XE c da ds sa ss ha hs)⟩,⟨rfl,rfl,fun v hv=>ZM 3 v (Vk rfl rfl rfl _ _ _ _ _ _ _ _ _ _ _ _ _ v hv)⟩,⟨rfl,rfl,Zv (ZC rs)⟩,trivial⟩) rfl (fun x hx=>by
  rw[show(Zj5 p s t nc ns d rs c da ds sa ss ha hs zs f N m n k).e=Zj3++[(59,.slice (some ⟨65,0,none⟩) rs.length (big+65)),(60,.int .i64 (rs.length:Nat)),(61,.int .i64 (k:Nat))] from rfl,List.mem_append] at hx
  rcases hx with hx|hx
  ·exact Zbd Zeh x hx
  ·simp only[rr, tt, List.mem_cons,List.not_mem_nil,or_false] at hx
   rcases hx with rfl|rfl|rfl<;>rfl)⟩
theorem Zde (zs:List UInt8) (f:Nat→Bool) (N m n:Nat):(Zoq zs f N m n).Ok (Z3 74 74 id (fun l=>Nat.blt l 74)) :=
 Sf.Ok.mk' 3 (by have:=Ko Zbc zs f N m n (l:=[]) trivial; rwa [List.append_nil] at this) rfl (fun x hx=>Zbd Zbc x hx)
theorem Zi0 (p s t:Nat) (nc ns:Nat) (d:List UInt8) (rs:List Rl) (c da ds sa ss ha hs:Nat) (zs:List UInt8) (N m n:Nat) (h:ArOk zs N m n) (hr:∀ r∈rs,RlFit da N r) (hl:rs.length≤256) (h3:da<500000) :
  ∀ k:{ k:Nat // k≤rs.length },Qj Tryz.prog 92 (ZB Tryz.prog 4 1) ((Zj5 p s t nc ns d rs c da ds sa ss ha hs (X9 da rs zs k.1) (rlT da rs k.1) N m n k.1).fr 92) (.exit 2) ((Zoq (X9 da rs zs rs.length) (rlT da rs rs.length) N m n).fr 92):=by
 refine Xn (L:=100) (ZU _ _ 4) (fun _ h=>h) (X:={ k:Nat // k≤rs.length }) (fun k=>Zj5 p s t nc ns d rs c da ds sa ss ha hs (X9 da rs zs k.1) (rlT da rs k.1) N m n k.1) (fun _=>Zoq (X9 da rs zs rs.length) (rlT da rs rs.length) N m n) (fun _ => .exit 2) (fun k=>rs.length-k.1) (fun k=>ZlR _ _ _ _ _ _ _ _ _ _ _ _ _ _ _ _ _ _ _ _) ?_
 rintro⟨k,hk⟩
 have hzl:(X9 da rs zs k).length=N:=Jt da rs zs N h.len hr k hk
 have v1:∀ (f:Nat→Bool) (σ:Nat→Nat),(v64 (Zm f n)).map (rnV σ 3)=v64 (Zm f n):=fun f σ=>Zi (Z4 _)
 have v2:∀ (f:Nat→Bool) (p:Nat→Bool),(v64 (Zm f n)).all (okV p 3)=true:=fun f p=>Zh (Z4 _)
 have u1:∀ (zs:List UInt8) (p:Nat→Bool),(u8s zs).all (okV p 3)=true:=fun zs p=>Zh (Zp _)
 have u2:∀ (zs:List UInt8) (σ:Nat→Nat),(u8s zs).map (rnV σ 3)=u8s zs:=fun zs σ=>Zi (Zp _)
 by_cases hlt:k<rs.length
 ·have hx:RlFit da N (rl0 rs k):=by
   unfold rl0
   rw[List.getD_eq_getElem?_getD,List.getElem?_eq_getElem hlt]
   exact hr _ (List.getElem_mem hlt)
  have b0:=hx.ok.at_; have b1:=hx.ok.off; have b2:=hx.ok.size; have b3:=hx.ok.perms; have b4:=hx.ok.typ; have b5:=hx.fit; have b6:=h.big
  have g0:=K0 hlt
  have g1:=Ue hlt
  have g2:=Uf hlt
  have g3:=Ug hlt
  have g4:=Uh hlt
  have g5:=Ui hlt
  have e5:i64.wrap ((k:Int)+(1:Int))=((k+1:Nat):Int):=ZQ k (by omega)
  have e6:=Zj4 (rl0 rs k).perms b3
  have e7:u32.wrap ((da:Int)+((rl0 rs k).at_:Int))=((da+(rl0 rs k).at_:Nat):Int):=by rw[ZaI,YR _ (by omega)]
  have f1:=XD hlt 0 0 0 0 0 false
  have f2:Qc (k*6+6) (rels rs)=true:=by rw[YZ]; exact decide_eq_true (by omega)
  have hcp:CpB (Yq da (rl0 rs k)).a (Yq da (rl0 rs k)).e (Yq da (rl0 rs k)).b (Yq da (rl0 rs k)).t (Yq da (rl0 rs k)).p (Yq da (rl0 rs k)).y 0:=by
   have q1:=ZgJ (bif (rl0 rs k).code then(rl0 rs k).off else(da+(rl0 rs k).off)%4294967296) (rl0 rs k).size (rl0 rs k).perms
   have q2:=ZgI (bif (rl0 rs k).code then(rl0 rs k).off else(da+(rl0 rs k).off)%4294967296) (rl0 rs k).size (rl0 rs k).perms
   refine⟨?_,ZgF _ _ _,ZgG _ _ _,ZgH _ _ _,?_,b4,by omega⟩
   ·show mA _ _ _<_
    cases hc:(rl0 rs k).code<;>rw[hc] at q1<;>simp only[rr, tt, cond_true,cond_false] at q1 ⊢ <;> omega
   ·show mP _ _ _<_
    omega
  have hcon:=ZmW (da+(rl0 rs k).at_) _ _ _ _ _ _ 0 (X9 da rs zs k) (rlT da rs k) N m n ⟨hzl,h.tags,h.words,h.few,h.big⟩ hcp hx.snd hx.al hx.fit
  have hbase:=Zu (L:=100) Zn (Qe (ZW (L:=[(83,13,scC (da+(rl0 rs k).at_) _ _ _ _ _ _ 0 (X9 da rs zs k) (rlT da rs k) N m n,[69,70,71,72])]) fun x hx=>by
   obtain rfl:=List.mem_singleton.1 hx; exact hcon) (Z1 XT)) (Zj _) 20
  have hv:=hx.v
  cases hcode:(rl0 rs k).code
  ·have hca:Yq da (rl0 rs k)=Jc ((da+(rl0 rs k).off)%4294967296) (rl0 rs k).size (rl0 rs k).perms (rl0 rs k).typ:=by unfold Yq; rw[hcode]; rfl
   have e9:u32.wrap ((da:Int)+((rl0 rs k).off:Int))=(((da+(rl0 rs k).off)%4294967296:Nat):Int):=by rw[IntKind.wrap_u32]; omega
   have hr:=Zpp p s t nc ns d rs c da ds sa ss ha hs (X9 da rs zs k) (rlT da rs k) N m n k (da+(rl0 rs k).at_) (Yq da (rl0 rs k)).a (Yq da (rl0 rs k)).e (Yq da (rl0 rs k)).b (Yq da (rl0 rs k)).t (Yq da (rl0 rs k)).p (Yq da (rl0 rs k)).y
   simp only[rr, tt, Nat.zero_add,Nat.add_assoc,Nat.reduceAdd,Int.toNat_natCast,g0,g1,g2,g3,g4,g5,e5,e6,e7,e9,v1,u2] at hr
   refine⟨_,_,.normal,_,3,fun l=>Nat.blt l 74,id,hbase,hr,?_,.inl ⟨rfl,⟨k+1,by omega⟩,by show rs.length-(k+1)<rs.length-k; omega,rfl,rfl,?_⟩⟩
   ·have hv':mV ((da+(rl0 rs k).off)%4294967296) (rl0 rs k).size (rl0 rs k).perms=true:=by rw[hca] at hv; exact hv
    simp only[rr, tt, f1,f2,v1,v2,u1,u2,hca,Jc,hcode,hv',hlt,Bool.and_self,cond_true,and_true,true_and,and_self,Nat.le_refl]
    refine⟨?_,by omega,by omega,by omega,by omega,by omega⟩
    simp[hlt]
   ·refine⟨fun _ _=>rfl,Vj Zeh _ _ N m n _ _ rfl rfl rfl rfl rfl rfl ⟨⟨rfl,Zh (XE c da ds sa ss ha hs),rfl,rfl,rfl,trivial,(Zi (XE c da ds sa ss ha hs)).symm⟩,⟨rfl,List.all_eq_true.2 (Vk rfl rfl rfl _ _ _ _ _ _ _ _ _ _ _ _ _),rfl,rfl,rfl,trivial,(Qr _ rfl _).symm⟩,⟨rfl,Zh (ZC rs),rfl,rfl,rfl,trivial,(Zi (ZC rs)).symm⟩,trivial⟩,rfl,⟨⟨rfl,Nat.le_refl _⟩,⟨rfl,Nat.le_refl _⟩,trivial⟩,?_,Nat.le_refl _,fun l hl=>ZN hl,Zde _ _ N m n,fun x _ _ => .inl rfl⟩
    exact⟨⟨by kernel_rfl,by kernel_rfl⟩,⟨by kernel_rfl,by kernel_rfl⟩,⟨by kernel_rfl,by kernel_rfl⟩,⟨by kernel_rfl,by kernel_rfl⟩,⟨by kernel_rfl,by kernel_rfl⟩,⟨by kernel_rfl,by kernel_rfl⟩,⟨by kernel_rfl,by kernel_rfl⟩,⟨by kernel_rfl,by kernel_rfl⟩,⟨by kernel_rfl,by kernel_rfl⟩,trivial⟩
  ·have hca:Yq da (rl0 rs k)=Jc (rl0 rs k).off (rl0 rs k).size (rl0 rs k).perms (rl0 rs k).typ:=by unfold Yq; rw[hcode]; rfl
   have e9:u32.wrap ((0:Int)+((rl0 rs k).off:Int))=(((rl0 rs k).off:Nat):Int):=by rw[Int.zero_add,YR _ b1]
   have hr:=Zpq p s t nc ns d rs c da ds sa ss ha hs (X9 da rs zs k) (rlT da rs k) N m n k (da+(rl0 rs k).at_) (Yq da (rl0 rs k)).a (Yq da (rl0 rs k)).e (Yq da (rl0 rs k)).b (Yq da (rl0 rs k)).t (Yq da (rl0 rs k)).p (Yq da (rl0 rs k)).y
   simp only[rr, tt, Nat.zero_add,Nat.add_assoc,Nat.reduceAdd,Int.toNat_natCast,g0,g1,g2,g3,g4,g5,e5,e6,e7,e9,v1,u2] at hr
   refine⟨_,_,.normal,_,3,fun l=>Nat.blt l 74,id,hbase,hr,?_,.inl ⟨rfl,⟨k+1,by omega⟩,by show rs.length-(k+1)<rs.length-k; omega,rfl,rfl,?_⟩⟩
   ·have hv':mV (rl0 rs k).off (rl0 rs k).size (rl0 rs k).perms=true:=by rw[hca] at hv; exact hv
    simp only[rr, tt, f1,f2,v1,v2,u1,u2,hca,Jc,hcode,hv',hlt,Bool.and_self,cond_true,and_true,true_and,and_self,Nat.le_refl]
    refine⟨?_,by omega,by omega,by omega,by omega,by omega⟩
    simp[hlt]
   ·refine⟨fun _ _=>rfl,Vj Zeh _ _ N m n _ _ rfl rfl rfl rfl rfl rfl ⟨⟨rfl,Zh (XE c da ds sa ss ha hs),rfl,rfl,rfl,trivial,(Zi (XE c da ds sa ss ha hs)).symm⟩,⟨rfl,List.all_eq_true.2 (Vk rfl rfl rfl _ _ _ _ _ _ _ _ _ _ _ _ _),rfl,rfl,rfl,trivial,(Qr _ rfl _).symm⟩,⟨rfl,Zh (ZC rs),rfl,rfl,rfl,trivial,(Zi (ZC rs)).symm⟩,trivial⟩,rfl,⟨⟨rfl,Nat.le_refl _⟩,⟨rfl,Nat.le_refl _⟩,trivial⟩,?_,Nat.le_refl _,fun l hl=>ZN hl,Zde _ _ N m n,fun x _ _ => .inl rfl⟩
    exact⟨⟨by kernel_rfl,by kernel_rfl⟩,⟨by kernel_rfl,by kernel_rfl⟩,⟨by kernel_rfl,by kernel_rfl⟩,⟨by kernel_rfl,by kernel_rfl⟩,⟨by kernel_rfl,by kernel_rfl⟩,⟨by kernel_rfl,by kernel_rfl⟩,⟨by kernel_rfl,by kernel_rfl⟩,⟨by kernel_rfl,by kernel_rfl⟩,⟨by kernel_rfl,by kernel_rfl⟩,trivial⟩
 ·have hkk:k=rs.length:=by omega
  subst hkk
  have hr:=Zpr p s t nc ns d rs c da ds sa ss ha hs (X9 da rs zs rs.length) (rlT da rs rs.length) N m n rs.length
  refine⟨_,_,.exit 2,_,3,fun l=>Nat.blt l 74,id,Zu (L:=100) Zn (Zx _) (Zj _) 20,hr,?_,.inr ⟨by simp,rfl,?_⟩⟩
  ·exact⟨trivial,decide_eq_false (by omega)⟩
  ·have hs:=Vj (l:=[]) Zeh (X9 da rs zs rs.length) (rlT da rs rs.length) N m n _ _ (by rfl) (by rfl) (by rfl) (by rfl) rfl rfl trivial (h1:=VP (X9 da rs zs rs.length) (rlT da rs rs.length) N m n++[(68,⟨false,none,YQ c da ds sa ss ha hs,none⟩),(73,⟨false,none,plQ (p:Nat) (s:Nat) (t:Nat) nc ns d (some ⟨65,0,none⟩) rs.length (big+65) (c:Nat) (da:Nat) (ds:Nat) (sa:Nat) (ss:Nat) (ha:Nat) (hs:Nat),none⟩),(65,⟨false,some (0,0),rels rs,none⟩)])
   rw[List.append_nil] at hs
   exact⟨fun _ _=>rfl,hs,rfl,⟨⟨rfl,Nat.le_refl _⟩,⟨rfl,Nat.le_refl _⟩,trivial⟩,⟨⟨by kernel_rfl,by kernel_rfl⟩,⟨by kernel_rfl,by kernel_rfl⟩,⟨by kernel_rfl,by kernel_rfl⟩,⟨by kernel_rfl,by kernel_rfl⟩,⟨by kernel_rfl,by kernel_rfl⟩,⟨by kernel_rfl,by kernel_rfl⟩,trivial⟩,Nat.le_refl _,fun l hl=>ZN hl,Zde _ _ N m n,fun x _ _ => .inl rfl⟩
def Zce (p s t:Nat) (nc ns:Nat) (d:List UInt8) (rs:List Rl) (c da ds sa ss ha hs:Nat) (zs:List UInt8) (N m n:Nat) (h:ArOk zs N m n) (hr:∀ r∈rs,RlFit da N r) (hl:rs.length≤256) (h3:da<500000):Ent Tryz.prog :=
 Vl Tryz.prog 4 1 92 (Zj5 p s t nc ns d rs c da ds sa ss ha hs zs (fun _=>false) N m n 0) (.exit 2) (Zoq (X9 da rs zs rs.length) (rlT da rs rs.length) N m n) (by kernel_rfl) (by kernel_rfl) (Zi0 p s t nc ns d rs c da ds sa ss ha hs zs N m n h hr hl h3 ⟨0,Nat.zero_le _⟩)
theorem Q6 (n:Nat):v64 (Zm (fun _=>false) n)=z64 n:=by
 unfold v64 z64 Zm
 rw[List.map_map]
 have h0:∀ k:Nat,bn (fun _=>false) k=0:=fun k=>by induction k with
  | zero=>rfl
  | succ k ih=>simp[bn,ih]
 simp only[rr, tt, Function.comp_def,h0,List.map_const',List.length_range]
 rfl
def ZnH (p s t:Int) (nc:Nat) (d:List UInt8) (so:List Nat) (c da ds sa ss ha hs:Nat):Con:={ ZnF p s t nc d [] so (.tuple ⟨[.agg ⟨YQ c da ds sa ss ha hs⟩,.int .i64 0]⟩) with h':=[] }
def frL (c da ds sa s t:Nat) (so:List Nat):Nat→List Value
 | 0=>[]
 | j+1=>frL c da ds sa s t so j++frC c da ds sa s t so j
theorem XY (c da ds sa s t:Nat) (so:List Nat):∀ j,(frL c da ds sa s t so j).all ZP=true
 | 0=>rfl
 | j+1=>by unfold frL; rw[List.all_append,XY c da ds sa s t so j,Za2]; rfl
structure LdOk (p s t:Nat) (cs:List Nat) (d:List UInt8) (so:List Nat) (c da ds sa ss ha hs:Nat):Prop where
 p1:16≤p
 p2:p≤1024
 s2:s≤4096
 t2:t≤2048
 n1:cs.length≤4096
 hso:∀ x∈so,x<4096
 hcs:∀ x∈cs,x<4294967296
 hc:4*cs.length≤c
 hda:da=c
 hds:d.length≤ds
 hsa:sa=c+ds
 fit:sa<p*256
 lay:ConOk Tryz.prog 9 3 (ZnH (p:Nat) (s:Nat) (t:Nat) cs.length d so c da ds sa ss ha hs)
def Yg (p s t:Nat) (d:List UInt8) (a2:Option Addr) (nc n2 ns c2:Nat):Value:=Yj (p:Nat) (s:Nat) (t:Nat) d (some ⟨64,0,none⟩) a2 (some ⟨66,0,none⟩) nc n2 ns (big+64) c2 (big+66)
def Jd (v:Value) (hs:Sy.Heap) (c da ds sa ss ha hs':Nat):Con:=⟨[v],67,hs,[],.tuple ⟨[.agg ⟨[.int .u32 0,.int .u32 (c:Nat),.int .u32 (da:Nat),.int .u32 (ds:Nat),.int .u32 (sa:Nat),.int .u32 (ss:Nat),.int .u32 (ha:Nat),.int .u32 (hs':Nat)]⟩,.int .i64 0]⟩,67,[],[]⟩
def btH (rs:List Rl) (so:List Nat):Sy.Heap:=[(65,⟨false,some (0,0),rels rs,none⟩),(66,⟨false,some (0,0),Zk so,none⟩)]
def WM (so:List Nat):Sy.Heap:=[(66,⟨false,some (0,0),Zk so,none⟩)]
def W5 (v:Value) (hs:Sy.Heap) (e:Int):Con:={ Zdd v e with h:=hs }
def Kp (L:Sy.Steps):ZmJ:=fun f _ s=>(ZbQ s.n f L).map fun x=>(x.1,x.2,0,True)
theorem K4 {P:Program} {d:Nat} {L:Sy.Steps} (h:∀ x∈L,ConOk P x.2.1 d x.2.2.1∧InId d x.2.2.1):Zf3 P d (Kp L):=by
 intro f args s c ρ m q hs _
 unfold Kp at hs
 obtain⟨⟨c',ρ'⟩,h1,h2⟩:=oM hs
 cases h2
 exact h _ (KM h1)
def lqH (cs:List Nat) (rs:List Rl) (so:List Nat):Sy.Heap:=(64,⟨false,some (0,0),Zk cs,none⟩)::btH rs so
def Zcf (cs:List Nat) (so:List Nat):Sy.Heap:=(64,⟨false,some (0,0),Zk cs,none⟩)::WM so
section
variable {P:Program} {call:Qb} {f:FuncId} {d:Nat}
end
def X5 (a2:Option Addr) (c2:Nat):Prop:=∀ (q:Nat→Bool) (d:Nat),(∀ l,l<67→q l=true)→okV q d (.slice a2 0 c2)=true
def Wo (a2:Option Addr) (c2:Nat) (Ze Zc types:Int) (nc nr ns:Nat) (data:List UInt8):Value :=
 .agg ⟨[.int .i64 Ze,.int .i64 Zc,.int .i64 types,.slice (some ⟨64,0,none⟩) nc (big+64),.string ⟨⟨data⟩⟩,.slice a2 0 c2,.slice (some ⟨66,0,none⟩) ns (big+66)]⟩
def Ul (a2:Option Addr) (c2:Nat) (rs:List Rl) (Za:List Nat) (T:List (Nat×Bool)):St:=⟨67,[(66,⟨false,some (0,0),Zk Za,none⟩)],[],0,T,0,True⟩
def Zi1 (a2:Option Addr) (c2:Nat) (Ze Zc types:Int) (nc nr ns:Nat) (data:List UInt8):List Value :=
 [.int .i64 Ze,.int .i64 Zc,.int .i64 types,.slice (some ⟨64,0,none⟩) nc (big+64),.string ⟨⟨data⟩⟩,.slice a2 0 c2,.slice (some ⟨66,0,none⟩) ns (big+66)]
theorem Kq {a2:Option Addr} {c2:Nat} (em:X5 a2 c2) {q:Nat→Bool} (h:∀ l,l<67→q l=true) (d:Nat) (Ze Zc types:Int) (nc nr ns:Nat) (data:List UInt8):(Zi1 a2 c2 Ze Zc types nc nr ns data).all (okV q d)=true:=by
 have h4:=h 64 (by omega)
 have h6:=h 66 (by omega)
 have hm:=em q d h
 simp only[rr, tt, Zi1,List.all_cons,List.all_nil,hm,Bool.and_true,Bool.true_and]
 cases d<;>simp[okV,QP,h4,h6,ZP,big]
theorem Zei {a2:Option Addr} {c2:Nat} (em:X5 a2 c2) {q:Nat→Bool} (h:∀ l,l<67→q l=true) (Ze Zc types:Int) (nc nr ns:Nat) (data:List UInt8):[Wo a2 c2 Ze Zc types nc ns ns data].all (okV q 3)=true:=by
 have:=Kq em h 2 Ze Zc types nc nr ns data
 show(okV q 3 (Wo a2 c2 Ze Zc types nc ns ns data)&&true)=true
 rw[Bool.and_true]
 exact this
theorem Xh {a2:Option Addr} {c2:Nat} (em:X5 a2 c2) (n:Nat):Value.slice (a2.map (rnA (lift 67 n [64,65,66]))) 0 (rnC (lift 67 n [64,65,66]) c2) = .slice a2 0 c2 :=
 WI (p:=fun l=>Nat.blt l 67) (σ:=lift 67 n [64,65,66]) (fun l hl=>ZaD (n:=67) (N:=n) (ρ:=[64,65,66]) rfl rfl (by simpa using hl)) 0 (.slice a2 0 c2) (em _ 0 fun l hl=>Zt hl)
theorem lt67:∀ l,l<67→(fun l=>Nat.blt l 67) l=true:=fun l hl=>Zt hl
theorem lt71:∀ l,l<67→(fun l=>Nat.blt l 71) l=true:=fun l hl=>Zt (by omega)
def Zej (a2:Option Addr) (c2:Nat) (Ze Zc types:Int) (nc nr:Nat) (data:List UInt8) (Za:List Nat) (k:Nat):Sf :=
 ⟨71,[(0,.slice (some ⟨66,0,none⟩) Za.length (big+66)),(1,.func (.func 39) ⟨[]⟩ ⟨[.pointer (some ⟨67,0,none⟩)]⟩),(7,.int .i64 (Za.length:Nat)),(8,.int .i64 (k:Nat))],
  [(66,⟨false,some (0,0),Zk Za,none⟩),(67,⟨false,none,Zi1 a2 c2 Ze Zc types nc nr Za.length data,none⟩)],[]⟩
def Zhg (a2:Option Addr) (c2:Nat) (Ze Zc types:Int) (nc nr ns:Nat) (data:List UInt8):Con:=⟨[Wo a2 c2 Ze Zc types nc nr ns data],67,[],[],Zcv Ze Zc nc ns data.length,67,[],[]⟩
def Zps (a2:Option Addr) (c2:Nat) (rs:List Rl) (Za:List Nat):Sy.Heap:=[(66,⟨false,some (0,0),Zk Za,none⟩)]
def ZnI (a2:Option Addr) (c2:Nat) (Ze Zc types:Int) (nc:Nat) (data:List UInt8) (rs:List Rl) (Za:List Nat) (v:Value):Con:=⟨[Wo a2 c2 Ze Zc types nc rs.length Za.length data],67,Zps a2 c2 rs Za,[],v,67,Zps a2 c2 rs Za,[]⟩
theorem Zpt (a2:Option Addr) (c2:Nat) (Ze:Int) (Zc:Int) (types:Int) (nc:Nat) (nr:Nat) (data:List UInt8) (Za:List Nat) (k:Nat):evC Tryz.prog (evF Tryz.prog ZD Zf 100 3) (Zf 72) 19 100 (ZB Tryz.prog 72 0) (Sf.frT 19 (Zej a2 c2 Ze Zc types nc nr data Za k) [(0,true),(1,true)])=some (Exit.ret,{ e:=[[Value.slice (some ⟨66,0,none⟩) Za.length 9223372036854775874,.func (Fn.func 39) { toList:=[] } { toList:=[Value.pointer (some ⟨67,0,none⟩)] },unk,unk,.int .i64 (↑k),.int .i64 (↑k),unk,.int .i64 (↑Za.length),.int .i64 (↑k),.bool (decide ((↑k:Int)<(↑Za.length:Int))),.int .i64 (↑k),.func (Fn.func 39) { toList:=[] } { toList:=[Value.pointer (some ⟨67,0,none⟩)] },.slice (some ⟨66,0,none⟩) Za.length 9223372036854775874,.int .i64 (↑k),.pointer (some { block:=66,off:=0+(↑k:Int).toNat*1 }),.int .u32 (Zb (Zd undef (Zk Za) (0+(↑k:Int).toNat*1)))],[Value.bool (decide (i64.wrap (Zb (Zd undef (Zk Za) (0+(↑k:Int).toNat*1)))≥(↑nc:Int))),.int .i64 (↑k),unk,unk,unk,unk,unk,unk,unk,unk,unk,unk,unk,unk,unk,unk]],s:={ n:=71,h:=[(66,⟨false,some (0,0),Zk Za,none⟩),(67,⟨false,none,[Value.int .i64 Ze,.int .i64 Zc,.int .i64 types,.slice (some ⟨64,0,none⟩) nc 9223372036854775872,.string ⟨⟨data⟩⟩,.slice a2 0 c2,.slice (some ⟨66,0,none⟩) Za.length 9223372036854775874],none⟩)],lo:=[],esc:=0,T:=[],k:=2,O:=(bif Qc (0+(↑k:Int).toNat*1+1) (Zk Za)&&Zs [Value.int .u32 0] (Zk Za) (0+(↑k:Int).toNat*1) then bif decide ((0:Int)≤(↑k:Int))&&decide ((↑k:Int)<(↑Za.length:Int)) then True∧decide ((↑k:Int)<(↑Za.length:Int))=true else False else False)∧decide (i64.wrap (Zb (Zd undef (Zk Za) (0+(↑k:Int).toNat*1)))≥(↑nc:Int))=true:St }:Fr }):=by kernel_rfl
theorem Zpu (a2:Option Addr) (c2:Nat) (Ze:Int) (Zc:Int) (types:Int) (nc:Nat) (nr:Nat) (data:List UInt8) (Za:List Nat) (k:Nat):evC Tryz.prog (evF Tryz.prog ZD Zf 100 3) (Zf 72) 19 100 (ZB Tryz.prog 72 0) (Sf.frT 19 (Zej a2 c2 Ze Zc types nc nr data Za k) [(0,true),(1,false)])=some (Exit.normal,{ e:=mkE 19 [(0,Value.slice (some ⟨66,0,none⟩) Za.length 9223372036854775874),(1,.func (Fn.func 39) { toList:=[] } { toList:=[Value.pointer (some ⟨67,0,none⟩)] }),(5,.int .i64 (↑k)),(7,.int .i64 (↑Za.length)),(8,.int .i64 (i64.wrap ((↑k:Int)+(1:Int)))),(9,.bool (decide ((↑k:Int)<(↑Za.length:Int)))),(10,.int .i64 (↑k)),(11,.func (Fn.func 39) { toList:=[] } { toList:=[Value.pointer (some ⟨67,0,none⟩)] }),(12,.slice (some ⟨66,0,none⟩) Za.length 9223372036854775874),(13,.int .i64 (↑k)),(14,.pointer (some { block:=66,off:=0+(↑k:Int).toNat*1 })),(15,.int .u32 (Zb (Zd undef (Zk Za) (0+(↑k:Int).toNat*1)))),(16,Value.bool (decide (i64.wrap (Zb (Zd undef (Zk Za) (0+(↑k:Int).toNat*1)))≥(↑nc:Int)))),(18,.int .i64 (i64.wrap ((↑k:Int)+(1:Int))))],s:={ n:=71,h:=[(66,⟨false,some (0,0),Zk Za,none⟩),(67,⟨false,none,[Value.int .i64 Ze,.int .i64 Zc,.int .i64 types,.slice (some ⟨64,0,none⟩) nc 9223372036854775872,.string ⟨⟨data⟩⟩,.slice a2 0 c2,.slice (some ⟨66,0,none⟩) Za.length 9223372036854775874],none⟩)],lo:=[],esc:=0,T:=[],k:=2,O:=(bif Qc (0+(↑k:Int).toNat*1+1) (Zk Za)&&Zs [Value.int .u32 0] (Zk Za) (0+(↑k:Int).toNat*1) then bif decide ((0:Int)≤(↑k:Int))&&decide ((↑k:Int)<(↑Za.length:Int)) then True∧decide ((↑k:Int)<(↑Za.length:Int))=true else False else False)∧decide (i64.wrap (Zb (Zd undef (Zk Za) (0+(↑k:Int).toNat*1)))≥(↑nc:Int))=false:St }:Fr }):=by kernel_rfl
theorem Zpv (a2:Option Addr) (c2:Nat) (Ze:Int) (Zc:Int) (types:Int) (nc:Nat) (nr:Nat) (data:List UInt8) (Za:List Nat) (k:Nat):evC Tryz.prog (evF Tryz.prog ZD Zf 100 3) (Zf 72) 19 100 (ZB Tryz.prog 72 0) (Sf.frT 19 (Zej a2 c2 Ze Zc types nc nr data Za k) [(0,false)])=some (Exit.exit 0,{ e:=mkE 19 [(0,Value.slice (some ⟨66,0,none⟩) Za.length 9223372036854775874),(1,.func (Fn.func 39) { toList:=[] } { toList:=[Value.pointer (some ⟨67,0,none⟩)] }),(7,.int .i64 (↑Za.length)),(8,.int .i64 (↑k)),(9,.bool (decide ((↑k:Int)<(↑Za.length:Int))))],s:={ n:=71,h:=[(66,⟨false,some (0,0),Zk Za,none⟩),(67,⟨false,none,[Value.int .i64 Ze,.int .i64 Zc,.int .i64 types,.slice (some ⟨64,0,none⟩) nc 9223372036854775872,.string ⟨⟨data⟩⟩,.slice a2 0 c2,.slice (some ⟨66,0,none⟩) Za.length 9223372036854775874],none⟩)],lo:=[],esc:=0,T:=[],k:=1,O:=True∧decide ((↑k:Int)<(↑Za.length:Int))=false:St }:Fr }):=by kernel_rfl
theorem Zdf (a2:Option Addr) (c2:Nat) (Ze Zc types:Int) (nc nr ns:Nat) (data:List UInt8):evF Tryz.prog (ZH 3 Zc3) Zf 100 10 40 [Wo a2 c2 Ze Zc types nc nr ns data] ⟨67,[],[],0,[(0,true)],0,True⟩=some (Value.tuple { toList:=[Value.agg ⟨[.int .u32 0,.int .u32 0,.int .u32 0,.int .u32 0,.int .u32 0,.int .u32 0,.int .u32 0,.int .u32 0]⟩,.bool false] },{ n:=77,h:=[],lo:=[],esc:=0,T:=[],k:=1,O:=((True∧((0:Int)≤i64.wrap ((4:Int)*(↑nc:Int))∧i64.wrap ((4:Int)*(↑nc:Int))≤(100000:Int))∧(rr (Value.int .i64 (i64.wrap ((4:Int)*(↑nc:Int))))∧True)∧True∧True)∧((0:Int)≤(↑(Zr data):Int)∧(↑(Zr data):Int)≤(100000:Int))∧(rr (Value.int .i64 (↑(Zr data)))∧True)∧True∧True)∧decide (u32.wrap (u32.wrap (bits BinOp.andNot u32 (u32.wrap (u32.wrap (u32.wrap (bits BinOp.andNot u32 (u32.wrap (u32.wrap (u32.wrap ((0:Int)+(↑(ZG (i64.wrap ((4:Int)*(↑nc:Int))).toNat):Int))+(256:Int))-(1:Int))) (255:Int)+(↑(ZG (↑(Zr data):Int).toNat):Int))+(256:Int))-(1:Int))) (255:Int)+u32.wrap (i64.wrap (Zc*(↑ns:Int))))+(256:Int))>u32.wrap (u32.wrap Ze*(256:Int)))=true:St }):=by kernel_rfl
theorem Zfe (a2:Option Addr) (c2:Nat) (Ze Zc types:Int) (nc nr ns:Nat) (data:List UInt8):evF Tryz.prog (ZH 3 Zc3) Zf 100 10 40 [Wo a2 c2 Ze Zc types nc nr ns data] ⟨67,[],[],0,[(0,false)],0,True⟩=some (Value.tuple { toList:=[Value.agg ⟨[.int .u32 0,.int .u32 (↑(ZG (i64.wrap ((4:Int)*(↑nc:Int))).toNat):Int),.int .u32 (bits BinOp.andNot u32 (u32.wrap (u32.wrap (u32.wrap ((0:Int)+(↑(ZG (i64.wrap ((4:Int)*(↑nc:Int))).toNat):Int))+(256:Int))-(1:Int))) (255:Int)),.int .u32 (↑(ZG (↑(Zr data):Int).toNat):Int),.int .u32 (bits BinOp.andNot u32 (u32.wrap (u32.wrap (u32.wrap (bits BinOp.andNot u32 (u32.wrap (u32.wrap (u32.wrap ((0:Int)+(↑(ZG (i64.wrap ((4:Int)*(↑nc:Int))).toNat):Int))+(256:Int))-(1:Int))) (255:Int)+(↑(ZG (↑(Zr data):Int).toNat):Int))+(256:Int))-(1:Int))) (255:Int)),.int .u32 (u32.wrap (i64.wrap (Zc*(↑ns:Int)))),.int .u32 (bits BinOp.andNot u32 (u32.wrap (u32.wrap (u32.wrap (bits BinOp.andNot u32 (u32.wrap (u32.wrap (u32.wrap (bits BinOp.andNot u32 (u32.wrap (u32.wrap (u32.wrap ((0:Int)+(↑(ZG (i64.wrap ((4:Int)*(↑nc:Int))).toNat):Int))+(256:Int))-(1:Int))) (255:Int)+(↑(ZG (↑(Zr data):Int).toNat):Int))+(256:Int))-(1:Int))) (255:Int)+u32.wrap (i64.wrap (Zc*(↑ns:Int))))+(256:Int))-(1:Int))) (255:Int)),.int .u32 (u32.wrap (u32.wrap (u32.wrap Ze*(256:Int))-u32.wrap (bits BinOp.andNot u32 (u32.wrap (u32.wrap (u32.wrap (bits BinOp.andNot u32 (u32.wrap (u32.wrap (u32.wrap ((0:Int)+(↑(ZG (i64.wrap ((4:Int)*(↑nc:Int))).toNat):Int))+(256:Int))-(1:Int))) (255:Int)+(↑(ZG (↑(Zr data):Int).toNat):Int))+(256:Int))-(1:Int))) (255:Int)+u32.wrap (i64.wrap (Zc*(↑ns:Int))))))]⟩,.bool true] },{ n:=79,h:=[],lo:=[],esc:=0,T:=[],k:=1,O:=((True∧((0:Int)≤i64.wrap ((4:Int)*(↑nc:Int))∧i64.wrap ((4:Int)*(↑nc:Int))≤(100000:Int))∧(rr (Value.int .i64 (i64.wrap ((4:Int)*(↑nc:Int))))∧True)∧True∧True)∧((0:Int)≤(↑(Zr data):Int)∧(↑(Zr data):Int)≤(100000:Int))∧(rr (Value.int .i64 (↑(Zr data)))∧True)∧True∧True)∧decide (u32.wrap (u32.wrap (bits BinOp.andNot u32 (u32.wrap (u32.wrap (u32.wrap (bits BinOp.andNot u32 (u32.wrap (u32.wrap (u32.wrap ((0:Int)+(↑(ZG (i64.wrap ((4:Int)*(↑nc:Int))).toNat):Int))+(256:Int))-(1:Int))) (255:Int)+(↑(ZG (↑(Zr data):Int).toNat):Int))+(256:Int))-(1:Int))) (255:Int)+u32.wrap (i64.wrap (Zc*(↑ns:Int))))+(256:Int))>u32.wrap (u32.wrap Ze*(256:Int)))=false:St }):=by kernel_rfl
theorem Zhh (a2:Option Addr) (c2:Nat) (em:X5 a2 c2) (Ze Zc types:Int) (nc nr:Nat) (data:List UInt8) (Za:List Nat) (k:Nat):(Zej a2 c2 Ze Zc types nc nr data Za k).Wf :=
 ⟨Zo6,Sf.Ok.mk' 3 ⟨⟨rfl,rfl,Zv (Zg Za)⟩,⟨rfl,rfl,fun v hv=>ZM 3 v (List.all_eq_true.1 (Kq em lt71 3 Ze Zc types nc nr Za.length data) v hv)⟩,trivial⟩ rfl (fun x hx=>by
  have:(Zej a2 c2 Ze Zc types nc nr data Za k).e.all (fun x=>okV (fun l=>Nat.blt l 71) 3 x.2)=true:=by kernel_rfl
  exact List.all_eq_true.1 this x hx)⟩
theorem Zek (a2:Option Addr) (c2:Nat) (em:X5 a2 c2) (Ze Zc types:Int) (nc nr:Nat) (data:List UInt8) (Za:List Nat) (k:Nat) (e:Sf) (hl:Za.length<9000000000000000000) (hx:Za.getD k 0<4294967296) (hk:k<Za.length) (hv:Za.getD k 0<nc) (hn:e.n=71) (he:e.Ok (Z3 71 71 id (fun l=>Nat.blt l 71))) :
  ∃ g,evC Tryz.prog (evF Tryz.prog ZD Zf 100 3) (Zf 72) 19 100 (ZB Tryz.prog 72 0) ((Zej a2 c2 Ze Zc types nc nr data Za k).frT 19 [(0,true),(1,false)])=some (.normal,g)∧g.s.O ∧
   Sf.Leads 3 (fun l=>Nat.blt l 71) id (Zej a2 c2 Ze Zc types nc nr data Za k) g (Zej a2 c2 Ze Zc types nc nr data Za (k+1)) e:=by
 refine⟨_,Zpu a2 c2 Ze Zc types nc nr data Za k,?_,?_⟩
 ·simp only[rr, tt, Q8,Qd,Yn,Int.toNat_natCast,Nat.zero_add,Nat.mul_one]
  rw[KS hx]
  exact⟨Qi (by simp; omega) (Qi (by simp; omega) ⟨trivial,by simp; omega⟩),by simp only[rr, tt, decide_eq_false_iff_not]; omega⟩
 ·refine⟨fun _ _=>rfl,⟨⟨rfl,Zh (Zg Za),rfl,rfl,rfl,trivial,(Zi (Zg Za)).symm⟩,⟨rfl,Kq em lt71 3 Ze Zc types nc nr Za.length data,rfl,rfl,rfl,trivial,by rw[List.map_congr_left (fun v _=>Yd 3 v)]; simp only[rr, tt, List.map_id']; rfl⟩,trivial⟩,rfl,trivial,⟨⟨by kernel_rfl,by kernel_rfl⟩,⟨rfl,by kernel_rfl⟩,⟨rfl,by kernel_rfl⟩,⟨rfl,?_⟩,trivial⟩,Nat.le_refl _,fun l hl=>ZN hl,?_,?_⟩
  ·refine Eq.trans (b:=Value.int .i64 (i64.wrap ((k:Int)+1))) (by kernel_rfl) ?_
   rw[ZQ k (by omega)]; rfl
  ·rw[hn]; exact he
  ·intro x _ _; exact .inl rfl
theorem Zhi (a2:Option Addr) (c2:Nat) (em:X5 a2 c2) (Ze Zc types:Int) (nc nr:Nat) (data:List UInt8) (Za:List Nat) (j:Nat) (hl:Za.length<9000000000000000000) (hx:∀ x∈Za,x<4294967296) (hj:j<Za.length) (hv:nc≤Za.getD j 0) (hn:∀ i,i<j→Za.getD i 0<nc) :
  ∀ x:{ k:Nat // k≤j },Qj Tryz.prog 19 (ZB Tryz.prog 72 0) ((Zej a2 c2 Ze Zc types nc nr data Za x.1).fr 19) .ret ((stF j).fr 19):=by
 have hx':∀ i,i<Za.length→Za.getD i 0<4294967296:=fun i hi=>by
  rw[List.getD_eq_getElem?_getD,List.getElem?_eq_getElem hi]; exact hx _ (List.getElem_mem hi)
 refine Yc (L:=100) (Zu (L:=100) ZK (Zx _) (Zj _) 3) (ZU _ _ 72) (fun _ h=>h) (X:={ k:Nat // k≤j }) (fun x=>Zej a2 c2 Ze Zc types nc nr data Za x.1) (fun _=>stF j) (fun _ => .ret) (fun x=>j-x.1) (fun x=>Zhh a2 c2 em Ze Zc types nc nr data Za x.1) ?_
 rintro⟨k,hk⟩
 by_cases h:k=j
 ·subst h
  refine⟨[(0,true),(1,true)],.ret,_,3,fun l=>Nat.blt l 71,id,Zpt a2 c2 Ze Zc types nc nr data Za k,?_,.inr ⟨by simp,rfl,?_⟩⟩
  ·simp only[rr, tt, Q8,Qd,Yn,Int.toNat_natCast,Nat.zero_add,Nat.mul_one]
   rw[KS (hx' k hj)]
   exact⟨Qi (by simp; omega) (Qi (by simp; omega) ⟨trivial,by simp; omega⟩),by simp only[rr, tt, decide_eq_true_eq]; omega⟩
  ·exact⟨fun _ _=>rfl,trivial,rfl,trivial,⟨⟨rfl,by kernel_rfl⟩,trivial⟩,Nat.le_refl _,fun l hl=>ZN hl,U0 k,fun x hx=>by cases hx⟩
 ·obtain⟨g,h1,h2,h3⟩:=Zek a2 c2 em Ze Zc types nc nr data Za k (stF j) hl (hx' k (by omega)) (by omega) (hn k (by omega)) rfl (U0 j)
  exact⟨_,.normal,g,3,_,_,h1,h2,.inl ⟨rfl,⟨k+1,by omega⟩,by show j-(k+1)<j-k; omega,rfl,rfl,h3⟩⟩
theorem Zi2 (a2:Option Addr) (c2:Nat) (em:X5 a2 c2) (Ze Zc types:Int) (nc nr:Nat) (data:List UInt8) (Za:List Nat) (hl:Za.length<9000000000000000000) (hx:∀ x∈Za,x<4294967296) (hn:∀ i,i<Za.length→Za.getD i 0<nc) :
  ∀ x:{ k:Nat // k≤Za.length },Qj Tryz.prog 19 (ZB Tryz.prog 72 0) ((Zej a2 c2 Ze Zc types nc nr data Za x.1).fr 19) (.exit 0) (stN.fr 19):=by
 have hx':∀ i,i<Za.length→Za.getD i 0<4294967296:=fun i hi=>by
  rw[List.getD_eq_getElem?_getD,List.getElem?_eq_getElem hi]; exact hx _ (List.getElem_mem hi)
 refine Yc (L:=100) (Zu (L:=100) ZK (Zx _) (Zj _) 3) (ZU _ _ 72) (fun _ h=>h) (X:={ k:Nat // k≤Za.length }) (fun x=>Zej a2 c2 Ze Zc types nc nr data Za x.1) (fun _=>stN) (fun _ => .exit 0) (fun x=>Za.length-x.1) (fun x=>Zhh a2 c2 em Ze Zc types nc nr data Za x.1) ?_
 rintro⟨k,hk⟩
 by_cases h:k<Za.length
 ·obtain⟨g,h1,h2,h3⟩:=Zek a2 c2 em Ze Zc types nc nr data Za k stN hl (hx' k h) h (hn k h) rfl U1
  exact⟨_,.normal,g,3,_,_,h1,h2,.inl ⟨rfl,⟨k+1,by omega⟩,by show Za.length-(k+1)<Za.length-k; omega,rfl,rfl,h3⟩⟩
 ·refine⟨[(0,false)],.exit 0,_,3,fun l=>Nat.blt l 71,id,Zpv a2 c2 Ze Zc types nc nr data Za k,?_,.inr ⟨by simp,rfl,?_⟩⟩
  ·simp; omega
  ·exact⟨fun _ _=>rfl,trivial,rfl,trivial,trivial,Nat.le_refl _,fun l hl=>ZN hl,U1,fun x hx=>by cases hx⟩
def ZlS (a2:Option Addr) (c2:Nat) (em:X5 a2 c2) (Ze Zc types:Int) (nc nr:Nat) (data:List UInt8) (Za:List Nat) (j:Nat) (hl:Za.length<9000000000000000000) (hx:∀ x∈Za,x<4294967296) (hj:j<Za.length) (hv:nc≤Za.getD j 0) (hn:∀ i,i<j→Za.getD i 0<nc):Ent Tryz.prog :=
 Vl Tryz.prog 72 0 19 (Zej a2 c2 Ze Zc types nc nr data Za 0) .ret (stF j) (by kernel_rfl) (by kernel_rfl) (Zhi a2 c2 em Ze Zc types nc nr data Za j hl hx hj hv hn ⟨0,Nat.zero_le _⟩)
def Zhj (a2:Option Addr) (c2:Nat) (em:X5 a2 c2) (Ze Zc types:Int) (nc nr:Nat) (data:List UInt8) (Za:List Nat) (hl:Za.length<9000000000000000000) (hx:∀ x∈Za,x<4294967296) (hn:∀ i,i<Za.length→Za.getD i 0<nc):Ent Tryz.prog :=
 Vl Tryz.prog 72 0 19 (Zej a2 c2 Ze Zc types nc nr data Za 0) (.exit 0) stN (by kernel_rfl) (by kernel_rfl) (Zi2 a2 c2 em Ze Zc types nc nr data Za hl hx hn ⟨0,Nat.zero_le _⟩)
theorem Kr {a2:Option Addr} {c2:Nat} (em:X5 a2 c2) {f:FuncId} {Ze Zc types:Int} {nc nr ns:Nat} {data:List UInt8} {T:List (Nat×Bool)} {s':St} {v:Value} (h:evF Tryz.prog (ZH 3 Zc3) Zf 100 10 f [Wo a2 c2 Ze Zc types nc nr ns data] ⟨67,[],[],0,T,0,True⟩=some (v,s')) (hv:v=Zcv Ze Zc nc ns data.length) (hO:s'.O):ConOk Tryz.prog f 3 (Zhg a2 c2 Ze Zc types nc nr ns data):=by
 subst hv
 refine Vh (Zu ZK (Z1 Za5) (Zj _) 10) (by decide) ?_ h hO rfl rfl
 exact Zei em lt67 Ze Zc types nc nr ns data
theorem Zhk (a2:Option Addr) (c2:Nat) (em:X5 a2 c2) (Ze Zc types:Int) (nc nr ns:Nat) (data:List UInt8) (h:Xr Ze Zc nc ns data.length):ConOk Tryz.prog 40 3 (Zhg a2 c2 Ze Zc types nc nr ns data):=by
 obtain⟨h1,h2,h3,h4,h5,h6,h7,h8⟩:=h
 obtain⟨p,rfl⟩:=Int.eq_ofNat_of_zero_le h1
 obtain⟨s,rfl⟩:=Int.eq_ofNat_of_zero_le h3
 have hs:=Km (s:=s) (ns:=ns) (by omega) h7
 have q1:=Xg (4*nc)
 have q2:=Xg data.length
 have m1:=Y0 (4*nc)
 have m2:=Y0 data.length
 have m3:s*ns%256=0:=by rw[Nat.mul_mod,show s%256=0 by omega]; simp
 have e1:i64.wrap ((4:Int)*(nc:Int))=((4*nc:Nat):Int):=by rw[wrap_i64 (by omega) (by omega)]; omega
 have e2:u32.wrap ((0:Int)+((ZG (4*nc):Nat):Int))=((ZG (4*nc):Nat):Int):=by rw[IntKind.wrap_u32]; omega
 have e3:i64.wrap ((s:Int)*(ns:Int))=((s*ns:Nat):Int):=by rw[Int.ofNat_mul_ofNat,wrap_i64 (by omega) (by omega)]
 have e4:u32.wrap (u32.wrap (p:Int)*(256:Int))=((p*256:Nat):Int):=by rw[IntKind.wrap_u32,IntKind.wrap_u32]; omega
 have hd:=Zdf a2 c2 (p:Int) (s:Int) types nc nr ns data
 have hk:=Zfe a2 c2 (p:Int) (s:Int) types nc nr ns data
 simp only[rr, tt, e1,Int.toNat_natCast,Zq,e2,Kl _ m1 (by omega),X4 (ZG (4*nc)) (ZG data.length) (by omega),Kl (ZG (4*nc)+ZG data.length) (by omega) (by omega),e3,VL (s*ns) (by omega),X4 (ZG (4*nc)+ZG data.length) (s*ns) (by omega),Kl (ZG (4*nc)+ZG data.length+s*ns) (by omega) (by omega),e4] at hd hk
 cases hb:Zo (p:Int) (s:Int) nc ns data.length
 ·have hb':ZG (4*nc)+ZG data.length+s*ns+256≤p*256:=by
   unfold Zo ZX at hb; simp only[rr, tt, Int.toNat_natCast,decide_eq_false_iff_not] at hb; omega
  have e5:u32.wrap (((p*256:Nat):Int)-((ZG (4*nc)+ZG data.length+s*ns:Nat):Int))=((p*256-(ZG (4*nc)+ZG data.length+s*ns):Nat):Int):=by rw[IntKind.wrap_u32]; omega
  rw[e5] at hk
  refine Kr em (T:=[(0,false)]) hk ?_ ?_
  ·unfold Zcv Zg1
   rw[hb]
   rfl
  ·refine⟨⟨⟨trivial,⟨by omega,by omega⟩,⟨trivial,trivial⟩,trivial,trivial⟩,⟨by omega,by omega⟩,⟨trivial,trivial⟩,trivial,trivial⟩,?_⟩
   rw[IntKind.wrap_u32]
   simp only[rr, tt, decide_eq_false_iff_not]; omega
 ·have hb':¬ (ZG (4*nc)+ZG data.length+s*ns+256≤p*256):=by
   unfold Zo ZX at hb; simp only[rr, tt, Int.toNat_natCast,decide_eq_true_eq] at hb; omega
  refine Kr em (T:=[(0,true)]) hd ?_ ?_
  ·unfold Zcv Zg1
   rw[hb]
   rfl
  ·refine⟨⟨⟨trivial,⟨by omega,by omega⟩,⟨trivial,trivial⟩,trivial,trivial⟩,⟨by omega,by omega⟩,⟨trivial,trivial⟩,trivial,trivial⟩,?_⟩
   rw[IntKind.wrap_u32]
   simp only[rr, tt, decide_eq_true_eq]; omega
def VQ (a2:Option Addr) (c2:Nat):WH:=fun f args _ =>
 match args with
 | [.agg ⟨[.int _ Ze,.int _ Zc,.int _ types,.slice (some _) nc _,.string ⟨⟨data⟩⟩,_,.slice (some _) ns _]⟩]=>bif Nat.beq f 40 then some (Zhg a2 c2 Ze Zc types nc 0 ns data,[64,65,66],Xr Ze Zc nc ns data.length) else none
 | _=>none
theorem Zff (a2:Option Addr) (c2:Nat) (em:X5 a2 c2):YN Tryz.prog 3 (VQ a2 c2):=by
 intro f args s c ρ q h hq
 unfold VQ at h
 split at h
 ·obtain⟨h2,h3⟩:=ZL h
  have h2:=eB h2
  subst h2
  cases h3
  exact Zhk _ _ em _ _ _ _ _ _ _ hq
 ·cases h
theorem Zhl (a2:Option Addr) (c2:Nat) (Ze Zc types:Int) (nc:Nat) (data:List UInt8) (rs:List Rl) (Za:List Nat):evF Tryz.prog (ZH 3 (WK (VQ a2 c2) Ze7)) Zf 100 10 9 [Wo a2 c2 Ze Zc types nc 0 Za.length data] (Ul a2 c2 rs Za [(0,true)])=some (Value.tuple { toList:=[Value.agg ⟨[.int .u32 0,.int .u32 0,.int .u32 0,.int .u32 0,.int .u32 0,.int .u32 0,.int .u32 0,.int .u32 0]⟩,.int .i64 3] },{ n:=70,h:=[(66,⟨false,some (0,0),Zk Za,none⟩)],lo:=[],esc:=0,T:=[],k:=1,O:=(True∧(tt∧4<9000000000000000000)∧(rr (Value.slice (some ⟨69,0,none⟩) 4 4)∧True)∧((tt∧tt∧tt∧tt∧tt∧True∧rr [Value.bool (decide ((↑nc:Int)>(4096:Int))),.bool (decide ((↑(Zr data):Int)>(16384:Int))),.bool false,.bool (decide ((↑Za.length:Int)>(4:Int)))])∧True)∧True)∧(!!(decide ((↑nc:Int)>(4096:Int))||(decide ((↑(Zr data):Int)>(16384:Int))||(decide ((↑Za.length:Int)>(4:Int))||false))))=true:St }):=by kernel_rfl
theorem Zi3 (a2:Option Addr) (c2:Nat) (Ze Zc types:Int) (nc:Nat) (data:List UInt8) (rs:List Rl) (Za:List Nat):evF Tryz.prog (ZH 3 (WK (VQ a2 c2) Ze7)) Zf 100 10 9 [Wo a2 c2 Ze Zc types nc 0 Za.length data] (Ul a2 c2 rs Za [(0,false),(1,true)])=some (Value.tuple { toList:=[Value.agg ⟨[.int .u32 0,.int .u32 0,.int .u32 0,.int .u32 0,.int .u32 0,.int .u32 0,.int .u32 0,.int .u32 0]⟩,.int .i64 2] },{ n:=71,h:=[(66,⟨false,some (0,0),Zk Za,none⟩)],lo:=[],esc:=0,T:=[],k:=2,O:=(((True∧(tt∧4<9000000000000000000)∧(rr (Value.slice (some ⟨69,0,none⟩) 4 4)∧True)∧((tt∧tt∧tt∧tt∧tt∧True∧rr [Value.bool (decide ((↑nc:Int)>(4096:Int))),.bool (decide ((↑(Zr data):Int)>(16384:Int))),.bool false,.bool (decide ((↑Za.length:Int)>(4:Int)))])∧True)∧True)∧(!!(decide ((↑nc:Int)>(4096:Int))||(decide ((↑(Zr data):Int)>(16384:Int))||(decide ((↑Za.length:Int)>(4:Int))||false))))=false)∧(tt∧9<9000000000000000000)∧(rr (Value.slice (some ⟨70,0,none⟩) 9 9)∧True)∧((tt∧tt∧tt∧tt∧tt∧True∧rr [Value.bool (decide (Ze<(16:Int))),.bool (decide (Ze>(1024:Int))),.bool (decide (Zc<(256:Int))),.bool (decide (Zc>(4096:Int))),.bool (Zc.tmod (256:Int) !=(0:Int)),.bool (decide (types<(0:Int))),.bool (decide (types>(2048:Int))),.bool ((↑nc:Int)==(0:Int)),.bool ((↑Za.length:Int)==(0:Int))])∧True)∧True)∧(!!(decide (Ze<(16:Int))||(decide (Ze>(1024:Int))||(decide (Zc<(256:Int))||(decide (Zc>(4096:Int))||(Zc.tmod (256:Int) !=(0:Int)||(decide (types<(0:Int))||(decide (types>(2048:Int))||((↑nc:Int)==(0:Int)||((↑Za.length:Int)==(0:Int)||false))))))))))=true:St }):=by kernel_rfl
theorem Zi4 (a2:Option Addr) (c2:Nat) (em:X5 a2 c2) (Ze Zc types:Int) (nc:Nat) (data:List UInt8) (rs:List Rl) (Za:List Nat) (j:Nat) (hl:Za.length<9000000000000000000) (hx:∀ (x:Nat),x∈Za→x<4294967296) (hj:j<Za.length) (hv:nc≤Za.getD j 0) (hn:∀ (i:Nat),i<j→Za.getD i 0<nc):evF Tryz.prog (ZH 3 (WK (VQ a2 c2) Ze7)) (Ut [ZlS a2 c2 em Ze Zc types nc 0 data Za j hl hx hj hv hn]) 100 10 9 [Wo a2 c2 Ze Zc types nc 0 Za.length data] (Ul a2 c2 rs Za [(0,false),(1,false)])=some (Value.tuple { toList:=[Value.agg ⟨[.int .u32 0,.int .u32 0,.int .u32 0,.int .u32 0,.int .u32 0,.int .u32 0,.int .u32 0,.int .u32 0]⟩,.int .i64 2] },{ n:=71,h:=[(66,⟨false,some (0,0),Zk Za,none⟩)],lo:=[],esc:=0,T:=[],k:=2,O:=((((True∧(tt∧4<9000000000000000000)∧(rr (Value.slice (some ⟨69,0,none⟩) 4 4)∧True)∧((tt∧tt∧tt∧tt∧tt∧True∧rr [Value.bool (decide ((↑nc:Int)>(4096:Int))),.bool (decide ((↑(Zr data):Int)>(16384:Int))),.bool false,.bool (decide ((↑Za.length:Int)>(4:Int)))])∧True)∧True)∧(!!(decide ((↑nc:Int)>(4096:Int))||(decide ((↑(Zr data):Int)>(16384:Int))||(decide ((↑Za.length:Int)>(4:Int))||false))))=false)∧(tt∧9<9000000000000000000)∧(rr (Value.slice (some ⟨70,0,none⟩) 9 9)∧True)∧((tt∧tt∧tt∧tt∧tt∧True∧rr [Value.bool (decide (Ze<(16:Int))),.bool (decide (Ze>(1024:Int))),.bool (decide (Zc<(256:Int))),.bool (decide (Zc>(4096:Int))),.bool (Zc.tmod (256:Int) !=(0:Int)),.bool (decide (types<(0:Int))),.bool (decide (types>(2048:Int))),.bool ((↑nc:Int)==(0:Int)),.bool ((↑Za.length:Int)==(0:Int))])∧True)∧True)∧(!!(decide (Ze<(16:Int))||(decide (Ze>(1024:Int))||(decide (Zc<(256:Int))||(decide (Zc>(4096:Int))||(Zc.tmod (256:Int) !=(0:Int)||(decide (types<(0:Int))||(decide (types>(2048:Int))||((↑nc:Int)==(0:Int)||((↑Za.length:Int)==(0:Int)||false))))))))))=false)∧(rr (Value.slice (some ⟨66,0,none⟩) Za.length 9223372036854775874)∧rr (Value.func (Fn.func 39) { toList:=[] } { toList:=[Value.pointer (some ⟨67,0,none⟩)] })∧rr (Value.int .i64 (↑Za.length))∧rr (Value.int .i64 0)∧True)∧((tt∧tt∧True∧rr (Zk Za))∧(tt∧tt∧True∧rr [Value.int .i64 Ze,.int .i64 Zc,.int .i64 types,.slice (some ⟨64,0,none⟩) nc 9223372036854775872,.string ⟨⟨data⟩⟩,.slice a2 0 c2,.slice (some ⟨66,0,none⟩) Za.length 9223372036854775874])∧True)∧True∧True:St }):=by kernel_rfl
theorem Zi5 (a2:Option Addr) (c2:Nat) (em:X5 a2 c2) (Ze Zc types:Int) (nc:Nat) (data:List UInt8) (rs:List Rl) (Za:List Nat) (hl:Za.length<9000000000000000000) (hx:∀ (x:Nat),x∈Za→x<4294967296) (hn:∀ (i:Nat),i<Za.length→Za.getD i 0<nc):evF Tryz.prog (ZH 3 (WK (VQ a2 c2) Ze7)) (Ut [Zhj a2 c2 em Ze Zc types nc 0 data Za hl hx hn]) 100 10 9 [Wo a2 c2 Ze Zc types nc 0 Za.length data] (Ul a2 c2 rs Za (tb 4 8))=some (Value.tuple { toList:=[Value.agg ⟨[.int .u32 0,.int .u32 0,.int .u32 0,.int .u32 0,.int .u32 0,.int .u32 0,.int .u32 0,.int .u32 0]⟩,.int .i64 13] },{ n:=72,h:=[(66,⟨false,some (0,0),Zk Za,none⟩)],lo:=[],esc:=0,T:=[],k:=4,O:=(((((((True∧(tt∧4<9000000000000000000)∧(rr (Value.slice (some ⟨69,0,none⟩) 4 4)∧True)∧((tt∧tt∧tt∧tt∧tt∧True∧rr [Value.bool (decide ((↑nc:Int)>(4096:Int))),.bool (decide ((↑(Zr data):Int)>(16384:Int))),.bool false,.bool (decide ((↑Za.length:Int)>(4:Int)))])∧True)∧True)∧(!!(decide ((↑nc:Int)>(4096:Int))||(decide ((↑(Zr data):Int)>(16384:Int))||(decide ((↑Za.length:Int)>(4:Int))||false))))=false)∧(tt∧9<9000000000000000000)∧(rr (Value.slice (some ⟨70,0,none⟩) 9 9)∧True)∧((tt∧tt∧tt∧tt∧tt∧True∧rr [Value.bool (decide (Ze<(16:Int))),.bool (decide (Ze>(1024:Int))),.bool (decide (Zc<(256:Int))),.bool (decide (Zc>(4096:Int))),.bool (Zc.tmod (256:Int) !=(0:Int)),.bool (decide (types<(0:Int))),.bool (decide (types>(2048:Int))),.bool ((↑nc:Int)==(0:Int)),.bool ((↑Za.length:Int)==(0:Int))])∧True)∧True)∧(!!(decide (Ze<(16:Int))||(decide (Ze>(1024:Int))||(decide (Zc<(256:Int))||(decide (Zc>(4096:Int))||(Zc.tmod (256:Int) !=(0:Int)||(decide (types<(0:Int))||(decide (types>(2048:Int))||((↑nc:Int)==(0:Int)||((↑Za.length:Int)==(0:Int)||false))))))))))=false)∧(rr (Value.slice (some ⟨66,0,none⟩) Za.length 9223372036854775874)∧rr (Value.func (Fn.func 39) { toList:=[] } { toList:=[Value.pointer (some ⟨67,0,none⟩)] })∧rr (Value.int .i64 (↑Za.length))∧rr (Value.int .i64 0)∧True)∧((tt∧tt∧True∧rr (Zk Za))∧(tt∧tt∧True∧rr [Value.int .i64 Ze,.int .i64 Zc,.int .i64 types,.slice (some ⟨64,0,none⟩) nc 9223372036854775872,.string ⟨⟨data⟩⟩,.slice a2 0 c2,.slice (some ⟨66,0,none⟩) Za.length 9223372036854775874])∧True)∧True∧True)∧rr false)∧Xr Ze Zc nc Za.length data.length∧(Value.agg ⟨[.int .i64 Ze,.int .i64 Zc,.int .i64 types,.slice (some ⟨64,0,none⟩) nc 9223372036854775872,.string ⟨⟨data⟩⟩,.slice a2 0 c2,.slice (some ⟨66,0,none⟩) Za.length 9223372036854775874]⟩=Value.agg ⟨[.int .i64 Ze,.int .i64 Zc,.int .i64 types,.slice (some ⟨64,0,none⟩) nc 9223372036854775872,.string ⟨⟨data⟩⟩,.slice (Option.map (rnA (lift 67 71 [64,65,66])) a2) 0 (rnC (lift 67 71 [64,65,66]) c2),.slice (some ⟨66,0,none⟩) Za.length 9223372036854775874]⟩∧True)∧True∧True)∧(!!Zo Ze Zc nc Za.length data.length)=true:St }):=by kernel_rfl
theorem ZlT (a2:Option Addr) (c2:Nat) (em:X5 a2 c2) (Ze Zc types:Int) (nc:Nat) (data:List UInt8) (rs:List Rl) (Za:List Nat) (hl:Za.length<9000000000000000000) (hx:∀ (x:Nat),x∈Za→x<4294967296) (hn:∀ (i:Nat),i<Za.length→Za.getD i 0<nc):evF Tryz.prog (ZH 3 (WK (VQ a2 c2) Ze7)) (Ut [Zhj a2 c2 em Ze Zc types nc 0 data Za hl hx hn]) 100 10 9 [Wo a2 c2 Ze Zc types nc 0 Za.length data] (Ul a2 c2 rs Za (tb 4 0))=some (Value.tuple { toList:=[Value.agg ⟨[.int .u32 0,.int .u32 (pk (Zo Ze Zc nc Za.length data.length) (ZG (4*nc))),.int .u32 (pk (Zo Ze Zc nc Za.length data.length) (ZG (4*nc))),.int .u32 (pk (Zo Ze Zc nc Za.length data.length) (ZG data.length)),.int .u32 (pk (Zo Ze Zc nc Za.length data.length) (ZG (4*nc)+ZG data.length)),.int .u32 (pk (Zo Ze Zc nc Za.length data.length) (Zc.toNat*Za.length)),.int .u32 (pk (Zo Ze Zc nc Za.length data.length) (ZX Zc nc Za.length data.length)),.int .u32 (pk (Zo Ze Zc nc Za.length data.length) (Ze.toNat*256-ZX Zc nc Za.length data.length))]⟩,.int .i64 0] },{ n:=72,h:=[(66,⟨false,some (0,0),Zk Za,none⟩)],lo:=[],esc:=0,T:=[],k:=4,O:=(((((((True∧(tt∧4<9000000000000000000)∧(rr (Value.slice (some ⟨69,0,none⟩) 4 4)∧True)∧((tt∧tt∧tt∧tt∧tt∧True∧rr [Value.bool (decide ((↑nc:Int)>(4096:Int))),.bool (decide ((↑(Zr data):Int)>(16384:Int))),.bool false,.bool (decide ((↑Za.length:Int)>(4:Int)))])∧True)∧True)∧(!!(decide ((↑nc:Int)>(4096:Int))||(decide ((↑(Zr data):Int)>(16384:Int))||(decide ((↑Za.length:Int)>(4:Int))||false))))=false)∧(tt∧9<9000000000000000000)∧(rr (Value.slice (some ⟨70,0,none⟩) 9 9)∧True)∧((tt∧tt∧tt∧tt∧tt∧True∧rr [Value.bool (decide (Ze<(16:Int))),.bool (decide (Ze>(1024:Int))),.bool (decide (Zc<(256:Int))),.bool (decide (Zc>(4096:Int))),.bool (Zc.tmod (256:Int) !=(0:Int)),.bool (decide (types<(0:Int))),.bool (decide (types>(2048:Int))),.bool ((↑nc:Int)==(0:Int)),.bool ((↑Za.length:Int)==(0:Int))])∧True)∧True)∧(!!(decide (Ze<(16:Int))||(decide (Ze>(1024:Int))||(decide (Zc<(256:Int))||(decide (Zc>(4096:Int))||(Zc.tmod (256:Int) !=(0:Int)||(decide (types<(0:Int))||(decide (types>(2048:Int))||((↑nc:Int)==(0:Int)||((↑Za.length:Int)==(0:Int)||false))))))))))=false)∧(rr (Value.slice (some ⟨66,0,none⟩) Za.length 9223372036854775874)∧rr (Value.func (Fn.func 39) { toList:=[] } { toList:=[Value.pointer (some ⟨67,0,none⟩)] })∧rr (Value.int .i64 (↑Za.length))∧rr (Value.int .i64 0)∧True)∧((tt∧tt∧True∧rr (Zk Za))∧(tt∧tt∧True∧rr [Value.int .i64 Ze,.int .i64 Zc,.int .i64 types,.slice (some ⟨64,0,none⟩) nc 9223372036854775872,.string ⟨⟨data⟩⟩,.slice a2 0 c2,.slice (some ⟨66,0,none⟩) Za.length 9223372036854775874])∧True)∧True∧True)∧rr false)∧Xr Ze Zc nc Za.length data.length∧(Value.agg ⟨[.int .i64 Ze,.int .i64 Zc,.int .i64 types,.slice (some ⟨64,0,none⟩) nc 9223372036854775872,.string ⟨⟨data⟩⟩,.slice a2 0 c2,.slice (some ⟨66,0,none⟩) Za.length 9223372036854775874]⟩=Value.agg ⟨[.int .i64 Ze,.int .i64 Zc,.int .i64 types,.slice (some ⟨64,0,none⟩) nc 9223372036854775872,.string ⟨⟨data⟩⟩,.slice (Option.map (rnA (lift 67 71 [64,65,66])) a2) 0 (rnC (lift 67 71 [64,65,66]) c2),.slice (some ⟨66,0,none⟩) Za.length 9223372036854775874]⟩∧True)∧True∧True)∧(!!Zo Ze Zc nc Za.length data.length)=false:St }):=by kernel_rfl
theorem Zpw (a2:Option Addr) (c2:Nat) (em:X5 a2 c2) (Ze Zc types:Int) (nc:Nat) (data:List UInt8) (Za:List Nat) (v:Value) (hv:Yr v=true):(ZnI a2 c2 Ze Zc types nc data [] Za v).Wf 3 :=
 ⟨by show NG≤67; decide,Nat.le_refl _,⟨⟨rfl,rfl,Zv (Zg Za)⟩,trivial⟩,rfl,rfl,rfl,Zei em lt67 Ze Zc types nc 0 Za.length data,Qy hv 1,fun x hx v hv=>by
  obtain rfl:=List.mem_singleton.1 hx
  exact ZS (Zg Za v hv) 3⟩
theorem X6 {a2:Option Addr} {c2:Nat} (em:X5 a2 c2) {call:Qb} (hcall:ZA Tryz.prog call) {f:FuncId} {Ze Zc types:Int} {nc:Nat} {data:List UInt8} {Za:List Nat} {T:List (Nat×Bool)} {v v':Value} {n k':Nat} {q:Prop}
  (hr:call f [Wo a2 c2 Ze Zc types nc 0 Za.length data] (Ul a2 c2 [] Za T)=some (v,⟨n,Zps a2 c2 [] Za,[],0,[],k',q⟩))
  (hv:v=v') (hf:Yr v'=true) (hu:isU v'=false) (hq:q):ConOk Tryz.prog f 3 (ZnI a2 c2 Ze Zc types nc data [] Za v'):=by
 subst hv
 refine ZF hcall (Zpw a2 c2 em Ze Zc types nc data Za v hf) (T:=T) (p:=fun l=>Nat.blt l 67) (σ:=id) hr hq ?_
 exact⟨fun _ _=>rfl,⟨⟨rfl,Zh (Zg Za),rfl,rfl,rfl,trivial,(Zi (Zg Za)).symm⟩,trivial⟩,rfl,trivial,⟨Qy hf 1,(Yd 3 v).symm⟩,hu,⟨⟨rfl,rfl,Zv (Zg Za)⟩,trivial⟩,rfl,Yb _ hf,fun x hx _ => .inl rfl⟩
theorem Zi6 (a2:Option Addr) (c2:Nat) (em:X5 a2 c2) (Ze Zc types:Int) (nc:Nat) (data:List UInt8) (Za:List Nat) (hi:ImOk [] Za):ConOk Tryz.prog 9 3 (ZnI a2 c2 Ze Zc types nc data [] Za (Qo Ze Zc types nc data [] Za)):=by
 have hb:=Z1 (d:=3) (XQ (Zff a2 c2 em) Uj)
 have h4:(4:Nat)<9000000000000000000:=by omega
 have h9:(9:Nat)<9000000000000000000:=by omega
 cases hl:ZO nc data.length ([]:List Rl).length Za.length
 ·have hl':(!!ZO nc data.length 0 Za.length)=false:=by rw[show ZO nc data.length 0 Za.length=false from hl]; rfl
  cases ha:QF Ze Zc types nc Za.length
  ·have ha':(!!QF Ze Zc types nc Za.length)=false:=by rw[ha]; rfl
   have hlay:=VO hl ha
   cases hf:UC nc Za
   ·have hn:∀ i,i<Za.length→Za.getD i 0<nc:=fun i hi=>by
     have:=VN hf i hi; simpa using this
    cases hg:Zo Ze Zc nc Za.length data.length
    ·have hg':(!!Zo Ze Zc nc Za.length data.length)=false:=by rw[hg]; rfl
     have hd:UD types nc data.length []=false:=rfl
     have he:ZZ Ze Zc types nc data [] Za=0:=by unfold ZZ; rw[hl,ha,hf,hg,hd]; rfl
     have hh:=ZlT a2 c2 em Ze Zc types nc data [] Za hi.len hi.nums hn
     rw[Zq] at hh
     refine X6 em (Zu ZK hb (QR _) 10) hh ?_ rfl rfl ?_
     ·unfold Qo Kn; rw[he,hg]; rfl
     ·(try rw[Xh em]); repeat' (with_reducible apply And.intro)
      all_goals first|exact h4|exact h9|exact hl'|exact ha'|exact hg'|exact hlay|with_reducible trivial|with_reducible rfl
    ·have hg':(!!Zo Ze Zc nc Za.length data.length)=true:=by rw[hg]; rfl
     have he:ZZ Ze Zc types nc data [] Za=13:=by unfold ZZ; rw[hl,ha,hf,hg]; rfl
     have hh:=Zi5 a2 c2 em Ze Zc types nc data [] Za hi.len hi.nums hn
     rw[Zq] at hh
     refine X6 em (Zu ZK hb (QR _) 10) hh ?_ rfl rfl ?_
     ·unfold Qo Kn; rw[he]; rfl
     ·(try rw[Xh em]); repeat' (with_reducible apply And.intro)
      all_goals first|exact h4|exact h9|exact hl'|exact ha'|exact hg'|exact hlay|with_reducible trivial|with_reducible rfl
   ·obtain⟨j,hj,hv,hn⟩:=XU _ _ hf
    have he:ZZ Ze Zc types nc data [] Za=2:=by unfold ZZ; rw[hl,ha,hf]; rfl
    have hh:=Zi4 a2 c2 em Ze Zc types nc data [] Za j hi.len hi.nums hj (by simpa using hv) (fun i hij=>by have:=hn i hij; simpa using this)
    rw[Zq] at hh
    refine X6 em (Zu ZK hb (QR _) 10) hh ?_ rfl rfl ?_
    ·unfold Qo Kn; rw[he]; rfl
    ·(try rw[Xh em]); repeat' (with_reducible apply And.intro)
     all_goals first|exact h4|exact h9|exact hl'|exact ha'|with_reducible trivial|with_reducible rfl
  ·have ha':(!!QF Ze Zc types nc Za.length)=true:=by rw[ha]; rfl
   have he:ZZ Ze Zc types nc data [] Za=2:=by unfold ZZ; rw[hl,ha]; rfl
   have hh:=Zi3 a2 c2 Ze Zc types nc data [] Za
   rw[Zq] at hh
   refine X6 em (Zu ZK hb (Zj _) 10) hh ?_ rfl rfl ?_
   ·unfold Qo Kn; rw[he]; rfl
   ·(try rw[Xh em]); repeat' (with_reducible apply And.intro)
    all_goals first|exact h4|exact h9|exact hl'|exact ha'|with_reducible trivial|with_reducible rfl
 ·have hl':(!!ZO nc data.length 0 Za.length)=true:=by rw[show ZO nc data.length 0 Za.length=true from hl]; rfl
  have he:ZZ Ze Zc types nc data [] Za=3:=by unfold ZZ; rw[hl]; rfl
  have hh:=Zhl a2 c2 Ze Zc types nc data [] Za
  rw[Zq] at hh
  refine X6 em (Zu ZK hb (Zj _) 10) hh ?_ rfl rfl ?_
  ·unfold Qo Kn; rw[he]; rfl
  ·(try rw[Xh em]); repeat' (with_reducible apply And.intro)
   all_goals first|exact h4|exact h9|exact hl'|with_reducible trivial|with_reducible rfl
theorem ZnJ:∀ l,l<67→(fun l=>Nat.blt l 68) l=true:=fun l hl=>Zt (by omega)
def Zbp (a2:Option Addr) (c2:Nat) (Ze Zc types:Int) (nc nr:Nat) (data:List UInt8) (Za:List Nat) (k:Nat):Sf :=
 ⟨68,[(1,.pointer (some ⟨67,0,none⟩)),(3,.int .i64 (k:Nat))],[(66,⟨false,some (0,0),Zk Za,none⟩),(67,⟨false,none,Zi1 a2 c2 Ze Zc types nc nr Za.length data,none⟩)],[]⟩
theorem Zhm (a2:Option Addr) (c2:Nat) (Ze:Int) (Zc:Int) (types:Int) (nc:Nat) (nr:Nat) (data:List UInt8) (Za:List Nat) (k:Nat):evC Tryz.prog (evF Tryz.prog ZD Zf 100 3) (Zf 55) 112 100 (ZB Tryz.prog 55 0) (Sf.frT 112 (Zbp a2 c2 Ze Zc types nc nr data Za k) [(0,true),(1,false)])=some (Exit.normal,{ e:=mkE 112 [(1,.pointer (some ⟨67,0,none⟩)),(3,.int .i64 (i64.wrap ((↑k:Int)+(1:Int)))),(75,.int .i64 (↑k)),(76,.pointer (some { block:=67,off:=6 })),(77,.slice (some ⟨66,0,none⟩) Za.length 9223372036854775874),(78,.int .i64 (↑Za.length)),(79,.bool (decide ((↑k:Int)<(↑Za.length:Int)))),(80,Value.int .i64 (↑k)),(81,.int .i64 (i64.wrap ((↑k:Int)+(1:Int)))),(82,.pointer (some { block:=67,off:=6 })),(83,.slice (some ⟨66,0,none⟩) Za.length 9223372036854775874),(84,.int .i64 (↑k)),(85,.pointer (some { block:=66,off:=0+(↑k:Int).toNat*1 })),(86,.int .u32 (Zb (Zd undef (Zk Za) (0+(↑k:Int).toNat*1)))),(87,.int .u64 (u64.wrap (Zb (Zd undef (Zk Za) (0+(↑k:Int).toNat*1))))),(88,.pointer (some { block:=67,off:=3 })),(89,.slice (some ⟨64,0,none⟩) nc 9223372036854775872),(90,.int .i64 (↑nc)),(91,.int .u64 (u64.wrap (↑nc))),(92,.bool (decide (u64.wrap (Zb (Zd undef (Zk Za) (0+(↑k:Int).toNat*1)))≥u64.wrap (↑nc))))],s:={ n:=68,h:=[(66,⟨false,some (0,0),Zk Za,none⟩),(67,⟨false,none,[Value.int .i64 Ze,.int .i64 Zc,.int .i64 types,.slice (some ⟨64,0,none⟩) nc 9223372036854775872,.string ⟨⟨data⟩⟩,.slice a2 0 c2,.slice (some ⟨66,0,none⟩) Za.length 9223372036854775874],none⟩)],lo:=[],esc:=0,T:=[],k:=2,O:=(bif Qc (0+(↑k:Int).toNat*1+1) (Zk Za)&&Zs [Value.int .u32 0] (Zk Za) (0+(↑k:Int).toNat*1) then bif decide ((0:Int)≤(↑k:Int))&&decide ((↑k:Int)<(↑Za.length:Int)) then True∧decide ((↑k:Int)<(↑Za.length:Int))=true else False else False)∧decide (u64.wrap (Zb (Zd undef (Zk Za) (0+(↑k:Int).toNat*1)))≥u64.wrap (↑nc))=false:St }:Fr }):=by kernel_rfl
theorem Zi7 (a2:Option Addr) (c2:Nat) (Ze:Int) (Zc:Int) (types:Int) (nc:Nat) (nr:Nat) (data:List UInt8) (Za:List Nat) (k:Nat):evC Tryz.prog (evF Tryz.prog ZD Zf 100 3) (Zf 55) 112 100 (ZB Tryz.prog 55 0) (Sf.frT 112 (Zbp a2 c2 Ze Zc types nc nr data Za k) [(0,true),(1,true)])=some (Exit.ret,{ e:=mkE 112 [(1,.pointer (some ⟨67,0,none⟩)),(2,.int .i64 2),(3,.int .i64 (↑k)),(75,.int .i64 (↑k)),(76,.pointer (some { block:=67,off:=6 })),(77,.slice (some ⟨66,0,none⟩) Za.length 9223372036854775874),(78,.int .i64 (↑Za.length)),(79,.bool (decide ((↑k:Int)<(↑Za.length:Int)))),(82,.pointer (some { block:=67,off:=6 })),(83,.slice (some ⟨66,0,none⟩) Za.length 9223372036854775874),(84,.int .i64 (↑k)),(85,.pointer (some { block:=66,off:=0+(↑k:Int).toNat*1 })),(86,.int .u32 (Zb (Zd undef (Zk Za) (0+(↑k:Int).toNat*1)))),(87,.int .u64 (u64.wrap (Zb (Zd undef (Zk Za) (0+(↑k:Int).toNat*1))))),(88,.pointer (some { block:=67,off:=3 })),(89,.slice (some ⟨64,0,none⟩) nc 9223372036854775872),(90,.int .i64 (↑nc)),(91,.int .u64 (u64.wrap (↑nc))),(92,.bool (decide (u64.wrap (Zb (Zd undef (Zk Za) (0+(↑k:Int).toNat*1)))≥u64.wrap (↑nc))))],s:={ n:=68,h:=[(66,⟨false,some (0,0),Zk Za,none⟩),(67,⟨false,none,[Value.int .i64 Ze,.int .i64 Zc,.int .i64 types,.slice (some ⟨64,0,none⟩) nc 9223372036854775872,.string ⟨⟨data⟩⟩,.slice a2 0 c2,.slice (some ⟨66,0,none⟩) Za.length 9223372036854775874],none⟩)],lo:=[],esc:=0,T:=[],k:=2,O:=(bif Qc (0+(↑k:Int).toNat*1+1) (Zk Za)&&Zs [Value.int .u32 0] (Zk Za) (0+(↑k:Int).toNat*1) then bif decide ((0:Int)≤(↑k:Int))&&decide ((↑k:Int)<(↑Za.length:Int)) then True∧decide ((↑k:Int)<(↑Za.length:Int))=true else False else False)∧decide (u64.wrap (Zb (Zd undef (Zk Za) (0+(↑k:Int).toNat*1)))≥u64.wrap (↑nc))=true:St }:Fr }):=by kernel_rfl
theorem Zi8 (a2:Option Addr) (c2:Nat) (Ze:Int) (Zc:Int) (types:Int) (nc:Nat) (nr:Nat) (data:List UInt8) (Za:List Nat) (k:Nat):evC Tryz.prog (evF Tryz.prog ZD Zf 100 3) (Zf 55) 112 100 (ZB Tryz.prog 55 0) (Sf.frT 112 (Zbp a2 c2 Ze Zc types nc nr data Za k) [(0,false)])=some (Exit.exit 0,{ e:=mkE 112 [(1,.pointer (some ⟨67,0,none⟩)),(3,.int .i64 (↑k)),(75,.int .i64 (↑k)),(76,.pointer (some { block:=67,off:=6 })),(77,.slice (some ⟨66,0,none⟩) Za.length 9223372036854775874),(78,.int .i64 (↑Za.length)),(79,.bool (decide ((↑k:Int)<(↑Za.length:Int))))],s:={ n:=68,h:=[(66,⟨false,some (0,0),Zk Za,none⟩),(67,⟨false,none,[Value.int .i64 Ze,.int .i64 Zc,.int .i64 types,.slice (some ⟨64,0,none⟩) nc 9223372036854775872,.string ⟨⟨data⟩⟩,.slice a2 0 c2,.slice (some ⟨66,0,none⟩) Za.length 9223372036854775874],none⟩)],lo:=[],esc:=0,T:=[],k:=1,O:=True∧decide ((↑k:Int)<(↑Za.length:Int))=false:St }:Fr }):=by kernel_rfl
theorem Zj6 (a2:Option Addr) (c2:Nat) (em:X5 a2 c2) (Ze Zc types:Int) (nc nr:Nat) (data:List UInt8) (Za:List Nat) (k:Nat):(Zbp a2 c2 Ze Zc types nc nr data Za k).Wf :=
 ⟨by show NG≤68; decide,Sf.Ok.mk' 3 ⟨⟨rfl,rfl,Zv (Zg Za)⟩,⟨rfl,rfl,fun v hv=>ZM 3 v (List.all_eq_true.1 (Kq em ZnJ 3 Ze Zc types nc nr Za.length data) v hv)⟩,trivial⟩ rfl (fun x hx=>by
  have:(Zbp a2 c2 Ze Zc types nc nr data Za k).e.all (fun x=>okV (fun l=>Nat.blt l 68) 3 x.2)=true:=by kernel_rfl
  exact List.all_eq_true.1 this x hx)⟩
theorem Ks (a2:Option Addr) (c2:Nat) (em:X5 a2 c2) (Ze Zc types:Int) (nc nr:Nat) (data:List UInt8) (Za:List Nat) (k:Nat) (e:Sf) (hl:Za.length<9000000000000000000) (hc:nc<9000000000000000000) (hx:Za.getD k 0<4294967296) (hk:k<Za.length) (hv:Za.getD k 0<nc) (hn:e.n=68) (he:e.Ok (Z3 68 68 id (fun l=>Nat.blt l 68))) :
  ∃ g,evC Tryz.prog (evF Tryz.prog ZD Zf 100 3) (Zf 55) 112 100 (ZB Tryz.prog 55 0) ((Zbp a2 c2 Ze Zc types nc nr data Za k).frT 112 [(0,true),(1,false)])=some (.normal,g)∧g.s.O∧Sf.Leads 3 (fun l=>Nat.blt l 68) id (Zbp a2 c2 Ze Zc types nc nr data Za k) g (Zbp a2 c2 Ze Zc types nc nr data Za (k+1)) e:=by
 refine⟨_,Zhm a2 c2 Ze Zc types nc nr data Za k,?_,?_⟩
 ·simp only[rr, tt, Q8,Qd,Yn,Int.toNat_natCast,Nat.zero_add,Nat.mul_one]
  rw[K1 (x:=Za.getD k 0) (by omega),K1 (x:=nc) (by omega)]
  exact⟨Qi (by simp; omega) (Qi (by simp; omega) ⟨trivial,by simp; omega⟩),by simp only[rr, tt, decide_eq_false_iff_not]; omega⟩
 ·refine⟨fun _ _=>rfl,⟨⟨rfl,Zh (Zg Za),rfl,rfl,rfl,trivial,(Zi (Zg Za)).symm⟩,⟨rfl,Kq em ZnJ 3 Ze Zc types nc nr Za.length data,rfl,rfl,rfl,trivial,by rw[List.map_congr_left (fun v _=>Yd 3 v)]; simp only[rr, tt, List.map_id']; rfl⟩,trivial⟩,rfl,trivial,⟨⟨by kernel_rfl,by kernel_rfl⟩,⟨rfl,?_⟩,trivial⟩,Nat.le_refl _,fun l hl=>ZN hl,?_,?_⟩
  ·refine Eq.trans (b:=Value.int .i64 (i64.wrap ((k:Int)+1))) (by kernel_rfl) ?_
   rw[ZQ k (by omega)]; rfl
  ·rw[hn]; exact he
  ·intro x _ _; exact .inl rfl
theorem Zcg (a2:Option Addr) (c2:Nat) (em:X5 a2 c2) (Ze Zc types:Int) (nc nr:Nat) (data:List UInt8) (Za:List Nat) (k:Nat) (_:Za.length<9000000000000000000) (hc:nc<9000000000000000000) (hx:Za.getD k 0<4294967296) (hk:k<Za.length) (hv:nc≤Za.getD k 0) :
  ∃ g,evC Tryz.prog (evF Tryz.prog ZD Zf 100 3) (Zf 55) 112 100 (ZB Tryz.prog 55 0) ((Zbp a2 c2 Ze Zc types nc nr data Za k).frT 112 [(0,true),(1,true)])=some (.ret,g)∧g.s.O∧Sf.Leads 3 (fun l=>Nat.blt l 68) id (Zbp a2 c2 Ze Zc types nc nr data Za k) g ckF ckF:=by
 refine⟨_,Zi7 a2 c2 Ze Zc types nc nr data Za k,?_,?_⟩
 ·simp only[rr, tt, Q8,Qd,Yn,Int.toNat_natCast,Nat.zero_add,Nat.mul_one]
  rw[K1 (x:=Za.getD k 0) (by omega),K1 (x:=nc) (by omega)]
  exact⟨Qi (by simp; omega) (Qi (by simp; omega) ⟨trivial,by simp; omega⟩),by simp only[rr, tt, decide_eq_true_eq]; omega⟩
 ·exact⟨fun _ _=>rfl,trivial,rfl,trivial,⟨⟨by kernel_rfl,by kernel_rfl⟩,trivial⟩,Nat.le_refl _,fun l hl=>ZN hl,Zee,fun x hx=>by cases hx⟩
theorem Zch (a2:Option Addr) (c2:Nat) (em:X5 a2 c2) (Ze Zc types:Int) (nc nr:Nat) (data:List UInt8) (Za:List Nat) (k:Nat) (hk:k=Za.length) :
  ∃ g,evC Tryz.prog (evF Tryz.prog ZD Zf 100 3) (Zf 55) 112 100 (ZB Tryz.prog 55 0) ((Zbp a2 c2 Ze Zc types nc nr data Za k).frT 112 [(0,false)])=some (.exit 0,g)∧g.s.O∧Sf.Leads 3 (fun l=>Nat.blt l 68) id (Zbp a2 c2 Ze Zc types nc nr data Za k) g ckN ckN:=by
 refine⟨_,Zi8 a2 c2 Ze Zc types nc nr data Za k,?_,?_⟩
 ·subst hk; simp
 ·exact⟨fun _ _=>rfl,trivial,rfl,trivial,⟨⟨by kernel_rfl,by kernel_rfl⟩,trivial⟩,Nat.le_refl _,fun l hl=>ZN hl,Zef,fun x hx=>by cases hx⟩
theorem Zhn (a2:Option Addr) (c2:Nat) (em:X5 a2 c2) (Ze Zc types:Int) (nc nr:Nat) (data:List UInt8) (Za:List Nat) (j:Nat) (hl:Za.length<9000000000000000000) (hx:∀ x∈Za,x<4294967296) (hc:nc<9000000000000000000) (hj:j<Za.length) (hv:nc≤Za.getD j 0) (hn:∀ i,i<j→Za.getD i 0<nc) :
  ∀ x:{ k:Nat // k≤j },Qj Tryz.prog 112 (ZB Tryz.prog 55 0) ((Zbp a2 c2 Ze Zc types nc nr data Za x.1).fr 112) .ret (ckF.fr 112):=by
 have hx':∀ i,i<Za.length→Za.getD i 0<4294967296:=fun i hi=>by
  rw[List.getD_eq_getElem?_getD,List.getElem?_eq_getElem hi]; exact hx _ (List.getElem_mem hi)
 refine Yc (L:=100) (Zu (L:=100) ZK (Zx _) (Zj _) 3) (ZU _ _ 55) (fun _ h=>h) (X:={ k:Nat // k≤j }) (fun x=>Zbp a2 c2 Ze Zc types nc nr data Za x.1) (fun _=>ckF) (fun _ => .ret) (fun x=>j-x.1) (fun x=>Zj6 a2 c2 em Ze Zc types nc nr data Za x.1) ?_
 rintro⟨k,hk⟩
 by_cases h:k=j
 ·subst h
  obtain⟨g,h1,h2,h3⟩:=Zcg a2 c2 em Ze Zc types nc nr data Za k hl hc (hx' k hj) hj hv
  exact⟨_,.ret,g,3,_,_,h1,h2,.inr ⟨by simp,rfl,h3⟩⟩
 ·obtain⟨g,h1,h2,h3⟩:=Ks a2 c2 em Ze Zc types nc nr data Za k ckF hl hc (hx' k (by omega)) (by omega) (hn k (by omega)) rfl Zee
  exact⟨_,.normal,g,3,_,_,h1,h2,.inl ⟨rfl,⟨k+1,by omega⟩,by show j-(k+1)<j-k; omega,rfl,rfl,h3⟩⟩
theorem Zi9 (a2:Option Addr) (c2:Nat) (em:X5 a2 c2) (Ze Zc types:Int) (nc nr:Nat) (data:List UInt8) (Za:List Nat) (hl:Za.length<9000000000000000000) (hx:∀ x∈Za,x<4294967296) (hc:nc<9000000000000000000) (hn:∀ i,i<Za.length→Za.getD i 0<nc) :
  ∀ x:{ k:Nat // k≤Za.length },Qj Tryz.prog 112 (ZB Tryz.prog 55 0) ((Zbp a2 c2 Ze Zc types nc nr data Za x.1).fr 112) (.exit 0) (ckN.fr 112):=by
 have hx':∀ i,i<Za.length→Za.getD i 0<4294967296:=fun i hi=>by
  rw[List.getD_eq_getElem?_getD,List.getElem?_eq_getElem hi]; exact hx _ (List.getElem_mem hi)
 refine Yc (L:=100) (Zu (L:=100) ZK (Zx _) (Zj _) 3) (ZU _ _ 55) (fun _ h=>h) (X:={ k:Nat // k≤Za.length }) (fun x=>Zbp a2 c2 Ze Zc types nc nr data Za x.1) (fun _=>ckN) (fun _ => .exit 0) (fun x=>Za.length-x.1) (fun x=>Zj6 a2 c2 em Ze Zc types nc nr data Za x.1) ?_
 rintro⟨k,hk⟩
 by_cases h:k<Za.length
 ·obtain⟨g,h1,h2,h3⟩:=Ks a2 c2 em Ze Zc types nc nr data Za k ckN hl hc (hx' k h) h (hn k h) rfl Zef
  exact⟨_,.normal,g,3,_,_,h1,h2,.inl ⟨rfl,⟨k+1,by omega⟩,by show Za.length-(k+1)<Za.length-k; omega,rfl,rfl,h3⟩⟩
 ·obtain⟨g,h1,h2,h3⟩:=Zch a2 c2 em Ze Zc types nc nr data Za k (by omega)
  exact⟨_,.exit 0,g,3,_,_,h1,h2,.inr ⟨by simp,rfl,h3⟩⟩
def ZlU (a2:Option Addr) (c2:Nat) (em:X5 a2 c2) (Ze Zc types:Int) (nc nr:Nat) (data:List UInt8) (Za:List Nat) (j:Nat) (hl:Za.length<9000000000000000000) (hx:∀ x∈Za,x<4294967296) (hc:nc<9000000000000000000) (hj:j<Za.length) (hv:nc≤Za.getD j 0) (hn:∀ i,i<j→Za.getD i 0<nc):Ent Tryz.prog :=
 Vl Tryz.prog 55 0 112 (Zbp a2 c2 Ze Zc types nc nr data Za 0) .ret ckF (by kernel_rfl) (by kernel_rfl) (Zhn a2 c2 em Ze Zc types nc nr data Za j hl hx hc hj hv hn ⟨0,Nat.zero_le _⟩)
def Zho (a2:Option Addr) (c2:Nat) (em:X5 a2 c2) (Ze Zc types:Int) (nc nr:Nat) (data:List UInt8) (Za:List Nat) (hl:Za.length<9000000000000000000) (hx:∀ x∈Za,x<4294967296) (hc:nc<9000000000000000000) (hn:∀ i,i<Za.length→Za.getD i 0<nc):Ent Tryz.prog :=
 Vl Tryz.prog 55 0 112 (Zbp a2 c2 Ze Zc types nc nr data Za 0) (.exit 0) ckN (by kernel_rfl) (by kernel_rfl) (Zi9 a2 c2 em Ze Zc types nc nr data Za hl hx hc hn ⟨0,Nat.zero_le _⟩)
theorem Zci (a2:Option Addr) (c2:Nat) (Ze Zc types:Int) (nc nr ns:Nat) (data:List UInt8):evF Tryz.prog (ZH 3 Zc3) Zf 100 10 56 [Wo a2 c2 Ze Zc types nc nr ns data] ⟨67,[],[],0,[(0,true)],0,True⟩=some (Value.tuple { toList:=[Value.agg ⟨[.int .u32 0,.int .u32 0,.int .u32 0,.int .u32 0,.int .u32 0,.int .u32 0,.int .u32 0,.int .u32 0]⟩,.bool false] },{ n:=70,h:=[],lo:=[],esc:=0,T:=[],k:=1,O:=((True∧((0:Int)≤u32.wrap ((4:Int)*u32.wrap (↑nc))∧u32.wrap ((4:Int)*u32.wrap (↑nc))≤(100000:Int))∧(rr (Value.int .u32 (u32.wrap ((4:Int)*u32.wrap (↑nc))))∧True)∧True∧True)∧((0:Int)≤u32.wrap (↑(Zr data))∧u32.wrap (↑(Zr data))≤(100000:Int))∧(rr (Value.int .u32 (u32.wrap (↑(Zr data))))∧True)∧True∧True)∧decide (u32.wrap (u32.wrap (u32.wrap (u32.wrap (u32.wrap ((u32.wrap (u32.wrap ((↑(ZG (u32.wrap ((4:Int)*u32.wrap (↑nc))).toNat):Int)+(256:Int))-(1:Int))).tdiv (256:Int))*(256:Int))+(↑(ZG (u32.wrap (↑(Zr data))).toNat):Int))+u32.wrap (i64.wrap (Zc*(↑ns:Int))))+(256:Int))>u32.wrap (i64.wrap (Ze*(256:Int))))=true:St }):=by kernel_rfl
theorem Zdg (a2:Option Addr) (c2:Nat) (Ze Zc types:Int) (nc nr ns:Nat) (data:List UInt8):evF Tryz.prog (ZH 3 Zc3) Zf 100 10 56 [Wo a2 c2 Ze Zc types nc nr ns data] ⟨67,[],[],0,[(0,false)],0,True⟩=some (Value.tuple { toList:=[Value.agg ⟨[.int .u32 0,.int .u32 (↑(ZG (u32.wrap ((4:Int)*u32.wrap (↑nc))).toNat):Int),.int .u32 (u32.wrap (u32.wrap ((u32.wrap (u32.wrap ((↑(ZG (u32.wrap ((4:Int)*u32.wrap (↑nc))).toNat):Int)+(256:Int))-(1:Int))).tdiv (256:Int))*(256:Int))),.int .u32 (↑(ZG (u32.wrap (↑(Zr data))).toNat):Int),.int .u32 (u32.wrap (u32.wrap (u32.wrap ((u32.wrap (u32.wrap ((↑(ZG (u32.wrap ((4:Int)*u32.wrap (↑nc))).toNat):Int)+(256:Int))-(1:Int))).tdiv (256:Int))*(256:Int))+(↑(ZG (u32.wrap (↑(Zr data))).toNat):Int))),.int .u32 (u32.wrap (i64.wrap (Zc*(↑ns:Int)))),.int .u32 (u32.wrap (u32.wrap (u32.wrap (u32.wrap ((u32.wrap (u32.wrap ((↑(ZG (u32.wrap ((4:Int)*u32.wrap (↑nc))).toNat):Int)+(256:Int))-(1:Int))).tdiv (256:Int))*(256:Int))+(↑(ZG (u32.wrap (↑(Zr data))).toNat):Int))+u32.wrap (i64.wrap (Zc*(↑ns:Int))))),.int .u32 (u32.wrap (u32.wrap (i64.wrap (Ze*(256:Int)))-u32.wrap (u32.wrap (u32.wrap (u32.wrap ((u32.wrap (u32.wrap ((↑(ZG (u32.wrap ((4:Int)*u32.wrap (↑nc))).toNat):Int)+(256:Int))-(1:Int))).tdiv (256:Int))*(256:Int))+(↑(ZG (u32.wrap (↑(Zr data))).toNat):Int))+u32.wrap (i64.wrap (Zc*(↑ns:Int))))))]⟩,.bool true] },{ n:=70,h:=[],lo:=[],esc:=0,T:=[],k:=1,O:=((True∧((0:Int)≤u32.wrap ((4:Int)*u32.wrap (↑nc))∧u32.wrap ((4:Int)*u32.wrap (↑nc))≤(100000:Int))∧(rr (Value.int .u32 (u32.wrap ((4:Int)*u32.wrap (↑nc))))∧True)∧True∧True)∧((0:Int)≤u32.wrap (↑(Zr data))∧u32.wrap (↑(Zr data))≤(100000:Int))∧(rr (Value.int .u32 (u32.wrap (↑(Zr data))))∧True)∧True∧True)∧decide (u32.wrap (u32.wrap (u32.wrap (u32.wrap (u32.wrap ((u32.wrap (u32.wrap ((↑(ZG (u32.wrap ((4:Int)*u32.wrap (↑nc))).toNat):Int)+(256:Int))-(1:Int))).tdiv (256:Int))*(256:Int))+(↑(ZG (u32.wrap (↑(Zr data))).toNat):Int))+u32.wrap (i64.wrap (Zc*(↑ns:Int))))+(256:Int))>u32.wrap (i64.wrap (Ze*(256:Int))))=false:St }):=by kernel_rfl
theorem Zja (a2:Option Addr) (c2:Nat) (em:X5 a2 c2) (Ze Zc types:Int) (nc nr ns:Nat) (data:List UInt8) (h:Xr Ze Zc nc ns data.length):ConOk Tryz.prog 56 3 (Zhg a2 c2 Ze Zc types nc nr ns data):=by
 obtain⟨h1,h2,h3,h4,h5,h6,h7,h8⟩:=h
 obtain⟨p,rfl⟩:=Int.eq_ofNat_of_zero_le h1
 obtain⟨s,rfl⟩:=Int.eq_ofNat_of_zero_le h3
 have hs:=Km (s:=s) (ns:=ns) (by omega) h7
 have q1:=Xg (4*nc)
 have q2:=Xg data.length
 have m1:=Y0 (4*nc)
 have m2:=Y0 data.length
 have m3:s*ns%256=0:=by rw[Nat.mul_mod,show s%256=0 by omega]; simp
 have e1:u32.wrap ((4:Int)*u32.wrap (nc:Int))=((4*nc:Nat):Int):=by rw[IntKind.wrap_u32,IntKind.wrap_u32]; omega
 have e2:=VL data.length (by omega)
 have e3:i64.wrap ((s:Int)*(ns:Int))=((s*ns:Nat):Int):=by rw[Int.ofNat_mul_ofNat,wrap_i64 (by omega) (by omega)]
 have e4:u32.wrap (i64.wrap ((p:Int)*(256:Int)))=((p*256:Nat):Int):=by rw[wrap_i64 (by omega) (by omega),IntKind.wrap_u32]; omega
 have hd:=Zci a2 c2 (p:Int) (s:Int) types nc nr ns data
 have hk:=Zdg a2 c2 (p:Int) (s:Int) types nc nr ns data
 simp only[rr, tt, e1,Int.toNat_natCast,Zq,e2,Zea _ m1 (by omega),X4 (ZG (4*nc)) (ZG data.length) (by omega),e3,VL (s*ns) (by omega),X4 (ZG (4*nc)+ZG data.length) (s*ns) (by omega),e4] at hd hk
 cases hb:Zo (p:Int) (s:Int) nc ns data.length
 ·have hb':ZG (4*nc)+ZG data.length+s*ns+256≤p*256:=by
   unfold Zo ZX at hb; simp only[rr, tt, Int.toNat_natCast,decide_eq_false_iff_not] at hb; omega
  have e5:u32.wrap (((p*256:Nat):Int)-((ZG (4*nc)+ZG data.length+s*ns:Nat):Int))=((p*256-(ZG (4*nc)+ZG data.length+s*ns):Nat):Int):=by rw[IntKind.wrap_u32]; omega
  rw[e5] at hk
  refine Kr em (T:=[(0,false)]) hk ?_ ?_
  ·unfold Zcv Zg1
   rw[hb]
   rfl
  ·refine⟨⟨⟨trivial,⟨by omega,by omega⟩,⟨trivial,trivial⟩,trivial,trivial⟩,⟨by omega,by omega⟩,⟨trivial,trivial⟩,trivial,trivial⟩,?_⟩
   rw[IntKind.wrap_u32]
   simp only[rr, tt, decide_eq_false_iff_not]; omega
 ·have hb':¬ (ZG (4*nc)+ZG data.length+s*ns+256≤p*256):=by
   unfold Zo ZX at hb; simp only[rr, tt, Int.toNat_natCast,decide_eq_true_eq] at hb; omega
  refine Kr em (T:=[(0,true)]) hd ?_ ?_
  ·unfold Zcv Zg1
   rw[hb]
   rfl
  ·refine⟨⟨⟨trivial,⟨by omega,by omega⟩,⟨trivial,trivial⟩,trivial,trivial⟩,⟨by omega,by omega⟩,⟨trivial,trivial⟩,trivial,trivial⟩,?_⟩
   rw[IntKind.wrap_u32]
   simp only[rr, tt, decide_eq_true_eq]; omega
def Zdh (a2:Option Addr) (c2:Nat):WH:=fun f args _=>bif Nat.beq f 56 then
 match args with
 | [.agg ⟨[.int _ Ze,.int _ Zc,.int _ types,.slice (some _) nc _,.string ⟨⟨data⟩⟩,_,.slice (some _) ns _]⟩]=>some (Zhg a2 c2 Ze Zc types nc 0 ns data,[64,65,66],Xr Ze Zc nc ns data.length)
 | _=>none
 else none
theorem Zel (a2:Option Addr) (c2:Nat) (em:X5 a2 c2):YN Tryz.prog 3 (Zdh a2 c2):=by
 intro f args s c ρ q h hq
 unfold Zdh at h
 obtain⟨h2,h3⟩:=ZL h
 have h2:=eB h2
 subst h2
 split at h3
 ·cases h3
  exact Zja _ _ em _ _ _ _ _ _ _ hq
 ·cases h3
theorem ZlV (a2:Option Addr) (c2:Nat) (em:X5 a2 c2) (Ze Zc types:Int) (nc:Nat) (data:List UInt8) (Za:List Nat) (j:Nat) (hl:Za.length<9000000000000000000) (hx:∀ (x:Nat),x∈Za→x<4294967296) (hcn:nc<9000000000000000000) (hj:j<Za.length) (hv:nc≤Za.getD j 0) (hn:∀ (i:Nat),i<j→Za.getD i 0<nc):evF Tryz.prog (ZH 3 (Zdh a2 c2)) (Ut [ZlU a2 c2 em Ze Zc types nc 0 data Za j hl hx hcn hj hv hn]) 100 10 55 [Wo a2 c2 Ze Zc types nc 0 Za.length data] (Ul a2 c2 [] Za (tb 52 0))=some (Value.int .i64 2,{ n:=68,h:=[(66,⟨false,some (0,0),Zk Za,none⟩)],lo:=[],esc:=0,T:=[],k:=52,O:=((((((((((((((((((((((((((((((((((((((((((((((((((((True∧decide ((↑nc:Int)>(4096:Int))=false)∧decide ((↑nc:Int)>(4096:Int))=false)∧decide ((↑nc:Int)>(4096:Int))=false)∧decide ((↑nc:Int)>(4096:Int))=false)∧decide ((↑nc:Int)>(4096:Int))=false)∧decide ((↑(Zr data):Int)>(16384:Int))=false)∧decide ((↑(Zr data):Int)>(16384:Int))=false)∧decide ((↑(Zr data):Int)>(16384:Int))=false)∧decide ((↑(Zr data):Int)>(16384:Int))=false)∧decide ((↑(Zr data):Int)>(16384:Int))=false)∧rr false)∧rr false)∧rr false)∧rr false)∧rr false)∧decide ((↑Za.length:Int)>(4:Int))=false)∧decide (Ze<(16:Int))=false)∧decide (Ze<(16:Int))=false)∧decide (Ze<(16:Int))=false)∧decide (Ze<(16:Int))=false)∧decide (Ze>(1024:Int))=false)∧decide (Ze>(1024:Int))=false)∧decide (Ze>(1024:Int))=false)∧decide (Ze>(1024:Int))=false)∧decide (Zc<(256:Int))=false)∧decide (Zc<(256:Int))=false)∧decide (Zc<(256:Int))=false)∧decide (Zc<(256:Int))=false)∧decide (Zc>(4096:Int))=false)∧decide (Zc>(4096:Int))=false)∧decide (Zc>(4096:Int))=false)∧decide (Zc>(4096:Int))=false)∧decide (Zc>(4096:Int))=false)∧(Zc.tmod (256:Int) !=(0:Int))=false)∧(Zc.tmod (256:Int) !=(0:Int))=false)∧(Zc.tmod (256:Int) !=(0:Int))=false)∧(Zc.tmod (256:Int) !=(0:Int))=false)∧decide (types<(0:Int))=false)∧decide (types<(0:Int))=false)∧decide (types<(0:Int))=false)∧decide (types<(0:Int))=false)∧decide (types>(2048:Int))=false)∧decide (types>(2048:Int))=false)∧decide (types>(2048:Int))=false)∧decide (types>(2048:Int))=false)∧decide (types>(2048:Int))=false)∧((↑nc:Int)==(0:Int))=false)∧((↑nc:Int)==(0:Int))=false)∧((↑nc:Int)==(0:Int))=false)∧((↑nc:Int)==(0:Int))=false)∧((↑nc:Int)==(0:Int))=false)∧((↑Za.length:Int)==(0:Int))=false)∧(rr (Value.pointer (some ⟨67,0,none⟩))∧rr (Value.int .i64 0)∧True)∧((tt∧tt∧True∧rr (Zk Za))∧(tt∧tt∧True∧rr [Value.int .i64 Ze,.int .i64 Zc,.int .i64 types,.slice (some ⟨64,0,none⟩) nc 9223372036854775872,.string ⟨⟨data⟩⟩,.slice a2 0 c2,.slice (some ⟨66,0,none⟩) Za.length 9223372036854775874])∧True)∧True∧True:St }):=by kernel_rfl
theorem ZlW (a2:Option Addr) (c2:Nat) (em:X5 a2 c2) (Ze Zc types:Int) (nc:Nat) (data:List UInt8) (Za:List Nat) (hl:Za.length<9000000000000000000) (hx:∀ (x:Nat),x∈Za→x<4294967296) (hcn:nc<9000000000000000000) (hn:∀ (i:Nat),i<Za.length→Za.getD i 0<nc):evF Tryz.prog (ZH 3 (Zdh a2 c2)) (Ut [Zho a2 c2 em Ze Zc types nc 0 data Za hl hx hcn hn]) 100 10 55 [Wo a2 c2 Ze Zc types nc 0 Za.length data] (Ul a2 c2 [] Za (tb 53 4503599627370496))=some (Value.int .i64 13,{ n:=69,h:=[(66,⟨false,some (0,0),Zk Za,none⟩)],lo:=[],esc:=0,T:=[],k:=53,O:=((((((((((((((((((((((((((((((((((((((((((((((((((((((True∧decide ((↑nc:Int)>(4096:Int))=false)∧decide ((↑nc:Int)>(4096:Int))=false)∧decide ((↑nc:Int)>(4096:Int))=false)∧decide ((↑nc:Int)>(4096:Int))=false)∧decide ((↑nc:Int)>(4096:Int))=false)∧decide ((↑(Zr data):Int)>(16384:Int))=false)∧decide ((↑(Zr data):Int)>(16384:Int))=false)∧decide ((↑(Zr data):Int)>(16384:Int))=false)∧decide ((↑(Zr data):Int)>(16384:Int))=false)∧decide ((↑(Zr data):Int)>(16384:Int))=false)∧rr false)∧rr false)∧rr false)∧rr false)∧rr false)∧decide ((↑Za.length:Int)>(4:Int))=false)∧decide (Ze<(16:Int))=false)∧decide (Ze<(16:Int))=false)∧decide (Ze<(16:Int))=false)∧decide (Ze<(16:Int))=false)∧decide (Ze>(1024:Int))=false)∧decide (Ze>(1024:Int))=false)∧decide (Ze>(1024:Int))=false)∧decide (Ze>(1024:Int))=false)∧decide (Zc<(256:Int))=false)∧decide (Zc<(256:Int))=false)∧decide (Zc<(256:Int))=false)∧decide (Zc<(256:Int))=false)∧decide (Zc>(4096:Int))=false)∧decide (Zc>(4096:Int))=false)∧decide (Zc>(4096:Int))=false)∧decide (Zc>(4096:Int))=false)∧decide (Zc>(4096:Int))=false)∧(Zc.tmod (256:Int) !=(0:Int))=false)∧(Zc.tmod (256:Int) !=(0:Int))=false)∧(Zc.tmod (256:Int) !=(0:Int))=false)∧(Zc.tmod (256:Int) !=(0:Int))=false)∧decide (types<(0:Int))=false)∧decide (types<(0:Int))=false)∧decide (types<(0:Int))=false)∧decide (types<(0:Int))=false)∧decide (types>(2048:Int))=false)∧decide (types>(2048:Int))=false)∧decide (types>(2048:Int))=false)∧decide (types>(2048:Int))=false)∧decide (types>(2048:Int))=false)∧((↑nc:Int)==(0:Int))=false)∧((↑nc:Int)==(0:Int))=false)∧((↑nc:Int)==(0:Int))=false)∧((↑nc:Int)==(0:Int))=false)∧((↑nc:Int)==(0:Int))=false)∧((↑Za.length:Int)==(0:Int))=false)∧(rr (Value.pointer (some ⟨67,0,none⟩))∧rr (Value.int .i64 0)∧True)∧((tt∧tt∧True∧rr (Zk Za))∧(tt∧tt∧True∧rr [Value.int .i64 Ze,.int .i64 Zc,.int .i64 types,.slice (some ⟨64,0,none⟩) nc 9223372036854775872,.string ⟨⟨data⟩⟩,.slice a2 0 c2,.slice (some ⟨66,0,none⟩) Za.length 9223372036854775874])∧True)∧True∧True)∧Xr Ze Zc nc Za.length data.length∧(Value.agg ⟨[.int .i64 Ze,.int .i64 Zc,.int .i64 types,.slice (some ⟨64,0,none⟩) nc 9223372036854775872,.string ⟨⟨data⟩⟩,.slice a2 0 c2,.slice (some ⟨66,0,none⟩) Za.length 9223372036854775874]⟩=Value.agg ⟨[.int .i64 Ze,.int .i64 Zc,.int .i64 types,.slice (some ⟨64,0,none⟩) nc 9223372036854775872,.string ⟨⟨data⟩⟩,.slice (Option.map (rnA (lift 67 68 [64,65,66])) a2) 0 (rnC (lift 67 68 [64,65,66]) c2),.slice (some ⟨66,0,none⟩) Za.length 9223372036854775874]⟩∧True)∧True∧True)∧(!!Zo Ze Zc nc Za.length data.length)=true:St }):=by kernel_rfl
theorem ZnK (a2:Option Addr) (c2:Nat) (em:X5 a2 c2) (Ze Zc types:Int) (nc:Nat) (data:List UInt8) (Za:List Nat) (hl:Za.length<9000000000000000000) (hx:∀ (x:Nat),x∈Za→x<4294967296) (hcn:nc<9000000000000000000) (hn:∀ (i:Nat),i<Za.length→Za.getD i 0<nc):evF Tryz.prog (ZH 3 (Zdh a2 c2)) (Ut [Zho a2 c2 em Ze Zc types nc 0 data Za hl hx hcn hn]) 100 10 55 [Wo a2 c2 Ze Zc types nc 0 Za.length data] (Ul a2 c2 [] Za (tb 53 0))=some (Value.int .i64 0,{ n:=69,h:=[(66,⟨false,some (0,0),Zk Za,none⟩)],lo:=[],esc:=0,T:=[],k:=53,O:=((((((((((((((((((((((((((((((((((((((((((((((((((((((True∧decide ((↑nc:Int)>(4096:Int))=false)∧decide ((↑nc:Int)>(4096:Int))=false)∧decide ((↑nc:Int)>(4096:Int))=false)∧decide ((↑nc:Int)>(4096:Int))=false)∧decide ((↑nc:Int)>(4096:Int))=false)∧decide ((↑(Zr data):Int)>(16384:Int))=false)∧decide ((↑(Zr data):Int)>(16384:Int))=false)∧decide ((↑(Zr data):Int)>(16384:Int))=false)∧decide ((↑(Zr data):Int)>(16384:Int))=false)∧decide ((↑(Zr data):Int)>(16384:Int))=false)∧rr false)∧rr false)∧rr false)∧rr false)∧rr false)∧decide ((↑Za.length:Int)>(4:Int))=false)∧decide (Ze<(16:Int))=false)∧decide (Ze<(16:Int))=false)∧decide (Ze<(16:Int))=false)∧decide (Ze<(16:Int))=false)∧decide (Ze>(1024:Int))=false)∧decide (Ze>(1024:Int))=false)∧decide (Ze>(1024:Int))=false)∧decide (Ze>(1024:Int))=false)∧decide (Zc<(256:Int))=false)∧decide (Zc<(256:Int))=false)∧decide (Zc<(256:Int))=false)∧decide (Zc<(256:Int))=false)∧decide (Zc>(4096:Int))=false)∧decide (Zc>(4096:Int))=false)∧decide (Zc>(4096:Int))=false)∧decide (Zc>(4096:Int))=false)∧decide (Zc>(4096:Int))=false)∧(Zc.tmod (256:Int) !=(0:Int))=false)∧(Zc.tmod (256:Int) !=(0:Int))=false)∧(Zc.tmod (256:Int) !=(0:Int))=false)∧(Zc.tmod (256:Int) !=(0:Int))=false)∧decide (types<(0:Int))=false)∧decide (types<(0:Int))=false)∧decide (types<(0:Int))=false)∧decide (types<(0:Int))=false)∧decide (types>(2048:Int))=false)∧decide (types>(2048:Int))=false)∧decide (types>(2048:Int))=false)∧decide (types>(2048:Int))=false)∧decide (types>(2048:Int))=false)∧((↑nc:Int)==(0:Int))=false)∧((↑nc:Int)==(0:Int))=false)∧((↑nc:Int)==(0:Int))=false)∧((↑nc:Int)==(0:Int))=false)∧((↑nc:Int)==(0:Int))=false)∧((↑Za.length:Int)==(0:Int))=false)∧(rr (Value.pointer (some ⟨67,0,none⟩))∧rr (Value.int .i64 0)∧True)∧((tt∧tt∧True∧rr (Zk Za))∧(tt∧tt∧True∧rr [Value.int .i64 Ze,.int .i64 Zc,.int .i64 types,.slice (some ⟨64,0,none⟩) nc 9223372036854775872,.string ⟨⟨data⟩⟩,.slice a2 0 c2,.slice (some ⟨66,0,none⟩) Za.length 9223372036854775874])∧True)∧True∧True)∧Xr Ze Zc nc Za.length data.length∧(Value.agg ⟨[.int .i64 Ze,.int .i64 Zc,.int .i64 types,.slice (some ⟨64,0,none⟩) nc 9223372036854775872,.string ⟨⟨data⟩⟩,.slice a2 0 c2,.slice (some ⟨66,0,none⟩) Za.length 9223372036854775874]⟩=Value.agg ⟨[.int .i64 Ze,.int .i64 Zc,.int .i64 types,.slice (some ⟨64,0,none⟩) nc 9223372036854775872,.string ⟨⟨data⟩⟩,.slice (Option.map (rnA (lift 67 68 [64,65,66])) a2) 0 (rnC (lift 67 68 [64,65,66]) c2),.slice (some ⟨66,0,none⟩) Za.length 9223372036854775874]⟩∧True)∧True∧True)∧(!!Zo Ze Zc nc Za.length data.length)=false:St }):=by kernel_rfl
theorem Zhp (a2:Option Addr) (c2:Nat) (em:X5 a2 c2) (Ze Zc types:Int) (nc:Nat) (data:List UInt8) (Za:List Nat) (hi:ImOk [] Za) (hl:ZO nc data.length 0 Za.length=false) (ha:QF Ze Zc types nc Za.length=false) :
  ConOk Tryz.prog 55 3 (ZnI a2 c2 Ze Zc types nc data [] Za (.int .i64 (ZZ Ze Zc types nc data [] Za:Nat))):=by
 have hb:=Z1 (d:=3) (Zel a2 c2 em)
 have hlay:=VO (nr:=0) hl ha
 have hcn:nc<9000000000000000000:=by have:=hlay.2.2.2.2.2.1; omega
 have hl0:ZO nc data.length ([]:List Rl).length Za.length=false:=hl
 have hl':=hl
 have ha':=ha
 simp only[rr, tt, ZO,Bool.or_eq_false_iff] at hl'
 simp only[rr, tt, QF,Bool.or_eq_false_iff] at ha'
 cases hf:UC nc Za
 ·have hn:∀ i,i<Za.length→Za.getD i 0<nc:=fun i hi=>by
   have:=VN hf i hi; simpa using this
  cases hg:Zo Ze Zc nc Za.length data.length
  ·have he:ZZ Ze Zc types nc data [] Za=0:=by unfold ZZ; rw[hl0,ha,hf,hg]; rfl
   have hh:=ZnK a2 c2 em Ze Zc types nc data Za hi.len hi.nums hcn hn
   try rw[Zq] at hh
   refine X6 em (Zu ZK hb (QR _) 10) hh ?_ rfl rfl ?_
   ·rw[he]; rfl
   ·(try rw[Xh em]); simp only[rr, tt, Bool.not_false,Bool.not_true,hg,hl',ha']
    repeat' (with_reducible apply And.intro)
    all_goals first|exact hlay|with_reducible trivial|with_reducible rfl
  ·have he:ZZ Ze Zc types nc data [] Za=13:=by unfold ZZ; rw[hl0,ha,hf,hg]; rfl
   have hh:=ZlW a2 c2 em Ze Zc types nc data Za hi.len hi.nums hcn hn
   try rw[Zq] at hh
   refine X6 em (Zu ZK hb (QR _) 10) hh ?_ rfl rfl ?_
   ·rw[he]; rfl
   ·(try rw[Xh em]); simp only[rr, tt, Bool.not_false,Bool.not_true,hg,hl',ha']
    repeat' (with_reducible apply And.intro)
    all_goals first|exact hlay|with_reducible trivial|with_reducible rfl
 ·obtain⟨j,hj,hv,hn⟩:=XU _ _ hf
  have he:ZZ Ze Zc types nc data [] Za=2:=by unfold ZZ; rw[hl0,ha,hf]; rfl
  have hh:=ZlV a2 c2 em Ze Zc types nc data Za j hi.len hi.nums hcn hj (by simpa using hv) (fun i hij=>by have:=hn i hij; simpa using this)
  try rw[Zq] at hh
  refine X6 em (Zu ZK hb (QR _) 10) hh ?_ rfl rfl ?_
  ·rw[he]; rfl
  ·(try rw[Xh em]); simp only[rr, tt, Bool.not_false,Bool.not_true,hl',ha']
   repeat' (with_reducible apply And.intro)
   all_goals first|exact hlay|with_reducible trivial|with_reducible rfl
def imDY (a2:Option Addr) (c2:Nat) (Ze Zc types:Int) (nc:Nat) (data:List UInt8) (Za:List Nat) (v:Value):Con:={ ZnI a2 c2 Ze Zc types nc data [] Za v with h':=[] }
def Zbe (a2:Option Addr) (c2:Nat) (Za:List Nat):WH:=fun f args _=>bif Nat.beq f 55 then
 match args with
 | [.agg ⟨[.int _ Ze,.int _ Zc,.int _ types,.slice (some _) nc _,.string ⟨⟨data⟩⟩,_,.slice (some _) _ _]⟩]=>some (imDY a2 c2 Ze Zc types nc data Za (.int .i64 (ZZ Ze Zc types nc data [] Za:Nat)),[64,65,66],ImOk [] Za∧ZO nc data.length 0 Za.length=false∧QF Ze Zc types nc Za.length=false)
 | _=>none
 else none
theorem Zfg (a2:Option Addr) (c2:Nat) (em:X5 a2 c2) (Za:List Nat):YN Tryz.prog 3 (Zbe a2 c2 Za):=by
 intro f args s c ρ q h hq
 unfold Zbe at h
 obtain⟨h2,h3⟩:=ZL h
 have h2:=eB h2
 subst h2
 split at h3
 ·cases h3
  obtain⟨q1,q2,q3⟩:=hq
  exact(Zhp a2 c2 em _ _ _ _ _ Za q1 q2 q3).drop
 ·cases h3
theorem ZlX (a2:Option Addr) (c2:Nat) (Ze Zc types:Int) (nc:Nat) (data:List UInt8) (Za:List Nat):evF Tryz.prog (ZeT 3 (Zbe a2 c2 Za) (ZH 3 (Zdh a2 c2))) Zf 100 10 16 [Wo a2 c2 Ze Zc types nc 0 Za.length data] (Ul a2 c2 [] Za [(0,true)])=some (Value.tuple { toList:=[Value.agg ⟨[.int .u32 0,.int .u32 0,.int .u32 0,.int .u32 0,.int .u32 0,.int .u32 0,.int .u32 0,.int .u32 0]⟩,.int .i64 (↑(ZZ Ze Zc types nc data [] Za))] },{ n:=69,h:=[(66,⟨false,some (0,0),Zk Za,none⟩)],lo:=[],esc:=0,T:=[],k:=1,O:=(True∧(ImOk [] Za∧ZO nc data.length 0 Za.length=false∧QF Ze Zc types nc Za.length=false)∧(Value.agg ⟨[.int .i64 Ze,.int .i64 Zc,.int .i64 types,.slice (some ⟨64,0,none⟩) nc 9223372036854775872,.string ⟨⟨data⟩⟩,.slice a2 0 c2,.slice (some ⟨66,0,none⟩) Za.length 9223372036854775874]⟩=Value.agg ⟨[.int .i64 Ze,.int .i64 Zc,.int .i64 types,.slice (some ⟨64,0,none⟩) nc 9223372036854775872,.string ⟨⟨data⟩⟩,.slice (Option.map (rnA (lift 67 69 [64,65,66])) a2) 0 (rnC (lift 67 69 [64,65,66]) c2),.slice (some ⟨66,0,none⟩) Za.length 9223372036854775874]⟩∧True)∧(((tt∧(Zk Za).all (okV (fun l=>l.blt 67) 3)=true∧tt∧tt∧tt∧True∧Zk Za=List.map (rnV (lift 67 69 [64,65,66]) 3) (Zk Za))∧True)∧tt∧tt)∧True)∧((↑(ZZ Ze Zc types nc data [] Za):Int) !=(0:Int))=true:St }):=by kernel_rfl
theorem ZlY (a2:Option Addr) (c2:Nat) (Ze Zc types:Int) (nc:Nat) (data:List UInt8) (Za:List Nat):evF Tryz.prog (ZeT 3 (Zbe a2 c2 Za) (ZH 3 (Zdh a2 c2))) Zf 100 10 16 [Wo a2 c2 Ze Zc types nc 0 Za.length data] (Ul a2 c2 [] Za [(0,false)])=some (Value.tuple { toList:=[Value.agg ⟨[.int .u32 0,.int .u32 (pk (Zo Ze Zc nc Za.length data.length) (ZG (4*nc))),.int .u32 (pk (Zo Ze Zc nc Za.length data.length) (ZG (4*nc))),.int .u32 (pk (Zo Ze Zc nc Za.length data.length) (ZG data.length)),.int .u32 (pk (Zo Ze Zc nc Za.length data.length) (ZG (4*nc)+ZG data.length)),.int .u32 (pk (Zo Ze Zc nc Za.length data.length) (Zc.toNat*Za.length)),.int .u32 (pk (Zo Ze Zc nc Za.length data.length) (ZX Zc nc Za.length data.length)),.int .u32 (pk (Zo Ze Zc nc Za.length data.length) (Ze.toNat*256-ZX Zc nc Za.length data.length))]⟩,.int .i64 0] },{ n:=70,h:=[(66,⟨false,some (0,0),Zk Za,none⟩)],lo:=[],esc:=0,T:=[],k:=1,O:=((True∧(ImOk [] Za∧ZO nc data.length 0 Za.length=false∧QF Ze Zc types nc Za.length=false)∧(Value.agg ⟨[.int .i64 Ze,.int .i64 Zc,.int .i64 types,.slice (some ⟨64,0,none⟩) nc 9223372036854775872,.string ⟨⟨data⟩⟩,.slice a2 0 c2,.slice (some ⟨66,0,none⟩) Za.length 9223372036854775874]⟩=Value.agg ⟨[.int .i64 Ze,.int .i64 Zc,.int .i64 types,.slice (some ⟨64,0,none⟩) nc 9223372036854775872,.string ⟨⟨data⟩⟩,.slice (Option.map (rnA (lift 67 69 [64,65,66])) a2) 0 (rnC (lift 67 69 [64,65,66]) c2),.slice (some ⟨66,0,none⟩) Za.length 9223372036854775874]⟩∧True)∧(((tt∧(Zk Za).all (okV (fun l=>l.blt 67) 3)=true∧tt∧tt∧tt∧True∧Zk Za=List.map (rnV (lift 67 69 [64,65,66]) 3) (Zk Za))∧True)∧tt∧tt)∧True)∧((↑(ZZ Ze Zc types nc data [] Za):Int) !=(0:Int))=false)∧Xr Ze Zc nc Za.length data.length∧(Value.agg ⟨[.int .i64 Ze,.int .i64 Zc,.int .i64 types,.slice (some ⟨64,0,none⟩) nc 9223372036854775872,.string ⟨⟨data⟩⟩,.slice a2 0 c2,.slice (some ⟨66,0,none⟩) Za.length 9223372036854775874]⟩=Value.agg ⟨[.int .i64 Ze,.int .i64 Zc,.int .i64 types,.slice (some ⟨64,0,none⟩) nc 9223372036854775872,.string ⟨⟨data⟩⟩,.slice (Option.map (rnA (lift 67 69 [64,65,66])) a2) 0 (rnC (lift 67 69 [64,65,66]) c2),.slice (some ⟨66,0,none⟩) Za.length 9223372036854775874]⟩∧True)∧True∧True:St }):=by kernel_rfl
theorem Zcj (a2:Option Addr) (c2:Nat) (em:X5 a2 c2) (Ze Zc types:Int) (nc:Nat) (data:List UInt8) (Za:List Nat) (hi:ImOk [] Za) (hl:ZO nc data.length 0 Za.length=false) (ha:QF Ze Zc types nc Za.length=false) :
  ConOk Tryz.prog 16 3 (imDY a2 c2 Ze Zc types nc data Za (Qo Ze Zc types nc data [] Za)):=by
 have hr:=Zu (L:=100) ZK (ZdN (Zfg a2 c2 em Za) (Z1 (d:=3) (Zel a2 c2 em))) (Zj _) 10
 have hlay:=VO (nr:=0) hl ha
 have f3:∀ (xs:List Nat) (p:Nat→Bool),(Zk xs).all (okV p 3)=true:=fun xs p=>Zh (Zg _)
 have f4:∀ (xs:List Nat) (σ:Nat→Nat),(Zk xs).map (rnV σ 3)=Zk xs:=fun xs σ=>Zi (Zg _)
 by_cases he:ZZ Ze Zc types nc data [] Za=0
 ·have h0:(((ZZ Ze Zc types nc data [] Za:Nat):Int) !=0)=false:=by rw[he]; rfl
  obtain⟨hk,hg,_⟩:=Zeg Ze Zc types nc data [] Za he
  refine(X6 em (v':=Qo Ze Zc types nc data [] Za) (T:=[(0,false)]) hr (ZlY a2 c2 Ze Zc types nc data Za) ?_ rfl rfl ?_).drop
  ·unfold Qo Kn; rw[he,hg]; rfl
  ·(try simp only[rr, tt, Xh em]); simp only[rr, tt, f3,f4,h0,and_true,true_and,and_self]
   exact⟨⟨hi,hl,ha⟩,hlay⟩
 ·have h0:(((ZZ Ze Zc types nc data [] Za:Nat):Int) !=0)=true:=by simp; omega
  have hb0:Nat.beq (ZZ Ze Zc types nc data [] Za) 0=false:=by
   cases hb:Nat.beq (ZZ Ze Zc types nc data [] Za) 0
   ·rfl
   ·exact absurd (eB hb) he
  refine(X6 em (v':=Qo Ze Zc types nc data [] Za) (T:=[(0,true)]) hr (ZlX a2 c2 Ze Zc types nc data Za) ?_ rfl rfl ?_).drop
  ·unfold Qo Kn pe; simp only[rr, tt, hb0,cond_false]
  ·(try simp only[rr, tt, Xh em]); simp only[rr, tt, f3,f4,h0,and_true,true_and,and_self]
   exact⟨hi,hl,ha⟩
theorem YU {q:Nat→Bool} (h4:q 64=true) (h6:q 66=true) (p s t:Int) (d:List UInt8) {a2:Option Addr} {n2 c2:Nat} (ha:okV q 2 (.slice a2 n2 c2)=true) (nc ns:Nat):okV q 3 (Yj p s t d (some ⟨64,0,none⟩) a2 (some ⟨66,0,none⟩) nc n2 ns (big+64) c2 (big+66))=true:=by
 show List.all [Value.int .i64 p,.int .i64 s,.int .i64 t,.slice (some ⟨64,0,none⟩) nc (big+64),.string ⟨⟨d⟩⟩,.slice a2 n2 c2,.slice (some ⟨66,0,none⟩) ns (big+66)] (okV q 2)=true
 simp only[rr, tt, List.all_cons,List.all_nil,ha,Bool.and_true,Bool.true_and]
 simp[okV,QP,h4,h6,ZP,big]
theorem Zhq {q:Nat→Bool} (h:∀ l,l<67→q l=true) (rs:List Rl) (so:List Nat):OkH q (btH rs so) :=
 ⟨⟨h 65 (by omega),h 0 (by omega),Zv (ZC rs)⟩,⟨h 66 (by omega),h 0 (by omega),Zv (Zg so)⟩,trivial⟩
theorem Zdi {q:Nat→Bool} (h:∀ l,l<67→q l=true) (so:List Nat):OkH q (WM so):=⟨⟨h 66 (by omega),h 0 (by omega),Zv (Zg so)⟩,trivial⟩
structure LqOk (p s t:Nat) (cs:List Nat) (d:List UInt8) (so:List Nat) (c da ds sa ss ha hs:Nat):Prop where
 p1:16≤p
 p2:p≤1024
 s2:s≤4096
 t2:t≤2048
 n1:cs.length≤4096
 hso:∀ x∈so,x<4096
 hcs:∀ x∈cs,x<4294967296
 hc:4*cs.length≤c
 hda:da=c
 hds:d.length≤ds
 hsa:sa=c+ds
 fit:sa<p*256
theorem Zck (q:Nat→Bool) (h:∀ l,l<74→q l=true) (zs:List UInt8) (f:Nat→Bool) (N m n:Nat):∀ x∈VP zs f N m n,∀ v∈x.2.cells,okV q 3 v=true:=fun x hx v hv=>by
 simp only[rr, tt, VP,List.mem_cons,List.not_mem_nil,or_false] at hx
 rcases hx with rfl|rfl|rfl|rfl
 ·exact(Q3 (h 69 (by omega)) (h 70 (by omega)) (h 71 (by omega)) N m n).1 v hv
 ·exact(Q3 (h 69 (by omega)) (h 70 (by omega)) (h 71 (by omega)) N m n).2 v hv
 ·exact ZS (Z4 _ v hv) 3
 ·exact ZS (Zp zs v hv) 3
def zsB (p:Nat) (cs:List Nat) (da:Nat) (d:List UInt8):List UInt8:=QK da d (ZR cs cs.length (List.replicate (p*256) 0))
theorem WJ {p s t:Nat} {cs:List Nat} {d:List UInt8} {so:List Nat} {c da ds sa ss ha hs:Nat} (h:LqOk p s t cs d so c da ds sa ss ha hs):ArOk (zsB p cs da d) (p*256) (ZE p) (Zl p):=by
 have e0:=h.hc; have e2:=h.hda; have e3:=h.hds; have e4:=h.hsa; have e5:=h.fit; have e6:=h.p2
 have hz:=Qt p h.p1 h.p2
 have hzl:(ZR cs cs.length (List.replicate (p*256) 0)).length=p*256:=by rw[YA _ _ _ (by rw[hz.len]; omega),hz.len]
 exact⟨by unfold zsB; rw[Kg _ _ _ (by rw[hzl]; omega),hzl],hz.tags,hz.words,hz.few,hz.big⟩
theorem Vt {q:Nat→Bool} (h:∀ l,l<67→q l=true) (cs:List Nat) (rs:List Rl) (so:List Nat):OkH q (lqH cs rs so) :=
 ⟨⟨h 64 (by omega),h 0 (by omega),Zv (Zg cs)⟩,Zhq h rs so⟩
theorem X7 {q:Nat→Bool} (h:∀ l,l<67→q l=true) (cs:List Nat) (so:List Nat):OkH q (Zcf cs so) :=
 ⟨⟨h 64 (by omega),h 0 (by omega),Zv (Zg cs)⟩,Zdi h so⟩
def cpO:Cp:=⟨0,0,0,0,0,0,false⟩
def cpG (b a s p:Nat):Cp:=⟨gA b a s p,gE b a s p,gB b a s p,gT b a s p,gP b a s p,0,gV b a s p⟩
def cpPc (c to:Nat):Cp:=⟨to,mE 0 c 5,mB 0 c 5,mT 0 c 5,mP 0 c 5,0,adV (mA 0 c 5) (mE 0 c 5) (mB 0 c 5) (mT 0 c 5) 0 (mV 0 c 5) to⟩
def Zjb (c da ds sa s t:Nat) (so:List Nat) (k:Nat):List Cp:=[cpO,cpG ds da ds 27,cpG t 1 t 96,cpO,cpO,cpO,cpO,cpO,cpO,cpO,cpO,cpO,cpO,cpO,Jc (sa+k*s) s 27 0,cpO,cpPc c (4*so.getD k 0)]
def Zhr (c da ds sa s t:Nat) (so:List Nat):Nat→List Cp
 | 0=>[]
 | k+1=>Zhr c da ds sa s t so k++Zjb c da ds sa s t so k
theorem ZnL (c da ds sa s t:Nat) (so:List Nat) (k:Nat):frC c da ds sa s t so k=cpL (Zjb c da ds sa s t so k):=by
 simp only[rr, tt, frC,Zjb,cpL,List.flatMap_cons,List.flatMap_nil,List.append_nil,List.append_assoc]
 rfl
theorem XZ (c da ds sa s t:Nat) (so:List Nat):∀ j,frL c da ds sa s t so j=cpL (Zhr c da ds sa s t so j)
 | 0=>rfl
 | j+1=>by
  unfold frL Zhr
  rw[XZ c da ds sa s t so j,ZnL]
  unfold cpL
  rw[List.flatMap_append]
theorem Ju (c da ds sa s t:Nat) (so:List Nat):∀ j,(Zhr c da ds sa s t so j).length=17*j
 | 0=>rfl
 | j+1=>by unfold Zhr; rw[List.length_append,Ju c da ds sa s t so j]; simp[Zjb]; omega
def ZlZ (j:Nat):Value:=.tuple ⟨[.pointer (some ⟨72,0,none⟩),.slice (some ⟨73,0,none⟩) j (big+73),.int .i64 0]⟩
def Je (v:Value) (hh:Sy.Heap) (p:Nat) (zs:List UInt8) (f:Nat→Bool) (fl:List Cp) (j:Nat):Con :=
 ⟨[v],67,hh,[],ZlZ j,74,VP zs f (p*256) (ZE p) (Zl p)++[(73,⟨false,some (0,0),cpL fl,none⟩)],[(70,Zl p),(69,p*256)]⟩
theorem U3 (v:Value) (hh:Sy.Heap) (p:Nat) (zs:List UInt8) (f:Nat→Bool) (fl:List Cp) (j:Nat):FlatC (Je v hh p zs f fl j):=⟨fun x hx hne=>by
 simp only[rr, tt, Je,VP,List.cons_append,List.nil_append,List.mem_cons,List.not_mem_nil,or_false] at hx
 rcases hx with rfl|rfl|rfl|rfl|rfl
 ·exact absurd rfl hne
 ·exact absurd rfl hne
 ·exact Z4 _
 ·exact Zp _
 ·exact Z7 fl⟩
theorem Zbf {q:Nat→Bool} (j:Nat) (h:∀ l,l<74→q l=true):okV q 3 (ZlZ j)=true:=by
 have h2:=h 72 (by omega)
 have h3:=h 73 (by omega)
 simp[ZlZ,okV,QP,h2,h3,ZP,big]
theorem Y1 {v:Value} {hh:Sy.Heap} (p:Nat) (zs:List UInt8) (f:Nat→Bool) (fl:List Cp) (j:Nat) (hv:okV (fun l=>Nat.blt l 67) 3 v=true) (hk0:OkH (fun l=>Nat.blt l 67) hh):(Je v hh p zs f fl j).Wf 3:=by
 refine⟨by show 64≤67; omega,by show 67≤74; omega,hk0,rfl,rfl,rfl,by show(okV _ 3 v&&true)=true; rw[Bool.and_true]; exact hv,Zbf j Zeh,?_⟩
 intro x hx w hw
 simp only[rr, tt, Je,List.mem_append,List.mem_singleton] at hx
 rcases hx with hx|rfl
 ·exact Zck _ Zeh _ _ _ _ _ x hx w hw
 ·exact ZS (Z7 _ w hw) 3
theorem Zj7 (σ:Nat→Nat) (g:Nat):rnC σ (big+g)=big+σ g:=by
 unfold rnC
 rw[ZN (by omega:big≤big+g),show big+g-big=g from Nat.add_sub_cancel_left _ _]; rfl
theorem X8 {v:Value} {hh:Sy.Heap} (p:Nat) (zs:List UInt8) (f:Nat→Bool) (fl:List Cp) (j X:Nat) (hX:73≤X) (hno:Sy.look hh X=none) {s':Sy.St} {u:Value} {k:Sy.Blk} {ws cs:List Value} (hu:u = .tuple ⟨[.pointer (some ⟨72,0,none⟩),.slice (some ⟨X,0,none⟩) j (big+X),.int .i64 0]⟩) (h72:Sy.look s'.h 72=some ⟨true,none,[.pointer (some ⟨71,0,none⟩),.slice (some ⟨69,0,none⟩) (p*256) (big+69)],none⟩) (h71:Sy.look s'.h 71=some ⟨true,none,[.int .i64 (ZE p:Nat),.slice (some ⟨70,0,none⟩) (Zl p) (big+70)],none⟩)
  (h70:Sy.look s'.h 70=some ⟨true,some (70,1),ws,none⟩) (hws:ws=v64 (Zm f (Zl p))) (h69:Sy.look s'.h 69=some ⟨true,some (69,1),u8s zs,none⟩) (hk:Sy.look s'.h X=some k) (hc:k.cells=cs) (hcs:cs=cpL fl) (hi:k.it=none) (hlo:WX s'.lo 70 (Zl p)∧WX s'.lo 69 (p*256)):(Je v hh p zs f fl j).Ends 3 (fun l=>Nat.blt l 74) (toσ 73 X) u s':=by
 have hlow:∀ l,l<73→toσ 73 X l=l:=fun l hl=>if_neg (by omega)
 have h3:toσ 73 X 73=X:=if_pos rfl
 have hr:∀ l:List Value,(∀ w∈l,okV (fun l=>Nat.blt l 73) 3 w=true)→l.map (rnV (toσ 73 X) 3)=l:=fun l hl=>by
  rw[List.map_congr_left (g:=id) (fun w hw=>WI (p:=fun l=>Nat.blt l 73) (fun l hl=>hlow l (by simpa using hl)) 3 w (hl w hw))]
  simp
 have hc73:=Q3 (q:=fun l=>Nat.blt l 73) rfl rfl rfl (p*256) (ZE p) (Zl p)
 have hc74:=Q3 (q:=fun l=>Nat.blt l 74) rfl rfl rfl (p*256) (ZE p) (Zl p)
 have hkp:∀ l,l<73→Z3 67 74 (toσ 73 X) (fun l=>Nat.blt l 74) l=true:=fun l hl=>by
  show(Nat.blt l NG||(bif Nat.blt l 67 then(Nat.beq (toσ 73 X l) l&&Nat.blt l 74) else Nat.blt l 74))=true
  rw[hlow l hl,Zt (by omega:l<74),Nat.beq_refl]
  cases Nat.blt l NG<;>cases Nat.blt l 67<;>rfl
 have hk3:Z3 67 74 (toσ 73 X) (fun l=>Nat.blt l 74) 73=true:=rfl
 have hkA:∀ l,l<74→Z3 67 74 (toσ 73 X) (fun l=>Nat.blt l 74) l=true:=fun l hl=>by
  by_cases h:l=73
  ·subst h; exact hk3
  ·exact hkp l (by omega)
 refine⟨fun l hl=>hlow l (by have:NG=64:=rfl; omega),⟨⟨rfl,List.all_eq_true.2 hc74.1,rfl,?_⟩,⟨rfl,List.all_eq_true.2 hc74.2,rfl,?_⟩,⟨rfl,Zh (Z4 _),rfl,?_⟩,⟨rfl,Zh (Zp zs),rfl,?_⟩,⟨rfl,XX _ _,rfl,?_⟩,trivial⟩,?_,⟨⟨rfl,?_⟩,⟨rfl,?_⟩,trivial⟩,⟨Zbf j Zeh,?_⟩,rfl,?_,rfl,ZM 3 _ (Zbf j hkA),fun x hx hrw => ?_⟩
 ·show match Sy.look s'.h (toσ 73 X 72) with|none=>False|some k1=>_
  rw[hlow 72 (by omega),h72]; exact⟨rfl,rfl,trivial,(hr _ hc73.1).symm⟩
 ·show match Sy.look s'.h (toσ 73 X 71) with|none=>False|some k1=>_
  rw[hlow 71 (by omega),h71]; exact⟨rfl,rfl,trivial,(hr _ hc73.2).symm⟩
 ·show match Sy.look s'.h (toσ 73 X 70) with|none=>False|some k1=>_
  rw[hlow 70 (by omega),h70]
  refine⟨rfl,?_,trivial,?_⟩
  ·show(opB (some (70,1)) (some (toσ 73 X 70,1))||_)=true
   rw[hlow 70 (by omega)]; rfl
  ·show ws=_
   rw[Zi (Z4 _),hws]
 ·show match Sy.look s'.h (toσ 73 X 69) with|none=>False|some k1=>_
  rw[hlow 69 (by omega),h69]
  refine⟨rfl,?_,trivial,?_⟩
  ·show(opB (some (69,1)) (some (toσ 73 X 69,1))||_)=true
   rw[hlow 69 (by omega)]; rfl
  ·show u8s zs=_
   rw[Zi (Zp _)]
 ·show match Sy.look s'.h (toσ 73 X 73) with|none=>False|some k1=>_
  rw[h3,hk]
  exact⟨rfl,by simp[Vp,opB,Zaa],by rw[hi]; trivial,by rw[XW,hc,hcs]⟩
 ·have e:∀ a b:Nat,a≠b→Nat.beq a b=false:=fun a b h=>by
   cases hb:Nat.beq a b
   ·rfl
   ·exact absurd (eB hb) h
  simp only[rr, tt, Je,VP,List.cons_append,List.nil_append,ZdJ,List.all_cons,List.all_nil,Bool.and_true,h3,hlow 72 (by omega),hlow 71 (by omega),hlow 70 (by omega),hlow 69 (by omega)]
  rw[e 72 71 (by omega),e 72 70 (by omega),e 72 69 (by omega),e 72 X (by omega),e 71 70 (by omega),e 71 69 (by omega),e 71 X (by omega),e 70 69 (by omega),e 70 X (by omega),e 69 X (by omega)]
  rfl
 ·rw[hlow 70 (by omega)]; exact hlo.1
 ·rw[hlow 69 (by omega)]; exact hlo.2
 ·rw[hu]
  show Value.tuple ⟨[.pointer (some ⟨72,0,none⟩),.slice (some ⟨X,0,none⟩) j (big+X),.int .i64 0]⟩ = .tuple ⟨[.pointer (some ⟨toσ 73 X 72,0,none⟩),.slice (some ⟨toσ 73 X 73,0,none⟩) j (rnC (toσ 73 X) (big+73)),.int .i64 0]⟩
  rw[Zj7,h3,hlow 72 (by omega)]
 ·exact Ko hkA _ _ _ _ _ ⟨⟨hk3,rfl,Zv (Z7 fl)⟩,trivial⟩
 ·simp only[rr, tt, Je,VP,List.cons_append,List.nil_append,List.mem_cons,List.not_mem_nil,or_false] at hx
  rcases hx with rfl|rfl|rfl|rfl|rfl
  ·cases hrw
  ·cases hrw
  ·cases hrw
  ·cases hrw
  ·right; rw[h3]; exact hno
def lsE (out:Value) (n k:Nat):List (Nat×Value):=[(1,.pointer (some ⟨67,0,none⟩)),(2,.pointer (some ⟨72,0,none⟩)),(3,out),(4,.int .i64 0),(5,.pointer (some ⟨68,0,none⟩)),(6,.pointer (some ⟨73,0,none⟩)),(79,.int .i64 (n:Nat)),(80,.int .i64 (k:Nat))]
def lsH (p s t:Nat) (nc:Nat) (d:List UInt8) (a2:Option Addr) (n2 c2:Nat) (c da ds sa ss ha hs:Nat) (so:List Nat):Sy.Heap:=[(73,⟨false,none,plQ (p:Nat) (s:Nat) (t:Nat) nc so.length d a2 n2 c2 (c:Nat) (da:Nat) (ds:Nat) (sa:Nat) (ss:Nat) (ha:Nat) (hs:Nat),none⟩),(66,⟨false,some (0,0),Zk so,none⟩)]
def lsN (p s t:Nat) (nc:Nat) (d:List UInt8) (a2:Option Addr) (n2 c2:Nat) (c da ds sa ss ha hs:Nat) (so:List Nat) (k:Nat):Sf:=⟨74,lsE (.slice none 0 0) so.length k,lsH p s t nc d a2 n2 c2 c da ds sa ss ha hs so,[]⟩
def lsY (p s t:Nat) (nc:Nat) (d:List UInt8) (a2:Option Addr) (n2 c2:Nat) (c da ds sa ss ha hs:Nat) (so:List Nat) (fl:List Value) (k:Nat):Sf:=⟨75,lsE (.slice (some ⟨74,0,none⟩) k (big+74)) so.length k,(74,⟨true,some (74,136),fl,none⟩)::lsH p s t nc d a2 n2 c2 c da ds sa ss ha hs so,[(74,k)]⟩
theorem ls_0 (p:Nat) (s:Nat) (t:Nat) (nc:Nat) (d:List UInt8) (a2:Option Addr) (n2:Nat) (c2:Nat) (c:Nat) (da:Nat) (ds:Nat) (sa:Nat) (ss:Nat) (ha:Nat) (hs:Nat) (so:List Nat) (k:Nat):evC Tryz.prog (evF Tryz.prog (QA 3 (ZT [(74,15,fqK p s t nc so.length d a2 n2 c2 c da ds sa ss ha hs so k,[64,65,66])]) ZD) Zf 100 20) (Zf 4) 92 100 (ZB Tryz.prog 4 2) (Sf.frT 92 (lsN p s t nc d a2 n2 c2 c da ds sa ss ha hs so k) [(0,true)])=some (Exit.normal,{ e:=mkE 92 [(1,.pointer (some ⟨67,0,none⟩)),(2,.pointer (some ⟨72,0,none⟩)),(3,.slice (some ⟨75,0,none⟩) 1 9223372036854775883),(4,.int .i64 0),(5,.pointer (some ⟨68,0,none⟩)),(6,.pointer (some ⟨73,0,none⟩)),(11,.int .i64 (↑k)),(79,.int .i64 (↑so.length)),(80,Value.int .i64 (i64.wrap ((↑k:Int)+(1:Int)))),(81,.bool (decide ((↑k:Int)<(↑so.length:Int)))),(82,.int .i64 (↑k)),(83,.slice none 0 0),(84,.agg ⟨[.int .i64 (↑p),.int .i64 (↑s),.int .i64 (↑t),.slice (some ⟨64,0,none⟩) nc 9223372036854775872,.string ⟨⟨d⟩⟩,.slice a2 n2 c2,.slice (some ⟨66,0,none⟩) so.length 9223372036854775874,.int .u32 0,.int .u32 (↑c),.int .u32 (↑da),.int .u32 (↑ds),.int .u32 (↑sa),.int .u32 (↑ss),.int .u32 (↑ha),.int .u32 (↑hs)]⟩),(85,.int .i64 (↑k)),(86,.agg { toList:=(frC c da ds sa s t so k) }),(87,.slice (some ⟨74,0,none⟩) 1 1),(88,.slice (some ⟨75,0,none⟩) 1 9223372036854775883),(89,.int .i64 (i64.wrap ((↑k:Int)+(1:Int))))],s:={ n:=76,h:=[(75,⟨true,some (75,136),(frC c da ds sa s t so k),none⟩),(74,⟨true,none,(frC c da ds sa s t so k),none⟩),(73,⟨false,none,[Value.int .i64 (↑p),.int .i64 (↑s),.int .i64 (↑t),.slice (some ⟨64,0,none⟩) nc 9223372036854775872,.string ⟨⟨d⟩⟩,.slice a2 n2 c2,.slice (some ⟨66,0,none⟩) so.length 9223372036854775874,.int .u32 0,.int .u32 (↑c),.int .u32 (↑da),.int .u32 (↑ds),.int .u32 (↑sa),.int .u32 (↑ss),.int .u32 (↑ha),.int .u32 (↑hs)],none⟩),(66,⟨false,some (0,0),Zk so,none⟩)],lo:=[(75,1)],esc:=0,T:=[],k:=1,O:=(True∧decide ((↑k:Int)<(↑so.length:Int))=true)∧True∧(Value.agg ⟨[.int .i64 (↑p),.int .i64 (↑s),.int .i64 (↑t),.slice (some ⟨64,0,none⟩) nc 9223372036854775872,.string ⟨⟨d⟩⟩,.slice a2 n2 c2,.slice (some ⟨66,0,none⟩) so.length 9223372036854775874,.int .u32 0,.int .u32 (↑c),.int .u32 (↑da),.int .u32 (↑ds),.int .u32 (↑sa),.int .u32 (↑ss),.int .u32 (↑ha),.int .u32 (↑hs)]⟩=Value.agg ⟨[.int .i64 (↑p),.int .i64 (↑s),.int .i64 (↑t),.slice (some ⟨64,0,none⟩) nc 9223372036854775872,.string ⟨⟨d⟩⟩,.slice (Option.map (rnA (lift 67 74 [64,65,66])) a2) n2 (rnC (lift 67 74 [64,65,66]) c2),.slice (some ⟨66,0,none⟩) so.length 9223372036854775874,.int .u32 0,.int .u32 (↑c),.int .u32 (↑da),.int .u32 (↑ds),.int .u32 (↑sa),.int .u32 (↑ss),.int .u32 (↑ha),.int .u32 (↑hs)]⟩∧rr (Value.int .i64 (↑k))∧True)∧((tt∧(Zk so).all (okV (fun l=>l.blt 67) 3)=true∧tt∧tt∧tt∧True∧Zk so=List.map (rnV (lift 67 74 [64,65,66]) 3) (Zk so))∧True)∧True:St }:Fr }):=by kernel_rfl
theorem ls_1 (p:Nat) (s:Nat) (t:Nat) (nc:Nat) (d:List UInt8) (a2:Option Addr) (n2:Nat) (c2:Nat) (c:Nat) (da:Nat) (ds:Nat) (sa:Nat) (ss:Nat) (ha:Nat) (hs:Nat) (so:List Nat) (fl:List Value) (k:Nat):evC Tryz.prog (evF Tryz.prog (QA 3 (ZT [(75,15,fqK p s t nc so.length d a2 n2 c2 c da ds sa ss ha hs so k,[64,65,66])]) ZD) Zf 100 20) (Zf 4) 92 100 (ZB Tryz.prog 4 2) (Sf.frT 92 (lsY p s t nc d a2 n2 c2 c da ds sa ss ha hs so fl k) [(0,true)])=some (Exit.normal,{ e:=mkE 92 [(1,.pointer (some ⟨67,0,none⟩)),(2,.pointer (some ⟨72,0,none⟩)),(3,.slice (some ⟨76,0,none⟩) (k+1) 9223372036854775884),(4,.int .i64 0),(5,.pointer (some ⟨68,0,none⟩)),(6,.pointer (some ⟨73,0,none⟩)),(11,.int .i64 (↑k)),(79,.int .i64 (↑so.length)),(80,Value.int .i64 (i64.wrap ((↑k:Int)+(1:Int)))),(81,.bool (decide ((↑k:Int)<(↑so.length:Int)))),(82,.int .i64 (↑k)),(83,.slice (some ⟨74,0,none⟩) k 9223372036854775882),(84,.agg ⟨[.int .i64 (↑p),.int .i64 (↑s),.int .i64 (↑t),.slice (some ⟨64,0,none⟩) nc 9223372036854775872,.string ⟨⟨d⟩⟩,.slice a2 n2 c2,.slice (some ⟨66,0,none⟩) so.length 9223372036854775874,.int .u32 0,.int .u32 (↑c),.int .u32 (↑da),.int .u32 (↑ds),.int .u32 (↑sa),.int .u32 (↑ss),.int .u32 (↑ha),.int .u32 (↑hs)]⟩),(85,.int .i64 (↑k)),(86,.agg { toList:=(frC c da ds sa s t so k) }),(87,.slice (some ⟨75,0,none⟩) 1 1),(88,.slice (some ⟨76,0,none⟩) (k+1) 9223372036854775884),(89,.int .i64 (i64.wrap ((↑k:Int)+(1:Int))))],s:={ n:=77,h:=[(76,⟨true,some (76,136),fl++(frC c da ds sa s t so k),none⟩),(75,⟨true,none,(frC c da ds sa s t so k),none⟩),(73,⟨false,none,[Value.int .i64 (↑p),.int .i64 (↑s),.int .i64 (↑t),.slice (some ⟨64,0,none⟩) nc 9223372036854775872,.string ⟨⟨d⟩⟩,.slice a2 n2 c2,.slice (some ⟨66,0,none⟩) so.length 9223372036854775874,.int .u32 0,.int .u32 (↑c),.int .u32 (↑da),.int .u32 (↑ds),.int .u32 (↑sa),.int .u32 (↑ss),.int .u32 (↑ha),.int .u32 (↑hs)],none⟩),(66,⟨false,some (0,0),Zk so,none⟩)],lo:=[(76,k+1),(74,k)],esc:=0,T:=[],k:=1,O:=bif (Zr fl).beq (k*136) then bif ((k+1)*408).ble 1099511627776&&(k+1).blt 4611686018427387904 then(True∧decide ((↑k:Int)<(↑so.length:Int))=true)∧True∧(Value.agg ⟨[.int .i64 (↑p),.int .i64 (↑s),.int .i64 (↑t),.slice (some ⟨64,0,none⟩) nc 9223372036854775872,.string ⟨⟨d⟩⟩,.slice a2 n2 c2,.slice (some ⟨66,0,none⟩) so.length 9223372036854775874,.int .u32 0,.int .u32 (↑c),.int .u32 (↑da),.int .u32 (↑ds),.int .u32 (↑sa),.int .u32 (↑ss),.int .u32 (↑ha),.int .u32 (↑hs)]⟩=Value.agg ⟨[.int .i64 (↑p),.int .i64 (↑s),.int .i64 (↑t),.slice (some ⟨64,0,none⟩) nc 9223372036854775872,.string ⟨⟨d⟩⟩,.slice (Option.map (rnA (lift 67 75 [64,65,66])) a2) n2 (rnC (lift 67 75 [64,65,66]) c2),.slice (some ⟨66,0,none⟩) so.length 9223372036854775874,.int .u32 0,.int .u32 (↑c),.int .u32 (↑da),.int .u32 (↑ds),.int .u32 (↑sa),.int .u32 (↑ss),.int .u32 (↑ha),.int .u32 (↑hs)]⟩∧rr (Value.int .i64 (↑k))∧True)∧((tt∧(Zk so).all (okV (fun l=>l.blt 67) 3)=true∧tt∧tt∧tt∧True∧Zk so=List.map (rnV (lift 67 75 [64,65,66]) 3) (Zk so))∧True)∧True else False else False:St }:Fr }):=by kernel_rfl
theorem ls_e (p:Nat) (s:Nat) (t:Nat) (nc:Nat) (d:List UInt8) (a2:Option Addr) (n2:Nat) (c2:Nat) (c:Nat) (da:Nat) (ds:Nat) (sa:Nat) (ss:Nat) (ha:Nat) (hs:Nat) (so:List Nat) (fl:List Value) (k:Nat):evC Tryz.prog (evF Tryz.prog ZD Zf 100 20) (Zf 4) 92 100 (ZB Tryz.prog 4 2) (Sf.frT 92 (lsY p s t nc d a2 n2 c2 c da ds sa ss ha hs so fl k) [(0,false)])=some (Exit.exit 4,{ e:=mkE 92 [(1,.pointer (some ⟨67,0,none⟩)),(2,.pointer (some ⟨72,0,none⟩)),(3,.slice (some ⟨74,0,none⟩) k 9223372036854775882),(4,.int .i64 0),(5,.pointer (some ⟨68,0,none⟩)),(6,.pointer (some ⟨73,0,none⟩)),(79,.int .i64 (↑so.length)),(80,Value.int .i64 (↑k)),(81,.bool (decide ((↑k:Int)<(↑so.length:Int))))],s:={ n:=75,h:=[(74,⟨true,some (74,136),fl,none⟩),(73,⟨false,none,[Value.int .i64 (↑p),.int .i64 (↑s),.int .i64 (↑t),.slice (some ⟨64,0,none⟩) nc 9223372036854775872,.string ⟨⟨d⟩⟩,.slice a2 n2 c2,.slice (some ⟨66,0,none⟩) so.length 9223372036854775874,.int .u32 0,.int .u32 (↑c),.int .u32 (↑da),.int .u32 (↑ds),.int .u32 (↑sa),.int .u32 (↑ss),.int .u32 (↑ha),.int .u32 (↑hs)],none⟩),(66,⟨false,some (0,0),Zk so,none⟩)],lo:=[(74,k)],esc:=0,T:=[],k:=1,O:=True∧decide ((↑k:Int)<(↑so.length:Int))=false:St }:Fr }):=by kernel_rfl
def U4 (a2:Option Addr) (n2 c2:Nat):Prop:=∀ (q:Nat→Bool) (d:Nat),(∀ l,l<67→q l=true)→okV q d (.slice a2 n2 c2)=true
theorem Zfh {a2:Option Addr} {n2 c2:Nat} (em:U4 a2 n2 c2) (n:Nat):Value.slice (a2.map (rnA (lift 67 n [64,65,66]))) n2 (rnC (lift 67 n [64,65,66]) c2) = .slice a2 n2 c2 :=
 WI (p:=fun l=>Nat.blt l 67) (σ:=lift 67 n [64,65,66]) (fun l hl=>ZaD (n:=67) (N:=n) (ρ:=[64,65,66]) rfl rfl (by simpa using hl)) 0 (.slice a2 n2 c2) (em _ 0 fun l hl=>Zt hl)
theorem VR (n:Nat):U4 (some ⟨65,0,none⟩) n (big+65):=fun q d hq=>by
 cases d<;>simp[okV,QP,hq 65 (by omega),ZP,big]
theorem Zhs (c da ds sa s t:Nat) (so:List Nat) (j:Nat):(frL c da ds sa s t so j).length=j*136:=by
 rw[XZ,KQ,Ju]; omega
theorem Xl (c da ds sa s t:Nat) (so:List Nat) (j:Nat):∀ v∈frL c da ds sa s t so j,ZP v=true:=fun v hv=>List.all_eq_true.1 (XY c da ds sa s t so j) v hv
def lsS (p s t:Nat) (nc:Nat) (d:List UInt8) (a2:Option Addr) (n2 c2:Nat) (c da ds sa ss ha hs:Nat) (so:List Nat):Nat→Sf
 | 0=>lsN p s t nc d a2 n2 c2 c da ds sa ss ha hs so 0
 | k+1=>lsY p s t nc d a2 n2 c2 c da ds sa ss ha hs so (frL c da ds sa s t so (k+1)) (k+1)
def lsF (c da ds sa s t:Nat) (so:List Nat):Sf:=⟨76,[(1,.pointer (some ⟨67,0,none⟩)),(2,.pointer (some ⟨72,0,none⟩)),(3,.slice (some ⟨75,0,none⟩) so.length (big+75)),(4,.int .i64 0),(5,.pointer (some ⟨68,0,none⟩)),(6,.pointer (some ⟨73,0,none⟩))],[(75,⟨true,some (75,136),frL c da ds sa s t so so.length,none⟩)],[(75,so.length)]⟩
theorem Zht (c da ds sa s t:Nat) (so:List Nat) (a:Nat) (ha:a=74∨a=75) (σ:Nat→Nat) (p:Nat→Bool) (hs:∀ l,l<74→σ l=l) (hp:∀ l,l<74→p l=true):(lsF c da ds sa s t so).Ok (Z3 a 76 σ p):=by
 have hlow:∀ l,l<74→Z3 a 76 σ p l=true:=fun l hl=>by
  unfold Z3
  rw[Zt (by omega:l<a),hs l hl,hp l hl,Nat.beq_refl]
  cases Nat.blt l NG<;>rfl
 have hq:Z3 a 76 σ p 75=true:=by
  unfold Z3
  rw[ZN (by omega:a≤75)]; rfl
 refine Sf.Ok.mk' 3 ⟨⟨hq,hq,Zv (Xl _ _ _ _ _ _ _ _)⟩,trivial⟩ (by show(Z3 a 76 σ p 75&&true)=true; rw[hq]; rfl) (fun x hx => ?_)
 have h7:=hlow 67 (by omega)
 have h2:=hlow 72 (by omega)
 have h8:=hlow 68 (by omega)
 have h3:=hlow 73 (by omega)
 simp only[rr, tt, lsF,List.mem_cons,List.not_mem_nil,or_false] at hx
 rcases hx with rfl|rfl|rfl|rfl|rfl|rfl<;>simp[okV,QP,h7,h2,h8,h3,hq,ZP,big]
theorem Zj8 {q:Nat→Bool} {a2:Option Addr} {n2 c2:Nat} (em:U4 a2 n2 c2) (h:∀ l,l<74→q l=true) (p s t:Nat) (nc:Nat) (d:List UInt8) (c da ds sa ss ha hs:Nat) (so:List Nat):OkH q (lsH p s t nc d a2 n2 c2 c da ds sa ss ha hs so) :=
 ⟨⟨h 73 (by omega),rfl,fun v hv=>ZM 3 v (Vk (em _ 3 fun l hl=>h l (by omega)) (h 64 (by omega)) (h 66 (by omega)) _ _ _ _ _ _ _ _ _ _ _ _ _ v hv)⟩,⟨h 66 (by omega),h 0 (by omega),Zv (Zg so)⟩,trivial⟩
theorem Zj9 {q:Nat→Bool} (out:Value) (n k:Nat) (h:∀ l,l<74→q l=true) (ho:okV q 3 out=true):∀ x∈lsE out n k,okV q 3 x.2=true:=fun x hx=>by
 have h7:=h 67 (by omega)
 have h2:=h 72 (by omega)
 have h8:=h 68 (by omega)
 have h3:=h 73 (by omega)
 simp only[rr, tt, lsE,List.mem_cons,List.not_mem_nil,or_false] at hx
 rcases hx with rfl|rfl|rfl|rfl|rfl|rfl|rfl|rfl
 all_goals first
  | exact ho
  | simp[okV,QP,h7,h2,h8,h3,ZP]
theorem ZnM (p s t:Nat) (nc:Nat) (d:List UInt8) {a2:Option Addr} {n2 c2:Nat} (em:U4 a2 n2 c2) (c da ds sa ss ha hs:Nat) (so:List Nat) (k:Nat):(lsS p s t nc d a2 n2 c2 c da ds sa ss ha hs so k).Wf:=by
 cases k with
 | zero=>exact⟨by show 64≤74; omega,Sf.Ok.mk' 3 (Zj8 em Zeh _ _ _ _ _ _ _ _ _ _ _ _ _) rfl (Zj9 _ _ _ Zeh rfl)⟩
 | succ k=>exact⟨by show 64≤75; omega,Sf.Ok.mk' 3 ⟨⟨rfl,rfl,Zv (Xl _ _ _ _ _ _ _ _)⟩,Zj8 em (fun l hl=>by show Nat.blt l 75=true; exact Zt (by omega)) _ _ _ _ _ _ _ _ _ _ _ _ _⟩ rfl (Zj9 _ _ _ (fun l hl=>by show Nat.blt l 75=true; exact Zt (by omega)) rfl)⟩
theorem Zem {h1:Sy.Heap} {q:Nat→Bool} {σ:Nat→Nat} {a2:Option Addr} {n2 c2:Nat} (em:U4 a2 n2 c2) (hq:∀ l,l<74→q l=true) (hs:∀ l,l<74→σ l=l) (p s t:Nat) (nc:Nat) (d:List UInt8) (c da ds sa ss ha hs':Nat) (so:List Nat)
  (h73:Sy.look h1 73=some ⟨false,none,plQ (p:Nat) (s:Nat) (t:Nat) nc so.length d a2 n2 c2 (c:Nat) (da:Nat) (ds:Nat) (sa:Nat) (ss:Nat) (ha:Nat) (hs':Nat),none⟩) (h66:Sy.look h1 66=some ⟨false,some (0,0),Zk so,none⟩):Ya 3 q σ h1 (lsH p s t nc d a2 n2 c2 c da ds sa ss ha hs' so):=by
 have hr:∀ l:List Value,(∀ w∈l,okV (fun l=>Nat.blt l 74) 3 w=true)→l.map (rnV σ 3)=l:=fun l hl=>by
  rw[List.map_congr_left (g:=id) (fun w hw=>WI (p:=fun l=>Nat.blt l 74) (fun l hl=>hs l (by simpa using hl)) 3 w (hl w hw))]
  simp
 refine⟨⟨hq 73 (by omega),List.all_eq_true.2 (Vk (em _ 3 fun l hl=>hq l (by omega)) (hq 64 (by omega)) (hq 66 (by omega)) _ _ _ _ _ _ _ _ _ _ _ _ _),rfl,?_⟩,⟨hq 66 (by omega),Zh (Zg so),hq 0 (by omega),?_⟩,trivial⟩
 ·show match Sy.look h1 (σ 73) with|none=>False|some k1=>_
  rw[hs 73 (by omega),h73]
  exact⟨rfl,rfl,trivial,(hr _ (Vk (em _ 3 fun l hl=>by show Nat.blt l 74=true; exact Zt (by omega)) rfl rfl _ _ _ _ _ _ _ _ _ _ _ _ _)).symm⟩
 ·show match Sy.look h1 (σ 66) with|none=>False|some k1=>_
  rw[hs 66 (by omega),h66]
  refine⟨rfl,?_,trivial,(Zi (Zg _)).symm⟩
  show(opB (some (0,0)) (some (σ 0,0))||_)=true
  rw[hs 0 (by omega)]; rfl
theorem Zl0 (p s t:Nat) (nc:Nat) (d:List UInt8) {a2:Option Addr} {n2 c2:Nat} (em:U4 a2 n2 c2) (c da ds sa ss ha hs:Nat) (so:List Nat) (h1:1≤so.length) (h4:so.length≤4) (hso:∀ x∈so,x<4096) (hc:c<500000) (hda:da<500000) (hds:ds<500000) (hsa:sa<500000) (hs2:s≤4096) (ht:t≤2048) :
  ∀ k:{ k:Nat // k≤so.length },Qj Tryz.prog 92 (ZB Tryz.prog 4 2) ((lsS p s t nc d a2 n2 c2 c da ds sa ss ha hs so k.1).fr 92) (.exit 4) ((lsF c da ds sa s t so).fr 92):=by
 refine Xn (L:=100) (ZU _ _ 4) (fun _ h=>h) (X:={ k:Nat // k≤so.length }) (fun k=>lsS p s t nc d a2 n2 c2 c da ds sa ss ha hs so k.1) (fun _=>lsF c da ds sa s t so) (fun _ => .exit 4) (fun k=>so.length-k.1) (fun k=>ZnM _ _ _ _ _ em _ _ _ _ _ _ _ _ _) ?_
 rintro⟨k,hk⟩
 have f3:∀ (xs:List Nat) (p:Nat→Bool),(Zk xs).all (okV p 3)=true:=fun xs p=>Zh (Zg _)
 have f4:∀ (xs:List Nat) (σ:Nat→Nat),(Zk xs).map (rnV σ 3)=Zk xs:=fun xs σ=>Zi (Zg _)
 by_cases hlt:k<so.length
 ·have hx:so.getD k 0<4096:=by
   rw[List.getD_eq_getElem?_getD,List.getElem?_eq_getElem hlt]; exact hso _ (List.getElem_mem hlt)
  have hcon:=ZjS p s t nc so.length d a2 n2 c2 c da ds sa ss ha hs so k (em _ 2 fun l hl=>Zt hl) hlt rfl h4 (by omega) hc hda hds hsa hs2 ht
  have e5:i64.wrap ((k:Int)+(1:Int))=((k+1:Nat):Int):=ZQ k (by omega)
  have d1:decide ((k:Int)<(so.length:Int))=true:=decide_eq_true (by omega)
  have hcon':∀ X:Nat,∀ x∈([(X,15,fqK p s t nc so.length d a2 n2 c2 c da ds sa ss ha hs so k,[64,65,66])]:Sy.Steps),ConOk Tryz.prog x.2.1 3 x.2.2.1∧FlatC x.2.2.1:=fun X x hx=>by
   obtain rfl:=List.mem_singleton.1 hx; exact hcon
  cases k with
  | zero =>
   have hr:=ls_0 p s t nc d a2 n2 c2 c da ds sa ss ha hs so 0
   simp only[rr, tt, e5] at hr
   refine⟨_,_,.normal,_,3,fun l=>Nat.blt l 75,toσ 74 75,Zu (L:=100) Zn (Qe (ZW (hcon' 74)) (Zx _)) (Zj _) 20,hr,?_,.inl ⟨rfl,⟨1,by omega⟩,by show so.length-1<so.length-0; omega,rfl,rfl,?_⟩⟩
   ·simp only[rr, tt, d1,f3,f4,Zfh em,and_true,true_and,and_self,Nat.le_refl]
   ·have hnf:([]:List Value)++frC c da ds sa s t so 0=frL c da ds sa s t so 1:=rfl
    refine⟨fun l hl=>if_neg (by have:NG=64:=rfl; omega),⟨⟨rfl,Zh (Xl _ _ _ _ _ _ _ _),rfl,?_⟩,Zem em (fun l hl=>by show Nat.blt l 75=true; exact Zt (by omega)) (fun l hl=>if_neg (by omega)) p s t nc d c da ds sa ss ha hs so rfl rfl⟩,rfl,⟨⟨rfl,Nat.le_refl _⟩,trivial⟩,⟨⟨by kernel_rfl,by kernel_rfl⟩,⟨by kernel_rfl,by kernel_rfl⟩,⟨by kernel_rfl,by kernel_rfl⟩,⟨by kernel_rfl,by kernel_rfl⟩,⟨by kernel_rfl,by kernel_rfl⟩,⟨by kernel_rfl,by kernel_rfl⟩,⟨by kernel_rfl,by kernel_rfl⟩,⟨by kernel_rfl,by kernel_rfl⟩,trivial⟩,by show 74≤75; omega,fun l hl=>ZN hl,Zht _ _ _ _ _ _ _ 74 (.inl rfl) _ _ (fun l hl=>if_neg (by omega)) (fun l hl=>by show Nat.blt l 75=true; exact Zt (by omega)),fun y hy hrw => ?_⟩
    ·exact⟨rfl,rfl,trivial,by rw[Zi (Xl _ _ _ _ _ _ _ _)]; rfl⟩
    ·rcases List.mem_cons.1 hy with rfl|hy
     ·cases hrw
     ·simp only[rr, tt, lsH,List.mem_cons,List.not_mem_nil,or_false] at hy
      rcases hy with rfl|rfl
      ·left; rfl
      ·left; rfl
  | succ k =>
   have hr:=ls_1 p s t nc d a2 n2 c2 c da ds sa ss ha hs so (frL c da ds sa s t so (k+1)) (k+1)
   simp only[rr, tt, e5] at hr
   refine⟨_,_,.normal,_,3,fun l=>Nat.blt l 75,toσ 74 76,Zu (L:=100) Zn (Qe (ZW (hcon' 75)) (Zx _)) (Zj _) 20,hr,?_,.inl ⟨rfl,⟨k+2,by omega⟩,by show so.length-(k+2)<so.length-(k+1); omega,rfl,rfl,?_⟩⟩
   ·show cond _ _ _
    rw[Zq,Zhs,Nat.beq_refl]
    show cond _ _ _
    rw[Nat.ble_eq_true_of_le (by omega),Zt (by omega)]
    simp only[rr, tt, d1,f3,f4,Zfh em,Bool.and_self,cond_true,and_true,true_and,and_self,Nat.le_refl]
   ·refine⟨fun l hl=>if_neg (by have:NG=64:=rfl; omega),⟨⟨rfl,Zh (Xl _ _ _ _ _ _ _ _),rfl,?_⟩,Zem em (fun l hl=>by show Nat.blt l 75=true; exact Zt (by omega)) (fun l hl=>if_neg (by omega)) p s t nc d c da ds sa ss ha hs so rfl rfl⟩,rfl,⟨⟨rfl,Nat.le_refl _⟩,trivial⟩,⟨⟨by kernel_rfl,by kernel_rfl⟩,⟨by kernel_rfl,by kernel_rfl⟩,⟨by kernel_rfl,by kernel_rfl⟩,⟨by kernel_rfl,by kernel_rfl⟩,⟨by kernel_rfl,by kernel_rfl⟩,⟨by kernel_rfl,by kernel_rfl⟩,⟨by kernel_rfl,by kernel_rfl⟩,⟨by kernel_rfl,by kernel_rfl⟩,trivial⟩,by show 75≤75; omega,fun l hl=>ZN hl,Zht _ _ _ _ _ _ _ 75 (.inr rfl) _ _ (fun l hl=>if_neg (by omega)) (fun l hl=>by show Nat.blt l 75=true; exact Zt (by omega)),fun y hy hrw => ?_⟩
    ·exact⟨rfl,rfl,trivial,by rw[Zi (Xl _ _ _ _ _ _ _ _)]; rfl⟩
    ·rcases List.mem_cons.1 hy with rfl|hy
     ·cases hrw
     ·simp only[rr, tt, lsH,List.mem_cons,List.not_mem_nil,or_false] at hy
      rcases hy with rfl|rfl
      ·left; rfl
      ·left; rfl
 ·have hkk:k=so.length:=by omega
  obtain⟨j,rfl⟩:∃ j,k=j+1:=⟨k-1,by omega⟩
  have hr:=ls_e p s t nc d a2 n2 c2 c da ds sa ss ha hs so (frL c da ds sa s t so (j+1)) (j+1)
  have e3:Value.slice (some ⟨74,0,none⟩) (j+1) (big+74)=rnV (toσ 75 74) 3 (.slice (some ⟨75,0,none⟩) so.length (big+75)):=by
   rw[hkk]; kernel_rfl
  refine⟨_,_,.exit 4,_,3,fun l=>Nat.blt l 76,toσ 75 74,Zu (L:=100) Zn (Zx _) (Zj _) 20,hr,?_,.inr ⟨by simp,rfl,?_⟩⟩
  ·exact⟨trivial,decide_eq_false (by omega)⟩
  ·refine⟨fun l hl=>if_neg (by have:NG=64:=rfl; omega),⟨⟨rfl,Zh (Xl _ _ _ _ _ _ _ _),rfl,?_⟩,trivial⟩,rfl,⟨⟨rfl,?_⟩,trivial⟩,?_,by show 75≤76; omega,fun l hl=>ZN hl,Zht _ _ _ _ _ _ _ 75 (.inr rfl) _ _ (fun l hl=>if_neg (by omega)) (fun l hl=>by show Nat.blt l 76=true; exact Zt (by omega)),fun y hy hrw => ?_⟩
   ·exact⟨rfl,rfl,trivial,by rw[Zi (Xl _ _ _ _ _ _ _ _),← hkk]⟩
   ·exact Nat.le_of_eq hkk.symm
   ·exact⟨⟨by kernel_rfl,by kernel_rfl⟩,⟨by kernel_rfl,by kernel_rfl⟩,⟨by kernel_rfl,Eq.trans (b:=Value.slice (some ⟨74,0,none⟩) (j+1) (big+74)) (by kernel_rfl) e3⟩,⟨by kernel_rfl,by kernel_rfl⟩,⟨by kernel_rfl,by kernel_rfl⟩,⟨by kernel_rfl,by kernel_rfl⟩,trivial⟩
   ·obtain rfl:=List.mem_singleton.1 hy; cases hrw
def ZnN (p s t:Nat) (nc:Nat) (d:List UInt8) {a2:Option Addr} {n2 c2:Nat} (em:U4 a2 n2 c2) (c da ds sa ss ha hs:Nat) (so:List Nat) (h1:1≤so.length) (h4:so.length≤4) (hso:∀ x∈so,x<4096) (hc:c<500000) (hda:da<500000) (hds:ds<500000) (hsa:sa<500000) (hs2:s≤4096) (ht:t≤2048):Ent Tryz.prog :=
 Vl Tryz.prog 4 2 92 (lsN p s t nc d a2 n2 c2 c da ds sa ss ha hs so 0) (.exit 4) (lsF c da ds sa s t so) (by kernel_rfl) (by kernel_rfl) (Zl0 p s t nc d em c da ds sa ss ha hs so h1 h4 hso hc hda hds hsa hs2 ht ⟨0,by omega⟩)
def luL (v:Value) (hh:Sy.Heap) (p:Nat) (cs:List Nat) (d:List UInt8) (c da ds sa ss ha hs:Nat):Sy.Steps :=
 [(68,9,Jd v hh c da ds sa ss ha hs,[64,65,66]),(69,10,Zmq p,[]),(74,12,ZmO da d (ZR cs cs.length (List.replicate (p*256) 0)) (p*256) (ZE p) (Zl p),[69,70,71,72])]
theorem Zpx (p s t:Nat) (cs:List Nat) (d:List UInt8) (rs:List Rl) (so:List Nat) (c da ds sa ss ha hs:Nat) (h1:ArOk (List.replicate (p*256) (0:UInt8)) (p*256) (ZE p) (Zl p)) (h2:∀ (x:Nat),x∈cs→x<4294967296) (h3:cs.length≤4096) (h4:4*cs.length≤p*256) (h5:ArOk (QK da d (ZR cs cs.length (List.replicate (p*256) (0:UInt8)))) (p*256) (ZE p) (Zl p)) (h6:∀ (r:Rl),r∈rs→RlFit da (p*256) r) (h7:rs.length≤256) (h8:da<500000) (em:U4 (some ⟨65,0,none⟩) rs.length (big+65)) (q1:1≤so.length) (q4:so.length≤4) (qso:∀ (x:Nat),x∈so→x<4096) (qc:c<500000) (qda:da<500000) (qds:ds<500000) (qsa:sa<500000) (qs2:s≤4096) (qt:t≤2048):evF Tryz.prog (QA 3 (ZT (luL (Yg p s t d (some ⟨65,0,none⟩) cs.length rs.length so.length (big+65)) (btH rs so) p cs d c da ds sa ss ha hs)) ZD) (YD [XV cs (List.replicate (p*256) (0:UInt8)) (p*256) (ZE p) (Zl p) c da ds sa ss ha hs h1 h2 h3 h4,Zce p s t cs.length so.length d rs c da ds sa ss ha hs (QK da d (ZR cs cs.length (List.replicate (p*256) (0:UInt8)))) (p*256) (ZE p) (Zl p) h5 h6 h7 h8,ZnN p s t cs.length d em c da ds sa ss ha hs so q1 q4 qso qc qda qds qsa qs2 qt]) 100 20 4 [Yg p s t d (some ⟨65,0,none⟩) cs.length rs.length so.length (big+65)] ⟨67,lqH cs rs so,[],0,[],0,True⟩=some (Value.tuple { toList:=[Value.pointer (some ⟨72,0,none⟩),.slice (some ⟨75,0,none⟩) so.length 9223372036854775883,.int .i64 0] },{ n:=76,h:=[(75,⟨true,some (75,136),frL c da ds sa s t so so.length,none⟩),(72,⟨true,none,[Value.pointer (some ⟨71,0,none⟩),.slice (some ⟨69,0,none⟩) (p*256) 9223372036854775877],none⟩),(71,⟨true,none,[Value.int .i64 (↑(ZE p)),.slice (some ⟨70,0,none⟩) (Zl p) 9223372036854775878],none⟩),(70,⟨true,some (70,1),v64 (Zm (rlT da rs rs.length) (Zl p)),none⟩),(69,⟨true,some (69,1),u8s (X9 da rs (QK da d (ZR cs cs.length (List.replicate (p*256) (0:UInt8)))) rs.length),none⟩),(73,⟨true,none,[Value.int .i64 (↑p),.int .i64 (↑s),.int .i64 (↑t),.slice (some ⟨64,0,none⟩) cs.length 9223372036854775872,.string ⟨⟨d⟩⟩,.slice (some ⟨65,0,none⟩) rs.length 9223372036854775873,.slice (some ⟨66,0,none⟩) so.length 9223372036854775874,.int .u32 0,.int .u32 (↑c),.int .u32 (↑da),.int .u32 (↑ds),.int .u32 (↑sa),.int .u32 (↑ss),.int .u32 (↑ha),.int .u32 (↑hs)],none⟩),(68,⟨true,none,[Value.int .u32 0,.int .u32 (↑c),.int .u32 (↑da),.int .u32 (↑ds),.int .u32 (↑sa),.int .u32 (↑ss),.int .u32 (↑ha),.int .u32 (↑hs)],none⟩),(67,⟨true,none,[Value.int .i64 (↑p),.int .i64 (↑s),.int .i64 (↑t),.slice (some ⟨64,0,none⟩) cs.length 9223372036854775872,.string ⟨⟨d⟩⟩,.slice (some ⟨65,0,none⟩) rs.length 9223372036854775873,.slice (some ⟨66,0,none⟩) so.length 9223372036854775874],none⟩),(64,⟨false,some (0,0),Zk cs,none⟩),(65,⟨false,some (0,0),rels rs,none⟩),(66,⟨false,some (0,0),Zk so,none⟩)],lo:=[(75,so.length),(70,Zl p),(69,p*256),(70,Zl p),(69,p*256),(70,Zl p),(69,p*256),(70,Zl p),(69,p*256)],esc:=0,T:=[],k:=0,O:=(((((True∧True∧(rr (Value.agg ⟨[.int .i64 (↑p),.int .i64 (↑s),.int .i64 (↑t),.slice (some ⟨64,0,none⟩) cs.length 9223372036854775872,.string ⟨⟨d⟩⟩,.slice (some ⟨65,0,none⟩) rs.length 9223372036854775873,.slice (some ⟨66,0,none⟩) so.length 9223372036854775874]⟩)∧True)∧((tt∧(rels rs).all (okV (fun l=>l.blt 67) 3)=true∧tt∧tt∧tt∧True∧rels rs=List.map (rnV (lift 67 68 [64,65,66]) 3) (rels rs))∧(tt∧(Zk so).all (okV (fun l=>l.blt 67) 3)=true∧tt∧tt∧tt∧True∧Zk so=List.map (rnV (lift 67 68 [64,65,66]) 3) (Zk so))∧True)∧True)∧True∧(rr (Value.int .i64 (↑p))∧True)∧True∧True)∧(rr (Value.pointer (some ⟨67,0,none⟩))∧rr (Value.pointer (some ⟨72,0,none⟩))∧rr (Value.slice none 0 0)∧rr (Value.int .i64 0)∧rr (Value.pointer (some ⟨68,0,none⟩))∧rr (Value.pointer (some ⟨73,0,none⟩))∧rr (Value.slice (some ⟨64,0,none⟩) cs.length 9223372036854775872)∧rr (Value.int .i64 (↑cs.length))∧rr (Value.int .i64 0)∧True)∧((tt∧tt∧True∧rr [Value.pointer (some ⟨71,0,none⟩),.slice (some ⟨69,0,none⟩) (p*256) 9223372036854775877])∧(tt∧tt∧True∧rr [Value.int .i64 (↑(ZE p)),.slice (some ⟨70,0,none⟩) (Zl p) 9223372036854775878])∧(tt∧tt∧True∧rr (z64 (Zl p)))∧(tt∧tt∧True∧rr (u8s (List.replicate (p*256) (0:UInt8))))∧(tt∧tt∧True∧rr [Value.int .u32 0,.int .u32 (↑c),.int .u32 (↑da),.int .u32 (↑ds),.int .u32 (↑sa),.int .u32 (↑ss),.int .u32 (↑ha),.int .u32 (↑hs)])∧(tt∧tt∧True∧rr (Zk cs))∧True)∧(Zl p≤Zl p∧p*256≤p*256∧True)∧True)∧True∧(rr (Value.pointer (some ⟨72,0,none⟩))∧rr (Value.int .u32 (↑da))∧rr (Value.string ⟨⟨d⟩⟩)∧True)∧((tt∧tt∧tt∧tt∧tt∧True∧rr [Value.pointer (some ⟨71,0,none⟩),.slice (some ⟨69,0,none⟩) (p*256) 9223372036854775877])∧(tt∧tt∧tt∧tt∧tt∧True∧rr [Value.int .i64 (↑(ZE p)),.slice (some ⟨70,0,none⟩) (Zl p) 9223372036854775878])∧(tt∧(z64 (Zl p)).all (okV (fun l=>l.blt 68) 3)=true∧tt∧tt∧tt∧True∧z64 (Zl p)=List.map (rnV (lift 68 74 [69,70,71,72]) 3) (z64 (Zl p)))∧(tt∧(u8s (ZR cs cs.length (List.replicate (p*256) (0:UInt8)))).all (okV (fun l=>l.blt 68) 3)=true∧tt∧tt∧tt∧True∧u8s (ZR cs cs.length (List.replicate (p*256) (0:UInt8)))=List.map (rnV (lift 68 74 [69,70,71,72]) 3) (u8s (ZR cs cs.length (List.replicate (p*256) (0:UInt8)))))∧True)∧(tt∧Zl p≤Zl p)∧(tt∧p*256≤p*256)∧True)∧(rr (Value.pointer (some ⟨67,0,none⟩))∧rr (Value.pointer (some ⟨72,0,none⟩))∧rr (Value.slice none 0 0)∧rr (Value.int .i64 0)∧rr (Value.pointer (some ⟨68,0,none⟩))∧rr (Value.pointer (some ⟨73,0,none⟩))∧rr (Value.slice (some ⟨65,0,none⟩) rs.length 9223372036854775873)∧rr (Value.int .i64 (↑rs.length))∧rr (Value.int .i64 0)∧True)∧((tt∧tt∧True∧rr [Value.pointer (some ⟨71,0,none⟩),.slice (some ⟨69,0,none⟩) (p*256) 9223372036854775877])∧(tt∧tt∧True∧rr [Value.int .i64 (↑(ZE p)),.slice (some ⟨70,0,none⟩) (Zl p) 9223372036854775878])∧(tt∧tt∧True∧v64 (Zm (fun x=>false) (Zl p))=z64 (Zl p))∧(tt∧tt∧True∧rr (u8s (QK da d (ZR cs cs.length (List.replicate (p*256) (0:UInt8))))))∧(tt∧tt∧True∧rr [Value.int .u32 0,.int .u32 (↑c),.int .u32 (↑da),.int .u32 (↑ds),.int .u32 (↑sa),.int .u32 (↑ss),.int .u32 (↑ha),.int .u32 (↑hs)])∧(tt∧tt∧True∧rr [Value.int .i64 (↑p),.int .i64 (↑s),.int .i64 (↑t),.slice (some ⟨64,0,none⟩) cs.length 9223372036854775872,.string ⟨⟨d⟩⟩,.slice (some ⟨65,0,none⟩) rs.length 9223372036854775873,.slice (some ⟨66,0,none⟩) so.length 9223372036854775874,.int .u32 0,.int .u32 (↑c),.int .u32 (↑da),.int .u32 (↑ds),.int .u32 (↑sa),.int .u32 (↑ss),.int .u32 (↑ha),.int .u32 (↑hs)])∧(tt∧tt∧True∧rr (rels rs))∧True)∧(Zl p≤Zl p∧p*256≤p*256∧True)∧True)∧(rr (Value.pointer (some ⟨67,0,none⟩))∧rr (Value.pointer (some ⟨72,0,none⟩))∧rr (Value.slice none 0 0)∧rr (Value.int .i64 0)∧rr (Value.pointer (some ⟨68,0,none⟩))∧rr (Value.pointer (some ⟨73,0,none⟩))∧rr (Value.int .i64 (↑so.length))∧rr (Value.int .i64 0)∧True)∧((tt∧tt∧True∧rr [Value.int .i64 (↑p),.int .i64 (↑s),.int .i64 (↑t),.slice (some ⟨64,0,none⟩) cs.length 9223372036854775872,.string ⟨⟨d⟩⟩,.slice (some ⟨65,0,none⟩) rs.length 9223372036854775873,.slice (some ⟨66,0,none⟩) so.length 9223372036854775874,.int .u32 0,.int .u32 (↑c),.int .u32 (↑da),.int .u32 (↑ds),.int .u32 (↑sa),.int .u32 (↑ss),.int .u32 (↑ha),.int .u32 (↑hs)])∧(tt∧tt∧True∧rr (Zk so))∧True)∧True∧True:St }):=by kernel_rfl
theorem Zpy (p s t:Nat) (cs:List Nat) (d:List UInt8) (a2:Option Addr) (c2:Nat) (so:List Nat) (c da ds sa ss ha hs:Nat) (h1:ArOk (List.replicate (p*256) (0:UInt8)) (p*256) (ZE p) (Zl p)) (h2:∀ (x:Nat),x∈cs→x<4294967296) (h3:cs.length≤4096) (h4:4*cs.length≤p*256) (em:U4 a2 0 c2) (q1:1≤so.length) (q4:so.length≤4) (qso:∀ (x:Nat),x∈so→x<4096) (qc:c<500000) (qda:da<500000) (qds:ds<500000) (qsa:sa<500000) (qs2:s≤4096) (qt:t≤2048):evF Tryz.prog (QA 3 (ZT (luL (Yg p s t d a2 cs.length 0 so.length c2) (WM so) p cs d c da ds sa ss ha hs)) ZD) (YD [XV cs (List.replicate (p*256) (0:UInt8)) (p*256) (ZE p) (Zl p) c da ds sa ss ha hs h1 h2 h3 h4,ZnN p s t cs.length d em c da ds sa ss ha hs so q1 q4 qso qc qda qds qsa qs2 qt]) 100 20 4 [Yg p s t d a2 cs.length 0 so.length c2] ⟨67,Zcf cs so,[],0,[],0,True⟩=some (Value.tuple { toList:=[Value.pointer (some ⟨72,0,none⟩),.slice (some ⟨75,0,none⟩) so.length 9223372036854775883,.int .i64 0] },{ n:=76,h:=[(75,⟨true,some (75,136),frL c da ds sa s t so so.length,none⟩),(72,⟨true,none,[Value.pointer (some ⟨71,0,none⟩),.slice (some ⟨69,0,none⟩) (p*256) 9223372036854775877],none⟩),(71,⟨true,none,[Value.int .i64 (↑(ZE p)),.slice (some ⟨70,0,none⟩) (Zl p) 9223372036854775878],none⟩),(70,⟨true,some (70,1),z64 (Zl p),none⟩),(69,⟨true,some (69,1),u8s (QK da d (ZR cs cs.length (List.replicate (p*256) (0:UInt8)))),none⟩),(73,⟨true,none,[Value.int .i64 (↑p),.int .i64 (↑s),.int .i64 (↑t),.slice (some ⟨64,0,none⟩) cs.length 9223372036854775872,.string ⟨⟨d⟩⟩,.slice a2 0 c2,.slice (some ⟨66,0,none⟩) so.length 9223372036854775874,.int .u32 0,.int .u32 (↑c),.int .u32 (↑da),.int .u32 (↑ds),.int .u32 (↑sa),.int .u32 (↑ss),.int .u32 (↑ha),.int .u32 (↑hs)],none⟩),(68,⟨true,none,[Value.int .u32 0,.int .u32 (↑c),.int .u32 (↑da),.int .u32 (↑ds),.int .u32 (↑sa),.int .u32 (↑ss),.int .u32 (↑ha),.int .u32 (↑hs)],none⟩),(67,⟨true,none,[Value.int .i64 (↑p),.int .i64 (↑s),.int .i64 (↑t),.slice (some ⟨64,0,none⟩) cs.length 9223372036854775872,.string ⟨⟨d⟩⟩,.slice a2 0 c2,.slice (some ⟨66,0,none⟩) so.length 9223372036854775874],none⟩),(64,⟨false,some (0,0),Zk cs,none⟩),(66,⟨false,some (0,0),Zk so,none⟩)],lo:=[(75,so.length),(70,Zl p),(69,p*256),(70,Zl p),(69,p*256),(70,Zl p),(69,p*256)],esc:=0,T:=[],k:=0,O:=((((True∧True∧(Value.agg ⟨[.int .i64 (↑p),.int .i64 (↑s),.int .i64 (↑t),.slice (some ⟨64,0,none⟩) cs.length 9223372036854775872,.string ⟨⟨d⟩⟩,.slice a2 0 c2,.slice (some ⟨66,0,none⟩) so.length 9223372036854775874]⟩=Value.agg ⟨[.int .i64 (↑p),.int .i64 (↑s),.int .i64 (↑t),.slice (some ⟨64,0,none⟩) cs.length 9223372036854775872,.string ⟨⟨d⟩⟩,.slice (Option.map (rnA (lift 67 68 [64,65,66])) a2) 0 (rnC (lift 67 68 [64,65,66]) c2),.slice (some ⟨66,0,none⟩) so.length 9223372036854775874]⟩∧True)∧((tt∧(Zk so).all (okV (fun l=>l.blt 67) 3)=true∧tt∧tt∧tt∧True∧Zk so=List.map (rnV (lift 67 68 [64,65,66]) 3) (Zk so))∧True)∧True)∧True∧(rr (Value.int .i64 (↑p))∧True)∧True∧True)∧(rr (Value.pointer (some ⟨67,0,none⟩))∧rr (Value.pointer (some ⟨72,0,none⟩))∧rr (Value.slice none 0 0)∧rr (Value.int .i64 0)∧rr (Value.pointer (some ⟨68,0,none⟩))∧rr (Value.pointer (some ⟨73,0,none⟩))∧rr (Value.slice (some ⟨64,0,none⟩) cs.length 9223372036854775872)∧rr (Value.int .i64 (↑cs.length))∧rr (Value.int .i64 0)∧True)∧((tt∧tt∧True∧rr [Value.pointer (some ⟨71,0,none⟩),.slice (some ⟨69,0,none⟩) (p*256) 9223372036854775877])∧(tt∧tt∧True∧rr [Value.int .i64 (↑(ZE p)),.slice (some ⟨70,0,none⟩) (Zl p) 9223372036854775878])∧(tt∧tt∧True∧rr (z64 (Zl p)))∧(tt∧tt∧True∧rr (u8s (List.replicate (p*256) (0:UInt8))))∧(tt∧tt∧True∧rr [Value.int .u32 0,.int .u32 (↑c),.int .u32 (↑da),.int .u32 (↑ds),.int .u32 (↑sa),.int .u32 (↑ss),.int .u32 (↑ha),.int .u32 (↑hs)])∧(tt∧tt∧True∧rr (Zk cs))∧True)∧(Zl p≤Zl p∧p*256≤p*256∧True)∧True)∧True∧(rr (Value.pointer (some ⟨72,0,none⟩))∧rr (Value.int .u32 (↑da))∧rr (Value.string ⟨⟨d⟩⟩)∧True)∧((tt∧tt∧tt∧tt∧tt∧True∧rr [Value.pointer (some ⟨71,0,none⟩),.slice (some ⟨69,0,none⟩) (p*256) 9223372036854775877])∧(tt∧tt∧tt∧tt∧tt∧True∧rr [Value.int .i64 (↑(ZE p)),.slice (some ⟨70,0,none⟩) (Zl p) 9223372036854775878])∧(tt∧(z64 (Zl p)).all (okV (fun l=>l.blt 68) 3)=true∧tt∧tt∧tt∧True∧z64 (Zl p)=List.map (rnV (lift 68 74 [69,70,71,72]) 3) (z64 (Zl p)))∧(tt∧(u8s (ZR cs cs.length (List.replicate (p*256) (0:UInt8)))).all (okV (fun l=>l.blt 68) 3)=true∧tt∧tt∧tt∧True∧u8s (ZR cs cs.length (List.replicate (p*256) (0:UInt8)))=List.map (rnV (lift 68 74 [69,70,71,72]) 3) (u8s (ZR cs cs.length (List.replicate (p*256) (0:UInt8)))))∧True)∧(tt∧Zl p≤Zl p)∧(tt∧p*256≤p*256)∧True)∧(rr (Value.pointer (some ⟨67,0,none⟩))∧rr (Value.pointer (some ⟨72,0,none⟩))∧rr (Value.slice none 0 0)∧rr (Value.int .i64 0)∧rr (Value.pointer (some ⟨68,0,none⟩))∧rr (Value.pointer (some ⟨73,0,none⟩))∧rr (Value.int .i64 (↑so.length))∧rr (Value.int .i64 0)∧True)∧((tt∧tt∧True∧rr [Value.int .i64 (↑p),.int .i64 (↑s),.int .i64 (↑t),.slice (some ⟨64,0,none⟩) cs.length 9223372036854775872,.string ⟨⟨d⟩⟩,.slice a2 0 c2,.slice (some ⟨66,0,none⟩) so.length 9223372036854775874,.int .u32 0,.int .u32 (↑c),.int .u32 (↑da),.int .u32 (↑ds),.int .u32 (↑sa),.int .u32 (↑ss),.int .u32 (↑ha),.int .u32 (↑hs)])∧(tt∧tt∧True∧rr (Zk so))∧True)∧True∧True:St }):=by kernel_rfl
theorem Zjc (p s t:Nat) (cs:List Nat) (d:List UInt8) (rs:List Rl) (so:List Nat) (c da ds sa ss ha hs:Nat) (h:LqOk p s t cs d so c da ds sa ss ha hs) (h6:∀ r∈rs,RlFit da (p*256) r) (h7:rs.length≤256) (j:Nat) (hj:so.length=j) (j1:1≤j) (j4:j≤4)
  (hlay:ConOk Tryz.prog 9 3 (Jd (Yg p s t d (some ⟨65,0,none⟩) cs.length rs.length so.length (big+65)) (btH rs so) c da ds sa ss ha hs)) :
  ConOk Tryz.prog 4 3 (Je (Yg p s t d (some ⟨65,0,none⟩) cs.length rs.length so.length (big+65)) (lqH cs rs so) p (X9 da rs (zsB p cs da d) rs.length) (rlT da rs rs.length) (Zhr c da ds sa s t so j) j):=by
 have e0:=h.hc; have e2:=h.hda; have e3:=h.hds; have e4:=h.hsa; have e5:=h.fit; have e6:=h.p2
 have hN:4*cs.length≤p*256:=by omega
 have f1:∀ (zs:List UInt8) (p:Nat→Bool),(u8s zs).all (okV p 3)=true:=fun zs p=>Zh (Zp _)
 have f2:∀ (zs:List UInt8) (σ:Nat→Nat),(u8s zs).map (rnV σ 3)=u8s zs:=fun zs σ=>Zi (Zp _)
 have f3:∀ (xs:List Nat) (p:Nat→Bool),(Zk xs).all (okV p 3)=true:=fun xs p=>Zh (Zg _)
 have f4:∀ (xs:List Nat) (σ:Nat→Nat),(Zk xs).map (rnV σ 3)=Zk xs:=fun xs σ=>Zi (Zg _)
 have f5:∀ (p:Nat→Bool),(rels rs).all (okV p 3)=true:=fun p=>Zh (ZC rs)
 have f6:∀ (σ:Nat→Nat),(rels rs).map (rnV σ 3)=rels rs:=fun σ=>Zi (ZC rs)
 have hg:okV (fun l=>Nat.blt l 67) 3 (Yg p s t d (some ⟨65,0,none⟩) cs.length rs.length so.length (big+65))=true:=YU rfl rfl _ _ _ _ rfl _ _
 subst hj
 have base:ZA Tryz.prog (QA 3 (ZT (luL (Yg p s t d (some ⟨65,0,none⟩) cs.length rs.length so.length (big+65)) (btH rs so) p cs d c da ds sa ss ha hs)) ZD):=by
  have hz:=Qt p h.p1 h.p2
  have hzl:(ZR cs cs.length (List.replicate (p*256) 0)).length=p*256:=by rw[YA _ _ _ (by rw[hz.len]; omega),hz.len]
  refine Qe (ZW fun x hx => ?_) (Zx _)
  simp only[rr, tt, luL,List.mem_cons,List.not_mem_nil,or_false] at hx
  rcases hx with rfl|rfl|rfl
  ·exact⟨hlay,⟨fun x hx=>by cases hx⟩⟩
  ·exact Jn p h.p1 h.p2
  ·exact ZaM da d _ _ _ _ ⟨hzl,hz.tags,hz.words,hz.few,hz.big⟩ (by omega) (by omega)
 have hr:=Zpx p s t cs d rs so c da ds sa ss ha hs (Qt p h.p1 h.p2) h.hcs h.n1 hN (WJ h) h6 h7 (by omega) (VR _) j1 j4 h.hso (by omega) (by omega) (by omega) (by omega) h.s2 h.t2
 refine ZF (Zu (L:=100) Zn base (Z5 _) 20) (Y1 p _ _ _ _ hg (Vt (fun l hl=>Zt hl) cs rs so)) hr ?_ (X8 p _ _ _ _ 75 (by omega) rfl rfl rfl rfl rfl rfl rfl rfl rfl (XZ _ _ _ _ _ _ _ _) rfl ⟨Nat.le_refl _,Nat.le_refl _⟩)
 simp(disch:=omega) only[rr, tt, Zfh (VR _),f1,f2,f3,f4,f5,f6,QV,Qn,Q6,zsB,decide_eq_true,decide_eq_false,Bool.and_self,cond_true,and_true,true_and,and_self,Nat.le_refl]
theorem Zjd (p s t:Nat) (cs:List Nat) (d:List UInt8) (a2:Option Addr) (c2:Nat) (em:X5 a2 c2) (so:List Nat) (c da ds sa ss ha hs:Nat) (h:LqOk p s t cs d so c da ds sa ss ha hs) (j:Nat) (hj:so.length=j) (j1:1≤j) (j4:j≤4)
  (hlay:ConOk Tryz.prog 9 3 (Jd (Yg p s t d a2 cs.length 0 so.length c2) (WM so) c da ds sa ss ha hs)) :
  ConOk Tryz.prog 4 3 (Je (Yg p s t d a2 cs.length 0 so.length c2) (Zcf cs so) p (zsB p cs da d) (fun _=>false) (Zhr c da ds sa s t so j) j):=by
 have e0:=h.hc; have e2:=h.hda; have e3:=h.hds; have e4:=h.hsa; have e5:=h.fit; have e6:=h.p2
 have hN:4*cs.length≤p*256:=by omega
 have f1:∀ (zs:List UInt8) (p:Nat→Bool),(u8s zs).all (okV p 3)=true:=fun zs p=>Zh (Zp _)
 have f2:∀ (zs:List UInt8) (σ:Nat→Nat),(u8s zs).map (rnV σ 3)=u8s zs:=fun zs σ=>Zi (Zp _)
 have f3:∀ (xs:List Nat) (p:Nat→Bool),(Zk xs).all (okV p 3)=true:=fun xs p=>Zh (Zg _)
 have f4:∀ (xs:List Nat) (σ:Nat→Nat),(Zk xs).map (rnV σ 3)=Zk xs:=fun xs σ=>Zi (Zg _)
 have hs2:=em (fun l=>Nat.blt l 67) 2 (fun l hl=>Zt hl)
 have hg:okV (fun l=>Nat.blt l 67) 3 (Yg p s t d a2 cs.length 0 so.length c2)=true:=YU rfl rfl _ _ _ _ hs2 _ _
 subst hj
 have base:ZA Tryz.prog (QA 3 (ZT (luL (Yg p s t d a2 cs.length 0 so.length c2) (WM so) p cs d c da ds sa ss ha hs)) ZD):=by
  have hz:=Qt p h.p1 h.p2
  have hzl:(ZR cs cs.length (List.replicate (p*256) 0)).length=p*256:=by rw[YA _ _ _ (by rw[hz.len]; omega),hz.len]
  refine Qe (ZW fun x hx => ?_) (Zx _)
  simp only[rr, tt, luL,List.mem_cons,List.not_mem_nil,or_false] at hx
  rcases hx with rfl|rfl|rfl
  ·exact⟨hlay,⟨fun x hx=>by cases hx⟩⟩
  ·exact Jn p h.p1 h.p2
  ·exact ZaM da d _ _ _ _ ⟨hzl,hz.tags,hz.words,hz.few,hz.big⟩ (by omega) (by omega)
 have hr:=Zpy p s t cs d a2 c2 so c da ds sa ss ha hs (Qt p h.p1 h.p2) h.hcs h.n1 hN (fun q d hq=>em q d hq) j1 j4 h.hso (by omega) (by omega) (by omega) (by omega) h.s2 h.t2
 refine ZF (Zu (L:=100) Zn base (Z5 _) 20) (Y1 p _ _ _ _ hg (X7 (fun l hl=>Zt hl) cs so)) hr ?_ (X8 p _ _ _ _ 75 (by omega) rfl rfl rfl rfl rfl (Q6 _).symm rfl rfl rfl (XZ _ _ _ _ _ _ _ _) rfl ⟨Nat.le_refl _,Nat.le_refl _⟩)
 simp(disch:=omega) only[rr, tt, Xh em,f1,f2,f3,f4,QV,Qn,decide_eq_true,decide_eq_false,Bool.and_self,cond_true,and_true,true_and,and_self,Nat.le_refl]
def Um:WH:=fun f args _=>bif Nat.beq f 91 then
 match args with
 | [.agg ⟨[.int .u32 a,.int .u32 s]⟩,.int .u16 p]=>some (Ze4 a s p,[],Uc a s p)
 | _=>none
 else bif Nat.beq f 22 then
 match args with
 | [.agg ⟨[.int .u32 c,.int .u8 e,.int .u16 b,.int .u16 t,.int .u16 p,.int .u16 y,.int .u32 r,.bool v]⟩,.int .u32 to]=>some (ZgE c e b t p y r v to,[],ZaY c e b t p y r to)
 | _=>none
 else none
def Zfm (p s t:Nat) (nc ns:Nat) (d:List UInt8) (a2:Option Addr) (n2 c2:Nat):List Value:=[.int .i64 (p:Nat),.int .i64 (s:Nat),.int .i64 (t:Nat),.slice (some ⟨64,0,none⟩) nc (big+64),.string ⟨⟨d⟩⟩,.slice a2 n2 c2,.slice (some ⟨66,0,none⟩) ns (big+66)]
theorem Zhu (c e b t p y r:Int) (v:Bool) (to:Int) (h:ZaY c e b t p y r to):ConOk Tryz.prog 22 3 (ZgE c e b t p y r v to):=by
 obtain⟨h1,h2,h3,h4,h5,h6,h7,h8,h9,h10,h11,h12,h13,h14,h15,h16⟩:=h
 obtain⟨c,rfl⟩:=Int.eq_ofNat_of_zero_le h1
 obtain⟨e,rfl⟩:=Int.eq_ofNat_of_zero_le h3
 obtain⟨b,rfl⟩:=Int.eq_ofNat_of_zero_le h5
 obtain⟨t,rfl⟩:=Int.eq_ofNat_of_zero_le h7
 obtain⟨p,rfl⟩:=Int.eq_ofNat_of_zero_le h9
 obtain⟨y,rfl⟩:=Int.eq_ofNat_of_zero_le h11
 obtain⟨r,rfl⟩:=Int.eq_ofNat_of_zero_le h13
 obtain⟨to,rfl⟩:=Int.eq_ofNat_of_zero_le h15
 refine Q4 (d:=1) (YO Zn (by kernel_rfl)) (fun u hu => ?_) rfl fun w => ?_
 ·simp only[rr, tt, List.mem_cons,List.not_mem_nil,or_false] at hu
  rcases hu with rfl|rfl<;>rfl
 ·exact ZgM c e b t p y r v to w (by unfold Zgt; omega) (by omega)
theorem Zbg:YN Tryz.prog 3 Um:=by
 intro f args s c ρ q h hq
 unfold Um at h
 cases h1:Nat.beq f 91<;>rw[h1] at h
 ·simp only[rr, tt, cond_false] at h
  obtain⟨h2,h3⟩:=ZL h
  have h2:=eB h2
  subst h2
  split at h3
  ·cases h3; exact Zhu _ _ _ _ _ _ _ _ _ hq
  ·cases h3
 ·have h2:=eB h1
  subst h2
  simp only[rr, tt, cond_true] at h
  split at h
  ·cases h; exact Zb9 _ _ _ hq
  ·cases h
theorem Zpz (c da ds sa ss ha hs:Nat):obs (evF Tryz.prog (ZH 3 Um) Zf 100 20 24 [Value.agg { toList:=YQ c da ds sa ss ha hs }] (stT [(0,false)]))=some (Value.agg ⟨[.int .u32 (↑(mA (↑da:Int).toNat (↑ds:Int).toNat 27):Int),.int .u8 (↑(mE (↑da:Int).toNat (↑ds:Int).toNat 27):Int),.int .u16 (↑(mB (↑da:Int).toNat (↑ds:Int).toNat 27):Int),.int .u16 (↑(mT (↑da:Int).toNat (↑ds:Int).toNat 27):Int),.int .u16 (↑(mP (↑da:Int).toNat (↑ds:Int).toNat 27):Int),.int .u16 0,.int .u32 0,.bool (mV (↑da:Int).toNat (↑ds:Int).toNat 27)]⟩,(True∧((↑ds:Int)==(0:Int))=false)∧((0:Int)≤(↑da:Int)∧(↑da:Int)<(4294967296:Int)∧(0:Int)≤(↑ds:Int)∧(↑ds:Int)<(4294967296:Int)∧(0:Int)≤(27:Int))∧(rr (Value.agg ⟨[.int .u32 (↑da),.int .u32 (↑ds)]⟩)∧rr (Value.int .u16 27)∧True)∧True∧True):=by kernel_rfl
theorem ZpA (c da ds sa ss ha hs:Nat):obs (evF Tryz.prog (ZH 3 Um) Zf 100 20 24 [Value.agg { toList:=YQ c da ds sa ss ha hs }] (stT [(0,true)]))=some (Value.agg ⟨[.int .u32 0,.int .u8 0,.int .u16 0,.int .u16 0,.int .u16 0,.int .u16 0,.int .u32 0,.bool false]⟩,True∧((↑ds:Int)==(0:Int))=true):=by kernel_rfl
theorem ZpB (p s t nc ns:Nat) (d:List UInt8) (a2:Option Addr) (n2 c2:Nat):obs (evF Tryz.prog (ZH 3 Um) Zf 100 20 25 [Value.agg { toList:=Zfm p s t nc ns d a2 n2 c2 }] ⟨67,[],[],0,[(0,false)],0,True⟩)=some (Value.agg ⟨[.int .u32 (↑(mA 1 (u32.wrap (↑t)).toNat 96):Int),.int .u8 (↑(mE 1 (u32.wrap (↑t)).toNat 96):Int),.int .u16 (↑(mB 1 (u32.wrap (↑t)).toNat 96):Int),.int .u16 (↑(mT 1 (u32.wrap (↑t)).toNat 96):Int),.int .u16 (↑(mP 1 (u32.wrap (↑t)).toNat 96):Int),.int .u16 0,.int .u32 0,.bool (mV 1 (u32.wrap (↑t)).toNat 96)]⟩,(True∧((↑t:Int)==(0:Int))=false)∧((0:Int)≤(1:Int)∧(1:Int)<(4294967296:Int)∧(0:Int)≤u32.wrap (↑t)∧u32.wrap (↑t)<(4294967296:Int)∧(0:Int)≤(96:Int))∧(rr (Value.agg ⟨[.int .u32 1,.int .u32 (u32.wrap (↑t))]⟩)∧rr (Value.int .u16 96)∧True)∧True∧True):=by kernel_rfl
theorem ZpC (p s t nc ns:Nat) (d:List UInt8) (a2:Option Addr) (n2 c2:Nat):obs (evF Tryz.prog (ZH 3 Um) Zf 100 20 25 [Value.agg { toList:=Zfm p s t nc ns d a2 n2 c2 }] ⟨67,[],[],0,[(0,true)],0,True⟩)=some (Value.agg ⟨[.int .u32 0,.int .u8 0,.int .u16 0,.int .u16 0,.int .u16 0,.int .u16 0,.int .u32 0,.bool false]⟩,True∧((↑t:Int)==(0:Int))=true):=by kernel_rfl
theorem Jv {n:Nat} {f:FuncId} {args:List Value} {cs:List Value} {T:List (Nat×Bool)} {q:Prop} {v:Value} (hv:v = .agg ⟨cs⟩) (hc:cs.all ZP=true) (hn:64≤n) (ha:args.all (okV (fun l=>Nat.blt l n) 3)=true)
  (h:obs (evF Tryz.prog (ZH 3 Um) Zf 100 20 f args ⟨n,[],[],0,T,0,True⟩)=some (v,q)) (hq:q) :
  ConOk Tryz.prog f 3 ⟨args,n,[],[],.agg ⟨cs⟩,n,[],[]⟩∧FlatC ⟨args,n,[],[],.agg ⟨cs⟩,n,[],[]⟩:=by
 subst hv
 unfold obs at h
 obtain⟨⟨v',s'⟩,h1,h2⟩:=oM h
 simp only[rr, tt, Prod.mk.injEq] at h2
 obtain⟨rfl,rfl⟩:=h2
 have hr:∀ p,okV p 3 (.agg ⟨cs⟩)=true:=fun p=>List.all_eq_true.2 fun v hv=>ZS (List.all_eq_true.1 hc v hv) 2
 refine⟨ZF (Zu (L:=100) Zn (Z1 Zbg) (Zj _) 20) ⟨hn,Nat.le_refl _,trivial,rfl,rfl,rfl,ha,hr _,fun x hx=>by cases hx⟩ h1 hq (p:=fun l=>Nat.blt l n) (σ:=id) ?_,⟨fun x hx=>by cases hx⟩⟩
 exact⟨fun _ _=>rfl,trivial,rfl,trivial,⟨hr _,by rw[Yd]⟩,rfl,trivial,rfl,ZM 3 _ (hr _),fun x hx=>by cases hx⟩
theorem Zl1 (c da ds sa ss ha hs:Nat) (h:da<500000) (h':ds<500000):ConOk Tryz.prog 24 3 ⟨[.agg ⟨YQ c da ds sa ss ha hs⟩],64,[],[],.agg ⟨g8 ds da ds 27⟩,64,[],[]⟩∧FlatC ⟨[.agg ⟨YQ c da ds sa ss ha hs⟩],64,[],[],.agg ⟨g8 ds da ds 27⟩,64,[],[]⟩:=by
 by_cases h0:0<ds
 ·have hr:=Zpz c da ds sa ss ha hs
  simp only[rr, tt, Int.toNat_natCast] at hr
  refine Jv (by rw[Vq h0,c8]) (Ud _ _ _ _) (Nat.le_refl _) rfl hr ?_
  have e0:((ds:Int)==(0:Int))=false:=beq_false_of_ne (by omega)
  simp only[rr, tt, and_true,true_and,e0]
  omega
 ·have hr:=ZpA c da ds sa ss ha hs
  refine Jv (by rw[Vr h0,z8]) (Ud _ _ _ _) (Nat.le_refl _) rfl hr ?_
  obtain rfl:ds=0:=by omega
  exact⟨trivial,rfl⟩
theorem Zl2 (p s t nc ns:Nat) (d:List UInt8) (a2:Option Addr) (n2 c2:Nat) (em:U4 a2 n2 c2) (h:t≤2048):ConOk Tryz.prog 25 3 ⟨[.agg ⟨Zfm p s t nc ns d a2 n2 c2⟩],67,[],[],.agg ⟨g8 t 1 t 96⟩,67,[],[]⟩∧FlatC ⟨[.agg ⟨Zfm p s t nc ns d a2 n2 c2⟩],67,[],[],.agg ⟨g8 t 1 t 96⟩,67,[],[]⟩:=by
 have e7:u32.wrap (t:Int)=(t:Int):=YR t (by omega)
 have hs2:okV (fun l=>Nat.blt l 67) 2 (.slice a2 n2 c2)=true:=em _ 2 fun l hl=>Zt hl
 have hA:[Value.agg ⟨Zfm p s t nc ns d a2 n2 c2⟩].all (okV (fun l=>Nat.blt l 67) 3)=true:=by
  show(List.all (Zfm p s t nc ns d a2 n2 c2) (okV (fun l=>Nat.blt l 67) 2)&&true)=true
  simp only[rr, tt, Zfm,List.all_cons,List.all_nil,hs2]
  rfl
 by_cases h0:0<t
 ·have hr:=ZpB p s t nc ns d a2 n2 c2
  simp only[rr, tt, e7,Int.toNat_natCast] at hr
  refine Jv (by rw[Vq h0,c8]) (Ud _ _ _ _) (by omega) hA hr ?_
  have e0:((t:Int)==(0:Int))=false:=beq_false_of_ne (by omega)
  simp only[rr, tt, and_true,true_and,e0]
  omega
 ·have hr:=ZpC p s t nc ns d a2 n2 c2
  refine Jv (by rw[Vr h0,z8]) (Ud _ _ _ _) (by omega) hA hr ?_
  obtain rfl:t=0:=by omega
  exact⟨trivial,rfl⟩
namespace Sy
open Go.IntKind (u8 u16 u32 u64 i64)
def inN (t:Nat):List Nat→Bool
 | []=>false
 | x::l=>Nat.beq x t||inN t l
def Uu (nt:Nat) (ts ls:List Nat) (x:Exit×Fr):Exit×Fr:=(x.1,⟨mkE nt (ts.map fun t=>(t,YF x.2.e t)),⟨x.2.s.n,x.2.s.h.filter fun y=>inN y.1 ls,x.2.s.lo,0,[],0,x.2.s.O⟩⟩)
theorem Zhv {t:Nat}:∀ {l:List Nat},inN t l=true→t∈l
 | x::l,h=>by
  unfold inN at h
  rcases Bool.or_eq_true_iff.1 h with h|h
  ·exact List.mem_cons.2 (.inl (eB h).symm)
  ·exact List.mem_cons.2 (.inr (Zhv h))
theorem Zl3 (nt:Nat) (e:Env) {t:Nat}:∀ {ts:List Nat},t∈ts→YF (mkE nt (ts.map fun t=>(t,YF e t))) t=YF e t:=by
 intro ts ht
 unfold mkE
 rw[JR]
 cases hf:(ts.map fun t=>(t,YF e t)).find? (fun x=>x.1==t) with
 | none =>
  have:=List.find?_eq_none.1 hf (t,YF e t) (List.mem_map.2 ⟨t,ht,rfl⟩)
  simp at this
 | some x =>
  have h1:=List.mem_of_find?_eq_some hf
  have h2:=List.find?_some hf
  obtain⟨u,_,rfl⟩:=List.mem_map.1 h1
  have h2:u=t:=by simpa using h2
  subst h2
  rfl
theorem Zhw {h:Heap} {ls:List Nat} {g:Nat} {k:Blk} (hk:look (h.filter fun y=>inN y.1 ls) g=some k):look h g=some k:=by
 rw[Qk (fun l=>inN l ls)] at hk
 split at hk
 ·exact hk
 ·cases hk
theorem Ya.more {d:Nat} {p:Nat→Bool} {σ:Nat→Nat} {h1 h2:Heap} (hh:∀ g k,look h1 g=some k→look h2 g=some k):∀ {l:Heap},Ya d p σ h1 l→Ya d p σ h2 l
 | [],_=>trivial
 | x::l,⟨⟨a,b,c,e⟩,r⟩=>by
  refine⟨⟨a,b,c,?_⟩,Ya.more hh r⟩
  cases hk:look h1 (σ x.1) with
  | none=>rw[hk] at e; exact e.elim
  | some k=>rw[hk] at e; rw[hh _ _ hk]; exact e
theorem JS.more {d:Nat} {p:Nat→Bool} {σ:Nat→Nat} {e1 e2:Env} {ts:List Nat} (hh:∀ t,t∈ts→YF e1 t=YF e2 t):∀ {l:List (Nat×Value)},(l.all fun x=>inN x.1 ts)=true→JS d p σ e1 l→JS d p σ e2 l
 | [],_,_=>trivial
 | x::l,hl,⟨⟨a,b⟩,r⟩=>by
  rw[List.all_cons,Bool.and_eq_true] at hl
  exact⟨⟨a,by rw[← hh _ (Zhv hl.1)]; exact b⟩,JS.more hh hl.2 r⟩
theorem Sf.Leads.uncut {nt:Nat} {ts ls:List Nat} {d:Nat} {p:Nat→Bool} {σ:Nat→Nat} {f:Sf} {x:Exit×Fr} {m e:Sf} (hm:(m.e.all fun x=>inN x.1 ts)=true) (h:Sf.Leads d p σ f (Uu nt ts ls x).2 m e):Sf.Leads d p σ f x.2 m e :=
 ⟨h.σ0,h.h.more fun g k hk=>Zhw hk,h.inj,h.lo,h.l.more (ts:=ts) (fun t ht=>Zl3 nt x.2.e ht) hm,h.n,h.pn,h.keep,h.ro⟩
theorem Kt {P:Program} {lp:Vz} {nt L:Nat} {c:Code} {S:List Code} (hlp:QI P S lp) (hS:∀ c'∈loops c,c'∈S) {X:Type} (I F:X→Sf) (ex:X→Exit) (μ:X→Nat) (hI:∀ x,(I x).Wf)
  (hround:∀ x,∃ (call:Qb) (T:List (Nat×Bool)) (ts ls:List Nat) (e:Exit) (g:Fr) (d:Nat) (p:Nat→Bool) (σ:Nat→Nat),ZA P call∧(evC P call lp nt L c ((I x).frT nt T)).map (Uu nt ts ls)=some (e,g)∧g.s.O ∧
   ((e = .normal∧∃ y,μ y<μ x∧F y=F x∧ex y=ex x∧((I y).e.all fun z=>inN z.1 ts)=true∧Sf.Leads d p σ (I x) g (I y) (F x))∨(e ≠ .normal∧e=ex x∧((F x).e.all fun z=>inN z.1 ts)=true∧Sf.Leads d p σ (I x) g (F x) (F x)))) :
  ∀ x,Qj P nt c ((I x).fr nt) (ex x) ((F x).fr nt):=by
 refine Xn (L:=L) hlp hS I F ex μ hI fun x => ?_
 obtain⟨call,T,ts,ls,e,g,d,p,σ,hcall,hev,hO,hc⟩:=hround x
 obtain⟨y,h1,h2⟩:=oM hev
 have e1:e=(Uu nt ts ls y).1:=by rw[h2]
 have e2:g=(Uu nt ts ls y).2:=by rw[h2]
 subst e1
 subst e2
 refine⟨call,T,y.1,y.2,d,p,σ,hcall,h1,hO,?_⟩
 rcases hc with⟨a,z,b1,b2,b3,b4,b5⟩|⟨a,b1,b4,b5⟩
 ·exact .inl ⟨a,z,b1,b2,b3,b5.uncut b4⟩
 ·exact .inr ⟨a,b1,b5.uncut b4⟩
end Sy
end Go.Proofs.YtliidiceljdgmaaGreat
namespace Go.Proofs.YtliidiceljdgmaaGreat
open Go.IntKind (u8 u16 u32 u64 i64)
open Go.RowKit
open Sy
set_option maxRecDepth 100000
def Jf (zs:List UInt8) (f:Nat→Bool) (N m:Nat):Sy.Heap:=[(71,⟨true,none,[.slice (some ⟨69,0,none⟩) N (big+69),.slice (some ⟨70,0,none⟩) m (big+70)],none⟩),(70,⟨true,some (70,1),bls f m,none⟩),(69,⟨true,some (69,1),u8s zs,none⟩)]
def rkE:List (Nat×Value):=[(1,.pointer (some ⟨67,0,none⟩)),(2,.pointer none),(3,.slice none 0 0),(4,.int .i64 0),(5,.pointer (some ⟨68,0,none⟩)),(6,.int .i64 0),(7,.pointer (some ⟨71,0,none⟩)),(8,.int .i64 0)]
def rkH (p s t nc ns:Nat) (d:List UInt8) (a2:Option Addr) (n2 c2:Nat) (c da ds sa ss ha hs:Nat) (l:Sy.Heap):Sy.Heap:=(68,⟨false,none,YQ c da ds sa ss ha hs,none⟩)::(67,⟨false,none,Zfm p s t nc ns d a2 n2 c2,none⟩)::l
def rk0 (p s t ns:Nat) (d:List UInt8) (a2:Option Addr) (n2 c2:Nat) (cs:List Nat) (zs:List UInt8) (f:Nat→Bool) (N m:Nat) (c da ds sa ss ha hs:Nat) (k:Nat):Sf :=
 ⟨72,rkE++[(9,.int .i64 (k:Nat))],Jf zs f N m++rkH p s t cs.length ns d a2 n2 c2 c da ds sa ss ha hs [(64,⟨false,some (0,0),Zk cs,none⟩)],[(70,m),(69,N)]⟩
def rk1 (p s t nc ns:Nat) (d:List UInt8) (rs:List Rl) (zs:List UInt8) (f:Nat→Bool) (N m:Nat) (c da ds sa ss ha hs:Nat) (k:Nat):Sf :=
 ⟨72,rkE++[(10,.int .i64 (k:Nat))],Jf zs f N m++rkH p s t nc ns d (some ⟨65,0,none⟩) rs.length (big+65) c da ds sa ss ha hs [(65,⟨false,some (0,0),rels rs,none⟩)],[(70,m),(69,N)]⟩
def ZpD (p s t nc:Nat) (d:List UInt8) (a2:Option Addr) (n2 c2:Nat) (c da ds sa ss ha hs:Nat) (so:List Nat) (k:Nat):Sf :=
 ⟨72,rkE++[(11,.slice none 0 0),(12,.int .i64 (k:Nat))],rkH p s t nc so.length d a2 n2 c2 c da ds sa ss ha hs [(66,⟨false,some (0,0),Zk so,none⟩)],[]⟩
def ZpE (p s t nc:Nat) (d:List UInt8) (a2:Option Addr) (n2 c2:Nat) (c da ds sa ss ha hs:Nat) (so:List Nat) (fl:List Value) (k:Nat):Sf :=
 ⟨73,rkE++[(11,.slice (some ⟨72,0,none⟩) k (big+72)),(12,.int .i64 (k:Nat))],(72,⟨true,some (72,136),fl,none⟩)::rkH p s t nc so.length d a2 n2 c2 c da ds sa ss ha hs [(66,⟨false,some (0,0),Zk so,none⟩)],[(72,k)]⟩
def rdtC (c da ds sa ss ha hs:Nat):Con:=⟨[.agg ⟨YQ c da ds sa ss ha hs⟩],64,[],[],.agg ⟨g8 ds da ds 27⟩,64,[],[]⟩
def rauC (p s t nc ns:Nat) (d:List UInt8) (a2:Option Addr) (n2 c2:Nat):Con:=⟨[.agg ⟨Zfm p s t nc ns d a2 n2 c2⟩],67,[],[],.agg ⟨g8 t 1 t 96⟩,67,[],[]⟩
def Zor (n:Nat) (p s t nc ns:Nat) (d:List UInt8) (a2:Option Addr) (n2 c2:Nat) (c da ds sa ss ha hs:Nat):Sy.Steps:=[(n,24,rdtC c da ds sa ss ha hs,[]),(n,25,rauC p s t nc ns d a2 n2 c2,[64,65,66])]
def rfK (k s sa:Nat):Nat:=(u32.wrap ((sa:Int)+u32.wrap (u32.wrap (k:Int)*u32.wrap (s:Int)))).toNat
def rfW (so:List Nat) (k:Nat):Int:=u32.wrap ((4:Int)*Zb (Zd undef (Zk so) (0+(k:Int).toNat*1)))
def rfC (c da ds sa s t:Nat) (so:List Nat) (k:Nat):List Value :=
 z8++(g8 ds da ds 27)++(g8 t 1 t 96)++z8++z8++z8++z8++z8++z8++z8++z8++z8++z8++z8++c8 (rfK k s sa) (u32.wrap (s:Int)).toNat 27++z8++[.int .u32 (rfW so k),.int .u8 (mE 0 c 5:Nat),.int .u16 (mB 0 c 5:Nat),.int .u16 (mT 0 c 5:Nat),.int .u16 (mP 0 c 5:Nat),.int .u16 0,.int .u32 0,.bool (adV (mA 0 c 5) (mE 0 c 5) (mB 0 c 5) (mT 0 c 5) 0 (mV 0 c 5) (rfW so k).toNat)]
theorem ZpF (p:Nat) (s:Nat) (t:Nat) (ns:Nat) (d:List UInt8) (a2:Option Addr) (n2:Nat) (c2:Nat) (cs:List Nat) (zs:List UInt8) (f:Nat→Bool) (N:Nat) (m:Nat) (c:Nat) (da:Nat) (ds:Nat) (sa:Nat) (ss:Nat) (ha:Nat) (hs:Nat) (k:Nat) (a:Nat) (v:Nat):Option.map (Uu 119 [1,2,3,4,5,6,7,8,9] [71,70,69,68,67,64]) (evC Tryz.prog (evF Tryz.prog (QA 3 (ZT [(72,18,ZoU a v zs f N m,[69,70,71])]) ZD) Zf 100 20) (Zf 5) 119 100 (ZB Tryz.prog 5 0) (Sf.frT 119 (rk0 p s t ns d a2 n2 c2 cs zs f N m c da ds sa ss ha hs k) [(0,true)]))=some (Exit.normal,{ e:=mkE 119 [(1,.pointer (some ⟨67,0,none⟩)),(2,.pointer none),(3,.slice none 0 0),(4,.int .i64 0),(5,.pointer (some ⟨68,0,none⟩)),(6,.int .i64 0),(7,.pointer (some ⟨71,0,none⟩)),(8,.int .i64 0),(9,.int .i64 (i64.wrap ((↑k:Int)+(1:Int))))],s:={ n:=72,h:=[(71,⟨true,none,[Value.slice (some ⟨69,0,none⟩) N 9223372036854775877,.slice (some ⟨70,0,none⟩) m 9223372036854775878],none⟩),(70,⟨true,some (70,1),bls f m,none⟩),(69,⟨true,some (69,1),u8s (QK a (leW 4 v) zs),none⟩),(68,⟨false,none,[Value.int .u32 0,.int .u32 (↑c),.int .u32 (↑da),.int .u32 (↑ds),.int .u32 (↑sa),.int .u32 (↑ss),.int .u32 (↑ha),.int .u32 (↑hs)],none⟩),(67,⟨false,none,[Value.int .i64 (↑p),.int .i64 (↑s),.int .i64 (↑t),.slice (some ⟨64,0,none⟩) cs.length 9223372036854775872,.string ⟨⟨d⟩⟩,.slice a2 n2 c2,.slice (some ⟨66,0,none⟩) ns 9223372036854775874],none⟩),(64,⟨false,some (0,0),Zk cs,none⟩)],lo:=[(70,m),(69,N)],esc:=0,T:=[],k:=0,O:=(bif Qc (0+(↑k:Int).toNat*1+1) (Zk cs)&&Zs [Value.int .u32 0] (Zk cs) (0+(↑k:Int).toNat*1) then bif decide ((0:Int)≤(↑k:Int))&&decide ((↑k:Int)<(↑cs.length:Int)) then True∧decide ((↑k:Int)<(↑cs.length:Int))=true else False else False)∧True∧(rr (Value.pointer (some ⟨71,0,none⟩))∧Value.int .u32 (u32.wrap ((0:Int)+u32.wrap ((4:Int)*u32.wrap (↑k))))=Value.int .u32 (↑a)∧rr (Value.int .i64 4)∧Value.int .u32 (Zb (Zd undef (Zk cs) (0+(↑k:Int).toNat*1)))=Value.int .u32 (↑v)∧True)∧((tt∧tt∧tt∧tt∧tt∧True∧rr [Value.slice (some ⟨69,0,none⟩) N 9223372036854775877,.slice (some ⟨70,0,none⟩) m 9223372036854775878])∧(tt∧(bls f m).all (okV (fun l=>l.blt 67) 3)=true∧tt∧tt∧tt∧True∧bls f m=List.map (rnV (lift 67 72 [69,70,71]) 3) (bls f m))∧(tt∧(u8s zs).all (okV (fun l=>l.blt 67) 3)=true∧tt∧tt∧tt∧True∧u8s zs=List.map (rnV (lift 67 72 [69,70,71]) 3) (u8s zs))∧True)∧(tt∧m≤m)∧(tt∧N≤N)∧True:St }:Fr }):=by kernel_rfl
theorem ZpG (p:Nat) (s:Nat) (t:Nat) (ns:Nat) (d:List UInt8) (a2:Option Addr) (n2:Nat) (c2:Nat) (cs:List Nat) (zs:List UInt8) (f:Nat→Bool) (N:Nat) (m:Nat) (c:Nat) (da:Nat) (ds:Nat) (sa:Nat) (ss:Nat) (ha:Nat) (hs:Nat) (k:Nat):Option.map (Uu 119 [1,2,3,4,5,6,7,8] [71,70,69]) (evC Tryz.prog (evF Tryz.prog ZD Zf 100 20) (Zf 5) 119 100 (ZB Tryz.prog 5 0) (Sf.frT 119 (rk0 p s t ns d a2 n2 c2 cs zs f N m c da ds sa ss ha hs k) [(0,false)]))=some (Exit.exit 0,{ e:=mkE 119 [(1,.pointer (some ⟨67,0,none⟩)),(2,.pointer none),(3,.slice none 0 0),(4,.int .i64 0),(5,.pointer (some ⟨68,0,none⟩)),(6,.int .i64 0),(7,.pointer (some ⟨71,0,none⟩)),(8,.int .i64 0)],s:={ n:=72,h:=[(71,⟨true,none,[Value.slice (some ⟨69,0,none⟩) N 9223372036854775877,.slice (some ⟨70,0,none⟩) m 9223372036854775878],none⟩),(70,⟨true,some (70,1),bls f m,none⟩),(69,⟨true,some (69,1),u8s zs,none⟩)],lo:=[(70,m),(69,N)],esc:=0,T:=[],k:=0,O:=True∧decide ((↑k:Int)<(↑cs.length:Int))=false:St }:Fr }):=by kernel_rfl
theorem ZpH (p:Nat) (s:Nat) (t:Nat) (nc:Nat) (ns:Nat) (d:List UInt8) (rs:List Rl) (zs:List UInt8) (f:Nat→Bool) (N:Nat) (m:Nat) (c:Nat) (da:Nat) (ds:Nat) (sa:Nat) (ss:Nat) (ha:Nat) (hs:Nat) (k:Nat) (a:Nat) (ca:Nat) (ce:Nat) (cb:Nat) (ct:Nat) (cp:Nat) (cy:Nat):Option.map (Uu 119 [1,2,3,4,5,6,7,8,10] [71,70,69,68,67,65]) (evC Tryz.prog (evF Tryz.prog (QA 3 (ZT [(78,20,ZmV a ca ce cb ct cp cy zs f N m,[69,70,71])]) (ZH 3 Um)) Zf 100 20) (Zf 5) 119 100 (ZB Tryz.prog 5 1) (Sf.frT 119 (rk1 p s t nc ns d rs zs f N m c da ds sa ss ha hs k) [(0,true),(1,false)]))=some (Exit.normal,{ e:=mkE 119 [(1,.pointer (some ⟨67,0,none⟩)),(2,.pointer none),(3,.slice none 0 0),(4,.int .i64 0),(5,.pointer (some ⟨68,0,none⟩)),(6,.int .i64 0),(7,.pointer (some ⟨71,0,none⟩)),(8,.int .i64 0),(10,.int .i64 (i64.wrap ((↑k:Int)+(1:Int))))],s:={ n:=78,h:=[(71,⟨true,none,[Value.slice (some ⟨69,0,none⟩) N 9223372036854775877,.slice (some ⟨70,0,none⟩) m 9223372036854775878],none⟩),(70,⟨true,some (70,1),bls (XH f (a/16) true) m,none⟩),(69,⟨true,some (69,1),u8s (QK a (cbL ca ce cb ct cp cy 0) zs),none⟩),(68,⟨false,none,[Value.int .u32 0,.int .u32 (↑c),.int .u32 (↑da),.int .u32 (↑ds),.int .u32 (↑sa),.int .u32 (↑ss),.int .u32 (↑ha),.int .u32 (↑hs)],none⟩),(67,⟨false,none,[Value.int .i64 (↑p),.int .i64 (↑s),.int .i64 (↑t),.slice (some ⟨64,0,none⟩) nc 9223372036854775872,.string ⟨⟨d⟩⟩,.slice (some ⟨65,0,none⟩) rs.length 9223372036854775873,.slice (some ⟨66,0,none⟩) ns 9223372036854775874],none⟩),(65,⟨false,some (0,0),rels rs,none⟩)],lo:=[(70,m),(69,N)],esc:=0,T:=[],k:=0,O:=(((bif Qc (0+(↑k:Int).toNat*6+6) (rels rs)&&Zs [Value.int .u32 0,.bool false,.int .u32 0,.int .u32 0,.int .u16 0,.int .u16 0] (rels rs) (0+(↑k:Int).toNat*6) then bif decide ((0:Int)≤(↑k:Int))&&decide ((↑k:Int)<(↑rs.length:Int)) then bif Qc (0+(↑k:Int).toNat*6+0+1) (rels rs)&&Zs [Value.int .u32 0] (rels rs) (0+(↑k:Int).toNat*6+0) then bif decide ((0:Int)≤(↑k:Int))&&decide ((↑k:Int)<(↑rs.length:Int)) then True∧decide ((↑k:Int)<(↑rs.length:Int))=true else False else False else False else False)∧Zw (Zd undef (rels rs) (0+(↑k:Int).toNat*6+1))=false)∧((0:Int)≤u32.wrap ((↑da:Int)+Zb (Zd undef (rels rs) (0+(↑k:Int).toNat*6+1+1)))∧u32.wrap ((↑da:Int)+Zb (Zd undef (rels rs) (0+(↑k:Int).toNat*6+1+1)))<(4294967296:Int)∧(0:Int)≤Zb (Zd undef (rels rs) (0+(↑k:Int).toNat*6+1+1+1))∧Zb (Zd undef (rels rs) (0+(↑k:Int).toNat*6+1+1+1))<(4294967296:Int)∧(0:Int)≤Zb (Zd undef (rels rs) (0+(↑k:Int).toNat*6+1+1+1+1)))∧(rr (Value.agg ⟨[.int .u32 (u32.wrap ((↑da:Int)+Zb (Zd undef (rels rs) (0+(↑k:Int).toNat*6+1+1)))),.int .u32 (Zb (Zd undef (rels rs) (0+(↑k:Int).toNat*6+1+1+1)))]⟩)∧rr (Value.int .u16 (Zb (Zd undef (rels rs) (0+(↑k:Int).toNat*6+1+1+1+1))))∧True)∧True∧True)∧True∧(rr (Value.pointer (some ⟨71,0,none⟩))∧Value.int .u32 (u32.wrap ((↑da:Int)+Zb (Zd undef (rels rs) (0+(↑k:Int).toNat*6+0))))=Value.int .u32 (↑a)∧Value.agg ⟨[.int .u32 (↑(mA (u32.wrap ((↑da:Int)+Zb (Zd undef (rels rs) (0+(↑k:Int).toNat*6+1+1)))).toNat (Zb (Zd undef (rels rs) (0+(↑k:Int).toNat*6+1+1+1))).toNat (Zb (Zd undef (rels rs) (0+(↑k:Int).toNat*6+1+1+1+1))).toNat):Int),.int .u8 (↑(mE (u32.wrap ((↑da:Int)+Zb (Zd undef (rels rs) (0+(↑k:Int).toNat*6+1+1)))).toNat (Zb (Zd undef (rels rs) (0+(↑k:Int).toNat*6+1+1+1))).toNat (Zb (Zd undef (rels rs) (0+(↑k:Int).toNat*6+1+1+1+1))).toNat):Int),.int .u16 (↑(mB (u32.wrap ((↑da:Int)+Zb (Zd undef (rels rs) (0+(↑k:Int).toNat*6+1+1)))).toNat (Zb (Zd undef (rels rs) (0+(↑k:Int).toNat*6+1+1+1))).toNat (Zb (Zd undef (rels rs) (0+(↑k:Int).toNat*6+1+1+1+1))).toNat):Int),.int .u16 (↑(mT (u32.wrap ((↑da:Int)+Zb (Zd undef (rels rs) (0+(↑k:Int).toNat*6+1+1)))).toNat (Zb (Zd undef (rels rs) (0+(↑k:Int).toNat*6+1+1+1))).toNat (Zb (Zd undef (rels rs) (0+(↑k:Int).toNat*6+1+1+1+1))).toNat):Int),.int .u16 (↑(mP (u32.wrap ((↑da:Int)+Zb (Zd undef (rels rs) (0+(↑k:Int).toNat*6+1+1)))).toNat (Zb (Zd undef (rels rs) (0+(↑k:Int).toNat*6+1+1+1))).toNat (Zb (Zd undef (rels rs) (0+(↑k:Int).toNat*6+1+1+1+1))).toNat):Int),.int .u16 (Zb (Zd undef (rels rs) (0+(↑k:Int).toNat*6+1+1+1+1+1))),.int .u32 0,.bool (mV (u32.wrap ((↑da:Int)+Zb (Zd undef (rels rs) (0+(↑k:Int).toNat*6+1+1)))).toNat (Zb (Zd undef (rels rs) (0+(↑k:Int).toNat*6+1+1+1))).toNat (Zb (Zd undef (rels rs) (0+(↑k:Int).toNat*6+1+1+1+1))).toNat)]⟩=Value.agg ⟨[.int .u32 (↑ca),.int .u8 (↑ce),.int .u16 (↑cb),.int .u16 (↑ct),.int .u16 (↑cp),.int .u16 (↑cy),.int .u32 0,.bool true]⟩∧True)∧((tt∧tt∧tt∧tt∧tt∧True∧rr [Value.slice (some ⟨69,0,none⟩) N 9223372036854775877,.slice (some ⟨70,0,none⟩) m 9223372036854775878])∧(tt∧(bls f m).all (okV (fun l=>l.blt 67) 3)=true∧tt∧tt∧tt∧True∧bls f m=List.map (rnV (lift 67 78 [69,70,71]) 3) (bls f m))∧(tt∧(u8s zs).all (okV (fun l=>l.blt 67) 3)=true∧tt∧tt∧tt∧True∧u8s zs=List.map (rnV (lift 67 78 [69,70,71]) 3) (u8s zs))∧True)∧(tt∧m≤m)∧(tt∧N≤N)∧True:St }:Fr }):=by kernel_rfl
theorem ZpI (p:Nat) (s:Nat) (t:Nat) (nc:Nat) (ns:Nat) (d:List UInt8) (rs:List Rl) (zs:List UInt8) (f:Nat→Bool) (N:Nat) (m:Nat) (c:Nat) (da:Nat) (ds:Nat) (sa:Nat) (ss:Nat) (ha:Nat) (hs:Nat) (k:Nat) (a:Nat) (ca:Nat) (ce:Nat) (cb:Nat) (ct:Nat) (cp:Nat) (cy:Nat):Option.map (Uu 119 [1,2,3,4,5,6,7,8,10] [71,70,69,68,67,65]) (evC Tryz.prog (evF Tryz.prog (QA 3 (ZT [(78,20,ZmV a ca ce cb ct cp cy zs f N m,[69,70,71])]) (ZH 3 Um)) Zf 100 20) (Zf 5) 119 100 (ZB Tryz.prog 5 1) (Sf.frT 119 (rk1 p s t nc ns d rs zs f N m c da ds sa ss ha hs k) [(0,true),(1,true)]))=some (Exit.normal,{ e:=mkE 119 [(1,.pointer (some ⟨67,0,none⟩)),(2,.pointer none),(3,.slice none 0 0),(4,.int .i64 0),(5,.pointer (some ⟨68,0,none⟩)),(6,.int .i64 0),(7,.pointer (some ⟨71,0,none⟩)),(8,.int .i64 0),(10,.int .i64 (i64.wrap ((↑k:Int)+(1:Int))))],s:={ n:=78,h:=[(71,⟨true,none,[Value.slice (some ⟨69,0,none⟩) N 9223372036854775877,.slice (some ⟨70,0,none⟩) m 9223372036854775878],none⟩),(70,⟨true,some (70,1),bls (XH f (a/16) true) m,none⟩),(69,⟨true,some (69,1),u8s (QK a (cbL ca ce cb ct cp cy 0) zs),none⟩),(68,⟨false,none,[Value.int .u32 0,.int .u32 (↑c),.int .u32 (↑da),.int .u32 (↑ds),.int .u32 (↑sa),.int .u32 (↑ss),.int .u32 (↑ha),.int .u32 (↑hs)],none⟩),(67,⟨false,none,[Value.int .i64 (↑p),.int .i64 (↑s),.int .i64 (↑t),.slice (some ⟨64,0,none⟩) nc 9223372036854775872,.string ⟨⟨d⟩⟩,.slice (some ⟨65,0,none⟩) rs.length 9223372036854775873,.slice (some ⟨66,0,none⟩) ns 9223372036854775874],none⟩),(65,⟨false,some (0,0),rels rs,none⟩)],lo:=[(70,m),(69,N)],esc:=0,T:=[],k:=0,O:=(((bif Qc (0+(↑k:Int).toNat*6+6) (rels rs)&&Zs [Value.int .u32 0,.bool false,.int .u32 0,.int .u32 0,.int .u16 0,.int .u16 0] (rels rs) (0+(↑k:Int).toNat*6) then bif decide ((0:Int)≤(↑k:Int))&&decide ((↑k:Int)<(↑rs.length:Int)) then bif Qc (0+(↑k:Int).toNat*6+0+1) (rels rs)&&Zs [Value.int .u32 0] (rels rs) (0+(↑k:Int).toNat*6+0) then bif decide ((0:Int)≤(↑k:Int))&&decide ((↑k:Int)<(↑rs.length:Int)) then True∧decide ((↑k:Int)<(↑rs.length:Int))=true else False else False else False else False)∧Zw (Zd undef (rels rs) (0+(↑k:Int).toNat*6+1))=true)∧((0:Int)≤u32.wrap ((0:Int)+Zb (Zd undef (rels rs) (0+(↑k:Int).toNat*6+1+1)))∧u32.wrap ((0:Int)+Zb (Zd undef (rels rs) (0+(↑k:Int).toNat*6+1+1)))<(4294967296:Int)∧(0:Int)≤Zb (Zd undef (rels rs) (0+(↑k:Int).toNat*6+1+1+1))∧Zb (Zd undef (rels rs) (0+(↑k:Int).toNat*6+1+1+1))<(4294967296:Int)∧(0:Int)≤Zb (Zd undef (rels rs) (0+(↑k:Int).toNat*6+1+1+1+1)))∧(rr (Value.agg ⟨[.int .u32 (u32.wrap ((0:Int)+Zb (Zd undef (rels rs) (0+(↑k:Int).toNat*6+1+1)))),.int .u32 (Zb (Zd undef (rels rs) (0+(↑k:Int).toNat*6+1+1+1)))]⟩)∧rr (Value.int .u16 (Zb (Zd undef (rels rs) (0+(↑k:Int).toNat*6+1+1+1+1))))∧True)∧True∧True)∧True∧(rr (Value.pointer (some ⟨71,0,none⟩))∧Value.int .u32 (u32.wrap ((↑da:Int)+Zb (Zd undef (rels rs) (0+(↑k:Int).toNat*6+0))))=Value.int .u32 (↑a)∧Value.agg ⟨[.int .u32 (↑(mA (u32.wrap ((0:Int)+Zb (Zd undef (rels rs) (0+(↑k:Int).toNat*6+1+1)))).toNat (Zb (Zd undef (rels rs) (0+(↑k:Int).toNat*6+1+1+1))).toNat (Zb (Zd undef (rels rs) (0+(↑k:Int).toNat*6+1+1+1+1))).toNat):Int),.int .u8 (↑(mE (u32.wrap ((0:Int)+Zb (Zd undef (rels rs) (0+(↑k:Int).toNat*6+1+1)))).toNat (Zb (Zd undef (rels rs) (0+(↑k:Int).toNat*6+1+1+1))).toNat (Zb (Zd undef (rels rs) (0+(↑k:Int).toNat*6+1+1+1+1))).toNat):Int),.int .u16 (↑(mB (u32.wrap ((0:Int)+Zb (Zd undef (rels rs) (0+(↑k:Int).toNat*6+1+1)))).toNat (Zb (Zd undef (rels rs) (0+(↑k:Int).toNat*6+1+1+1))).toNat (Zb (Zd undef (rels rs) (0+(↑k:Int).toNat*6+1+1+1+1))).toNat):Int),.int .u16 (↑(mT (u32.wrap ((0:Int)+Zb (Zd undef (rels rs) (0+(↑k:Int).toNat*6+1+1)))).toNat (Zb (Zd undef (rels rs) (0+(↑k:Int).toNat*6+1+1+1))).toNat (Zb (Zd undef (rels rs) (0+(↑k:Int).toNat*6+1+1+1+1))).toNat):Int),.int .u16 (↑(mP (u32.wrap ((0:Int)+Zb (Zd undef (rels rs) (0+(↑k:Int).toNat*6+1+1)))).toNat (Zb (Zd undef (rels rs) (0+(↑k:Int).toNat*6+1+1+1))).toNat (Zb (Zd undef (rels rs) (0+(↑k:Int).toNat*6+1+1+1+1))).toNat):Int),.int .u16 (Zb (Zd undef (rels rs) (0+(↑k:Int).toNat*6+1+1+1+1+1))),.int .u32 0,.bool (mV (u32.wrap ((0:Int)+Zb (Zd undef (rels rs) (0+(↑k:Int).toNat*6+1+1)))).toNat (Zb (Zd undef (rels rs) (0+(↑k:Int).toNat*6+1+1+1))).toNat (Zb (Zd undef (rels rs) (0+(↑k:Int).toNat*6+1+1+1+1))).toNat)]⟩=Value.agg ⟨[.int .u32 (↑ca),.int .u8 (↑ce),.int .u16 (↑cb),.int .u16 (↑ct),.int .u16 (↑cp),.int .u16 (↑cy),.int .u32 0,.bool true]⟩∧True)∧((tt∧tt∧tt∧tt∧tt∧True∧rr [Value.slice (some ⟨69,0,none⟩) N 9223372036854775877,.slice (some ⟨70,0,none⟩) m 9223372036854775878])∧(tt∧(bls f m).all (okV (fun l=>l.blt 67) 3)=true∧tt∧tt∧tt∧True∧bls f m=List.map (rnV (lift 67 78 [69,70,71]) 3) (bls f m))∧(tt∧(u8s zs).all (okV (fun l=>l.blt 67) 3)=true∧tt∧tt∧tt∧True∧u8s zs=List.map (rnV (lift 67 78 [69,70,71]) 3) (u8s zs))∧True)∧(tt∧m≤m)∧(tt∧N≤N)∧True:St }:Fr }):=by kernel_rfl
theorem ZpJ (p:Nat) (s:Nat) (t:Nat) (nc:Nat) (ns:Nat) (d:List UInt8) (rs:List Rl) (zs:List UInt8) (f:Nat→Bool) (N:Nat) (m:Nat) (c:Nat) (da:Nat) (ds:Nat) (sa:Nat) (ss:Nat) (ha:Nat) (hs:Nat) (k:Nat):Option.map (Uu 119 [1,2,3,4,5,6,7,8] [71,70,69]) (evC Tryz.prog (evF Tryz.prog ZD Zf 100 20) (Zf 5) 119 100 (ZB Tryz.prog 5 1) (Sf.frT 119 (rk1 p s t nc ns d rs zs f N m c da ds sa ss ha hs k) [(0,false)]))=some (Exit.exit 2,{ e:=mkE 119 [(1,.pointer (some ⟨67,0,none⟩)),(2,.pointer none),(3,.slice none 0 0),(4,.int .i64 0),(5,.pointer (some ⟨68,0,none⟩)),(6,.int .i64 0),(7,.pointer (some ⟨71,0,none⟩)),(8,.int .i64 0)],s:={ n:=72,h:=[(71,⟨true,none,[Value.slice (some ⟨69,0,none⟩) N 9223372036854775877,.slice (some ⟨70,0,none⟩) m 9223372036854775878],none⟩),(70,⟨true,some (70,1),bls f m,none⟩),(69,⟨true,some (69,1),u8s zs,none⟩)],lo:=[(70,m),(69,N)],esc:=0,T:=[],k:=0,O:=True∧decide ((↑k:Int)<(↑rs.length:Int))=false:St }:Fr }):=by kernel_rfl
theorem ZpK (p:Nat) (s:Nat) (t:Nat) (nc:Nat) (d:List UInt8) (a2:Option Addr) (n2:Nat) (c2:Nat) (c:Nat) (da:Nat) (ds:Nat) (sa:Nat) (ss:Nat) (ha:Nat) (hs:Nat) (so:List Nat) (k:Nat):Option.map (Uu 119 [1,2,3,4,5,6,7,8,11,12] [85,68,67,66]) (evC Tryz.prog (evF Tryz.prog (QA 3 (ZT (Zor 78 p s t nc so.length d a2 n2 c2 c da ds sa ss ha hs)) (ZH 3 Um)) Zf 100 20) (Zf 5) 119 100 (ZB Tryz.prog 5 2) (Sf.frT 119 (ZpD p s t nc d a2 n2 c2 c da ds sa ss ha hs so k) [(0,true)]))=some (Exit.normal,{ e:=mkE 119 [(1,.pointer (some ⟨67,0,none⟩)),(2,.pointer none),(3,.slice none 0 0),(4,.int .i64 0),(5,.pointer (some ⟨68,0,none⟩)),(6,.int .i64 0),(7,.pointer (some ⟨71,0,none⟩)),(8,.int .i64 0),(11,.slice (some ⟨85,0,none⟩) 1 9223372036854775893),(12,.int .i64 (i64.wrap ((↑k:Int)+(1:Int))))],s:={ n:=86,h:=[(85,⟨true,some (85,136),(rfC c da ds sa s t so k),none⟩),(68,⟨false,none,[Value.int .u32 0,.int .u32 (↑c),.int .u32 (↑da),.int .u32 (↑ds),.int .u32 (↑sa),.int .u32 (↑ss),.int .u32 (↑ha),.int .u32 (↑hs)],none⟩),(67,⟨false,none,[Value.int .i64 (↑p),.int .i64 (↑s),.int .i64 (↑t),.slice (some ⟨64,0,none⟩) nc 9223372036854775872,.string ⟨⟨d⟩⟩,.slice a2 n2 c2,.slice (some ⟨66,0,none⟩) so.length 9223372036854775874],none⟩),(66,⟨false,some (0,0),Zk so,none⟩)],lo:=[(85,1)],esc:=0,T:=[],k:=0,O:=(((((bif Qc (0+(↑k:Int).toNat*1+1) (Zk so)&&Zs [Value.int .u32 0] (Zk so) (0+(↑k:Int).toNat*1) then bif decide ((0:Int)≤(↑k:Int))&&decide ((↑k:Int)<(↑so.length:Int)) then True∧decide ((↑k:Int)<(↑so.length:Int))=true else False else False)∧((0:Int)≤(0:Int)∧(0:Int)<(4294967296:Int)∧(0:Int)≤(↑c:Int)∧(↑c:Int)<(4294967296:Int)∧(0:Int)≤(5:Int))∧(rr (Value.agg ⟨[.int .u32 0,.int .u32 (↑c)]⟩)∧rr (Value.int .u16 5)∧True)∧True∧True)∧((0:Int)≤(↑(mA 0 (↑c:Int).toNat 5):Int)∧(↑(mA 0 (↑c:Int).toNat 5):Int)<(4294967296:Int)∧(0:Int)≤(↑(mE 0 (↑c:Int).toNat 5):Int)∧(↑(mE 0 (↑c:Int).toNat 5):Int)<(256:Int)∧(0:Int)≤(↑(mB 0 (↑c:Int).toNat 5):Int)∧(↑(mB 0 (↑c:Int).toNat 5):Int)<(65536:Int)∧(0:Int)≤(↑(mT 0 (↑c:Int).toNat 5):Int)∧(↑(mT 0 (↑c:Int).toNat 5):Int)<(65536:Int)∧(0:Int)≤(↑(mP 0 (↑c:Int).toNat 5):Int)∧(↑(mP 0 (↑c:Int).toNat 5):Int)<(65536:Int)∧(0:Int)≤(0:Int)∧(0:Int)<(65536:Int)∧(0:Int)≤(0:Int)∧(0:Int)<(4294967296:Int)∧(0:Int)≤u32.wrap ((4:Int)*Zb (Zd undef (Zk so) (0+(↑k:Int).toNat*1)))∧u32.wrap ((4:Int)*Zb (Zd undef (Zk so) (0+(↑k:Int).toNat*1)))<(4294967296:Int))∧(rr (Value.agg ⟨[.int .u32 (↑(mA 0 (↑c:Int).toNat 5):Int),.int .u8 (↑(mE 0 (↑c:Int).toNat 5):Int),.int .u16 (↑(mB 0 (↑c:Int).toNat 5):Int),.int .u16 (↑(mT 0 (↑c:Int).toNat 5):Int),.int .u16 (↑(mP 0 (↑c:Int).toNat 5):Int),.int .u16 0,.int .u32 0,.bool (mV 0 (↑c:Int).toNat 5)]⟩)∧rr (Value.int .u32 (u32.wrap ((4:Int)*Zb (Zd undef (Zk so) (0+(↑k:Int).toNat*1)))))∧True)∧True∧True)∧True∧(rr (Value.agg ⟨[.int .u32 0,.int .u32 (↑c),.int .u32 (↑da),.int .u32 (↑ds),.int .u32 (↑sa),.int .u32 (↑ss),.int .u32 (↑ha),.int .u32 (↑hs)]⟩)∧True)∧True∧True)∧True∧(Value.agg ⟨[.int .i64 (↑p),.int .i64 (↑s),.int .i64 (↑t),.slice (some ⟨64,0,none⟩) nc 9223372036854775872,.string ⟨⟨d⟩⟩,.slice a2 n2 c2,.slice (some ⟨66,0,none⟩) so.length 9223372036854775874]⟩=Value.agg ⟨[.int .i64 (↑p),.int .i64 (↑s),.int .i64 (↑t),.slice (some ⟨64,0,none⟩) nc 9223372036854775872,.string ⟨⟨d⟩⟩,.slice (Option.map (rnA (lift 67 78 [64,65,66])) a2) n2 (rnC (lift 67 78 [64,65,66]) c2),.slice (some ⟨66,0,none⟩) so.length 9223372036854775874]⟩∧True)∧True∧True)∧((0:Int)≤u32.wrap ((↑sa:Int)+u32.wrap (u32.wrap (↑k)*u32.wrap (↑s)))∧u32.wrap ((↑sa:Int)+u32.wrap (u32.wrap (↑k)*u32.wrap (↑s)))<(4294967296:Int)∧(0:Int)≤u32.wrap (↑s)∧u32.wrap (↑s)<(4294967296:Int)∧(0:Int)≤(27:Int))∧(rr (Value.agg ⟨[.int .u32 (u32.wrap ((↑sa:Int)+u32.wrap (u32.wrap (↑k)*u32.wrap (↑s)))),.int .u32 (u32.wrap (↑s))]⟩)∧rr (Value.int .u16 27)∧True)∧True∧True:St }:Fr }):=by kernel_rfl
theorem ZpL (p:Nat) (s:Nat) (t:Nat) (nc:Nat) (d:List UInt8) (a2:Option Addr) (n2:Nat) (c2:Nat) (c:Nat) (da:Nat) (ds:Nat) (sa:Nat) (ss:Nat) (ha:Nat) (hs:Nat) (so:List Nat) (fl:List Value) (k:Nat):Option.map (Uu 119 [1,2,3,4,5,6,7,8,11,12] [86,68,67,66]) (evC Tryz.prog (evF Tryz.prog (QA 3 (ZT (Zor 79 p s t nc so.length d a2 n2 c2 c da ds sa ss ha hs)) (ZH 3 Um)) Zf 100 20) (Zf 5) 119 100 (ZB Tryz.prog 5 2) (Sf.frT 119 (ZpE p s t nc d a2 n2 c2 c da ds sa ss ha hs so fl k) [(0,true)]))=some (Exit.normal,{ e:=mkE 119 [(1,.pointer (some ⟨67,0,none⟩)),(2,.pointer none),(3,.slice none 0 0),(4,.int .i64 0),(5,.pointer (some ⟨68,0,none⟩)),(6,.int .i64 0),(7,.pointer (some ⟨71,0,none⟩)),(8,.int .i64 0),(11,.slice (some ⟨86,0,none⟩) (k+1) 9223372036854775894),(12,.int .i64 (i64.wrap ((↑k:Int)+(1:Int))))],s:={ n:=87,h:=[(86,⟨true,some (86,136),fl++(rfC c da ds sa s t so k),none⟩),(68,⟨false,none,[Value.int .u32 0,.int .u32 (↑c),.int .u32 (↑da),.int .u32 (↑ds),.int .u32 (↑sa),.int .u32 (↑ss),.int .u32 (↑ha),.int .u32 (↑hs)],none⟩),(67,⟨false,none,[Value.int .i64 (↑p),.int .i64 (↑s),.int .i64 (↑t),.slice (some ⟨64,0,none⟩) nc 9223372036854775872,.string ⟨⟨d⟩⟩,.slice a2 n2 c2,.slice (some ⟨66,0,none⟩) so.length 9223372036854775874],none⟩),(66,⟨false,some (0,0),Zk so,none⟩)],lo:=[(86,k+1),(72,k)],esc:=0,T:=[],k:=0,O:=bif (Zr fl).beq (k*136) then bif ((k+1)*408).ble 1099511627776&&(k+1).blt 4611686018427387904 then(((((bif Qc (0+(↑k:Int).toNat*1+1) (Zk so)&&Zs [Value.int .u32 0] (Zk so) (0+(↑k:Int).toNat*1) then bif decide ((0:Int)≤(↑k:Int))&&decide ((↑k:Int)<(↑so.length:Int)) then True∧decide ((↑k:Int)<(↑so.length:Int))=true else False else False)∧((0:Int)≤(0:Int)∧(0:Int)<(4294967296:Int)∧(0:Int)≤(↑c:Int)∧(↑c:Int)<(4294967296:Int)∧(0:Int)≤(5:Int))∧(rr (Value.agg ⟨[.int .u32 0,.int .u32 (↑c)]⟩)∧rr (Value.int .u16 5)∧True)∧True∧True)∧((0:Int)≤(↑(mA 0 (↑c:Int).toNat 5):Int)∧(↑(mA 0 (↑c:Int).toNat 5):Int)<(4294967296:Int)∧(0:Int)≤(↑(mE 0 (↑c:Int).toNat 5):Int)∧(↑(mE 0 (↑c:Int).toNat 5):Int)<(256:Int)∧(0:Int)≤(↑(mB 0 (↑c:Int).toNat 5):Int)∧(↑(mB 0 (↑c:Int).toNat 5):Int)<(65536:Int)∧(0:Int)≤(↑(mT 0 (↑c:Int).toNat 5):Int)∧(↑(mT 0 (↑c:Int).toNat 5):Int)<(65536:Int)∧(0:Int)≤(↑(mP 0 (↑c:Int).toNat 5):Int)∧(↑(mP 0 (↑c:Int).toNat 5):Int)<(65536:Int)∧(0:Int)≤(0:Int)∧(0:Int)<(65536:Int)∧(0:Int)≤(0:Int)∧(0:Int)<(4294967296:Int)∧(0:Int)≤u32.wrap ((4:Int)*Zb (Zd undef (Zk so) (0+(↑k:Int).toNat*1)))∧u32.wrap ((4:Int)*Zb (Zd undef (Zk so) (0+(↑k:Int).toNat*1)))<(4294967296:Int))∧(rr (Value.agg ⟨[.int .u32 (↑(mA 0 (↑c:Int).toNat 5):Int),.int .u8 (↑(mE 0 (↑c:Int).toNat 5):Int),.int .u16 (↑(mB 0 (↑c:Int).toNat 5):Int),.int .u16 (↑(mT 0 (↑c:Int).toNat 5):Int),.int .u16 (↑(mP 0 (↑c:Int).toNat 5):Int),.int .u16 0,.int .u32 0,.bool (mV 0 (↑c:Int).toNat 5)]⟩)∧rr (Value.int .u32 (u32.wrap ((4:Int)*Zb (Zd undef (Zk so) (0+(↑k:Int).toNat*1)))))∧True)∧True∧True)∧True∧(rr (Value.agg ⟨[.int .u32 0,.int .u32 (↑c),.int .u32 (↑da),.int .u32 (↑ds),.int .u32 (↑sa),.int .u32 (↑ss),.int .u32 (↑ha),.int .u32 (↑hs)]⟩)∧True)∧True∧True)∧True∧(Value.agg ⟨[.int .i64 (↑p),.int .i64 (↑s),.int .i64 (↑t),.slice (some ⟨64,0,none⟩) nc 9223372036854775872,.string ⟨⟨d⟩⟩,.slice a2 n2 c2,.slice (some ⟨66,0,none⟩) so.length 9223372036854775874]⟩=Value.agg ⟨[.int .i64 (↑p),.int .i64 (↑s),.int .i64 (↑t),.slice (some ⟨64,0,none⟩) nc 9223372036854775872,.string ⟨⟨d⟩⟩,.slice (Option.map (rnA (lift 67 79 [64,65,66])) a2) n2 (rnC (lift 67 79 [64,65,66]) c2),.slice (some ⟨66,0,none⟩) so.length 9223372036854775874]⟩∧True)∧True∧True)∧((0:Int)≤u32.wrap ((↑sa:Int)+u32.wrap (u32.wrap (↑k)*u32.wrap (↑s)))∧u32.wrap ((↑sa:Int)+u32.wrap (u32.wrap (↑k)*u32.wrap (↑s)))<(4294967296:Int)∧(0:Int)≤u32.wrap (↑s)∧u32.wrap (↑s)<(4294967296:Int)∧(0:Int)≤(27:Int))∧(rr (Value.agg ⟨[.int .u32 (u32.wrap ((↑sa:Int)+u32.wrap (u32.wrap (↑k)*u32.wrap (↑s)))),.int .u32 (u32.wrap (↑s))]⟩)∧rr (Value.int .u16 27)∧True)∧True∧True else False else False:St }:Fr }):=by kernel_rfl
theorem ZpM (p:Nat) (s:Nat) (t:Nat) (nc:Nat) (d:List UInt8) (a2:Option Addr) (n2:Nat) (c2:Nat) (c:Nat) (da:Nat) (ds:Nat) (sa:Nat) (ss:Nat) (ha:Nat) (hs:Nat) (so:List Nat) (fl:List Value) (k:Nat):Option.map (Uu 119 [1,2,3,4,5,6,7,8,11] [72]) (evC Tryz.prog (evF Tryz.prog ZD Zf 100 20) (Zf 5) 119 100 (ZB Tryz.prog 5 2) (Sf.frT 119 (ZpE p s t nc d a2 n2 c2 c da ds sa ss ha hs so fl k) [(0,false)]))=some (Exit.exit 4,{ e:=mkE 119 [(1,.pointer (some ⟨67,0,none⟩)),(2,.pointer none),(3,.slice none 0 0),(4,.int .i64 0),(5,.pointer (some ⟨68,0,none⟩)),(6,.int .i64 0),(7,.pointer (some ⟨71,0,none⟩)),(8,.int .i64 0),(11,.slice (some ⟨72,0,none⟩) k 9223372036854775880)],s:={ n:=73,h:=[(72,⟨true,some (72,136),fl,none⟩)],lo:=[(72,k)],esc:=0,T:=[],k:=0,O:=True∧decide ((↑k:Int)<(↑so.length:Int))=false:St }:Fr }):=by kernel_rfl
end Go.Proofs.YtliidiceljdgmaaGreat
