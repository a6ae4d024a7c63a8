/- Shaken copy of a longer text: what one law needs. Its conditions: none. -/
import GoSem.Core.Program
import GoSem.Core.View
import GoSem.Core.Region
import GoSem.Core.Utf8
import GoSem.Core.Layout
import Derived.Attr
import Derived.IntWalk
set_option linter.unusedSimpArgs false
set_option linter.unusedVariables false
set_option linter.unusedSectionVars false
set_option linter.unnecessarySimpa false
namespace Go.AI
inductive D where
 |bool (b:Bool)|int (k:IntKind) (n:Int)|str (s:List UInt8)
 |list (nil:Bool) (l:List D)|agg (cs:List D)|tuple (l:List D)
 |fn (f:FuncId)|nilp|nilf|nilm|nili
 deriving Inhabited,Repr
inductive V where
 |d (x:D)|ptr (b i off:Nat)|rp (x:D) (off:Nat)|sl (b off len:Nat)
 |agg (cs:List V)|tuple (cs:List V)|clo (f:FuncId) (first cap:List V)
 |map (b:Nat)|it (b:Nat)|yld (b:Nat)|undef
 deriving Inhabited,Repr
def allD:List V→Option (List D)
 |[]=>some []
 | .d x::r=>(allD r).map (x:: ·)
 |_::_=>none
def V.ofCells (cs:List V):V:=match allD cs with|some ds=> .d (.agg ds)|none=> .agg cs
def V.ofTuple (cs:List V):V:=match allD cs with|some ds=> .d (.tuple ds)|none=> .tuple cs
def D.cells:D→List D| .agg cs=>cs|x=>[x]
def V.cells:V→List V| .agg cs=>cs| .d x=>x.cells.map .d| .undef=>[]|v=>[v]
def D.sub (x:D) (off:Nat):Option Nat→Option D
 |none=>x.cells[off]?
 |some n=>if off+n≤x.cells.length then some (.agg ((x.cells.drop off).take n))else none
def V.sub (x:V) (off:Nat):Option Nat→Option V
 |none=>x.cells[off]?
 |some n=>if off+n≤x.cells.length then some (V.ofCells ((x.cells.drop off).take n))else none
def splice {α:Type} (cs:List α) (off:Nat) (new:List α):List α:=cs.take off++new++cs.drop (off+new.length)
inductive Opd where
 |l (i:Nat)|r (t:Nat)|k (x:D)
 deriving Inhabited,Repr
inductive CK where
 |bool|int|str
 deriving DecidableEq,Inhabited,Repr
inductive ETy where
 |bool|agg (ks:List CK)|slice|func|ptr|map|other
 deriving DecidableEq,Inhabited,Repr
inductive LK where
 |sl|str|map
 deriving DecidableEq,Inhabited,Repr
inductive Cv where
 |int (k:IntKind)|rune|same
 deriving Inhabited,Repr
inductive SOp where
 |move (x:Opd)|pick (c a b:Opd)|alloc (z:D)|box (x:Opd)
 |build (z:List D) (parts:List (Nat×Nat×Opd))
 |bslice (len:Nat) (z:D) (parts:List (Nat×Opd))
 |load (n:Option Nat) (a:Opd)|store (n:Nat) (a x:Opd)
 |nilCheck (x:Opd)
 |bin (op:BinOp) (ty:ETy) (x y:Opd)
 |un (op:UnOp) (x:Opd)
 |conv (k:Cv) (x:Opd)
 |mkFunc (f:FuncId) (first cap:List Opd)
 |mkMap
 |mkSlice (z:D) (bytes:Nat) (l c:Opd)
 |slice (sz:Nat) (x:Opd) (lo hi mx:Option Opd)
 |faddr (off:Nat) (x:Opd)|field (off:Nat) (n:Option Nat) (x:Opd)
 |iaddr (sz:Nat) (x i:Opd)|aaddr (len sz:Nat) (x i:Opd)
 |index (x i:Opd)|aindex (len sz:Nat) (n:Option Nat) (x i:Opd)
 |lookup (ks:List CK) (z:D) (m k:Opd) (ok:Bool)|mupd (ks:List CK) (m k v:Opd)|mentry (ks:List CK) (z:D) (m k:Opd)|estore (m s v:Opd)
 |rangeS (x:Opd)|nextS (it:Opd)
 |extract (x:Opd) (i:Nat)
 |call (f:FuncId) (args:List Opd)|callv (f:Opd) (args:List Opd)
 |len (k:LK) (x:Opd)|app (sz bytes:Nat) (a b:Opd)|copy (sz:Nat) (a b:Opd)|mx (args:List Opd)|mn (args:List Opd)
 |clear (z:D) (x:Opd)
 deriving Inhabited,Repr
inductive C where
 |skip
 |region (ops:List (SOp×Option (Nat×Bool))) (outs:List (Nat×Nat)) (pairs:List (Nat×Nat))
 |seq (a b:C)|cond (c:Opd) (a b:C)|block (id:Nat) (a:C)|loop (a:C)|exit (id:Nat)|ret
 |rfunc (f:Opd) (params:List Nat) (assign body:C)
 deriving Inhabited,Repr
inductive RV where
 |reg (t:Nat)|cell (t:Nat) (n:Option Nat)
 deriving Inhabited,Repr
structure AFn where
 body:C
 results:List RV
 deriving Inhabited,Repr
structure AProg where
 fns:FuncId→Option AFn
 sh:FuncId→Bool
 prim:FuncId→Option (List D→Option D):=fun _=>none
abbrev Regs:=Nat→V
def Regs.set (r:Regs) (t:Nat) (v:V):Regs:=fun i=>bif i==t then v else r i
inductive Jump where
 |exit (id:Nat)|ret
 deriving Inhabited,Repr
inductive LSt where
 |ready|busy|done|exhausted
 deriving DecidableEq,Inhabited,Repr
structure LoopB where
 regs:Regs
 params:List Nat
 assign:C
 body:C
 state:LSt
 pending:Option Jump
inductive Blk where
 |els (sz:Nat) (l:List V) (fz:Nat)
 |map (es:List (D×V×Nat)) (clock:Nat)
 |it (s:List UInt8) (pos:Nat)
 |loop (l:LoopB)
structure Heap where
 get:Nat→Option Blk
 next:Nat
def Heap.empty:Heap:={get:=fun _=>none,next:=0}
def Heap.set (h:Heap) (b:Nat) (x:Option Blk):Heap:={h with get:=fun c=>bif c==b then x else h.get c}
def Heap.put (h:Heap) (b:Nat) (x:Blk):Heap:=h.set b (some x)
def Heap.del (h:Heap) (b:Nat):Heap:=h.set b none
def Heap.bump (h:Heap) (n:Nat):Heap:={h with next:=h.next+n}
def freeze (h:Heap) (b n:Nat):Heap:=
 match h.get b with
 |some (.els z l fz)=>if n≤fz then h else h.put b (.els z l n)
 |_=>h
def zbI (f:Heap→V→Option (D×Heap)):Heap→List V→Option (List D×Heap)
 |h,[]=>some ([],h)
 |h,v::r=>(f h v).bind fun(x,h)=>(zbI f h r).map fun(xs,h)=>(x::xs,h)
def zba (f:Heap→V→Option (D×Heap)) (h:Heap) (l:List V):Option (List D×Heap):=
 match allD l with
 |some ds=>some (ds,h)
 |none=>zbI f h l
def res:Nat→Heap→V→Option (D×Heap)
 |_,h,.d x=>some (x,h)
 |n+1,h,.sl b off len=>
  match h.get b with
  |some (.els _ l _)=>if off+len≤l.length then(zba (res n) (freeze h b (off+len)) ((l.drop off).take len)).map fun(ds,h)=>(.list false ds,h)else none
  |_=>none
 |n+1,h,.agg cs=>(zba (res n) h cs).map fun(ds,h)=>(.agg ds,h)
 |n+1,h,.tuple cs=>(zba (res n) h cs).map fun(ds,h)=>(.tuple ds,h)
 |_,_,_=>none
def zcH (op:BinOp) (k:IntKind) (a b:Int):Option D:=
 match op with
 | .add=>some (.int k (k.wrap (a+b)))| .sub=>some (.int k (k.wrap (a-b)))| .mul=>some (.int k (k.wrap (a*b)))
 | .quo=>if b=0 then none else some (.int k (k.wrap (a.tdiv b)))
 | .rem=>if b=0 then none else some (.int k (a.tmod b))
 | .eql=>some (.bool (a==b))| .neq=>some (.bool (a !=b))| .lss=>some (.bool (decide (a<b)))| .leq=>some (.bool (decide (a≤b)))
 | .gtr=>some (.bool (decide (a>b)))| .geq=>some (.bool (decide (a≥b)))
 | .and=>some (.int k (k.wrap ((BitVec.ofInt k.bits a&&&BitVec.ofInt k.bits b).toNat:Int)))
 | .or=>some (.int k (k.wrap ((BitVec.ofInt k.bits a|||BitVec.ofInt k.bits b).toNat:Int)))
 |_=>none
def bytesLess:List UInt8→List UInt8→Bool
 |_,[]=>false
 |[],_::_=>true
 |a::x,b::y=>a<b||(a==b&&bytesLess x y)
def zEV:Nat:=2^62
def zkd (op:BinOp) (a b:List UInt8):Option D:=
 match op with
 | .add=>if a.length+b.length≤zEV then some (.str (a++b))else none
 | .eql=>some (.bool (a==b))| .neq=>some (.bool !(a==b))
 | .lss=>some (.bool (bytesLess a b))| .leq=>some (.bool (bytesLess a b||a==b))
 | .gtr=>some (.bool !(bytesLess a b||a==b))| .geq=>some (.bool !(bytesLess a b))
 |_=>none
def zbt:CK→D→D→Option Bool
 | .int,.int k a,.int k' b=>if k=k' then some (a==b)else none
 | .str,.str a,.str b=>some (a==b)
 | .bool,.bool a,.bool b=>some (a==b)
 |_,_,_=>none
def zaM:List CK→List D→List D→Option Bool
 |[],[],[]=>some true
 |c::cs,x::xs,y::ys=>(zbt c x y).bind fun a=>(zaM cs xs ys).map fun b=>a&&b
 |_,_,_=>none
def isNil:V→Option Bool
 | .d (.list n _)=>some n
 | .d .nilp| .d .nilf| .d .nilm=>some true
 | .d (.fn _)| .ptr .. | .rp .. | .sl .. | .clo .. | .map _=>some false
 |_=>none
def kindOf:V→ETy
 | .d (.list ..)| .sl .. => .slice
 | .d .nilf| .d (.fn _)| .clo .. => .func
 | .d .nilp| .ptr .. | .rp .. => .ptr
 | .d .nilm| .map _=> .map
 |_=> .other
def eqV (ty:ETy) (x y:V):Option Bool:=
 match ty,x,y with
 | .bool,.d (.bool a),.d (.bool b)=>some (a==b)
 | .agg ks,.d (.agg xs),.d (.agg ys)=>zaM ks xs ys
 |ty,x,y=>
  if kindOf x=ty∧kindOf y=ty then
   (isNil x).bind fun a=>(isNil y).bind fun b=>if a||b then some (a&&b)else none
  else none
def zNN (k:IntKind) (a b:Int):Int:=k.wrap (a*2^(min b.toNat k.bits))
def zNO (k:IntKind) (a b:Int):Int:=a.fdiv (2^(min b.toNat k.bits))
def zcu (op:BinOp) (k k':IntKind) (a b:Int):Option D:=
 match op with
 | .shl=>if 0≤b then some (.int k (zNN k a b))else none
 | .shr=>if 0≤b then some (.int k (zNO k a b))else none
 |op=>if k=k' then zcH op k a b else none
def binV (op:BinOp) (ty:ETy):V→V→Option V
 | .d (.int k a),.d (.int k' b)=>(zcu op k k' a b).map .d
 | .d (.str a),.d (.str b)=>(zkd op a b).map .d
 |x,y=>match op with
  | .eql=>(eqV ty x y).map fun b=> .d (.bool b)
  | .neq=>(eqV ty x y).map fun b=> .d (.bool !b)
  |_=>none
def unV:UnOp→V→Option V
 | .not,.d (.bool b)=>some (.d (.bool !b))
 | .neg,.d (.int k n)=>some (.d (.int k (k.wrap (0-n))))
 |_,_=>none
def convV:Cv→V→Option V
 | .int k,.d (.int _ n)=>some (.d (.int k (k.wrap n)))
 | .rune,.d (.int _ n)=>some (.d (.str (Utf8.encode n).data.toList))
 | .same,.d (.str s)=>some (.d (.str s))
 |_,_=>none
def asNat:V→Option Nat
 | .d (.int _ n)=>if 0≤n then some n.toNat else none
 |_=>none
def max2 (f:Int→Int→Int):V→V→Option V
 | .d (.int k a),.d (.int k' b)=>if k=k' then some (.d (.int k (f a b)))else none
 |_,_=>none
def foldV (f:Int→Int→Int):V→List V→Option V
 |x,[]=>some x
 |x,y::r=>(max2 f x y).bind fun z=>foldV f z r
def maxV:List V→Option V
 |x::r=>foldV (fun a b=>if b>a then b else a) x r
 |[]=>none
def minV:List V→Option V
 |x::r=>foldV (fun a b=>if b<a then b else a) x r
 |[]=>none
def V.fld (off:Nat) (n:Option Nat):V→Option V
 | .agg cs=>V.sub (.agg cs) off n
 | .d (.agg cs)=>V.sub (.d (.agg cs)) off n
 |_=>none
def V.like (e:V) (cs:List V):V:=
 match e with
 | .agg _| .d (.agg _)=>V.ofCells cs
 |_=>cs.headD .undef
def V.one:V→Bool
 | .undef| .agg _| .tuple _| .d (.agg _)| .d (.tuple _)=>false
 |_=>true
def V.upd (e:V) (off n:Nat) (v:V):Option V:=
 if v.cells.length=n∧0<n∧off+n≤e.cells.length∧v.cells.all V.one=true then some (V.like e (splice e.cells off v.cells))else none
def zdA (h:Heap) (n:Option Nat):V→Option V
 | .ptr b i off=>match h.get b with
  |some (.els _ l _)=>(l[i]?).bind fun e=>e.sub off n
  |_=>none
 | .rp x off=>(x.sub off n).map .d
 |_=>none
def zbK (h:Heap) (n:Nat):V→V→Option Heap
 | .ptr b i off,v=>match h.get b with
  |some (.els z l fz)=>if fz≤i then(l[i]?).bind fun e=>(e.upd off n v).map fun e=>h.put b (.els z (l.set i e) fz)else none
  |_=>none
 |_,_=>none
def zca:List V→List (Nat×Nat×V)→Option (List V)
 |cs,[]=>some cs
 |cs,(off,n,v)::r=>if v.cells.length=n∧0<n∧off+n≤cs.length then zca (splice cs off v.cells) r else none
def zaS (n:Nat):List V→List (Nat×V)→Option (List V)
 |l,[]=>some l
 |l,(i,v)::r=>if i<l.length∧v.cells.length=n then zaS n (l.set i v) r else none
def zbC (h:Heap):V→Option (List V)
 | .d (.list _ l)=>some (l.map .d)
 | .sl b off len=>match h.get b with
  |some (.els _ l _)=>if off+len≤l.length then some ((l.drop off).take len)else none
  |_=>none
 | .d (.str s)=>some (s.map fun c=> .d (.int .u8 c.toNat))
 |_=>none
def zlv (h:Heap):LK→V→Option Nat
 | .sl,.d (.list _ l)=>some l.length
 | .str,.d (.str s)=>some s.length
 | .sl,.sl _ _ len=>some len
 | .map,.d .nilm=>some 0
 | .map,.map b=>match h.get b with|some (.map es _)=>some es.length|_=>none
 |_,_=>none
def roomBytes:Nat:=2^46
def sized (sz:Nat) (l:List V):Bool:=l.all fun e=>e.cells.length==sz&&e.cells.all V.one
def V.isSl:V→Bool
 | .d (.list ..)| .sl .. =>true
 |_=>false
def zlw (h:Heap) (fr sz bytes:Nat) (dst src:V):Option (V×Heap):=
 (zbC h src).bind fun new=>
 if new.isEmpty then(if dst.isSl then some (dst,h)else none)else
 if sized sz new then
  match dst with
  | .d (.list true [])=>if new.length*bytes≤roomBytes then some (.sl fr 0 new.length,h.put fr (.els sz new 0))else none
  | .sl b 0 len=>match h.get b with
   |some (.els z l fz)=>if z=sz∧l.length=len∧(len+new.length)*bytes≤roomBytes then some (.sl fr 0 (len+new.length),(h.del b).put fr (.els z (l++new) fz))else none
   |_=>none
  |_=>none
 else none
def copyV (h:Heap) (sz:Nat) (dst src:V):Option (V×Heap):=
 (zbC h src).bind fun new=>
 match dst with
 | .sl b off len=>match h.get b with
  |some (.els z l fz)=>if z=sz∧fz≤off∧off+len≤l.length∧sized sz new then
   let n:=min new.length len
   some (.d (.int .i64 n),h.put b (.els z (splice l off (new.take n)) fz))else none
  |_=>none
 |_=>none
def zbO (h:Heap) (sz:Nat) (x:V) (i:Nat):Option V:=
 match x with
 | .d (.list _ l)=>(l[i]?).bind fun e=>if e.cells.length=sz then some (.rp e 0)else none
 | .sl b off len=>if i<len then(match h.get b with
  |some (.els z l _)=>if z=sz∧off+i<l.length then some (.ptr b (off+i) 0)else none
  |_=>none)else none
 |_=>none
def zfL (sz:Nat) (l:List V):Bool:=match l.head? with|some e=>e.cells.length==sz|none=>true
def zbx (h:Heap) (sz:Nat) (x:V) (lo hi mx:Option Nat):Option V:=
 match x,mx with
 | .d (.list nil l),none=>
  let a:=lo.getD 0;let b:=hi.getD l.length
  if sz≠0∧a≤b∧b≤l.length∧zfL sz (l.map .d)then some (.d (.list nil ((l.drop a).take (b-a))))else none
 | .d (.str s),none=>
  let a:=lo.getD 0;let b:=hi.getD s.length
  if sz=0∧a≤b∧b≤s.length then some (.d (.str ((s.drop a).take (b-a))))else none
 | .sl k off len,none=>
  let a:=lo.getD 0;let b:=hi.getD len
  if sz≠0∧a≤b∧b≤len then
   match h.get k with
   |some (.els z l _)=>if z=sz∧off+len≤l.length then(if b=a then some (.d (.list false []))else some (.sl k (off+a) (b-a)))else none
   |_=>none
  else none
 |_,_=>none
def D.isAgg:D→Bool| .agg _=>true|_=>false
def zeV (ks:List CK) (k k':D):Option Bool:=if k.isAgg=(ks.length !=1)∧k'.isAgg=(ks.length !=1)then zaM ks k.cells k'.cells else none
def zep (ks:List CK) (k:D):List (D×V×Nat)→Option (Option (V×Nat))
 |[]=>some none
 |(k',v,t)::r=>(zeV ks k k').bind fun e=>if e then some (some (v,t))else zep ks k r
def zhV (ks:List CK) (k:D) (es:List (D×V×Nat)):Option (Option (V×Nat)):=if zeV ks k k=some true then zep ks k es else none
def zrK (ks:List CK) (k:D) (v:V):List (D×V×Nat)→Option (List (D×V×Nat))
 |[]=>none
 |(k',v',t)::r=>(zeV ks k k').bind fun e=>if e then some ((k,v,t)::r)else(zrK ks k v r).map ((k',v',t):: ·)
def extractV (i:Nat):V→Option V
 | .d (.tuple l)=>(l[i]?).map .d
 | .tuple l=>l[i]?
 |_=>none
def zcP (ks:List CK) (z:D) (h:Heap) (m:V) (k:D):Option (V×Bool):=
 match m with
 | .d .nilm=>(zhV ks k []).map fun _=>(.d z,false)
 | .map b=>match h.get b with
  |some (.map es _)=>(zhV ks k es).map fun x=>match x with|some (v,_)=>(v,true)|none=>(.d z,false)
  |_=>none
 |_=>none
def boxed:V→Option Blk
 | .undef=>none
 |v=>some (.els v.cells.length [v] 0)
def opd (env:Regs) (r:Regs):Opd→V
 | .l i=>env i
 | .r t=>r t
 | .k x=> .d x
def zby (v:Option V):Option (Option Nat):=
 match v with
 |none=>some none
 |some v=>(asNat v).map some
abbrev App:=V→List V→Heap→Option (V×Heap)
def zad (app:App) (sh:FuncId→Bool) (fr:Nat) (env:Regs) (r:Regs) (h:Heap):SOp→Option (V×Heap)
 | .move x=>some (opd env r x,h)
 | .pick c a b=>match opd env r c with
  | .d (.bool t)=>some (if t then opd env r a else opd env r b,h)
  |_=>none
 | .alloc z=>some (.ptr fr 0 0,h.put fr (.els z.cells.length [.d z] 0))
 | .box x=>(boxed (opd env r x)).map fun b=>(.ptr fr 0 0,h.put fr b)
 | .build z ps=>(zca (z.map .d) (ps.map fun(o,n,x)=>(o,n,opd env r x))).map fun cs=>(V.ofCells cs,h)
 | .bslice len z ps=>(zaS z.cells.length (List.replicate len (.d z)) (ps.map fun(i,x)=>(i,opd env r x))).map fun l=>(.sl fr 0 len,h.put fr (.els z.cells.length l 0))
 | .load n a=>(zdA h n (opd env r a)).map fun v=>(v,h)
 | .store n a x=>(zbK h n (opd env r a) (opd env r x)).map fun h=>(.undef,h)
 | .nilCheck x=>match isNil (opd env r x)with
  |some false=>some (opd env r x,h)
  |_=>none
 | .bin op ty x y=>(binV op ty (opd env r x) (opd env r y)).map fun v=>(v,h)
 | .un op x=>(unV op (opd env r x)).map fun v=>(v,h)
 | .conv k x=>(convV k (opd env r x)).map fun v=>(v,h)
 | .mkFunc f first cap=>
  if first.isEmpty&&cap.isEmpty then some (.d (.fn f),h)else some (.clo f (first.map (opd env r)) (cap.map (opd env r)),h)
 | .mkMap=>some (.map fr,h.put fr (.map [] 0))
 | .mkSlice z bytes l c=>(asNat (opd env r l)).bind fun l=>(asNat (opd env r c)).bind fun c=>
  if l≤c∧c*bytes≤roomBytes then some (.sl fr 0 l,h.put fr (.els z.cells.length (List.replicate l (.d z)) 0))else none
 | .slice sz x lo hi mx=>(zby (lo.map (opd env r))).bind fun lo=>(zby (hi.map (opd env r))).bind fun hi=>(zby (mx.map (opd env r))).bind fun mx=>
  (zbx h sz (opd env r x) lo hi mx).map fun v=>(v,h)
 | .faddr off x=>match opd env r x with
  | .ptr b i o=>some (.ptr b i (o+off),h)
  | .rp y o=>some (.rp y (o+off),h)
  |_=>none
 | .field off n x=>(V.fld off n (opd env r x)).map fun v=>(v,h)
 | .iaddr sz x i=>(asNat (opd env r i)).bind fun i=>(zbO h sz (opd env r x) i).map fun v=>(v,h)
 | .aaddr len sz x i=>(asNat (opd env r i)).bind fun i=>if i<len then
  match opd env r x with
  | .ptr b k o=>some (.ptr b k (o+i*sz),h)
  | .rp y o=>some (.rp y (o+i*sz),h)
  |_=>none
  else none
 | .index x i=>(asNat (opd env r i)).bind fun i=>match opd env r x with
  | .d (.str s)=>(s[i]?).map fun c=>(.d (.int .u8 c.toNat),h)
  |_=>none
 | .aindex len sz n x i=>(asNat (opd env r i)).bind fun i=>if i<len then(V.fld (i*sz) n (opd env r x)).map fun v=>(v,h)else none
 | .lookup ks z m k ok=>match opd env r k with
  | .d k=>(zcP ks z h (opd env r m) k).map fun(v,is)=>(if ok then V.ofTuple [v,.d (.bool is)]else v,h)
  |_=>none
 | .mupd ks m k v=>match opd env r m,opd env r k with
  | .map b,.d k=>(match h.get b with
   |some (.map es clock)=>(zhV ks k es).bind fun
    |some _=>(zrK ks k (opd env r v) es).map fun es=>(.undef,h.put b (.map es clock))
    |none=>some (.undef,h.put b (.map (es++[(k,opd env r v,clock)]) (clock+1)))
   |_=>none)
  |_,_=>none
 | .mentry ks z m k=>match opd env r m,opd env r k with
  | .map b,.d k=>(match h.get b with
   |some (.map es clock)=>(zhV ks k es).map fun
    |some (v,t)=>(V.ofTuple [v,.d (.int .i64 t)],h)
    |none=>(V.ofTuple [.d z,.d (.int .i64 clock)],h.put b (.map (es++[(k,.d z,clock)]) (clock+1)))
   |_=>none)
  |_,_=>none
 | .estore m s v=>match opd env r m,asNat (opd env r s)with
  | .map b,some t=>(match h.get b with
   |some (.map es clock)=>if es.any (fun e=>e.2.2==t)then
    some (.undef,h.put b (.map (es.map fun e=>if e.2.2==t then(e.1,opd env r v,t)else e) clock))else none
   |_=>none)
  |_,_=>none
 | .rangeS x=>match opd env r x with
  | .d (.str s)=>some (.it fr,h.put fr (.it s 0))
  |_=>none
 | .nextS x=>match opd env r x with
  | .it b=>(match h.get b with
   |some (.it s pos)=>if pos<s.length then
    let(c,w):=Utf8.decode ⟨s.toArray⟩ pos
    some (.d (.tuple [.bool true,.int .i64 pos,.int .i32 c]),h.put b (.it s (pos+w)))
    else some (.d (.tuple [.bool false]),h)
   |_=>none)
  |_=>none
 | .extract x i=>(extractV i (opd env r x)).map fun v=>(v,h)
 | .call f args=>
  if sh f then app (.d (.fn f)) (args.map (opd env r)) h
  else(zba (res 8) h (args.map (opd env r))).bind fun(ds,h')=>
   (app (.d (.fn f)) (ds.map .d) Heap.empty).bind fun(v,h2)=>
   (res 8 h2 v).map fun(x,_)=>(.d x,h')
 | .callv f args=>app (opd env r f) (args.map (opd env r)) h
 | .len k x=>(zlv h k (opd env r x)).map fun(n:Nat)=>(.d (.int .i64 (n:Int)),h)
 | .app sz bytes a b=>zlw h fr sz bytes (opd env r a) (opd env r b)
 | .copy sz a b=>copyV h sz (opd env r a) (opd env r b)
 | .mx args=>(maxV (args.map (opd env r))).map fun v=>(v,h)
 | .mn args=>(minV (args.map (opd env r))).map fun v=>(v,h)
 | .clear z x=>match opd env r x with
  | .sl b off len=>(match h.get b with
   |some (.els zs l fz)=>if zs=z.cells.length∧fz≤off∧off+len≤l.length then some (.undef,h.put b (.els zs (splice l off (List.replicate len (.d z))) fz))else none
   |_=>none)
  | .d (.list _ [])=>some (.undef,h)
  |_=>none
def zbc (env:Regs):Option (Nat×Bool)→Bool
 |none=>true
 |some (j,want)=>match env j with
  | .d (.bool b)=>b==want
  |_=>false
def zdd:Regs:=fun _=> .undef
def zbj (app:App) (sh:FuncId→Bool) (base:Nat) (r:Regs):List (SOp×Option (Nat×Bool))→Nat→Regs→Heap→Option (Regs×Heap)
 |[],_,env,h=>some (env,h)
 |(o,g)::rest,i,env,h=>
  if zbc env g then(zad app sh (base+i) env r h o).bind fun(v,h)=>zbj app sh base r rest (i+1) (env.set i v) h
  else zbj app sh base r rest (i+1) (env.set i (.d (.tuple []))) h
inductive Foot where
 |cells (b i off n:Nat)|blocks (l:List Nat)
def zcG (env:Regs) (r:Regs) (fr:Nat):SOp→Option Foot
 | .load n a=>match opd env r a with
  | .ptr b i off=>some (.cells b i off (n.getD 1))
  | .rp .. =>some (.blocks [])
  |_=>none
 | .store n a _=>match opd env r a with
  | .ptr b i off=>some (.cells b i off n)
  |_=>none
 | .alloc _| .box _| .bslice .. | .mkMap| .mkSlice .. | .rangeS _=>some (.blocks [fr])
 | .iaddr _ x _| .slice _ x .. =>match opd env r x with
  | .sl k _ _=>some (.blocks [k])
  | .d _=>some (.blocks [])
  |_=>none
 | .app _ _ a b=>match opd env r a,opd env r b with
  | .d _,.d _=>some (.blocks [fr])
  | .sl k _ _,.d _| .d _,.sl k _ _=>some (.blocks [fr,k])
  | .sl k _ _,.sl k' _ _=>some (.blocks [fr,k,k'])
  |_,_=>none
 | .call _ args=>match allD (args.map (opd env r))with
  |some _=>some (.blocks [])
  |none=>none
 |_=>none
def zdj:Foot→Foot→Bool
 | .cells b i o n,.cells b' i' o' n'=>b !=b'||i !=i'||decide (o+n≤o')||decide (o'+n'≤o)
 | .cells b _ _ _,.blocks l| .blocks l,.cells b _ _ _=>l.all (· !=b)
 | .blocks l,.blocks l'=>l.all fun b=>l'.all (· !=b)
def zbR:V→Bool
 | .d (.bool _)| .d (.tuple _)=>true
 |_=>false
def zbn (base:Nat) (ops:List (SOp×Option (Nat×Bool))) (env:Regs) (r:Regs) (pairs:List (Nat×Nat)):Bool:=
 pairs.all fun(i,j)=>if i==j then zbR (env i)else match ops[i]?,ops[j]? with
  |some (a,g),some (b,g')=> !zbc env g|| !zbc env g'||(match zcG env r (base+i) a,zcG env r (base+j) b with
   |some x,some y=>zdj x y
   |_,_=>false)
  |_,_=>false
def zew (env:Regs):List (Nat×Nat)→Regs→Regs
 |[],r=>r
 |(t,i)::rest,r=>zew env rest (r.set t (env i))
inductive Ex where
 |normal|exit (id:Nat)|ret
 deriving Inhabited,Repr
def V.isFn:V→Bool
 | .d (.fn _)| .clo .. =>true
 |_=>false
structure St where
 r:Regs
 h:Heap
def iter (body:St→Option (Ex×St)):Nat→St→Option (Ex×St)
 |0,_=>none
 |n+1,st=>match body st with
  |some (.normal,st)=>iter body n st
  |x=>x
def Jump.ex:Jump→Ex| .exit id=> .exit id| .ret=> .ret
def zbw (app:App) (sh:FuncId→Bool) (n:Nat):C→St→Option (Ex×St)
 | .skip,st=>some (.normal,st)
 | .region ops outs pairs,st=>
  (zbj app sh st.h.next st.r ops 0 zdd (st.h.bump ops.length)).bind fun(env,h)=>
   if zbn st.h.next ops env st.r pairs then some (.normal,{r:=zew env outs st.r,h})else none
 | .seq a b,st=>match zbw app sh n a st with
  |some (.normal,st)=>zbw app sh n b st
  |x=>x
 | .cond c a b,st=>match opd zdd st.r c with
  | .d (.bool true)=>zbw app sh n a st
  | .d (.bool false)=>zbw app sh n b st
  |_=>none
 | .block id a,st=>match zbw app sh n a st with
  |some (.exit id',st)=>if id'=id then some (.normal,st)else some (.exit id',st)
  |x=>x
 | .loop a,st=>iter (zbw app sh n a) n st
 | .exit id,st=>some (.exit id,st)
 | .ret,st=>some (.ret,st)
 | .rfunc f ps assign body,st=>
  let b:=st.h.next
  if(opd zdd st.r f).isFn=false then none else
  (app (opd zdd st.r f) [.yld b] ((st.h.put b (.loop {regs:=st.r,params:=ps,assign,body,state:= .ready,pending:=none})).bump 1)).bind fun(_,h)=>
   match h.get b with
   |some (.loop l)=>if l.state= .busy then none else
    let st':St:={st with h:=h.put b (.loop {l with state:= .exhausted})}
    some (match l.pending with|none=>(.normal,st')|some j=>(j.ex,st'))
   |_=>none
def zbh:List Nat→List V→Regs→Option Regs
 |[],[],r=>some r
 |t::ts,v::vs,r=>zbh ts vs (r.set t v)
 |_,_,_=>none
def zaY (st:St):List RV→Option (List V)
 |[]=>some []
 | .reg t::rs=>(zaY st rs).map (st.r t:: ·)
 | .cell t n::rs=>(zdA st.h n (st.r t)).bind fun v=>(zaY st rs).map (v:: ·)
def oneOr:List V→V
 |[v]=>v
 |vs=>V.ofTuple vs
def zfr (A:AProg) (app:App) (n:Nat) (f:FuncId) (args:List V) (h:Heap):Option (V×Heap):=
 match A.prim f with
 |some p=>(allD args).bind fun ds=>(p ds).map fun x=>(.d x,h)
 |none=>(A.fns f).bind fun fn=>match zbw app A.sh n fn.body {r:=fun i=>args.getD i .undef,h}with
  |some (.normal,st)|some (.ret,st)=>(zaY st fn.results).map fun vs=>(oneOr vs,st.h)
  |_=>none
def round (app:App) (sh:FuncId→Bool) (n:Nat) (b:Nat) (args:List V) (h:Heap):Option (V×Heap):=
 match h.get b with
 |some (.loop l)=>(zbh l.params args l.regs).bind fun r=>
  match zbw app sh n l.assign {r,h}with
  |some (.normal,st)=>(match st.h.get b with
   |some (.loop l1)=>if l1.state= .ready then
    (zbw app sh n l.body {st with h:=st.h.put b (.loop {l1 with state:= .busy})}).bind fun(e,st)=>
    match st.h.get b with
    |some (.loop l2)=>
     let j:Option Jump:=match e with| .normal=>none| .exit id=>some (.exit id)| .ret=>some .ret
     some (.d (.bool j.isNone),st.h.put b (.loop {l2 with state:=if j.isNone then .ready else .done,pending:=j}))
    |_=>none
    else none
   |_=>none)
  |_=>none
 |_=>none
def zeq (A:AProg):Nat→App
 |0=>fun _ _ _=>none
 |n+1=>fun fv args h=>
  match fv with
  | .d (.fn f)=>zfr A (zeq A n) n f args h
  | .clo f first cap=>zfr A (zeq A n) n f (first++args++cap) h
  | .yld b=>round (zeq A n) A.sh n b args h
  |_=>none
end Go.AI
namespace Go.AI
def zfs:Value→Option D
 | .bool b=>some (.bool b)| .int k n=>some (.int k n)| .string s=>some (.str s.data.toList)
 | .slice none 0 0=>some (.list true [])| .pointer none=>some .nilp| .nilFunc=>some .nilf| .map none=>some .nilm| .nilIface=>some .nili
 | .func (.func f) first cap=>if first.isEmpty&&cap.isEmpty then some (.fn f)else none
 |_=>none
def zcI:List Value→Option (List D)
 |[]=>some []
 |v::r=>(zfs v).bind fun x=>(zcI r).map (x:: ·)
def zke:Value→Option D
 | .agg cs=>(zcI cs.toList).map .agg
 |v=>zfs v
def zdB (f:TypeId→Option (List CK)):Nat→List Field→Option (List CK)
 |_,[]=>some []
 |off,x::r=>if x.name != "_" &&x.offset==off then(f x.type).bind fun ks=>(zdB f (off+ks.length) r).map fun l=>ks++l else none
def flatK (P:Program):Nat→TypeId→Option (List CK)
 |0,_=>none
 |n+1,t=>match P.underlying t with
  |some .bool=>some [.bool]
  |some (.int _)=>some [.int]
  |some .string=>some [.str]
  |some (.struct fs)=>if P.stoodInHeld t then none else(zdB (flatK P n) 0 fs.toList).bind fun ks=>if ks.length==P.cellsOf t then some ks else none
  |_=>none
def zAK (P:Program) (t:TypeId):Option (List CK):=
 (flatK P 20 t).bind fun ks=>match P.underlying t with
  |some (.struct _)=>if ks.length !=1&&30≤P.depth then some ks else none
  |_=>if ks.length==1 then some ks else none
def zcn (P:Program) (t:TypeId):Option (Option Nat):=
 match P.underlying t with
 |some (.struct _)|some (.array ..)=>some (some (P.cellsOf t))
 |some _=>some none
 |none=>none
def zfp (P:Program) (t:TypeId):Option D:=((P.info? t).bind (·.zero)).bind zke
section
variable (P:Program) (U:Nat→Bool) (nt:Nat)
def zbz (wr:List (Nat×Nat)):Operand→Option Opd
 | .tmp t=>match wr.lookup t with
  |some i=>some (.l i)
  |none=>if U t&&t<nt then some (.r t)else none
 | .const v=>(zke v).map .k
 | .func f=>some (.k (.fn f))
 | .global _=>none
def zgL (wr:List (Nat×Nat)):Option Operand→Option (Option Opd)
 |none=>some none
 |some x=>(zbz U nt wr x).map some
def zeW (wr:List (Nat×Nat)):List Operand→Option (List Opd)
 |[]=>some []
 |x::r=>(zbz U nt wr x).bind fun y=>(zeW wr r).map (y:: ·)
def zft (wr:List (Nat×Nat)) (place:Nat→Option (Nat×Nat)):List (Nat×Operand)→Option (List (Nat×Nat×Opd))
 |[]=>some []
 |(i,x)::r=>(place i).bind fun(o,n)=>(zbz U nt wr x).bind fun y=>(zft wr place r).map ((o,n,y):: ·)
def zfu (wr:List (Nat×Nat)):List (Nat×Operand)→Option (List (Nat×Opd))
 |[]=>some []
 |(i,x)::r=>(zbz U nt wr x).bind fun y=>(zfu wr r).map ((i,y):: ·)
def zeX (t:TypeId):ETy:=
 match P.underlying t with
 |some .bool=> .bool
 |some (.struct _)=>(match flatK P 20 t with|some ks=>if 30≤P.depth then .agg ks else .other|none=> .other)
 |some (.slice _)=> .slice|some (.func ..)=> .func|some (.pointer _)=> .ptr|some (.map ..)=> .map
 |_=> .other
def znM (wr:List (Nat×Nat)) (t:TypeId) (ps:List (Nat×Operand)):Option SOp:=
 match P.underlying t,zfp P t with
 |some (.struct fs),some (.agg z)=>if !fs.all (fun f=>(P.info? f.type).isSome)then none else(zft U nt wr (fun i=>(fs[i]?).map fun f=>(f.offset,P.cellsOf f.type)) ps).map fun ps=> .build z ps
 |_,_=>none
def zlx (wr:List (Nat×Nat)) (t:TypeId) (len:Nat) (ps:List (Nat×Operand)):Option SOp:=
 match P.underlying t with
 |some (.slice e)=>(zfp P e).bind fun z=>if len*P.cellsOf e≤2^20&&z.cells.length==P.cellsOf e&&P.cellsOf e !=0 then(zfu U nt wr ps).map fun ps=> .bslice len z ps else none
 |_=>none
def zrL (s t:TypeId):Option Cv:=
 match P.underlying s,P.underlying t with
 |some (.int _),some (.int k)=>some (.int k)
 |some (.int _),some .string=>some .rune
 |some .string,some .string=>some .same
 |_,_=>none
def zEW (wr:List (Nat×Nat)) (fn:Fn) (first cap:List Operand):Option SOp:=
 match fn with
 | .func f=>(zeW U nt wr first).bind fun a=>(zeW U nt wr cap).map fun b=> .mkFunc f a b
 |_=>none
def znN (t:TypeId) (r:Option Operand):Option SOp:=
 match P.underlying t with
 |some (.map ..)=>(match r with
  |none=>some .mkMap
  |some (.const (.int ..))=>some .mkMap
  |_=>none)
 |_=>none
def zkf (wr:List (Nat×Nat)) (t:TypeId) (l c:Operand):Option SOp:=
 match P.underlying t with
 |some (.slice e)=>(zfp P e).bind fun z=>if z.cells.length==P.cellsOf e&&P.cellsOf e !=0&&P.bytesOf e !=0 then(zbz U nt wr l).bind fun l=>(zbz U nt wr c).map fun c=> .mkSlice z (P.bytesOf e) l c else none
 |_=>none
def zJk (t:TypeId):Option Nat:=
 match P.underlying t with
 |some (.slice e)=>if P.cellsOf e !=0 then some (P.cellsOf e)else none
 |some .string=>some 0
 |_=>none
def zvQ (wr:List (Nat×Nat)) (t:TypeId) (x:Operand) (lo hi mx:Option Operand):Option SOp:=
 (zJk P t).bind fun sz=>(zbz U nt wr x).bind fun x=>(zgL U nt wr lo).bind fun lo=>(zgL U nt wr hi).bind fun hi=>(zgL U nt wr mx).map fun mx=> .slice sz x lo hi mx
def zml (s:TypeId) (f:Nat):Option Field:=
 match P.underlying s with
 |some (.struct fs)=>fs[f]?
 |_=>none
def zAN (t:TypeId):Bool:=
 match P.underlying t with
 |some .string=>true
 |_=>false
def znO (wr:List (Nat×Nat)) (t:TypeId) (x i:Operand):Option SOp:=
 match P.underlying t with
 |some (.slice e)=>if P.cellsOf e !=0 then(zbz U nt wr x).bind fun x=>(zbz U nt wr i).map fun i=> .iaddr (P.cellsOf e) x i else none
 |some (.array n e)=>if P.cellsOf e !=0 then(zbz U nt wr x).bind fun x=>(zbz U nt wr i).map fun i=> .aaddr n (P.cellsOf e) x i else none
 |_=>none
def zrM (wr:List (Nat×Nat)) (t:TypeId) (x i:Operand):Option SOp:=
 match P.underlying t with
 |some (.array n e)=>(zcn P e).bind fun m=>if P.cellsOf e !=0 then(zbz U nt wr x).bind fun x=>(zbz U nt wr i).map fun i=> .aindex n (P.cellsOf e) m x i else none
 |_=>none
def mapOf (t:TypeId):Option (List CK×TypeId):=
 match P.underlying t with
 |some (.map kt e)=>(zAK P kt).map fun ks=>(ks,e)
 |_=>none
def zpV (t:TypeId) (x:Opd):Option SOp:=
 match P.underlying t with
 |some .string=>some (.len .str x)
 |some (.slice _)=>some (.len .sl x)
 |some (.map ..)=>some (.len .map x)
 |_=>none
def elemOf (t:TypeId):Option TypeId:=
 match P.underlying t with
 |some (.slice e)=>some e
 |_=>none
def isRow (u:TypeId):Bool:=
 match P.underlying u with
 |some (.slice _)|some .string=>true
 |_=>false
def zdC (b:Builtin) (a:List Opd) (ts:List TypeId):Option SOp:=
 match b with
 | .len=>(match a,ts with
  |[x],[t]=>zpV P t x
  |_,_=>none)
 | .append=>(match a,ts with
  |[x,y],[t,u]=>(elemOf P t).bind fun e=>(zfp P e).bind fun z=>if z.cells.length==P.cellsOf e&&P.cellsOf e !=0&&P.bytesOf e !=0&&isRow P u then some (.app (P.cellsOf e) (P.bytesOf e) x y)else none
  |_,_=>none)
 | .copy=>(match a,ts with
  |[x,y],[t,_]=>(elemOf P t).bind fun e=>if P.cellsOf e !=0 then some (.copy (P.cellsOf e) x y)else none
  |_,_=>none)
 | .max=>some (.mx a)
 | .min=>some (.mn a)
 | .clear=>(match a,ts with
  |[x],[t]=>(elemOf P t).bind fun e=>(zfp P e).bind fun z=>if z.cells.length==P.cellsOf e&&P.cellsOf e !=0 then some (.clear z x)else none
  |_,_=>none)
 |_=>none
def zmm (wr:List (Nat×Nat)) (c:Call):Option SOp:=
 match c.callee with
 | .value g=>(match g with
  | .func f=>(zeW U nt wr c.args.toList).map fun a=> .call f a
  |g=>(zbz U nt wr g).bind fun g=>(zeW U nt wr c.args.toList).map fun a=> .callv g a)
 | .builtin b=>(zeW U nt wr c.args.toList).bind fun a=>zdC P b a c.argTypes.toList
 |_=>none
def prepOp (wr:List (Nat×Nat)) (o:Oper):Option SOp:=
 let v:=zbz U nt wr
 match o.op with
 | .move x=>(v x).map .move
 | .assign x=>(v x).map .move
 | .pick c a b=>(v c).bind fun c=>(v a).bind fun a=>(v b).map fun b=> .pick c a b
 | .alloc t=>(zfp P t).map .alloc
 | .box _ x=>(v x).map .box
 | .build t ps=>znM P U nt wr t ps.toList
 | .buildSlice t len ps=>zlx P U nt wr t len ps.toList
 | .load t a=>(zcn P t).bind fun n=>(v a).map fun a=> .load n a
 | .store t a x=>(zcn P t).bind fun _=>(v a).bind fun a=>(v x).map fun x=> .store (P.cellsOf t) a x
 | .nilCheck x=>(v x).map .nilCheck
 | .binOp op t x y _=>(v x).bind fun x=>(v y).map fun y=> .bin op (zeX P t) x y
 | .unOp op _ x=>(v x).map fun x=> .un op x
 | .convert s t x=>(zrL P s t).bind fun k=>(v x).map fun x=> .conv k x
 | .makeFunc fn first cap=>zEW U nt wr fn first.toList cap.toList
 | .makeMap t r=>znN P t r
 | .makeSlice t l c=>zkf P U nt wr t l c
 | .slice t x lo hi mx=>zvQ P U nt wr t x lo hi mx
 | .fieldAddr s x f=>(zml P s f).bind fun f=>if P.cellsOf f.type !=0 then(v x).map fun x=> .faddr f.offset x else none
 | .field s x f=>(zml P s f).bind fun f=>(zcn P f.type).bind fun n=>(v x).map fun x=> .field f.offset n x
 | .indexAddr t x i=>znO P U nt wr t x i
 | .index t x i=>if zAN P t then(v x).bind fun x=>(v i).map fun i=> .index x i else zrM P U nt wr t x i
 | .lookup t m k ok=>(mapOf P t).bind fun(ks,e)=>(zfp P e).bind fun z=>(v m).bind fun m=>(v k).map fun k=> .lookup ks z m k ok
 | .mapUpdate t m k x=>(mapOf P t).bind fun(ks,_)=>(v m).bind fun m=>(v k).bind fun k=>(v x).map fun x=> .mupd ks m k x
 | .insert t m k x=>(mapOf P t).bind fun(ks,_)=>(v m).bind fun m=>(v k).bind fun k=>(v x).map fun x=> .mupd ks m k x
 | .mapEntry t m k=>(mapOf P t).bind fun(ks,e)=>(zfp P e).bind fun z=>(v m).bind fun m=>(v k).map fun k=> .mentry ks z m k
 | .entryStore _ m s x=>(v m).bind fun m=>(v s).bind fun s=>(v x).map fun x=> .estore m s x
 | .range t x=>if zAN P t then(v x).map .rangeS else none
 | .next it s=>if s then(v it).map .nextS else none
 | .extract x i=>(v x).map fun x=> .extract x i
 | .call c=>zmm P U nt wr c
 |_=>none
def zvR (wr:List (Nat×Nat)) (g:Option (Nat×Bool)):Bool:=match g with|none=>true|some (j,_)=>wr.any fun(t,k)=>k==j&&wr.lookup t==some j
def zJl (d:Option Nat):Bool:=match d with|none=>true|some d=>d<nt
def zNP (d:Option Nat) (i:Nat) (wr:List (Nat×Nat)):List (Nat×Nat):=match d with|none=>wr|some d=>(d,i)::wr
def zgM:List Oper→Nat→List (Nat×Nat)→Option (List (SOp×Option (Nat×Bool))×List (Nat×Nat))
 |[],_,wr=>some ([],wr)
 |o::r,i,wr=>
  (prepOp P U nt wr o).bind fun s=>
  if zvR wr o.guard&&zJl nt o.dst then
   (zgM r (i+1) (zNP o.dst i wr)).map fun(l,wr)=>((s,o.guard)::l,wr)
  else none
def Opd.regs:Opd→List Nat| .r t=>[t]|_=>[]
def SOp.opds:SOp→List Opd
 | .move x| .box x| .load _ x| .nilCheck x| .un _ x| .conv _ x| .faddr _ x| .field _ _ x| .rangeS x| .nextS x| .extract x _| .len _ x| .clear _ x=>[x]
 | .alloc _| .mkMap=>[]
 | .pick a b c| .mupd _ a b c| .estore a b c=>[a,b,c]
 | .build _ ps=>ps.map fun(_,_,x)=>x
 | .bslice _ _ ps=>ps.map fun(_,x)=>x
 | .store _ a b| .bin _ _ a b| .mkSlice _ _ a b| .iaddr _ a b| .aaddr _ _ a b| .index a b| .aindex _ _ _ a b| .lookup _ _ a b _| .mentry _ _ a b| .app _ _ a b| .copy _ a b=>[a,b]
 | .mkFunc _ a b=>a++b
 | .slice _ x l h m=>x::(l.toList++h.toList++m.toList)
 | .call _ a| .mx a| .mn a=>a
 | .callv f a=>f::a
def SOp.regs (s:SOp):List Nat:=s.opds.flatMap Opd.regs
def touch (sh:FuncId→Bool):SOp→Nat
 | .load .. =>1| .store .. =>2
 | .alloc _| .box _| .bslice .. | .mkMap| .mkSlice .. | .rangeS _=>3
 | .call f _=>if sh f then 5 else 4
 | .app .. =>6
 | .lookup .. | .mupd .. | .mentry .. | .estore .. | .nextS _| .callv .. | .copy .. | .clear .. | .len .map _=>5
 | .iaddr .. | .slice .. =>7
 | .len .. =>0
 |_=>0
def Opd.same:Opd→Opd→Bool
 | .l i,.l j=>i==j| .r i,.r j=>i==j|_,_=>false
def D.sameZ:D→D→Bool
 | .int k a,.int k' b=>k==k'&&a==b| .bool a,.bool b=>a==b|_,_=>false
def zex:SOp→SOp→Bool
 | .lookup _ z m k false,.mentry _ z' m' k'=>z.sameZ z'&&m.same m'&&k.same k'
 |_,_=>false
def zmn (sh:FuncId→Bool) (b:Array Nat) (ops:List (SOp×Option (Nat×Bool))):Option (List (Nat×Nat)):=
 let l:=(ops.zipIdx.map fun(o,i)=>(i,touch sh o.1)).filter fun x=>x.2 !=0
 let ps:=(l.flatMap fun(j,b')=>(l.filter fun(i,_)=>i<j&& !(b.getD j 0).testBit i).map fun(i,a)=>(i,j,a,b')).filter fun(i,j,_,_)=>
  !(match ops[i]?,ops[j]? with|some x,some y=>zex x.1 y.1&&x.2.isNone&&y.2.isNone|_,_=>false)
 if ps.any (fun(_,_,a,b')=>a==5||b'==5)then none
 else some ((ps.filter fun(_,_,a,b')=> !((a==1||a==7)&&(b'==1||b'==7)||(a==3&&b'==3)||(a==2&&b'==7)||(a==7&&b'==2)||((a==1||a==7)&&b'==4)||(a==4&&(b'==1||b'==7)))).map fun(i,j,_,_)=>(i,j))
def zrN (b:Array Nat) (ops:List Oper) (l:List (SOp×Option (Nat×Bool))):Bool:=
 let ws:=ops.zipIdx.filterMap fun(o,i)=>o.dst.map fun d=>(d,i)
 (ws.all fun(d,i)=>ws.all fun(e,j)=>d !=e||i==j)&&
 (ops.zipIdx.all fun(o,i)=>o.after.all fun e=> !Region.binds .any e||e.on<i)&&
 l.zipIdx.all fun((s,g),i)=>(s.opds.all fun x=>match x with
  | .l j=>(b.getD i 0).testBit j
  | .r t=>ws.all fun(d,j)=>d !=t||j==i||(b.getD j 0).testBit i
  | .k _=>true)&&(match g with|none=>true|some (j,_)=>(b.getD i 0).testBit j)
def zpW (l:List (SOp×Option (Nat×Bool))):Bool:=
 l.zipIdx.all fun((s,g),i)=>(s.opds.all fun x=>match x with
  | .l j=>decide (j<i)
  |_=>true)&&(match g with|none=>true|some (j,_)=>decide (j<i))
def zfM (l:List (SOp×Option (Nat×Bool))):List (Nat×Nat):=((l.filterMap fun x=>x.2.map (·.1)).eraseDups).map fun j=>(j,j)
def zdl (wr:List (Nat×Nat)):List (Nat×Nat):=
 (wr.foldl (fun acc (t,i)=>if U t&& !acc.any (fun x=>x.1==t)then(t,i)::acc else acc) [])
def zcN (sh:FuncId→Bool) (inR:Bool):Code→Option C
 | .skip=>some .skip
 | .region _ ops draw=>
  (zgM P U nt ops.toList 0 []).bind fun(l,wr)=>
   if !zpW l then none else
   if draw then
    if zrN (Region.before ops) ops.toList l&&P.follows .mixedOrders then
     (zmn sh (Region.before ops) l).map fun ps=> .region l (zdl U wr) (zfM l++ps)
    else none
   else some (.region l (zdl U wr) (zfM l))
 | .seq a b=>(zcN sh inR a).bind fun a=>(zcN sh inR b).map fun b=> .seq a b
 | .cond c a b=>(zbz U nt [] c).bind fun c=>(zcN sh inR a).bind fun a=>(zcN sh inR b).map fun b=> .cond c a b
 | .block id a=>(zcN sh inR a).map fun a=> .block id a
 | .loop a=>(zcN sh inR a).map .loop
 | .exit id=>some (.exit id)
 | .ret=>some .ret
 | .rangeFunc f ps assign body=>(zbz U nt [] f).bind fun f=>if !inR&&ps.toList.all (· <nt)then(zcN sh true assign).bind fun a=>(zcN sh true body).map fun b=> .rfunc f ps.toList a b else none
 |_=>none
def zgC:List ResultVar→Option (List RV)
 |[]=>some []
 | .tmp t::r=>if U t&&t<nt then(zgC r).map (.reg t:: ·)else none
 | .cell a t::r=>if U a&&a<nt then(zcn P t).bind fun n=>(zgC r).map (.cell a n:: ·)else none
end
def C.regs:C→List Nat
 | .region ops _ _=>ops.flatMap fun(o,_)=>o.regs
 | .seq a b=>a.regs++b.regs
 | .cond c a b=>c.regs++a.regs++b.regs
 | .block _ a| .loop a=>a.regs
 | .rfunc f ps a b=>f.regs++ps++a.regs++b.regs
 |_=>[]
def RV.regs:RV→Nat| .reg t| .cell t _=>t
def zmo (P:Program) (sh:FuncId→Bool) (U:Nat→Bool) (fn:Func):Option AFn:=
 fn.body.bind fun c=>(zcN P U fn.ntmps sh false c).bind fun c=>(zgC P U fn.ntmps fn.results.toList).map fun rs=>{body:=c,results:=rs}
def prepF (P:Program) (sh:FuncId→Bool) (fn:Func):Option AFn:=
 (zmo P sh (fun _=>true) fn).bind fun a=>
  let U:=a.body.regs++a.results.map RV.regs
  zmo P sh (fun t=>U.contains t) fn
end Go.AI
namespace Go.AI
def App.le (a b:App):Prop:=∀f x h r,a f x h=some r→b f x h=some r
theorem zkg {a b:App} (hab:App.le a b) {sh:FuncId→Bool} {fr:Nat} {env:Regs} {r:Regs} {h:Heap} {o:SOp} {x:V×Heap}
 (e:zad a sh fr env r h o=some x):zad b sh fr env r h o=some x:=by
 cases o with
 |call f args=>
  simp only[zad]at e⊢
  split
  ·rename_i hs;rw[if_pos hs]at e;exact hab _ _ _ _ e
  ·rename_i hs;rw[if_neg hs]at e
   cases h1:zba (res 8) h (args.map (opd env r))with
   |none=>rw[h1]at e;simp at e
   |some p=>
    rw[h1]at e
    simp only[Option.bind_some]at e⊢
    cases h2:a (.d (.fn f)) (p.1.map .d) Heap.empty with
    |none=>rw[h2]at e;simp at e
    |some q=>rw[h2]at e;rw[hab _ _ _ _ h2];exact e
 |callv f args=>exact hab _ _ _ _ e
 |_=>exact e
theorem zfN {a b:App} (hab:App.le a b) {sh:FuncId→Bool} {base:Nat} {r:Regs}:
 ∀{ops:List (SOp×Option (Nat×Bool))} {i:Nat} {env:Regs} {h:Heap} {x:Regs×Heap},
 zbj a sh base r ops i env h=some x→zbj b sh base r ops i env h=some x
 |[],_,_,_,_,e=>e
 |(o,g)::rest,i,env,h,x,e=>by
  simp only[zbj]at e⊢
  split
  ·rename_i hw;rw[if_pos hw]at e
   cases h1:zad a sh (base+i) env r h o with
   |none=>rw[h1]at e;simp at e
   |some p=>rw[h1]at e;rw[zkg hab h1];simp only[Option.bind_some]at e⊢;exact zfN hab e
  ·rename_i hw;rw[if_neg hw]at e;exact zfN hab e
theorem zmp {f g:St→Option (Ex×St)} (hfg:∀s x,f s=some x→g s=some x):
 ∀{n m:Nat} {s:St} {x:Ex×St},n≤m→iter f n s=some x→iter g m s=some x
 |0,_,_,_,_,e=>by simp[iter]at e
 |n+1,0,_,_,hm,_=>by omega
 |n+1,m+1,s,x,hm,e=>by
  simp only[iter]at e⊢
  cases h1:f s with
  |none=>rw[h1]at e;simp at e
  |some p=>
   rw[h1]at e;rw[hfg _ _ h1]
   obtain⟨ex,st⟩:=p
   cases ex with
   |normal=>exact zmp hfg (by omega) e
   |exit id=>exact e
   |ret=>exact e
theorem zbu {a b:App} (hab:App.le a b) {sh:FuncId→Bool} {n m:Nat} (hnm:n≤m):
 ∀{c:C} {s:St} {x:Ex×St},zbw a sh n c s=some x→zbw b sh m c s=some x
 | .skip,_,_,e=>e
 | .region ops outs pairs,s,x,e=>by
  simp only[zbw]at e⊢
  cases h1:zbj a sh s.h.next s.r ops 0 zdd (s.h.bump ops.length)with
  |none=>rw[h1]at e;simp at e
  |some p=>rw[h1]at e;rw[zfN hab h1];exact e
 | .seq c d,s,x,e=>by
  simp only[zbw]at e⊢
  cases h1:zbw a sh n c s with
  |none=>rw[h1]at e;simp at e
  |some p=>
   rw[h1]at e;rw[zbu hab hnm h1]
   obtain⟨ex,st⟩:=p
   cases ex with
   |normal=>exact zbu hab hnm e
   |exit id=>exact e
   |ret=>exact e
 | .cond c t f,s,x,e=>by
  simp only[zbw]at e⊢
  split<;>rename_i hc<;>simp only[hc]at e
  ·exact zbu hab hnm e
  ·exact zbu hab hnm e
  ·cases e
 | .block id c,s,x,e=>by
  simp only[zbw]at e⊢
  cases h1:zbw a sh n c s with
  |none=>rw[h1]at e;simp at e
  |some p=>rw[h1]at e;rw[zbu hab hnm h1];exact e
 | .loop c,s,x,e=>by
  simp only[zbw]at e⊢
  exact zmp (fun _ _ h=>zbu hab hnm h) hnm e
 | .exit _,_,_,e=>e
 | .ret,_,_,e=>e
 | .rfunc f ps c d,s,x,e=>by
  simp only[zbw]at e⊢
  split at e
  ·cases e
  rename_i hfn
  rw[if_neg hfn]
  revert e
  generalize h0:(((s.h.put s.h.next (.loop {regs:=s.r,params:=ps,assign:=c,body:=d,state:= .ready,pending:=none})).bump 1))=h
  intro e
  cases h1:a (opd zdd s.r f) [.yld s.h.next] h with
  |none=>rw[h1]at e;simp at e
  |some p=>rw[h1]at e;rw[hab _ _ _ _ h1];exact e
theorem zrO {A:AProg} {a b:App} (hab:App.le a b) {n m:Nat} (hnm:n≤m) {f:FuncId} {args:List V} {h:Heap} {x:V×Heap}
 (e:zfr A a n f args h=some x):zfr A b m f args h=some x:=by
 simp only[zfr]at e⊢
 split
 ·rename_i hp;simp only[hp]at e;exact e
 rename_i hp;simp only[hp]at e
 cases h1:A.fns f with
 |none=>rw[h1]at e;simp at e
 |some fn=>
  rw[h1]at e
  simp only[Option.bind_some]at e⊢
  cases h2:zbw a A.sh n fn.body {r:=fun i=>args.getD i .undef,h}with
  |none=>rw[h2]at e;simp at e
  |some p=>rw[h2]at e;rw[zbu hab hnm h2];exact e
theorem zAO {a b:App} (hab:App.le a b) {sh:FuncId→Bool} {n m:Nat} (hnm:n≤m) {k:Nat} {args:List V} {h:Heap} {x:V×Heap}
 (e:round a sh n k args h=some x):round b sh m k args h=some x:=by
 simp only[round]at e⊢
 split<;>rename_i hl<;>simp only[hl]at e
 ·rename_i l
  cases h1:zbh l.params args l.regs with
  |none=>rw[h1]at e;simp at e
  |some r=>
   rw[h1]at e
   simp only[Option.bind_some]at e⊢
   cases h2:zbw a sh n l.assign {r,h}with
   |none=>rw[h2]at e;simp at e
   |some p=>
    rw[h2]at e;rw[zbu hab hnm h2]
    obtain⟨ex,st⟩:=p
    cases ex with
    |normal=>
     simp only at e⊢
     cases h3:st.h.get k with
     |none=>rw[h3]at e;simp at e
     |some bl=>
      rw[h3]at e
      cases bl with
      |loop l1=>
       simp only at e⊢
       split
       ·rename_i hr;rw[if_pos hr]at e
        cases h4:zbw a sh n l.body {st with h:=st.h.put k (.loop {l1 with state:= .busy})}with
        |none=>rw[h4]at e;simp at e
        |some q=>rw[h4]at e;rw[zbu hab hnm h4];exact e
       ·rename_i hr;rw[if_neg hr]at e;cases e
      |_=>simp at e
    |exit id=>simp at e
    |ret=>simp at e
 ·cases e
theorem zbS {A:AProg}:∀{n m:Nat},n≤m→App.le (zeq A n) (zeq A m)
 |0,_,_=>fun _ _ _ _ e=>by simp[zeq]at e
 |n+1,0,h=>by omega
 |n+1,m+1,hnm=>fun f x h r e=>by
  have ih:=zbS (A:=A) (n:=n) (m:=m) (by omega)
  simp only[zeq]at e⊢
  split<;>simp only at e
  ·exact zrO ih (by omega) e
  ·exact zrO ih (by omega) e
  ·exact zAO ih (by omega) e
  ·cases e
def Call (A:AProg) (fv:V) (args:List V) (h:Heap) (v:V) (h':Heap):Prop:=∃n,zeq A n fv args h=some (v,h')
def Wp (A:AProg) (c:C) (s:St) (Q:Ex→St→Prop):Prop:=∃n e s',zbw (zeq A n) A.sh n c s=some (e,s')∧Q e s'
def zvS (A:AProg) (base:Nat) (r:Regs) (ops:List (SOp×Option (Nat×Bool))) (i:Nat) (env:Regs) (h:Heap) (K:Regs→Heap→Prop):Prop:=
 ∃n env' h',zbj (zeq A n) A.sh base r ops i env h=some (env',h')∧K env' h'
def WOp (A:AProg) (fr:Nat) (env:Regs) (r:Regs) (h:Heap) (o:SOp) (K:V→Heap→Prop):Prop:=
 ∃n v h',zad (zeq A n) A.sh fr env r h o=some (v,h')∧K v h'
variable {A:AProg} {s:St} {Q:Ex→St→Prop}
theorem Wp.skip:Wp A .skip s Q↔Q .normal s:=⟨fun⟨_,e,s',h,hq⟩=>by simp only[zbw,Option.some.injEq,Prod.mk.injEq]at h;obtain⟨rfl,rfl⟩:=h;exact hq,fun hq=>⟨0,_,_,rfl,hq⟩⟩
theorem Wp.exit {id:Nat}:Wp A (.exit id) s Q↔Q (.exit id) s:=⟨fun⟨_,e,s',h,hq⟩=>by simp only[zbw,Option.some.injEq,Prod.mk.injEq]at h;obtain⟨rfl,rfl⟩:=h;exact hq,fun hq=>⟨0,_,_,rfl,hq⟩⟩
theorem Wp.ret:Wp A .ret s Q↔Q .ret s:=⟨fun⟨_,e,s',h,hq⟩=>by simp only[zbw,Option.some.injEq,Prod.mk.injEq]at h;obtain⟨rfl,rfl⟩:=h;exact hq,fun hq=>⟨0,_,_,rfl,hq⟩⟩
def Ex.seq (A:AProg) (b:C) (Q:Ex→St→Prop):Ex→St→Prop
 | .normal,s=>Wp A b s Q
 |e,s=>Q e s
theorem Wp.seq {a b:C}:Wp A (.seq a b) s Q↔Wp A a s (Ex.seq A b Q):=by
 constructor
 ·rintro⟨n,e,s',h,hq⟩
  simp only[zbw]at h
  cases h1:zbw (zeq A n) A.sh n a s with
  |none=>rw[h1]at h;simp at h
  |some p=>
   rw[h1]at h
   obtain⟨ex,st⟩:=p
   cases ex with
   |normal=>exact⟨n,.normal,st,h1,n,e,s',h,hq⟩
   |exit id=>simp at h;obtain⟨rfl,rfl⟩:=h;exact⟨n,_,_,h1,hq⟩
   |ret=>simp at h;obtain⟨rfl,rfl⟩:=h;exact⟨n,_,_,h1,hq⟩
 ·rintro⟨n,e,s1,h,hq⟩
  cases e with
  |normal=>
   obtain⟨m,e,s2,h2,hq⟩:=hq
   refine⟨max n m,e,s2,?_,hq⟩
   simp only[zbw]
   rw[zbu (zbS (Nat.le_max_left n m)) (Nat.le_max_left n m) h]
   exact zbu (zbS (Nat.le_max_right n m)) (Nat.le_max_right n m) h2
  |exit id=>exact⟨n,_,s1,by simp only[zbw];rw[h],hq⟩
  |ret=>exact⟨n,_,s1,by simp only[zbw];rw[h],hq⟩
theorem Ex.seq_normal {b:C}:Ex.seq A b Q .normal s=Wp A b s Q:=rfl
theorem Ex.seq_ret {b:C}:Ex.seq A b Q .ret s=Q .ret s:=rfl
theorem Ex.seq_exit {b:C} {id:Nat}:Ex.seq A b Q (.exit id) s=Q (.exit id) s:=rfl
def WBr (A:AProg) (Q:Ex→St→Prop) (a b:C) (s:St):V→Prop
 | .d (.bool true)=>Wp A a s Q
 | .d (.bool false)=>Wp A b s Q
 |_=>False
theorem zAP {a b:C}:WBr A Q a b s (.d (.bool true))=Wp A a s Q:=rfl
theorem zvT {a b:C}:WBr A Q a b s (.d (.bool false))=Wp A b s Q:=rfl
theorem zaf {x:Bool} {a b:C} (h1:x=true→Wp A a s Q) (h2:x=false→Wp A b s Q):WBr A Q a b s (.d (.bool x)):=by
 cases x
 ·exact h2 rfl
 ·exact h1 rfl
theorem Wp.cond {c:Opd} {a b:C}:Wp A (.cond c a b) s Q=WBr A Q a b s (opd zdd s.r c):=by
 apply propext
 constructor
 ·rintro⟨n,e,s',h,hq⟩
  simp only[zbw]at h
  split at h
  ·rename_i hc;rw[hc];exact⟨n,e,s',h,hq⟩
  ·rename_i hc;rw[hc];exact⟨n,e,s',h,hq⟩
  ·cases h
 ·intro h
  unfold WBr at h
  split at h
  ·rename_i hc;obtain⟨n,e,s',h,hq⟩:=h;exact⟨n,e,s',by simp only[zbw,hc];exact h,hq⟩
  ·rename_i hc;obtain⟨n,e,s',h,hq⟩:=h;exact⟨n,e,s',by simp only[zbw,hc];exact h,hq⟩
  ·exact h.elim
def Ex.block (id:Nat) (Q:Ex→St→Prop):Ex→St→Prop
 | .exit id',s=>if id'=id then Q .normal s else Q (.exit id') s
 |e,s=>Q e s
theorem Ex.block_normal {id:Nat}:Ex.block id Q .normal s=Q .normal s:=rfl
theorem Ex.block_ret {id:Nat}:Ex.block id Q .ret s=Q .ret s:=rfl
theorem Ex.block_exit {id id':Nat}:Ex.block id Q (.exit id') s=if id'=id then Q .normal s else Q (.exit id') s:=rfl
theorem Wp.block {id:Nat} {a:C}:Wp A (.block id a) s Q↔Wp A a s (Ex.block id Q):=by
 constructor
 ·rintro⟨n,e,s',h,hq⟩
  simp only[zbw]at h
  cases h1:zbw (zeq A n) A.sh n a s with
  |none=>rw[h1]at h;simp at h
  |some p=>
   rw[h1]at h
   obtain⟨ex,st⟩:=p
   refine⟨n,ex,st,h1,?_⟩
   cases ex with
   |normal=>simp at h;obtain⟨rfl,rfl⟩:=h;exact hq
   |ret=>simp at h;obtain⟨rfl,rfl⟩:=h;exact hq
   |exit id'=>
    simp only at h
    simp only[Ex.block]
    split<;>rename_i he
    ·rw[if_pos he]at h;simp at h;obtain⟨rfl,rfl⟩:=h;exact hq
    ·rw[if_neg he]at h;simp at h;obtain⟨rfl,rfl⟩:=h;exact hq
 ·rintro⟨n,e,s1,h,hq⟩
  cases e with
  |normal=>exact⟨n,_,s1,by simp only[zbw];rw[h],hq⟩
  |ret=>exact⟨n,_,s1,by simp only[zbw];rw[h],hq⟩
  |exit id'=>
   simp only[Ex.block]at hq
   split at hq<;>rename_i he
   ·exact⟨n,.normal,s1,by simp only[zbw];rw[h];simp[he],hq⟩
   ·exact⟨n,.exit id',s1,by simp only[zbw];rw[h];simp[he],hq⟩
theorem Wp.mono {c:C} {Q':Ex→St→Prop} (h:Wp A c s Q) (hq:∀e s,Q e s→Q' e s):Wp A c s Q':=by
 obtain⟨n,e,s',h,hQ⟩:=h
 exact⟨n,e,s',h,hq _ _ hQ⟩
def Ex.more (I:St→Prop) (μ:St→Nat) (n:Nat) (Q:Ex→St→Prop):Ex→St→Prop
 | .normal,s=>I s∧μ s<n
 |e,s=>Q e s
variable {I:St→Prop} {μ:St→Nat} {n:Nat}
theorem Ex.more_normal:Ex.more I μ n Q .normal s=(I s∧μ s<n):=rfl
theorem Ex.more_ret:Ex.more I μ n Q .ret s=Q .ret s:=rfl
theorem Ex.more_exit {id:Nat}:Ex.more I μ n Q (.exit id) s=Q (.exit id) s:=rfl
theorem Wp.loop {a:C} (I:St→Prop) (μ:St→Nat) (h0:I s) (round:∀s,I s→Wp A a s (Ex.more I μ (μ s) Q)):Wp A (.loop a) s Q:=by
 have key:∀k s,μ s=k→I s→∃n e s',iter (zbw (zeq A n) A.sh n a) n s=some (e,s')∧Q e s':=by
  intro k
  induction k using Nat.strongRecOn with
  |_ k ih=>
   intro s hk hI
   obtain⟨n,e,s1,h1,hq⟩:=round s hI
   cases e with
   |normal=>
    obtain⟨hI1,hlt⟩:=hq
    obtain⟨m,e,s2,h2,hq⟩:=ih _ (hk▸hlt) s1 rfl hI1
    refine⟨max n m+1,e,s2,?_,hq⟩
    have l1:n≤max n m+1:=by omega
    have l2:m≤max n m:=by omega
    simp only[iter]
    rw[zbu (zbS l1) l1 h1]
    exact zmp (fun _ _ h=>zbu (zbS (by omega)) (by omega) h) l2 h2
   |exit id=>exact⟨n+1,_,s1,by simp only[iter];rw[zbu (zbS (Nat.le_succ n)) (Nat.le_succ n) h1],hq⟩
   |ret=>exact⟨n+1,_,s1,by simp only[iter];rw[zbu (zbS (Nat.le_succ n)) (Nat.le_succ n) h1],hq⟩
 obtain⟨n,e,s',h,hq⟩:=key _ s rfl h0
 exact⟨n,e,s',by simp only[zbw];exact h,hq⟩
theorem Wp.loop_step {a:C} (h:Wp A a s (fun e s'=>match e with| .normal=>Wp A (.loop a) s' Q|e=>Q e s')):Wp A (.loop a) s Q:=by
 obtain⟨n,e,s1,h1,hq⟩:=h
 cases e with
 |normal=>
  obtain⟨m,e,s2,h2,hq⟩:=hq
  simp only[zbw]at h2
  refine⟨max n m+1,e,s2,?_,hq⟩
  have l1:n≤max n m+1:=by omega
  have l2:m≤max n m:=by omega
  simp only[zbw,iter]
  rw[zbu (zbS l1) l1 h1]
  exact zmp (fun _ _ h=>zbu (zbS (by omega)) (by omega) h) l2 h2
 |exit id=>exact⟨n+1,_,s1,by simp only[zbw,iter];rw[zbu (zbS (Nat.le_succ n)) (Nat.le_succ n) h1],hq⟩
 |ret=>exact⟨n+1,_,s1,by simp only[zbw,iter];rw[zbu (zbS (Nat.le_succ n)) (Nat.le_succ n) h1],hq⟩
theorem Wp.region {ops:List (SOp×Option (Nat×Bool))} {outs pairs:List (Nat×Nat)}:
 Wp A (.region ops outs pairs) s Q↔zvS A s.h.next s.r ops 0 zdd (s.h.bump ops.length) (fun env h=>zbn s.h.next ops env s.r pairs=true∧Q .normal {r:=zew env outs s.r,h}):=by
 constructor
 ·rintro⟨n,e,s',h,hq⟩
  simp only[zbw]at h
  cases h1:zbj (zeq A n) A.sh s.h.next s.r ops 0 zdd (s.h.bump ops.length)with
  |none=>rw[h1]at h;simp at h
  |some p=>
   rw[h1]at h
   obtain⟨env,h'⟩:=p
   simp only[Option.bind_some]at h
   split at h
   ·rename_i hp;simp at h;obtain⟨rfl,rfl⟩:=h;exact⟨n,env,h',h1,hp,hq⟩
   ·cases h
 ·rintro⟨n,env,h',h1,hp,hq⟩
  exact⟨n,_,_,by simp only[zbw];rw[h1];simp[hp],hq⟩
theorem zvS.nil {base i:Nat} {r:Regs} {env:Regs} {h:Heap} {K:Regs→Heap→Prop}:zvS A base r [] i env h K↔K env h:=⟨fun⟨_,e,s',h,hq⟩=>by simp only[zbj,Option.some.injEq,Prod.mk.injEq]at h;obtain⟨rfl,rfl⟩:=h;exact hq,fun hq=>⟨0,_,_,rfl,hq⟩⟩
theorem zvS.cons {base i:Nat} {r:Regs} {o:SOp} {g:Option (Nat×Bool)} {rest:List (SOp×Option (Nat×Bool))} {env:Regs} {h:Heap} {K:Regs→Heap→Prop}:
 zvS A base r ((o,g)::rest) i env h K↔if zbc env g=true then WOp A (base+i) env r h o (fun v h=>zvS A base r rest (i+1) (env.set i v) h K)else zvS A base r rest (i+1) (env.set i (.d (.tuple []))) h K:=by
 by_cases hw:zbc env g=true
 ·rw[if_pos hw]
  constructor
  ·rintro⟨n,env',h',e,hk⟩
   simp only[zbj,hw,if_true]at e
   cases h1:zad (zeq A n) A.sh (base+i) env r h o with
   |none=>rw[h1]at e;simp at e
   |some p=>rw[h1]at e;exact⟨n,p.1,p.2,h1,n,env',h',e,hk⟩
  ·rintro⟨n,v,h1,e,m,env',h',e',hk⟩
   refine⟨max n m,env',h',?_,hk⟩
   simp only[zbj,hw,if_true]
   rw[zkg (zbS (Nat.le_max_left n m)) e]
   exact zfN (zbS (Nat.le_max_right n m)) e'
 ·rw[if_neg hw]
  simp only[zvS,zbj,hw,if_false,Bool.false_eq_true]
open Classical in
noncomputable def ans (A:AProg):App:=fun f x h=>if e:∃r n,zeq A n f x h=some r then some (Classical.choose e)else none
theorem zcQ {f:V} {x:List V} {h:Heap} {r:V×Heap}:ans A f x h=some r↔∃n,zeq A n f x h=some r:=by
 unfold ans
 constructor
 ·intro e
  split at e
  ·rename_i hx;have:=Classical.choose_spec hx;simp only[Option.some.injEq]at e;rw[e]at this;exact this
  ·cases e
 ·rintro⟨n,e⟩
  have hx:∃r n,zeq A n f x h=some r:=⟨r,n,e⟩
  rw[dif_pos hx]
  obtain⟨m,e'⟩:=Classical.choose_spec hx
  have h1:=zbS (Nat.le_max_left n m) _ _ _ _ e
  have h2:=zbS (Nat.le_max_right n m) _ _ _ _ e'
  rw[h1]at h2
  exact h2.symm
theorem zrP {n:Nat}:App.le (zeq A n) (ans A):=fun _ _ _ _ e=>zcQ.2 ⟨n,e⟩
noncomputable def pc (A:AProg) (f:FuncId) (args:List D):Option D:=
 (ans A (.d (.fn f)) (args.map .d) Heap.empty).bind fun y=>(res 8 y.2 y.1).map Prod.fst
theorem zly {fr:Nat} {env r:Regs} {h:Heap} {o:SOp} {x:V×Heap}:zad (ans A) A.sh fr env r h o=some x↔∃n,zad (zeq A n) A.sh fr env r h o=some x:=by
 constructor
 ·intro e
  cases o with
  |call f args=>
   simp only[zad]at e⊢
   split
   ·rename_i hs;rw[if_pos hs]at e;exact zcQ.1 e
   ·rename_i hs;rw[if_neg hs]at e
    cases h1:zba (res 8) h (args.map (opd env r))with
    |none=>rw[h1]at e;simp at e
    |some p=>
     rw[h1]at e
     simp only[Option.bind_some]at e⊢
     cases h2:ans A (.d (.fn f)) (p.1.map .d) Heap.empty with
     |none=>rw[h2]at e;simp at e
     |some q=>obtain⟨n,hn⟩:=zcQ.1 h2;refine⟨n,?_⟩;rw[h2]at e;rw[hn];exact e
  |callv f args=>exact zcQ.1 e
  |_=>exact⟨0,e⟩
 ·rintro⟨n,e⟩;exact zkg zrP e
structure Rg where
 A:AProg
 Q:Ex→St→Prop
 ops:List (SOp×Option (Nat×Bool))
 outs:List (Nat×Nat)
 pairs:List (Nat×Nat)
 base:Nat
 r:Regs
def zJm (g:Rg) (env:Regs) (h:Heap):Prop:=zbn g.base g.ops env g.r g.pairs=true∧g.Q .normal {r:=zew env g.outs g.r,h}
def zfm (g:Rg) (rest:List (SOp×Option (Nat×Bool))) (i:Nat) (env:Regs) (h:Heap):Prop:=zvS g.A g.base g.r rest i env h (zJm g)
def zmq (g:Rg) (rest:List (SOp×Option (Nat×Bool))) (i:Nat) (env:Regs):Option (V×Heap)→Prop
 |some (v,h)=>zfm g rest (i+1) (env.set i v) h
 |none=>False
def zbD (g:Rg) (o:SOp) (rest:List (SOp×Option (Nat×Bool))) (i:Nat) (env:Regs) (h:Heap):Bool→Prop
 |true=>zmq g rest i env (zad (ans g.A) g.A.sh (g.base+i) env g.r h o)
 |false=>zfm g rest (i+1) (env.set i (.d (.tuple []))) h
theorem Wp.regionW {ops:List (SOp×Option (Nat×Bool))} {outs pairs:List (Nat×Nat)}:
 Wp A (.region ops outs pairs) s Q=zfm ⟨A,Q,ops,outs,pairs,s.h.next,s.r⟩ ops 0 zdd (s.h.bump ops.length):=propext Wp.region
theorem zFo {fr:Nat} {env r:Regs} {h:Heap} {o:SOp} {K:V→Heap→Prop}:WOp A fr env r h o K↔∃v h',zad (ans A) A.sh fr env r h o=some (v,h')∧K v h':=by
 constructor
 ·rintro⟨n,v,h',e,k⟩;exact⟨v,h',zly.2 ⟨n,e⟩,k⟩
 ·rintro⟨v,h',e,k⟩;obtain⟨n,hn⟩:=zly.1 e;exact⟨n,v,h',hn,k⟩
theorem zfm.nil {g:Rg} {i:Nat} {env:Regs} {h:Heap}:zfm g [] i env h=zJm g env h:=propext zvS.nil
theorem zfm.cons {g:Rg} {o:SOp} {gd:Option (Nat×Bool)} {rest:List (SOp×Option (Nat×Bool))} {i:Nat} {env:Regs} {h:Heap}:
 zfm g ((o,gd)::rest) i env h=zbD g o rest i env h (zbc env gd):=by
 apply propext
 unfold zfm
 rw[zvS.cons]
 cases hw:zbc env gd
 ·simp only[Bool.false_eq_true,if_false];exact Iff.rfl
 ·simp only[if_true,zbD]
  rw[zFo]
  constructor
  ·rintro⟨v,h',e,k⟩;rw[e];exact k
  ·intro k
   cases e:zad (ans g.A) g.A.sh (g.base+i) env g.r h o with
   |none=>rw[e]at k;exact k.elim
   |some p=>rw[e]at k;exact⟨p.1,p.2,rfl,k⟩
theorem zvU {g:Rg} {rest:List (SOp×Option (Nat×Bool))} {i:Nat} {env:Regs} {v:V} {h:Heap}:zmq g rest i env (some (v,h))=zfm g rest (i+1) (env.set i v) h:=rfl
theorem zhX {g:Rg} {rest:List (SOp×Option (Nat×Bool))} {i:Nat} {env:Regs} {x:Option (V×Heap)} {v:V} {h:Heap} (hx:x=some (v,h)) (k:zfm g rest (i+1) (env.set i v) h):zmq g rest i env x:=by rw[hx];exact k
theorem zpX {g:Rg} {o:SOp} {rest:List (SOp×Option (Nat×Bool))} {i:Nat} {env:Regs} {h:Heap}:
 zbD g o rest i env h true=zmq g rest i env (zad (ans g.A) g.A.sh (g.base+i) env g.r h o):=rfl
theorem znP {g:Rg} {o:SOp} {rest:List (SOp×Option (Nat×Bool))} {i:Nat} {env:Regs} {h:Heap}:
 zbD g o rest i env h false=zfm g rest (i+1) (env.set i (.d (.tuple []))) h:=rfl
theorem zax {g:Rg} {o:SOp} {rest:List (SOp×Option (Nat×Bool))} {i:Nat} {env:Regs} {h:Heap} {x:Bool}
 (h1:x=true→zmq g rest i env (zad (ans g.A) g.A.sh (g.base+i) env g.r h o)) (h2:x=false→zfm g rest (i+1) (env.set i (.d (.tuple []))) h):zbD g o rest i env h x:=by
 cases x
 ·exact h2 rfl
 ·exact h1 rfl
theorem zaB {g:Rg} {o:SOp} {rest:List (SOp×Option (Nat×Bool))} {i:Nat} {env:Regs} {h:Heap} {x:Bool}
 (h1:x=false→zmq g rest i env (zad (ans g.A) g.A.sh (g.base+i) env g.r h o)) (h2:x=true→zfm g rest (i+1) (env.set i (.d (.tuple []))) h):zbD g o rest i env h (!x):=by
 cases x
 ·exact h1 rfl
 ·exact h2 rfl
theorem zaz {x:Bool} {a b:C} (h1:x=false→Wp A a s Q) (h2:x=true→Wp A b s Q):WBr A Q a b s (.d (.bool !x)):=by
 cases x
 ·exact h1 rfl
 ·exact h2 rfl
def zAQ (h:Heap):Option D→Option (V×Heap)
 |some x=>some (.d x,h)
 |none=>none
theorem ztj {h:Heap} {x:D}:zAQ h (some x)=some (.d x,h):=rfl
noncomputable def zaO (A:AProg) (f:FuncId):Option (List D×Heap)→Option (V×Heap)
 |some (ds,h)=>zAQ h (pc A f ds)
 |none=>none
theorem ztk {A:AProg} {f:FuncId} {ds:List D} {h:Heap}:zaO A f (some (ds,h))=zAQ h (pc A f ds):=rfl
theorem zam {fr:Nat} {env r:Regs} {h:Heap} {f:FuncId} {args:List Opd} (hs:A.sh f=false):
 zad (ans A) A.sh fr env r h (.call f args)=zaO A f (zba (res 8) h (args.map (opd env r))):=by
 simp only[zad,hs,Bool.false_eq_true,if_false]
 cases h1:zba (res 8) h (args.map (opd env r))with
 |none=>rfl
 |some p=>
  simp only[Option.bind_some,zaO,pc]
  cases h2:ans A (.d (.fn f)) (p.1.map .d) Heap.empty with
  |none=>rfl
  |some q=>simp only[Option.bind_some];cases h3:res 8 q.2 q.1<;>rfl
theorem zbk {fr:Nat} {env r:Regs} {h:Heap} {f:FuncId} {args:List Opd} (hs:A.sh f=true):
 zad (ans A) A.sh fr env r h (.call f args)=ans A (.d (.fn f)) (args.map (opd env r)) h:=by
 simp only[zad,hs,if_true]
def zcJ (rs:List RV) (R:V→Heap→Prop):Ex→St→Prop
 | .normal,s| .ret,s=>∃vs,zaY s rs=some vs∧R (oneOr vs) s.h
 | .exit _,_=>False
theorem Call.of {f:FuncId} {fn:AFn} {args:List V} {h:Heap} {R:V→Heap→Prop} (hp:A.prim f=none) (hf:A.fns f=some fn)
 (hb:Wp A fn.body {r:=fun i=>args.getD i .undef,h} (zcJ fn.results R)):∃v h',Call A (.d (.fn f)) args h v h'∧R v h':=by
 obtain⟨n,e,s',h1,hq⟩:=hb
 cases e with
 |exit id=>exact hq.elim
 |normal=>obtain⟨vs,hv,hR⟩:=hq;exact⟨_,_,⟨n+1,by simp only[zeq,zfr,hp,hf,Option.bind_some,h1,hv,Option.map_some]⟩,hR⟩
 |ret=>obtain⟨vs,hv,hR⟩:=hq;exact⟨_,_,⟨n+1,by simp only[zeq,zfr,hp,hf,Option.bind_some,h1,hv,Option.map_some]⟩,hR⟩
theorem Call.ofClo {f:FuncId} {fn:AFn} {args first cap:List V} {h:Heap} {R:V→Heap→Prop} (hp:A.prim f=none) (hf:A.fns f=some fn)
 (hb:Wp A fn.body {r:=fun i=>(first++args++cap).getD i .undef,h} (zcJ fn.results R)):∃v h',Call A (.clo f first cap) args h v h'∧R v h':=by
 obtain⟨n,e,s',h1,hq⟩:=hb
 cases e with
 |exit id=>exact hq.elim
 |normal=>obtain⟨vs,hv,hR⟩:=hq;exact⟨_,_,⟨n+1,by simp only[zeq,zfr,hp,hf,Option.bind_some,h1,hv,Option.map_some]⟩,hR⟩
 |ret=>obtain⟨vs,hv,hR⟩:=hq;exact⟨_,_,⟨n+1,by simp only[zeq,zfr,hp,hf,Option.bind_some,h1,hv,Option.map_some]⟩,hR⟩
theorem zvV {f:FuncId} {fn:AFn} {args:List V} {h:Heap} {R:V→Heap→Prop} (hp:A.prim f=none) (hf:A.fns f=some fn)
 (hb:Wp A fn.body {r:=fun i=>args.getD i .undef,h} (zcJ fn.results R)):∃v h',ans A (.d (.fn f)) args h=some (v,h')∧R v h':=by
 obtain⟨v,h',hc,hr⟩:=Call.of hp hf hb
 exact⟨v,h',zcQ.2 hc,hr⟩
theorem znQ {f:FuncId} {fn:AFn} {args first cap:List V} {h:Heap} {R:V→Heap→Prop} (hp:A.prim f=none) (hf:A.fns f=some fn)
 (hb:Wp A fn.body {r:=fun i=>(first++args++cap).getD i .undef,h} (zcJ fn.results R)):∃v h',ans A (.clo f first cap) args h=some (v,h')∧R v h':=by
 obtain⟨v,h',hc,hr⟩:=Call.ofClo hp hf hb
 exact⟨v,h',zcQ.2 hc,hr⟩
def Reads (x:D) (v:V) (h:Heap):Prop:=(res 8 h v).map Prod.fst=some x
theorem zaQ {f:FuncId} {fn:AFn} {args:List D} {x:D} (hp:A.prim f=none) (hf:A.fns f=some fn)
 (hb:Wp A fn.body {r:=fun i=>(args.map V.d).getD i .undef,h:=Heap.empty} (zcJ fn.results (Reads x))):pc A f args=some x:=by
 obtain⟨v,h',e,hr⟩:=zvV hp hf hb
 unfold pc
 rw[e]
 exact hr
theorem zJn {f:FuncId} {args:List D} {x:D} (n:Nat) (h:(zeq A n (.d (.fn f)) (args.map V.d) Heap.empty).bind (fun y=>(res 8 y.2 y.1).map Prod.fst)=some x):pc A f args=some x:=by
 unfold pc
 cases e:zeq A n (.d (.fn f)) (args.map V.d) Heap.empty with
 |none=>rw[e]at h;simp at h
 |some y=>rw[e]at h;rw[zrP _ _ _ _ e];exact h
end Go.AI
namespace Go.AI
variable {A:AProg} {s:St} {Q:Ex→St→Prop} {fr:Nat} {env:Regs} {r:Regs} {h:Heap} {K:V→Heap→Prop}
theorem Regs.set_ne (r:Regs) {t i:Nat} (v:V) (hn:i≠t):r.set t v i=r i:=by simp[Regs.set,beq_false_of_ne hn]
theorem Regs.set_at (r:Regs) (t:Nat) (v:V) (i:Nat):r.set t v i=if i=t then v else r i:=by
 by_cases hn:i=t
 ·simp[Regs.set,hn]
 ·simp[Regs.set,hn,beq_false_of_ne hn]
theorem Heap.put_eq (h:Heap) (b:Nat) (x:Blk):(h.put b x).get b=some x:=by simp[Heap.put,Heap.set]
theorem Heap.put_ne (h:Heap) {b c:Nat} (x:Blk) (hn:c≠b):(h.put b x).get c=h.get c:=by simp[Heap.put,Heap.set,beq_false_of_ne hn]
theorem Heap.put_at (h:Heap) (b:Nat) (x:Blk) (c:Nat):(h.put b x).get c=if c=b then some x else h.get c:=by
 by_cases hn:c=b
 ·simp[Heap.put,Heap.set,hn]
 ·simp[Heap.put,Heap.set,hn,beq_false_of_ne hn]
theorem Heap.del_at (h:Heap) (b:Nat) (c:Nat):(h.del b).get c=if c=b then none else h.get c:=by
 by_cases hn:c=b
 ·simp[Heap.del,Heap.set,hn]
 ·simp[Heap.del,Heap.set,hn,beq_false_of_ne hn]
theorem Heap.put_next (h:Heap) (b:Nat) (x:Blk):(h.put b x).next=h.next:=rfl
theorem Heap.del_eq (h:Heap) (b:Nat):(h.del b).get b=none:=by simp[Heap.del,Heap.set]
theorem Heap.del_ne (h:Heap) {b c:Nat} (hn:c≠b):(h.del b).get c=h.get c:=by simp[Heap.del,Heap.set,beq_false_of_ne hn]
theorem Heap.del_next (h:Heap) (b:Nat):(h.del b).next=h.next:=rfl
theorem Heap.bump_get (h:Heap) (n b:Nat):(h.bump n).get b=h.get b:=rfl
theorem Heap.bump_next (h:Heap) (n:Nat):(h.bump n).next=h.next+n:=rfl
theorem Heap.empty_get (b:Nat):Heap.empty.get b=none:=rfl
theorem Heap.empty_next:Heap.empty.next=0:=rfl
section
variable {app:App} {sh:FuncId→Bool}
def zvW:V→Option Bool| .d (.bool b)=>some b|_=>none
def faddrV (off:Nat):V→Option V
 | .ptr b i o=>some (.ptr b i (o+off))| .rp y o=>some (.rp y (o+off))|_=>none
def indexV (i:Nat):V→Option V
 | .d (.str s)=>(s[i]?).map fun c=> .d (.int .u8 c.toNat)
 |_=>none
def keep (h:Heap):Option V→Option (V×Heap)
 |some v=>some (v,h)
 |none=>none
theorem zvX {v:V}:keep h (some v)=some (v,h):=rfl
theorem zcK (x:Option V):(x.map fun v=>(v,h))=keep h x:=by cases x<;>rfl
def zQq (a b:V):Option Bool→Option V
 |some t=>some (bif t then a else b)
 |none=>none
theorem zvY {a b:V} {t:Bool}:zQq a b (some t)=some (bif t then a else b):=rfl
def zEX (fr:Nat) (h:Heap) (v:V):Option Blk→Option (V×Heap)
 |some x=>some (v,h.put fr x)
 |none=>none
theorem zvZ {v:V} {x:Blk}:zEX fr h v (some x)=some (v,h.put fr x):=rfl
theorem zJo {x:Opd}:zad app sh fr env r h (.move x)=keep h (some (opd env r x)):=rfl
theorem zJp {c a b:Opd}:zad app sh fr env r h (.pick c a b)=keep h (zQq (opd env r a) (opd env r b) (zvW (opd env r c))):=by
 simp only[zad]
 cases hc:opd env r c with
 |d x=>cases x with
  |bool t=>cases t<;>rfl
  |_=>rfl
 |_=>rfl
theorem zFp {z:D}:zad app sh fr env r h (.alloc z)=zEX fr h (.ptr fr 0 0) (some (.els z.cells.length [.d z] 0)):=rfl
theorem zJq {x:Opd}:zad app sh fr env r h (.box x)=zEX fr h (.ptr fr 0 0) (boxed (opd env r x)):=by
 simp only[zad];cases boxed (opd env r x)<;>rfl
theorem zFq {z:List D} {ps:List (Nat×Nat×Opd)}:zad app sh fr env r h (.build z ps)=keep h ((zca (z.map .d) (ps.map fun x=>(x.1,x.2.1,opd env r x.2.2))).map V.ofCells):=by
 simp only[zad]
 cases zca (z.map .d) (ps.map fun x=>(x.1,x.2.1,opd env r x.2.2))<;>rfl
theorem zAR {len:Nat} {z:D} {ps:List (Nat×Opd)}:zad app sh fr env r h (.bslice len z ps)=zEX fr h (.sl fr 0 len) ((zaS z.cells.length (List.replicate len (.d z)) (ps.map fun x=>(x.1,opd env r x.2))).map fun l=> .els z.cells.length l 0):=by
 simp only[zad]
 cases zaS z.cells.length (List.replicate len (.d z)) (ps.map fun x=>(x.1,opd env r x.2))<;>rfl
theorem zJr {n:Option Nat} {a:Opd}:zad app sh fr env r h (.load n a)=keep h (zdA h n (opd env r a)):=zcK _
def stored:Option Heap→Option (V×Heap)
 |some h=>some (.undef,h)
 |none=>none
theorem zpY {h:Heap}:stored (some h)=some (.undef,h):=rfl
theorem zFr {n:Nat} {a x:Opd}:zad app sh fr env r h (.store n a x)=stored (zbK h n (opd env r a) (opd env r x)):=by
 simp only[zad];cases zbK h n (opd env r a) (opd env r x)<;>rfl
def zEY (v:V):Option Bool→Option V
 |some false=>some v
 |_=>none
theorem znR {v:V}:zEY v (some false)=some v:=rfl
theorem ztl {x:Opd}:zad app sh fr env r h (.nilCheck x)=keep h (zEY (opd env r x) (isNil (opd env r x))):=by
 simp only[zad]
 cases hn:isNil (opd env r x)with
 |none=>rfl
 |some b=>cases b<;>rfl
theorem zNQ {op:BinOp} {ty:ETy} {x y:Opd}:zad app sh fr env r h (.bin op ty x y)=keep h (binV op ty (opd env r x) (opd env r y)):=zcK _
theorem zQw {op:UnOp} {x:Opd}:zad app sh fr env r h (.un op x)=keep h (unV op (opd env r x)):=zcK _
theorem zJs {k:Cv} {x:Opd}:zad app sh fr env r h (.conv k x)=keep h (convV k (opd env r x)):=zcK _
theorem zAS {f:FuncId} {a b:List Opd}:zad app sh fr env r h (.mkFunc f a b)=keep h (some (bif a.isEmpty&&b.isEmpty then .d (.fn f)else .clo f (a.map (opd env r)) (b.map (opd env r)))):=by
 simp only[zad]
 cases hc:(a.isEmpty&&b.isEmpty)<;>rfl
theorem zFs:zad app sh fr env r h .mkMap=zEX fr h (.map fr) (some (.map [] 0)):=rfl
theorem zkh {z:D} {bytes:Nat} {l c:Opd}:zad app sh fr env r h (.mkSlice z bytes l c)=(asNat (opd env r l)).bind fun l=>(asNat (opd env r c)).bind fun c=>
 if l≤c∧c*bytes≤roomBytes then some (.sl fr 0 l,h.put fr (.els z.cells.length (List.replicate l (.d z)) 0))else none:=rfl
def znS (h:Heap) (sz:Nat) (x:V):Option (Option Nat)→Option (Option Nat)→Option (Option Nat)→Option V
 |some lo,some hi,some mx=>zbx h sz x lo hi mx
 |_,_,_=>none
theorem zpZ {sz:Nat} {x:V} {lo hi mx:Option Nat}:znS h sz x (some lo) (some hi) (some mx)=zbx h sz x lo hi mx:=rfl
theorem zFt {sz:Nat} {x:Opd} {lo hi mx:Option Opd}:zad app sh fr env r h (.slice sz x lo hi mx)=keep h (znS h sz (opd env r x) (zby (lo.map (opd env r))) (zby (hi.map (opd env r))) (zby (mx.map (opd env r)))):=by
 simp only[zad]
 cases zby (lo.map (opd env r))<;>cases zby (hi.map (opd env r))<;>cases zby (mx.map (opd env r))<;>first|rfl|exact zcK _
theorem zwa {off:Nat} {x:Opd}:zad app sh fr env r h (.faddr off x)=keep h (faddrV off (opd env r x)):=by
 simp only[zad];cases opd env r x<;>rfl
theorem zFu {off:Nat} {n:Option Nat} {x:Opd}:zad app sh fr env r h (.field off n x)=keep h (V.fld off n (opd env r x)):=zcK _
def atI {α:Type} (f:Nat→Option α):Option Nat→Option α
 |some i=>f i
 |none=>none
theorem zhk {α:Type} {f:Nat→Option α} {i:Nat}:atI f (some i)=f i:=rfl
theorem zFv {sz:Nat} {x i:Opd}:zad app sh fr env r h (.iaddr sz x i)=keep h (atI (zbO h sz (opd env r x)) (asNat (opd env r i))):=by
 simp only[zad]
 cases asNat (opd env r i)with
 |none=>rfl
 |some k=>exact zcK _
def zwb (len sz:Nat) (x:V) (i:Nat):Option V:=if i<len then faddrV (i*sz) x else none
theorem zwc {len sz:Nat} {x i:Opd}:zad app sh fr env r h (.aaddr len sz x i)=keep h (atI (zwb len sz (opd env r x)) (asNat (opd env r i))):=by
 simp only[zad]
 cases asNat (opd env r i)with
 |none=>rfl
 |some k=>
  simp only[Option.bind_some,atI,zwb]
  split
  ·cases opd env r x<;>rfl
  ·rfl
theorem zwd {x i:Opd}:zad app sh fr env r h (.index x i)=keep h (atI (fun i=>indexV i (opd env r x)) (asNat (opd env r i))):=by
 simp only[zad]
 cases asNat (opd env r i)with
 |none=>rfl
 |some k=>
  simp only[Option.bind_some,atI]
  cases opd env r x with
  |d y=>cases y with
   |str s=>simp only[indexV];cases s[k]? <;>rfl
   |_=>rfl
  |_=>rfl
def zhY (len sz:Nat) (n:Option Nat) (x:V) (i:Nat):Option V:=if i<len then V.fld (i*sz) n x else none
theorem zAT {len sz:Nat} {n:Option Nat} {x i:Opd}:zad app sh fr env r h (.aindex len sz n x i)=keep h (atI (zhY len sz n (opd env r x)) (asNat (opd env r i))):=by
 simp only[zad]
 cases asNat (opd env r i)with
 |none=>rfl
 |some k=>
  simp only[Option.bind_some,atI,zhY]
  split
  ·exact zcK _
  ·rfl
theorem zqa {len:Nat} {n:Option Nat} {cs:List V} {i:Nat}:zhY len 1 n (.agg cs) i=if i<len then V.sub (.agg cs) i n else none:=by unfold zhY V.fld;rw[Nat.mul_one]
theorem znT {len:Nat} {n:Option Nat} {cs:List D} {i:Nat}:zhY len 1 n (.d (.agg cs)) i=if i<len then V.sub (.d (.agg cs)) i n else none:=by unfold zhY V.fld;rw[Nat.mul_one]
theorem zwe {x:Opd} {i:Nat}:zad app sh fr env r h (.extract x i)=keep h (extractV i (opd env r x)):=zcK _
def zrQ:Option Nat→Option V
 |some n=>some (.d (.int .i64 n))
 |none=>none
theorem zmr {n:Nat}:zrQ (some n)=some (.d (.int .i64 n)):=rfl
theorem zNR {k:LK} {x:Opd}:zad app sh fr env r h (.len k x)=keep h (zrQ (zlv h k (opd env r x))):=by
 simp only[zad];cases zlv h k (opd env r x)<;>rfl
theorem zNS {sz bytes:Nat} {a b:Opd}:zad app sh fr env r h (.app sz bytes a b)=zlw h fr sz bytes (opd env r a) (opd env r b):=rfl
theorem zJt {sz:Nat} {a b:Opd}:zad app sh fr env r h (.copy sz a b)=copyV h sz (opd env r a) (opd env r b):=rfl
theorem zQx {a:List Opd}:zad app sh fr env r h (.mx a)=keep h (maxV (a.map (opd env r))):=zcK _
theorem zQy {a:List Opd}:zad app sh fr env r h (.mn a)=keep h (minV (a.map (opd env r))):=zcK _
theorem zFw {f:Opd} {args:List Opd}:zad app sh fr env r h (.callv f args)=app (opd env r f) (args.map (opd env r)) h:=rfl
end
theorem znU:zbc env none=true:=rfl
def zAU (v:V) (t:Bool):Bool:=match v with| .d (.bool b)=>b==t|_=>false
theorem znV {j:Nat} {t:Bool}:zbc env (some (j,t))=zAU (env j) t:=rfl
theorem ztm {b t:Bool}:zAU (.d (.bool b)) t=(b==t):=rfl
theorem zqb {l:List D} {t:Bool}:zAU (.d (.tuple l)) t=false:=rfl
theorem zwf {c x t:Bool} {l:List D}:zAU (bif c then .d (.bool x)else .d (.tuple l)) t=(bif c then x==t else false):=by cases c<;>rfl
theorem zqc {c x:Bool} {l:List D}:zbR (bif c then .d (.bool x)else .d (.tuple l))=true:=by cases c<;>rfl
theorem zwg {r:Regs}:zew env [] r=r:=rfl
theorem ztn {t i:Nat} {l:List (Nat×Nat)} {r:Regs}:zew env ((t,i)::l) r=zew env l (r.set t (env i)):=rfl
theorem zto {c:Bool} {x y:Bool}:(bif c then V.d (.bool x)else V.d (.bool y))=V.d (.bool (bif c then x else y)):=by cases c<;>rfl
theorem zNT {A:AProg} {Q:Ex→St→Prop} {ops:List (SOp×Option (Nat×Bool))} {outs:List (Nat×Nat)} {base:Nat} {r:Regs}:
 zJm ⟨A,Q,ops,outs,[],base,r⟩ env h=Q .normal {r:=zew env outs r,h}:=by simp[zJm,zbn]
theorem zNU {A:AProg} {Q:Ex→St→Prop} {ops:List (SOp×Option (Nat×Bool))} {outs:List (Nat×Nat)} {p:Nat×Nat} {ps:List (Nat×Nat)} {base:Nat} {r:Regs}:
 zJm ⟨A,Q,ops,outs,p::ps,base,r⟩ env h=(zbn base ops env r (p::ps)=true∧Q .normal {r:=zew env outs r,h}):=rfl
theorem zfO (l:List D):allD (l.map .d)=some l:=by
 induction l with
 |nil=>rfl
 |cons x l ih=>simp[allD,ih]
theorem znW (l:List D):V.ofCells (l.map .d)= .d (.agg l):=by simp[V.ofCells,zfO]
theorem zki (x:D):V.cells (.d x)=x.cells.map .d:=by cases x<;>rfl
theorem zwh {n:Option Nat} {b i off:Nat}:zdA h n (.ptr b i off)=match h.get b with|some (.els _ l _)=>(l[i]?).bind fun e=>e.sub off n|_=>none:=rfl
theorem zAV {n:Option Nat} {x:D} {off:Nat}:zdA h n (.rp x off)=(x.sub off n).map .d:=rfl
theorem zFx (x:D) (off:Nat) (n:Option Nat):V.sub (.d x) off n=(x.sub off n).map .d:=by
 cases n with
 |none=>simp[V.sub,D.sub,zki]
 |some n=>
  simp only[V.sub,D.sub,zki,List.length_map]
  split
  ·simp only[←List.map_drop,←List.map_take,V.ofCells,zfO,Option.map_some]
  ·rfl
theorem zFy (cs:List V) (off:Nat):V.sub (.agg cs) off none=cs[off]? :=rfl
theorem zAW (cs:List D) (off:Nat):D.sub (.agg cs) off none=cs[off]? :=rfl
theorem zFz {b i off:Nat}:V.sub (.ptr b i off) 0 none=some (.ptr b i off):=rfl
theorem zJu {b i off:Nat}:V.sub (.sl b i off) 0 none=some (.sl b i off):=rfl
theorem zFA {b:Nat}:V.sub (.map b) 0 none=some (.map b):=rfl
theorem zFB {f:FuncId} {x y:List V}:V.sub (.clo f x y) 0 none=some (.clo f x y):=rfl
theorem zAX {k:IntKind} {n:Int}:D.sub (.int k n) 0 none=some (.int k n):=rfl
theorem zwi {b:Bool}:D.sub (.bool b) 0 none=some (.bool b):=rfl
theorem zAY {l:List UInt8}:D.sub (.str l) 0 none=some (.str l):=rfl
theorem zwj {n:Bool} {l:List D}:D.sub (.list n l) 0 none=some (.list n l):=rfl
theorem zFC {f:FuncId}:D.sub (.fn f) 0 none=some (.fn f):=rfl
theorem zwk:D.sub .nilf 0 none=some .nilf:=rfl
theorem zwl:D.sub .nilp 0 none=some .nilp:=rfl
theorem zwm:D.sub .nilm 0 none=some .nilm:=rfl
theorem ztp {n b i off:Nat} {v:V}:zbK h n (.ptr b i off) v=match h.get b with
 |some (.els z l fz)=>if fz≤i then(l[i]?).bind fun e=>(e.upd off n v).map fun e=>h.put b (.els z (l.set i e) fz)else none
 |_=>none:=rfl
theorem zFD {k k':IntKind} {n m:Int}:V.upd (.d (.int k n)) 0 1 (.d (.int k' m))=some (.d (.int k' m)):=rfl
theorem zAZ {a b:Bool}:V.upd (.d (.bool a)) 0 1 (.d (.bool b))=some (.d (.bool b)):=rfl
theorem zFE {a b:List UInt8}:V.upd (.d (.str a)) 0 1 (.d (.str b))=some (.d (.str b)):=rfl
theorem zJv {a b:Bool} {l m:List D}:V.upd (.d (.list a l)) 0 1 (.d (.list b m))=some (.d (.list b m)):=rfl
theorem zJw {a:Bool} {l:List D} {b i n:Nat}:V.upd (.d (.list a l)) 0 1 (.sl b i n)=some (.sl b i n):=rfl
theorem zJx {b i n:Nat} {a:Bool} {l:List D}:V.upd (.sl b i n) 0 1 (.d (.list a l))=some (.d (.list a l)):=rfl
theorem zJy {b i n b' i' n':Nat}:V.upd (.sl b i n) 0 1 (.sl b' i' n')=some (.sl b' i' n'):=rfl
theorem zBa {cs l:List V}:V.like (.agg cs) l=V.ofCells l:=rfl
theorem zwn {cs:List D} {l:List V}:V.like (.d (.agg cs)) l=V.ofCells l:=rfl
theorem cells_agg {cs:List V}:V.cells (.agg cs)=cs:=rfl
theorem zhZ {n:Nat} {x:D}:res n h (.d x)=some (x,h):=by cases n<;>rfl
theorem zwo {v:V}:oneOr [v]=v:=rfl
def zMI (R:V→Heap→Prop) (h:Heap):Option (List V)→Prop
 |some vs=>R (oneOr vs) h
 |none=>False
theorem zwp {R:V→Heap→Prop} {vs:List V}:zMI R h (some vs)=R (oneOr vs) h:=rfl
theorem zgD {rs:List RV} {R:V→Heap→Prop}:zcJ rs R .normal s=zMI R s.h (zaY s rs):=by
 simp only[zcJ];cases zaY s rs<;>simp[zMI]
theorem zqd {rs:List RV} {R:V→Heap→Prop}:zcJ rs R .ret s=zMI R s.h (zaY s rs):=zgD
theorem znX:zaY s []=some []:=rfl
theorem znY {t:Nat} {rs:List RV}:zaY s (.reg t::rs)=(zaY s rs).map (s.r t:: ·):=rfl
theorem zms {t:Nat} {n:Option Nat} {rs:List RV}:zaY s (.cell t n::rs)=(zdA s.h n (s.r t)).bind fun v=>(zaY s rs).map (v:: ·):=rfl
theorem zNV {i:Nat}:opd env r (.l i)=env i:=rfl
theorem zNW {i:Nat}:opd env r (.r i)=r i:=rfl
theorem zNX {x:D}:opd env r (.k x)= .d x:=rfl
theorem zwq {b:Bool}:zvW (.d (.bool b))=some b:=rfl
theorem ztq {off b i o:Nat}:faddrV off (.ptr b i o)=some (.ptr b i (o+off)):=rfl
theorem zwr {off o:Nat} {x:D}:faddrV off (.rp x o)=some (.rp x (o+off)):=rfl
theorem zBb {op:BinOp} {ty:ETy} {k k':IntKind} {a b:Int}:binV op ty (.d (.int k a)) (.d (.int k' b))=(zcu op k k' a b).map .d:=rfl
theorem ztr {k k':IntKind} {a b:Int}:zcu .add k k' a b=if k=k' then zcH .add k a b else none:=rfl
theorem zts {k k':IntKind} {a b:Int}:zcu .sub k k' a b=if k=k' then zcH .sub k a b else none:=rfl
theorem ztt {k k':IntKind} {a b:Int}:zcu .mul k k' a b=if k=k' then zcH .mul k a b else none:=rfl
theorem ztu {k k':IntKind} {a b:Int}:zcu .quo k k' a b=if k=k' then zcH .quo k a b else none:=rfl
theorem ztv {k k':IntKind} {a b:Int}:zcu .rem k k' a b=if k=k' then zcH .rem k a b else none:=rfl
theorem ztw {k k':IntKind} {a b:Int}:zcu .and k k' a b=if k=k' then zcH .and k a b else none:=rfl
theorem zws {k k':IntKind} {a b:Int}:zcu .or k k' a b=if k=k' then zcH .or k a b else none:=rfl
theorem ztx {k k':IntKind} {a b:Int}:zcu .eql k k' a b=if k=k' then zcH .eql k a b else none:=rfl
theorem zty {k k':IntKind} {a b:Int}:zcu .neq k k' a b=if k=k' then zcH .neq k a b else none:=rfl
theorem ztz {k k':IntKind} {a b:Int}:zcu .lss k k' a b=if k=k' then zcH .lss k a b else none:=rfl
theorem ztA {k k':IntKind} {a b:Int}:zcu .leq k k' a b=if k=k' then zcH .leq k a b else none:=rfl
theorem ztB {k k':IntKind} {a b:Int}:zcu .gtr k k' a b=if k=k' then zcH .gtr k a b else none:=rfl
theorem ztC {k k':IntKind} {a b:Int}:zcu .geq k k' a b=if k=k' then zcH .geq k a b else none:=rfl
theorem ztD {k k':IntKind} {a b:Int}:zcu .shl k k' a b=if 0≤b then some (.int k (zNN k a b))else none:=rfl
theorem ztE {k k':IntKind} {a b:Int}:zcu .shr k k' a b=if 0≤b then some (.int k (zNO k a b))else none:=rfl
theorem zBc {op:BinOp} {ty:ETy} {a b:List UInt8}:binV op ty (.d (.str a)) (.d (.str b))=(zkd op a b).map .d:=rfl
theorem znZ {a b:Bool}:binV .eql .bool (.d (.bool a)) (.d (.bool b))=some (.d (.bool (a==b))):=rfl
theorem zoa {a b:Bool}:binV .neq .bool (.d (.bool a)) (.d (.bool b))=some (.d (.bool !(a==b))):=rfl
theorem zFF {b:Bool}:unV .not (.d (.bool b))=some (.d (.bool !b)):=rfl
theorem zwt {k:IntKind} {a b:Int}:zcH .add k a b=some (.int k (k.wrap (a+b))):=rfl
theorem zwu {k:IntKind} {a b:Int}:zcH .sub k a b=some (.int k (k.wrap (a-b))):=rfl
theorem zwv {k:IntKind} {a b:Int}:zcH .mul k a b=some (.int k (k.wrap (a*b))):=rfl
theorem zww {k:IntKind} {a b:Int}:zcH .eql k a b=some (.bool (a==b)):=rfl
theorem zwx {k:IntKind} {a b:Int}:zcH .neq k a b=some (.bool !(a==b)):=rfl
theorem zwy {k:IntKind} {a b:Int}:zcH .lss k a b=some (.bool (decide (a<b))):=rfl
theorem zwz {k:IntKind} {a b:Int}:zcH .leq k a b=some (.bool (decide (a≤b))):=rfl
theorem zwA {k:IntKind} {a b:Int}:zcH .gtr k a b=some (.bool (decide (b<a))):=rfl
theorem zwB {k:IntKind} {a b:Int}:zcH .geq k a b=some (.bool (decide (b≤a))):=rfl
theorem zwC {k:IntKind} {a b:Int}:zcH .rem k a b=if b=0 then none else some (.int k (a.tmod b)):=rfl
theorem zwD {k:IntKind} {a b:Int}:zcH .quo k a b=if b=0 then none else some (.int k (k.wrap (a.tdiv b))):=rfl
theorem zwE {a b:List UInt8}:zkd .eql a b=some (.bool (a==b)):=rfl
theorem zwF {a b:List UInt8}:zkd .neq a b=some (.bool !(a==b)):=rfl
theorem zwG {n:Bool} {l:List D}:zlv h .sl (.d (.list n l))=some l.length:=rfl
theorem zBd {l:List UInt8}:zlv h .str (.d (.str l))=some l.length:=rfl
theorem zFG {b off len:Nat}:zlv h .sl (.sl b off len)=some len:=rfl
theorem zkj {k:IntKind} {n:Int}:asNat (.d (.int k n))=if 0≤n then some n.toNat else none:=rfl
theorem zqe {n:Bool} {l:List D} {i sz:Nat}:zbO h sz (.d (.list n l)) i=(l[i]?).bind fun e=>if e.cells.length=sz then some (.rp e 0)else none:=rfl
theorem zwH {b off len i sz:Nat}:zbO h sz (.sl b off len) i=if i<len then(match h.get b with
 |some (.els z l _)=>if z=sz∧off+i<l.length then some (.ptr b (off+i) 0)else none
 |_=>none)else none:=rfl
theorem zFH {x:D}:boxed (.d x)=some (.els x.cells.length [.d x] 0):=by simp[boxed,V.cells]
theorem zwI {l:List V}:boxed (.agg l)=some (.els l.length [.agg l] 0):=rfl
theorem zwJ {b i o:Nat}:boxed (.ptr b i o)=some (.els 1 [.ptr b i o] 0):=rfl
theorem zBe {x:D} {o:Nat}:boxed (.rp x o)=some (.els 1 [.rp x o] 0):=rfl
theorem zBf {b i o:Nat}:boxed (.sl b i o)=some (.els 1 [.sl b i o] 0):=rfl
theorem zwK {f:FuncId} {x y:List V}:boxed (.clo f x y)=some (.els 1 [.clo f x y] 0):=rfl
theorem zwL {b:Nat}:boxed (.map b)=some (.els 1 [.map b] 0):=rfl
theorem zwM {b:Nat}:boxed (.yld b)=some (.els 1 [.yld b] 0):=rfl
theorem ztF {l:List D} {i:Nat}:extractV i (.d (.tuple l))=(l[i]?).map .d:=rfl
theorem ztG {l:List V} {i:Nat}:extractV i (.tuple l)=l[i]? :=rfl
theorem zNY {args:List V} {i:Nat}:(fun i=>args.getD i V.undef:Regs) i=args.getD i V.undef:=rfl
def intOf:V→Int| .d (.int _ n)=>n|_=>0
theorem zFI {k:IntKind} {n:Int}:intOf (.d (.int k n))=n:=rfl
theorem zFJ {x y:D}:Reads x (.d y) h=(y=x):=by simp[Reads,zhZ]
def zFK (n:Option Nat):V→Option Foot
 | .ptr b i off=>some (.cells b i off (n.getD 1))
 | .rp .. =>some (.blocks [])
 |_=>none
def zJz (n:Nat):V→Option Foot
 | .ptr b i off=>some (.cells b i off n)
 |_=>none
def zBg:V→Option Foot
 | .sl k _ _=>some (.blocks [k])
 | .d _=>some (.blocks [])
 |_=>none
def zmt (fr:Nat):V→V→Option Foot
 | .d _,.d _=>some (.blocks [fr])
 | .sl k _ _,.d _| .d _,.sl k _ _=>some (.blocks [fr,k])
 | .sl k _ _,.sl k' _ _=>some (.blocks [fr,k,k'])
 |_,_=>none
def zJA:Option (List D)→Option Foot
 |some _=>some (.blocks [])
 |none=>none
theorem zwN {n:Option Nat} {a:Opd}:zcG env r fr (.load n a)=zFK n (opd env r a):=by simp only[zcG];cases opd env r a<;>rfl
theorem ztH {n:Nat} {a x:Opd}:zcG env r fr (.store n a x)=zJz n (opd env r a):=by simp only[zcG];cases opd env r a<;>rfl
theorem ztI {z:D}:zcG env r fr (.alloc z)=some (.blocks [fr]):=rfl
theorem zBh {x:Opd}:zcG env r fr (.box x)=some (.blocks [fr]):=rfl
theorem zqf {n:Nat} {z:D} {ps:List (Nat×Opd)}:zcG env r fr (.bslice n z ps)=some (.blocks [fr]):=rfl
theorem ztJ:zcG env r fr .mkMap=some (.blocks [fr]):=rfl
theorem zob {z:D} {n:Nat} {a b:Opd}:zcG env r fr (.mkSlice z n a b)=some (.blocks [fr]):=rfl
theorem zqg {x:Opd}:zcG env r fr (.rangeS x)=some (.blocks [fr]):=rfl
theorem ztK {n:Nat} {x i:Opd}:zcG env r fr (.iaddr n x i)=zBg (opd env r x):=by simp only[zcG];cases opd env r x<;>rfl
theorem ztL {n:Nat} {x:Opd} {a b c:Option Opd}:zcG env r fr (.slice n x a b c)=zBg (opd env r x):=by simp only[zcG];cases opd env r x<;>rfl
theorem zBi {n m:Nat} {a b:Opd}:zcG env r fr (.app n m a b)=zmt fr (opd env r a) (opd env r b):=by simp only[zcG];cases opd env r a<;>cases opd env r b<;>rfl
theorem zwO {f:FuncId} {args:List Opd}:zcG env r fr (.call f args)=zJA (allD (args.map (opd env r))):=by simp only[zcG];cases allD (args.map (opd env r))<;>rfl
theorem zwP {n:Option Nat} {b i o:Nat}:zFK n (.ptr b i o)=some (.cells b i o (n.getD 1)):=rfl
theorem zBj {n:Option Nat} {x:D} {o:Nat}:zFK n (.rp x o)=some (.blocks []):=rfl
theorem zwQ {n b i o:Nat}:zJz n (.ptr b i o)=some (.cells b i o n):=rfl
theorem zBk {k a b:Nat}:zBg (.sl k a b)=some (.blocks [k]):=rfl
theorem zFL {x:D}:zBg (.d x)=some (.blocks []):=rfl
theorem zBl {x y:D}:zmt fr (.d x) (.d y)=some (.blocks [fr]):=rfl
theorem zBm {k a b:Nat} {y:D}:zmt fr (.sl k a b) (.d y)=some (.blocks [fr,k]):=rfl
theorem zBn {k a b:Nat} {y:D}:zmt fr (.d y) (.sl k a b)=some (.blocks [fr,k]):=rfl
theorem zBo {k a b k' a' b':Nat}:zmt fr (.sl k a b) (.sl k' a' b')=some (.blocks [fr,k,k']):=rfl
theorem ztM {l:List D}:zJA (some l)=some (.blocks []):=rfl
def zgN:Option Foot→Option Foot→Bool
 |some x,some y=>zdj x y
 |_,_=>false
def zwR (base:Nat) (env r:Regs) (i j:Nat):Option (SOp×Option (Nat×Bool))→Option (SOp×Option (Nat×Bool))→Bool
 |some (a,g),some (b,g')=> !zbc env g|| !zbc env g'||zgN (zcG env r (base+i) a) (zcG env r (base+j) b)
 |_,_=>false
theorem zqh {base i j:Nat} {a b:SOp} {g g':Option (Nat×Bool)}:zwR base env r i j (some (a,g)) (some (b,g'))=(!zbc env g|| !zbc env g'||zgN (zcG env r (base+i) a) (zcG env r (base+j) b)):=rfl
theorem zoc {x y:Foot}:zgN (some x) (some y)=zdj x y:=rfl
theorem zqi {base:Nat} {ops:List (SOp×Option (Nat×Bool))}:zbn base ops env r []=true:=rfl
theorem zod {base j:Nat} {ops:List (SOp×Option (Nat×Bool))} {ps:List (Nat×Nat)}:zbn base ops env r ((j,j)::ps)=(zbR (env j)&&zbn base ops env r ps):=by
 simp only[zbn,List.all_cons,beq_self_eq_true,if_true]
theorem zoe {base i j:Nat} {ops:List (SOp×Option (Nat×Bool))} {ps:List (Nat×Nat)} (h:(i==j)=false):zbn base ops env r ((i,j)::ps)=(zwR base env r i j ops[i]? ops[j]? &&zbn base ops env r ps):=by
 simp only[zbn,List.all_cons,h,Bool.false_eq_true,if_false]
 cases ops[i]? with
 |none=>rfl
 |some x=>cases ops[j]? with
  |none=>rfl
  |some y=>
   obtain⟨a,g⟩:=x
   obtain⟨b,g'⟩:=y
   simp only[zwR]
   cases zcG env r (base+i) a<;>cases zcG env r (base+j) b<;>rfl
theorem zof {b:Bool}:zbR (.d (.bool b))=true:=rfl
theorem zmu {l:List D}:zbR (.d (.tuple l))=true:=rfl
theorem zBp {b i o n b' i' o' n':Nat}:zdj (.cells b i o n) (.cells b' i' o' n')=(b !=b'||i !=i'||decide (o+n≤o')||decide (o'+n'≤o)):=rfl
theorem zBq {b i o n:Nat} {l:List Nat}:zdj (.cells b i o n) (.blocks l)=l.all (· !=b):=rfl
theorem zBr {b i o n:Nat} {l:List Nat}:zdj (.blocks l) (.cells b i o n)=l.all (· !=b):=rfl
theorem zBs {l l':List Nat}:zdj (.blocks l) (.blocks l')=l.all fun b=>l'.all (· !=b):=rfl
attribute [go_sem] Wp.skip Wp.exit Wp.ret Wp.seq Wp.cond Wp.block Wp.regionW zfm.nil zfm.cons znU zvU zpX znP zAP zvT zNT zNU Ex.seq_normal Ex.seq_ret Ex.seq_exit Ex.block_normal Ex.block_ret Ex.block_exit Ex.more_normal Ex.more_ret Ex.more_exit allD zgD zqd zwp zFJ zFI zJo zJp zFp zJq zFq zAR zJr zFr ztl zNQ zQw zJs zAS zFs zkh zFt zwa zFu zFv zwc zwd zAT zwe zNR zNS zJt zQx zQy zFw zvX zvY zvZ zpY znR zpZ zhk zmr Regs.set_at Heap.put_at Heap.put_next Heap.del_at Heap.del_next Heap.bump_get Heap.bump_next Heap.empty_get Heap.empty_next zNV zNW zNX znV ztm zqb zwf zqc zwg ztn zto zwh zAV zFx zFy zAW zFz zJu zFA zFB zAX zwi zAY zwj zFC zwk zwl zwm ztp zFD zAZ zFE zJv zJw zJx zJy List.set_cons_zero List.set_cons_succ Nat.le_refl zBa zwn cells_agg zhZ zwo znX znY zms zwq ztq zwr zBb ztr zts ztt ztu ztv ztw zws ztx zty ztz ztA ztB ztC ztD ztE zBc znZ zoa zFF zwt zwu zwv zww zwx zwy zwz zwA zwB zwC zwD zwE zwF zwG zBd zFG zkj zqa znT zqe zwH zFH zwI zwJ zBe zBf zwK zwL zwM ztF ztG ztk ztj Option.map_some Option.bind_some Option.map_none Option.bind_none if_true if_false cond_true cond_false List.map_cons List.map_nil List.getD_cons_zero List.getD_cons_succ List.getElem?_cons_zero List.getElem?_cons_succ List.length_cons List.length_nil zwN ztH ztI zBh zqf ztJ zob zqg ztK ztL zBi zwO zwP zBj zwQ zBk zFL zBl zBm zBn zBo ztM zqh zoc zqi zod zoe zof zmu zBp zBq zBr zBs Bool.true_and Bool.and_true Bool.false_or Bool.or_false Bool.true_or Bool.or_true true_and and_true List.all_cons List.all_nil Option.getD_none Option.getD_some Nat.zero_add Bool.not_true Bool.not_false beq_true beq_false Bool.not_not
theorem zFM (n k:Nat):(n=n+(k+1))=False:=by simp
theorem zFN (n k:Nat):(n+(k+1)=n)=False:=by simp
attribute [go_sem] zFM zFN Nat.add_assoc
end Go.AI
namespace Go.AI
def App.mono (app:App):Prop:=∀f x h v h',app f x h=some (v,h')→h.next≤h'.next
theorem zgO (h:Heap) (b n:Nat):(freeze h b n).next=h.next:=by
 unfold freeze
 split
 ·split<;>rfl
 ·rfl
theorem zlz {f:Heap→V→Option (D×Heap)} (hf:∀h v x h',f h v=some (x,h')→h'.next=h.next):∀(l:List V) (h:Heap) (xs:List D) (h':Heap),zbI f h l=some (xs,h')→h'.next=h.next
 |[],h,xs,h',e=>by simp only[zbI,Option.some.injEq,Prod.mk.injEq]at e;rw[←e.2]
 |v::l,h,xs,h',e=>by
  simp only[zbI]at e
  obtain⟨⟨x,h1⟩,e1,e⟩:=Option.bind_eq_some_iff.1 e
  obtain⟨⟨ys,h2⟩,e2,e⟩:=Option.map_eq_some_iff.1 e
  simp only[Prod.mk.injEq]at e
  rw[←e.2,zlz hf l h1 ys h2 e2,hf h v x h1 e1]
theorem zhl {f:Heap→V→Option (D×Heap)} (hf:∀h v x h',f h v=some (x,h')→h'.next=h.next) {l:List V} {h:Heap} {xs:List D} {h':Heap} (e:zba f h l=some (xs,h')):h'.next=h.next:=by
 unfold zba at e
 split at e
 ·simp only[Option.some.injEq,Prod.mk.injEq]at e;rw[←e.2]
 ·exact zlz hf _ _ _ _ e
theorem zrR:∀(n:Nat) (h:Heap) (v:V) (x:D) (h':Heap),res n h v=some (x,h')→h'.next=h.next
 |0,h,v,x,h',e=>by
  cases v<;>simp only[res,Option.some.injEq,Prod.mk.injEq]at e<;>first|(rw[←e.2];done)|(cases e;done)
 |n+1,h,v,x,h',e=>by
  have ih:=zrR n
  cases v with
  |d y=>simp only[res,Option.some.injEq,Prod.mk.injEq]at e;rw[←e.2]
  |sl b off len=>
   simp only[res]at e
   split at e
   ·split at e
    ·obtain⟨⟨ys,h2⟩,e2,e⟩:=Option.map_eq_some_iff.1 e
     simp only[Prod.mk.injEq]at e
     rw[←e.2,zhl ih e2,zgO]
    ·cases e
   ·cases e
  |agg cs=>
   simp only[res]at e
   obtain⟨⟨ys,h2⟩,e2,e⟩:=Option.map_eq_some_iff.1 e
   simp only[Prod.mk.injEq]at e
   rw[←e.2,zhl ih e2]
  |tuple cs=>
   simp only[res]at e
   obtain⟨⟨ys,h2⟩,e2,e⟩:=Option.map_eq_some_iff.1 e
   simp only[Prod.mk.injEq]at e
   rw[←e.2,zhl ih e2]
  |_=>simp[res]at e
theorem zqj {h h':Heap} {n:Nat} {a x:V} (e:zbK h n a x=some h'):h'.next=h.next:=by
 unfold zbK at e
 split at e
 ·split at e
  ·split at e
   ·obtain⟨y,_,e⟩:=Option.bind_eq_some_iff.1 e
    obtain⟨z,_,e⟩:=Option.map_eq_some_iff.1 e
    rw[←e];rfl
   ·cases e
  ·cases e
 ·cases e
theorem zwS {h h':Heap} {fr sz n:Nat} {a b v:V} (e:zlw h fr sz n a b=some (v,h')):h'.next=h.next:=by
 unfold zlw at e
 obtain⟨new,_,e⟩:=Option.bind_eq_some_iff.1 e
 split at e
 ·split at e
  ·simp only[Option.some.injEq,Prod.mk.injEq]at e;rw[←e.2]
  ·cases e
 ·split at e
  ·split at e
   ·split at e
    ·simp only[Option.some.injEq,Prod.mk.injEq]at e;rw[←e.2];rfl
    ·cases e
   ·split at e
    ·split at e
     ·simp only[Option.some.injEq,Prod.mk.injEq]at e;rw[←e.2];rfl
     ·cases e
    ·cases e
   ·cases e
  ·cases e
theorem ztN {h h':Heap} {sz:Nat} {a b v:V} (e:copyV h sz a b=some (v,h')):h'.next=h.next:=by
 unfold copyV at e
 obtain⟨new,_,e⟩:=Option.bind_eq_some_iff.1 e
 split at e
 ·split at e
  ·split at e
   ·simp only[Option.some.injEq,Prod.mk.injEq]at e;rw[←e.2];rfl
   ·cases e
  ·cases e
 ·cases e
theorem zbY {α:Type} {x:Option α} {f:α→V} {h h':Heap} {v:V} (e:(x.map fun y=>(f y,h))=some (v,h')):h'.next=h.next:=by
 obtain⟨y,_,e⟩:=Option.map_eq_some_iff.1 e
 simp only[Prod.mk.injEq]at e;rw[←e.2]
theorem zqk {app:App} (happ:app.mono) {sh:FuncId→Bool} {fr:Nat} {env r:Regs} {h h':Heap} {o:SOp} {v:V} (e:zad app sh fr env r h o=some (v,h')):h.next≤h'.next:=by
 have eq:∀{a b:Nat},b=a→a≤b:=fun h=>Nat.le_of_eq h.symm
 have sm:∀{x:V×Heap},x.2.next=h.next→some x=some (v,h')→h.next≤h'.next:=fun hx e=>by cases e;exact eq hx
 cases o with
 |move x=>exact sm rfl e
 |pick c a b=>simp only[zad]at e;split at e;exact sm rfl e;cases e
 |alloc z=>exact sm rfl e
 |box x=>
  simp only[zad]at e
  obtain⟨y,_,e⟩:=Option.map_eq_some_iff.1 e
  simp only[Prod.mk.injEq]at e;rw[←e.2];exact Nat.le_refl _
 |build z ps=>exact eq (zbY (f:=V.ofCells) e)
 |bslice len z ps=>
  simp only[zad]at e
  obtain⟨y,_,e⟩:=Option.map_eq_some_iff.1 e
  simp only[Prod.mk.injEq]at e;rw[←e.2];exact Nat.le_refl _
 |load n a=>exact eq (zbY (f:=id) e)
 |store n a x=>
  simp only[zad]at e
  obtain⟨y,h1,e⟩:=Option.map_eq_some_iff.1 e
  simp only[Prod.mk.injEq]at e;rw[←e.2];exact eq (zqj h1)
 |nilCheck x=>simp only[zad]at e;split at e;exact sm rfl e;cases e
 |bin op ty x y=>exact eq (zbY (f:=id) e)
 |un op x=>exact eq (zbY (f:=id) e)
 |conv k x=>exact eq (zbY (f:=id) e)
 |mkFunc f a b=>simp only[zad]at e;split at e<;>exact sm rfl e
 |mkMap=>exact sm rfl e
 |mkSlice z n l c=>
  simp only[zad]at e
  obtain⟨_,_,e⟩:=Option.bind_eq_some_iff.1 e
  obtain⟨_,_,e⟩:=Option.bind_eq_some_iff.1 e
  split at e
  ·exact sm rfl e
  ·cases e
 |slice sz x lo hi mx=>
  simp only[zad]at e
  obtain⟨_,_,e⟩:=Option.bind_eq_some_iff.1 e
  obtain⟨_,_,e⟩:=Option.bind_eq_some_iff.1 e
  obtain⟨_,_,e⟩:=Option.bind_eq_some_iff.1 e
  exact eq (zbY (f:=id) e)
 |faddr off x=>simp only[zad]at e;split at e<;>first|exact sm rfl e|cases e
 |field off n x=>exact eq (zbY (f:=id) e)
 |iaddr sz x i=>simp only[zad]at e;obtain⟨_,_,e⟩:=Option.bind_eq_some_iff.1 e;exact eq (zbY (f:=id) e)
 |aaddr len sz x i=>
  simp only[zad]at e
  obtain⟨_,_,e⟩:=Option.bind_eq_some_iff.1 e
  split at e
  ·split at e<;>first|exact sm rfl e|cases e
  ·cases e
 |index x i=>
  simp only[zad]at e
  obtain⟨_,_,e⟩:=Option.bind_eq_some_iff.1 e
  split at e
  ·exact eq (zbY e)
  ·cases e
 |aindex len sz n x i=>
  simp only[zad]at e
  obtain⟨_,_,e⟩:=Option.bind_eq_some_iff.1 e
  split at e
  ·exact eq (zbY (f:=id) e)
  ·cases e
 |lookup ks z m k ok=>
  simp only[zad]at e
  split at e
  ·obtain⟨y,_,e⟩:=Option.map_eq_some_iff.1 e
   simp only[Prod.mk.injEq]at e;rw[←e.2];exact Nat.le_refl _
  ·cases e
 |mupd ks m k v'=>
  simp only[zad]at e
  split at e
  ·split at e
   ·obtain⟨y,_,e⟩:=Option.bind_eq_some_iff.1 e
    split at e
    ·obtain⟨z,_,e⟩:=Option.map_eq_some_iff.1 e
     simp only[Prod.mk.injEq]at e;rw[←e.2];exact Nat.le_refl _
    ·exact sm rfl e
   ·cases e
  ·cases e
 |mentry ks z m k=>
  simp only[zad]at e
  split at e
  ·split at e
   ·obtain⟨y,_,e⟩:=Option.map_eq_some_iff.1 e
    split at e<;>(simp only[Prod.mk.injEq]at e;rw[←e.2];exact Nat.le_refl _)
   ·cases e
  ·cases e
 |estore m s v'=>
  simp only[zad]at e
  split at e
  ·split at e
   ·split at e
    ·exact sm rfl e
    ·cases e
   ·cases e
  ·cases e
 |rangeS x=>simp only[zad]at e;split at e;exact sm rfl e;cases e
 |nextS x=>
  simp only[zad]at e
  split at e
  ·split at e
   ·split at e<;>exact sm rfl e
   ·cases e
  ·cases e
 |extract x i=>exact eq (zbY (f:=id) e)
 |call f args=>
  simp only[zad]at e
  split at e
  ·exact happ _ _ _ _ _ e
  ·obtain⟨⟨ds,h1⟩,e1,e⟩:=Option.bind_eq_some_iff.1 e
   obtain⟨⟨v1,h2⟩,e2,e⟩:=Option.bind_eq_some_iff.1 e
   obtain⟨⟨x,h3⟩,e3,e⟩:=Option.map_eq_some_iff.1 e
   simp only[Prod.mk.injEq]at e
   rw[←e.2];exact eq (zhl (zrR 8) e1)
 |callv f args=>exact happ _ _ _ _ _ e
 |len k x=>exact eq (zbY (f:=fun(n:Nat)=>V.d (.int .i64 (n:Int))) e)
 |app sz n a b=>exact eq (zwS e)
 |copy sz a b=>exact eq (ztN e)
 |mx a=>exact eq (zbY (f:=id) e)
 |mn a=>exact eq (zbY (f:=id) e)
 |clear z x=>
  simp only[zad]at e
  split at e
  ·split at e
   ·split at e
    ·exact sm rfl e
    ·cases e
   ·cases e
  ·exact sm rfl e
  ·cases e
theorem zfv {app:App} (happ:app.mono) {sh:FuncId→Bool} {base:Nat} {r:Regs}:∀(ops:List (SOp×Option (Nat×Bool))) (i:Nat) (env:Regs) (h:Heap) (env':Regs) (h':Heap),zbj app sh base r ops i env h=some (env',h')→h.next≤h'.next
 |[],i,env,h,env',h',e=>by simp only[zbj,Option.some.injEq,Prod.mk.injEq]at e;rw[e.2];exact Nat.le_refl _
 |(o,g)::ops,i,env,h,env',h',e=>by
  simp only[zbj]at e
  split at e
  ·obtain⟨⟨v,h1⟩,e1,e⟩:=Option.bind_eq_some_iff.1 e
   exact Nat.le_trans (zqk happ e1) (zfv happ ops _ _ _ _ _ e)
  ·exact zfv happ ops _ _ _ _ _ e
theorem zog {f:St→Option (Ex×St)} (hf:∀s e s',f s=some (e,s')→s.h.next≤s'.h.next):∀(n:Nat) (s:St) (e:Ex) (s':St),iter f n s=some (e,s')→s.h.next≤s'.h.next
 |0,s,e,s',h=>by simp[iter]at h
 |n+1,s,e,s',h=>by
  simp only[iter]at h
  cases h1:f s with
  |none=>rw[h1]at h;cases h
  |some p=>
   obtain⟨ex,st⟩:=p
   rw[h1]at h
   have:=hf s ex st h1
   cases ex with
   |normal=>exact Nat.le_trans this (zog hf n st e s' h)
   |exit id=>cases h;exact this
   |ret=>cases h;exact this
theorem zcb {app:App} (happ:app.mono) {sh:FuncId→Bool} {n:Nat}:∀(c:C) (s:St) (e:Ex) (s':St),zbw app sh n c s=some (e,s')→s.h.next≤s'.h.next
 | .skip,s,e,s',h=>by cases h;exact Nat.le_refl _
 | .exit _,s,e,s',h=>by cases h;exact Nat.le_refl _
 | .ret,s,e,s',h=>by cases h;exact Nat.le_refl _
 | .region ops outs pairs,s,e,s',h=>by
  simp only[zbw]at h
  obtain⟨⟨env,h1⟩,e1,h⟩:=Option.bind_eq_some_iff.1 h
  dsimp only at h
  split at h
  ·cases h
   exact Nat.le_trans (Nat.le_add_right _ _) (zfv happ _ _ _ _ _ _ e1)
  ·cases h
 | .seq a b,s,e,s',h=>by
  simp only[zbw]at h
  cases h1:zbw app sh n a s with
  |none=>rw[h1]at h;cases h
  |some p=>
   obtain⟨ex,st⟩:=p
   rw[h1]at h
   have:=zcb happ a s ex st h1
   cases ex with
   |normal=>exact Nat.le_trans this (zcb happ b st e s' h)
   |exit id=>cases h;exact this
   |ret=>cases h;exact this
 | .cond c a b,s,e,s',h=>by
  simp only[zbw]at h
  split at h
  ·exact zcb happ a s e s' h
  ·exact zcb happ b s e s' h
  ·cases h
 | .block id a,s,e,s',h=>by
  simp only[zbw]at h
  cases h1:zbw app sh n a s with
  |none=>rw[h1]at h;cases h
  |some p=>
   obtain⟨ex,st⟩:=p
   rw[h1]at h
   have:=zcb happ a s ex st h1
   cases ex with
   |normal=>cases h;exact this
   |ret=>cases h;exact this
   |exit id'=>dsimp only at h;split at h<;>(cases h;exact this)
 | .loop a,s,e,s',h=>by
  simp only[zbw]at h
  exact zog (fun s e s'=>zcb happ a s e s') n s e s' h
 | .rfunc f ps a b,s,e,s',h=>by
  simp only[zbw]at h
  split at h
  ·cases h
  obtain⟨⟨v,h1⟩,e1,h⟩:=Option.bind_eq_some_iff.1 h
  have:=happ _ _ _ _ _ e1
  dsimp only at h
  split at h
  ·split at h
   ·cases h
   ·rename_i l _ _
    have h2:s.h.next≤h1.next:=Nat.le_trans (Nat.le_add_right _ 1) this
    cases hp:l.pending with
    |none=>rw[hp]at h;cases h;exact h2
    |some j=>rw[hp]at h;cases h;exact h2
  ·cases h
theorem zkk (A:AProg):∀n,App.mono (zeq A n)
 |0=>fun f x h v h' e=>by simp[zeq]at e
 |n+1=>fun f x h v h' e=>by
  have ih:=zkk A n
  have rf:∀{g:FuncId} {args:List V},zfr A (zeq A n) n g args h=some (v,h')→h.next≤h'.next:=by
   intro g args e
   unfold zfr at e
   split at e
   ·obtain⟨ds,_,e⟩:=Option.bind_eq_some_iff.1 e
    obtain⟨y,_,e⟩:=Option.map_eq_some_iff.1 e
    simp only[Prod.mk.injEq]at e;rw[←e.2];exact Nat.le_refl _
   ·obtain⟨fn,_,e⟩:=Option.bind_eq_some_iff.1 e
    split at e
    ·rename_i st h1
     obtain⟨y,_,e⟩:=Option.map_eq_some_iff.1 e
     simp only[Prod.mk.injEq]at e;rw[←e.2];exact zcb ih _ _ _ _ h1
    ·rename_i st h1
     obtain⟨y,_,e⟩:=Option.map_eq_some_iff.1 e
     simp only[Prod.mk.injEq]at e;rw[←e.2];exact zcb ih _ _ _ _ h1
    ·cases e
  simp only[zeq]at e
  split at e
  ·exact rf e
  ·exact rf e
  ·unfold round at e
   split at e
   ·obtain⟨r,_,e⟩:=Option.bind_eq_some_iff.1 e
    split at e
    ·rename_i st h1
     have a1:=zcb ih _ _ _ _ h1
     split at e
     ·split at e
      ·obtain⟨⟨e2,st2⟩,h2,e⟩:=Option.bind_eq_some_iff.1 e
       have a2:=zcb ih _ _ _ _ h2
       dsimp only at e
       split at e
       ·cases e
        exact Nat.le_trans a1 a2
       ·cases e
      ·cases e
     ·cases e
    ·cases e
   ·cases e
  ·cases e
theorem zrS {A:AProg} {f:V} {x:List V} {h:Heap} {v:V} {h':Heap} (e:ans A f x h=some (v,h')):h.next≤h'.next:=by
 obtain⟨n,hn⟩:=zcQ.1 e
 exact zkk A n _ _ _ _ _ hn
def C.writes:C→List Nat
 | .region _ outs _=>outs.map Prod.fst
 | .seq a b| .cond _ a b=>a.writes++b.writes
 | .block _ a| .loop a=>a.writes
 |_=>[]
theorem zkl {env:Regs} {i:Nat}:∀(outs:List (Nat×Nat)) (r:Regs),(outs.map Prod.fst).contains i=false→zew env outs r i=r i
 |[],r,_=>rfl
 |(t,j)::outs,r,h=>by
  simp only[List.map_cons,List.contains_cons,Bool.or_eq_false_iff]at h
  simp only[zew]
  rw[zkl outs _ h.2]
  simp[Regs.set,h.1]
theorem zoh {f:St→Option (Ex×St)} {ws:List Nat} (hf:∀s e s',f s=some (e,s')→∀i,ws.contains i=false→s'.r i=s.r i):∀(n:Nat) (s:St) (e:Ex) (s':St),iter f n s=some (e,s')→∀i,ws.contains i=false→s'.r i=s.r i
 |0,s,e,s',h=>by simp[iter]at h
 |n+1,s,e,s',h=>by
  simp only[iter]at h
  cases h1:f s with
  |none=>rw[h1]at h;cases h
  |some p=>
   obtain⟨ex,st⟩:=p
   rw[h1]at h
   have:=hf s ex st h1
   cases ex with
   |normal=>exact fun i hi=>(zoh hf n st e s' h i hi).trans (this i hi)
   |exit id=>cases h;exact this
   |ret=>cases h;exact this
theorem zdD {app:App} {sh:FuncId→Bool} {n:Nat}:∀(c:C) (s:St) (e:Ex) (s':St),zbw app sh n c s=some (e,s')→∀i,c.writes.contains i=false→s'.r i=s.r i
 | .skip,s,e,s',h=>by cases h;exact fun _ _=>rfl
 | .exit _,s,e,s',h=>by cases h;exact fun _ _=>rfl
 | .ret,s,e,s',h=>by cases h;exact fun _ _=>rfl
 | .region ops outs pairs,s,e,s',h=>by
  simp only[zbw]at h
  obtain⟨⟨env,h1⟩,e1,h⟩:=Option.bind_eq_some_iff.1 h
  dsimp only at h
  split at h
  ·cases h
   exact fun i hi=>zkl outs _ hi
  ·cases h
 | .seq a b,s,e,s',h=>by
  intro i hi
  have hi':a.writes.contains i=false∧b.writes.contains i=false:=by simpa[C.writes]using hi
  simp only[zbw]at h
  cases h1:zbw app sh n a s with
  |none=>rw[h1]at h;cases h
  |some p=>
   obtain⟨ex,st⟩:=p
   rw[h1]at h
   have:=zdD a s ex st h1 i hi'.1
   cases ex with
   |normal=>exact(zdD b st e s' h i hi'.2).trans this
   |exit id=>cases h;exact this
   |ret=>cases h;exact this
 | .cond c a b,s,e,s',h=>by
  intro i hi
  have hi':a.writes.contains i=false∧b.writes.contains i=false:=by simpa[C.writes]using hi
  simp only[zbw]at h
  split at h
  ·exact zdD a s e s' h i hi'.1
  ·exact zdD b s e s' h i hi'.2
  ·cases h
 | .block id a,s,e,s',h=>by
  simp only[zbw]at h
  cases h1:zbw app sh n a s with
  |none=>rw[h1]at h;cases h
  |some p=>
   obtain⟨ex,st⟩:=p
   rw[h1]at h
   have:=zdD a s ex st h1
   cases ex with
   |normal=>cases h;exact this
   |ret=>cases h;exact this
   |exit id'=>dsimp only at h;split at h<;>(cases h;exact this)
 | .loop a,s,e,s',h=>by
  simp only[zbw]at h
  exact zoh (fun s e s'=>zdD a s e s') n s e s' h
 | .rfunc f ps a b,s,e,s',h=>by
  simp only[zbw]at h
  split at h
  ·cases h
  obtain⟨⟨v,h1⟩,e1,h⟩:=Option.bind_eq_some_iff.1 h
  dsimp only at h
  split at h
  ·split at h
   ·cases h
   ·rename_i l _ _
    cases hp:l.pending with
    |none=>rw[hp]at h;cases h;exact fun _ _=>rfl
    |some j=>rw[hp]at h;cases h;exact fun _ _=>rfl
  ·cases h
variable {A:AProg} {s:St} {Q:Ex→St→Prop}
structure Kept (ws:List Nat) (s0 s:St):Prop where
 reg:∀i,ws.contains i=false→s.r i=s0.r i
 next:s0.h.next≤s.h.next
theorem Kept.refl {ws:List Nat}:Kept ws s s:=⟨fun _ _=>rfl,Nat.le_refl _⟩
theorem Wp.kept {c:C} (h:Wp A c s (fun e s'=>Kept c.writes s s'→Q e s')):Wp A c s Q:=by
 obtain⟨n,e,s',h1,hq⟩:=h
 exact⟨n,e,s',h1,hq ⟨zdD c s e s' h1,zcb (zkk A n) c s e s' h1⟩⟩
theorem Kept.trans {ws:List Nat} {a b c:St} (h:Kept ws a b) (h':Kept ws b c):Kept ws a c:=⟨fun i hi=>(h'.reg i hi).trans (h.reg i hi),Nat.le_trans h.next h'.next⟩
def Ex.next (I:St→Prop) (Q:Ex→St→Prop):Ex→St→Prop
 | .normal,s=>I s
 |e,s=>Q e s
theorem Ex.next_normal {I:St→Prop}:Ex.next I Q .normal s=I s:=rfl
theorem Ex.next_ret {I:St→Prop}:Ex.next I Q .ret s=Q .ret s:=rfl
theorem Ex.next_exit {I:St→Prop} {id:Nat}:Ex.next I Q (.exit id) s=Q (.exit id) s:=rfl
attribute [go_sem] Ex.next_normal Ex.next_ret Ex.next_exit
theorem zFO {k:Nat}:(0≤(k:Int))=True:=by simp
theorem zaK {k:Nat} (h:k<2^62):IntKind.i64.wrap ((k:Int)+1)=((k+1:Nat):Int):=by
 rw[IntWalk.i64_in _ (by omega)];omega
end Go.AI
