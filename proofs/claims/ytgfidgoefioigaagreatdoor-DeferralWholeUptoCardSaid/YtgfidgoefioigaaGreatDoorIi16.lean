/- Proof. Conditions: none. -/
import Derived.Test.YtgfidgoefioigaaGreatDoorProg
import Derived.KernelRfl
import Derived.Test.YtgfidgoefioigaaGreatDoorIi15
open Go.Proofs.Tryz
open Nat renaming reduceBEq→Zb,reduceAdd→Zc,reduceMul→Zf,reduceSub→Zg
namespace Go.KL
open Go.Eng
set_option linter.unusedVariables false
def sT:Nat→Nat
 | 3=>1
 | 4=>1
 | 9=>1
 | 22=>1
 | 24=>1
 | 25=>1
 | 27=>2
 | 28=>1
 | 29=>1
 | 31=>5
 | 35=>1
 | 36=>1
 | 46=>8
 | 47=>1
 | 61=>1
 | 62=>1
 | 64=>2
 | 66=>9
 | 75=>2
 | 78=>1
 | 85=>1
 | 86=>1
 | 87=>1
 | 88=>1
 | 90=>7
 | 92=>5
 | 156=>6
 | 159=>2
 | 161=>10
 | _=>0
def aT:Nat→Bool
 | 3=>false
 | 4=>false
 | 9=>false
 | 22=>false
 | 24=>true
 | 25=>false
 | 27=>true
 | 28=>false
 | 29=>false
 | 31=>true
 | 35=>false
 | 36=>false
 | 46=>true
 | 47=>false
 | 61=>false
 | 62=>false
 | 64=>true
 | 66=>true
 | 75=>true
 | 78=>false
 | 85=>false
 | 86=>false
 | 87=>false
 | 88=>false
 | 90=>true
 | 92=>true
 | 156=>true
 | 159=>true
 | 161=>true
 | _=>true
def bT:Nat→Nat
 | 3=>0
 | 5=>0
 | 9=>0
 | 47=>0
 | _=>0
def eT:Nat→Nat
 | 22=>7
 | 25=>9
 | 28=>5
 | 29=>1
 | 35=>2
 | 36=>8
 | 56=>2
 | 61=>6
 | 62=>1
 | 85=>2
 | 86=>5
 | 87=>2
 | 88=>10
 | 203=>1
 | _=>0
def fT:Nat→Nat→Nat
 | 24,0=>0
 | 27,0=>0
 | 27,1=>1
 | 31,0=>0
 | 31,1=>1
 | 31,2=>2
 | 31,3=>3
 | 31,4=>4
 | 46,0=>0
 | 46,1=>1
 | 46,2=>2
 | 46,3=>7
 | 64,0=>0
 | 64,1=>1
 | 66,0=>0
 | 66,1=>1
 | 66,2=>2
 | 66,3=>3
 | 66,4=>4
 | 66,5=>6
 | 66,6=>7
 | 66,7=>8
 | 70,0=>0
 | 70,1=>1
 | 75,0=>0
 | 75,1=>1
 | 80,0=>0
 | 80,1=>1
 | 80,2=>2
 | 90,0=>0
 | 90,1=>1
 | 90,2=>2
 | 90,3=>3
 | 90,4=>4
 | 90,5=>5
 | 90,6=>6
 | 92,0=>0
 | 92,1=>1
 | 92,2=>2
 | 92,3=>4
 | 108,0=>0
 | 108,1=>1
 | 134,0=>0
 | 134,1=>1
 | 154,0=>0
 | 154,1=>1
 | 156,0=>0
 | 156,1=>1
 | 159,0=>0
 | 159,1=>1
 | 161,0=>0
 | 161,1=>1
 | 161,2=>3
 | 161,3=>4
 | 161,4=>9
 | 189,0=>0
 | 189,1=>1
 | 189,2=>6
 | 189,3=>7
 | 189,4=>8
 | _,_=>0
def gT:Nat→Nat→Nat
 | 31,0=>1
 | 31,1=>1
 | 31,2=>1
 | 31,3=>1
 | 31,4=>1
 | 46,0=>1
 | 46,1=>1
 | 46,2=>5
 | 46,3=>1
 | 64,0=>1
 | 64,1=>1
 | 66,0=>1
 | 66,5=>1
 | 70,0=>1
 | 75,0=>1
 | 75,1=>1
 | 80,0=>1
 | 80,1=>1
 | 90,4=>1
 | 90,5=>1
 | 108,0=>1
 | 134,0=>1
 | 134,1=>1
 | 189,0=>1
 | 189,1=>5
 | 189,2=>1
 | _,_=>0
def pT:Nat→Nat × Nat
 | 25=>(9,160)
 | 28=>(5,80)
 | 29=>(1,16)
 | 35=>(2,40)
 | 36=>(8,144)
 | 56=>(2,24)
 | 62=>(1,8)
 | _=>(0,0)
def nT:Nat→Bool
 | 9=>true
 | 22=>false
 | 25=>false
 | 28=>false
 | 29=>false
 | 35=>false
 | 36=>false
 | 56=>false
 | 61=>false
 | 62=>false
 | 85=>false
 | 86=>false
 | 87=>false
 | 88=>false
 | _=>false
def zT:Nat→List AV
 | 31=>[(.i .i64 0),(.i .i64 0),(.s ⟨#[]⟩),.e0,.e0]
 | 46=>[(.s ⟨#[]⟩),.e0,(.i .i64 0),(.i .i64 0),(.s ⟨#[]⟩),.e0,.e0,.e0]
 | 64=>[(.s ⟨#[]⟩),.e0]
 | 66=>[(.s ⟨#[]⟩),(.s ⟨#[]⟩),(.s ⟨#[]⟩),.e0,(.s ⟨#[]⟩),.e0,(.s ⟨#[]⟩),(.i .i64 0),.e0]
 | 70=>[.e0,.e0]
 | 75=>[.e0,(.s ⟨#[]⟩)]
 | 80=>[.e0,.mn,.e0]
 | 90=>[(.i .i64 0),(.s ⟨#[]⟩),.e0,.e0,.e0,.e0,.e0]
 | 92=>[(.s ⟨#[]⟩),.e0,(.s ⟨#[]⟩),.e0,.e0]
 | 108=>[.e0,.e0]
 | 134=>[(.i .i64 0),(.s ⟨#[]⟩)]
 | 156=>[(.s ⟨#[]⟩),(.i .i64 0),(.i .i64 0),(.s ⟨#[]⟩),.e0,.e0]
 | 159=>[(.s ⟨#[]⟩),.e0]
 | 161=>[(.s ⟨#[]⟩),(.s ⟨#[]⟩),.e0,(.b false),(.i .i64 0),(.i .i64 0),(.s ⟨#[]⟩),.e0,.e0,.e0]
 | 189=>[.e0,(.i .i64 0),(.i .i64 0),(.s ⟨#[]⟩),.e0,.e0,(.b false),(.i .i64 0),(.i .i64 0)]
 | _=>[]
def kT:Nat→AV
 | 78=>.e0
 | 194=>(.b false)
 | _=>.un
def QG:Nat→Nat→AX→As
 | 3,5=>fun x=>.ci .u8 x
 | 203,9=>fun x=>.cb x
 | _,_=>fun _=>.mk
def lV:Value→AV
 | .int k n=>.i k n
 | .bool b=>.b b
 | .string s=>.s s
 | .slice _ _ _=>.e0
 | .pointer _=>.np
 | .map _=>.mn
 | _=>.un
def lS:Operand→AX
 | .tmp n=>.t n
 | .const v=>.c (lV v)
 | _=>.c .un
def lL:List Operand→List AX
 | []=>[]
 | x::r=>lS x::lL r
def lI:Option Operand→Option AX
 | none=>none
 | some x=>some (lS x)
def lP (t:Nat):List (Nat × Operand)→List (Nat × Nat × AX)
 | []=>[]
 | (i,x)::r=>(fT t i,gT t i,lS x)::lP t r
def lQ:List (Nat × Operand)→List AX
 | []=>[]
 | (_,x)::r=>lS x::lQ r
def lN:Operand→Bool
 | .const (.slice _ _ _)=>true
 | .const (.int _ _)=>false
 | .const (.string _)=>false
 | .const (.bool _)=>false
 | .const (.pointer _)=>false
 | .tmp _=>false
 | _=>false
def lE:BinOp→Bool
 | .eql=>false
 | .neq=>true
 | _=>false
def lA (t:Nat):List AX→As
 | [x,y]=>.ap x y (pT t).1 (pT t).2
 | _=>.mk
def lF:List AX→As
 | [x]=>.ln false x
 | _=>.mk
def lG:List AX→As
 | [x]=>.ln true x
 | _=>.mk
def lM (b:Bool):List AX→As
 | [x,y]=>.mm b x y
 | _=>.mk
def lD:List AX→As
 | [x,y]=>.mpd x y
 | _=>.mk
def lH:List Nat→Nat
 | t::_=>t
 | []=>0
def lC:Callee→List Operand→List Nat→As
 | .value (.func f),a,_=>.cl f (lL a)
 | .value (.tmp x),a,_=>.cc (.t x) (lL a)
 | .builtin .append,a,t=>lA (lH t) (lL a)
 | .builtin .len,a,t=>match nT (lH t) with
  | true=>lG (lL a)
  | false=>lF (lL a)
 | .builtin .min,a,_=>lM false (lL a)
 | .builtin .max,a,_=>lM true (lL a)
 | .builtin .delete,a,_=>lD (lL a)
 | _,_,_=>.mk
def lZ (d:Nat):List Nat→Bool
 | []=>true
 | z::r=>match d == z with
  | true=>false
  | false=>lZ d r
def lY:Option Nat→Nat
 | some d=>d
 | none=>0
def lO (Z:List Nat) (d:Option Nat):Op→As
 | .move x=>.mv (lS x)
 | .assign x=>.mv (lS x)
 | .pick c a b=>.pk (lS c) (lS a) (lS b)
 | .build t ⟨ps⟩=>.bd (zT t) (lP t ps)
 | .load t x=>.ld (lS x) (sT t) (aT t)
 | .binOp op t x y _=>match lN y with
  | true=>.nl (lE op) (lS x)
  | false=>.bin op (bT t) (lS x) (lS y)
 | .unOp op _ x=>.un op (lS x)
 | .convert s d x=>QG s d (lS x)
 | .makeFunc (.func f) _ ⟨cap⟩=>.mf f (lL cap)
 | .extract x j=>.ex (lS x) j
 | .fieldAddr t x f=>.fa (lS x) (fT t f)
 | .indexAddr t x i=>.ia (lS x) (lS i) (eT t)
 | .index _ x i=>.ix (lS x) (lS i)
 | .slice t x lo hi _=>.sc (lS x) (lI lo) (lI hi) (eT t)
 | .alloc t=>.al (zT t)
 | .box _ x=>.bo (lS x)
 | .store t x y=>.st (lS x) (lS y) (sT t)
 | .buildSlice t _ ⟨ps⟩=>.bs (lZ (lY d) Z) (eT t) (lQ ps)
 | .nilCheck x=>.nc (lS x)
 | .makeMap _ _=>.mk
 | .lookup t x i ok=>.lk (lS x) (lS i) ok (kT t)
 | .mapUpdate _ m k x=>.mu (lS m) (lS k) (lS x)
 | .range _ x=>.mpg (lS x)
 | .next x _=>.mpn (lS x)
 | .entry x=>.mpe (lS x)
 | .call ⟨f,⟨a⟩,⟨t⟩⟩=>lC f a t
 | _=>.mk
def lJ:List Oper→Nat→Nat
 | [],_=>0
 | ⟨d,_,_,_,_,_⟩::r,j=>match j == 0 with
  | true=>lY d
  | false=>lJ r (j - 1)
def lU (ops:List Oper):Option (Nat × Bool)→Option (Nat × Bool)
 | none=>none
 | some (j,w)=>some (lJ ops j,w)
def lR (Z:List Nat) (ops:List Oper):List Oper→List CO
 | []=>[]
 | ⟨d,op,_,_,_,g⟩::r=>⟨d,lO Z d op,lU ops g,[],false⟩::lR Z ops r
def bR:Nat→Nat→Nat→List Nat
 | 0,_,_=>[]
 | k+1,i,m=>match m == 0 with
  | true=>[]
  | false=>match m % 65536 == 0 with
   | true=>bR k (i+16) (m / 65536)
   | false=>match m % 16 == 0 with
    | true=>bR k (i+4) (m / 16)
    | false=>match m % 2 == 0 with
     | true=>bR k (i+1) (m / 2)
     | false=>i::bR k (i+1) (m / 2)
def eE:List Edge→List Nat
 | []=>[]
 | ⟨_,.gcOnly _⟩::r=>eE r
 | ⟨_,.textOnly _⟩::r=>eE r
 | ⟨on,.data⟩::r=>on::eE r
 | ⟨on,.chain⟩::r=>on::eE r
 | ⟨on,.guard⟩::r=>on::eE r
 | ⟨on,.phase⟩::r=>on::eE r
def eL:List Oper→List (List Nat)
 | []=>[]
 | ⟨_,_,_,_,⟨e⟩,_⟩::r=>eE e::eL r
def eM (A:Nat):List Nat→Nat→Nat
 | [],m=>m
 | on::r,m=>eM A r (m ||| 1 <<< on ||| (A >>> (64*on)) % 18446744073709551616)
def eB:List (List Nat)→Nat→Nat→Nat
 | [],_,A=>A
 | e::r,i,A=>eB r (i+1) (A ||| eM A e 0 <<< (64*i))
def eX (A:Nat):List (List Nat)→Nat→List Nat
 | [],_=>[]
 | _::r,i=>(A >>> (64*i)) % 18446744073709551616::eX A r (i+1)
def wM:List CO→Nat→Nat
 | [],_=>0
 | ⟨_,op,_,_,_⟩::r,i=>match op.mw with
  | true=>1 <<< i ||| wM r (i+1)
  | false=>wM r (i+1)
def rM:List CO→Nat→Nat
 | [],_=>0
 | ⟨_,op,_,_,_⟩::r,i=>match op.mr with
  | true=>1 <<< i ||| rM r (i+1)
  | false=>rM r (i+1)
def cl (a b:Nat):Nat:=a - (a &&& b)
def uM (W R i m:Nat):As→Nat:=fun op=>match op.mw with
 | true=>cl ((W ||| R) &&& (1 <<< i - 1)) m
 | false=>match op.mr with
  | true=>cl (W &&& (1 <<< i - 1)) m
  | false=>0
def uL (W R:Nat):List CO→List Nat→Nat→List Nat
 | [],_,_=>[]
 | ⟨_,op,_,_,_⟩::r,m::b,i=>uM W R i m op::uL W R r b (i+1)
 | _::_,[],_=>[]
def orL:List Nat→Nat
 | []=>0
 | x::r=>x ||| orL r
def bF (B:List (Nat × List Nat)) (d:Nat) (m:Nat):List Nat:=match B with
 | []=>bR 99 0 m
 | (k,l)::r=>match k == d with
  | true=>l
  | false=>bF r d m
def bC (B:List (Nat × List Nat)) (W m:Nat) (d:Option Nat):As→List Nat
 | .cl _ _=>bF B (lY d) (m &&& W)
 | .cc _ _=>bF B (lY d) (m &&& W)
 | _=>[]
def dL (B:List (Nat × List Nat)) (W L:Nat):List CO→List Nat→List Nat→Nat→List DO
 | ⟨d,op,g,dp,fz⟩::r,m::b,u::us,i=>⟨⟨d,op,g,dp,fz⟩,bR 99 0 u,(L >>> i) % 2 == 1,bC B W m d op⟩::dL B W L r b us (i+1)
 | _,_,_,_=>[]
def dS (B:List (Nat × List Nat)) (l:List CO) (b:List Nat) (W:Nat) (us:List Nat):CC:=.dr (dL B W (orL us) l b us 0) []
def dR (B:List (Nat × List Nat)) (l:List CO) (b:List Nat) (W R:Nat):CC:=dS B l b W (uL W R l b 0)
def dQ (B:List (Nat × List Nat)) (l:List CO) (e:List (List Nat)):CC:=dR B l (eX (eB e 0 0) e 0) (wM l 0) (rM l 0)
def lT (Z:List Nat) (B:List (Nat × List Nat)):Code→CC
 | .skip=>.skip
 | .region _ ⟨ops⟩ false=>.rg (lR Z ops ops)
 | .region _ ⟨ops⟩ true=>dQ B (lR Z ops ops) (eL ops)
 | .seq a b=>.sq (lT Z B a) (lT Z B b)
 | .cond c a b=>.cd (lS c) (lT Z B a) (lT Z B b)
 | .block i c=>.bl i (lT Z B c)
 | .loop c=>.lp (lT Z B c)
 | .exit i=>.ex i
 | .ret=>.rt
 | .label _=>.skip
 | .scope c=>lT Z B c
 | _=>.skip
/-! What each operation lets go. -/
def sm:AX→Nat
 | .t n=>1 <<< n
 | .c _=>0
def XZ:List AX→Nat
 | []=>0
 | x::r=>sm x ||| XZ r
def pM:List (Nat × Nat × AX)→Nat
 | []=>0
 | (_,_,x)::r=>sm x ||| pM r
def iM:Option AX→Nat
 | none=>0
 | some x=>sm x
def oM:As→Nat
 | .mv x=>sm x
 | .pk c a b=>sm c ||| sm a ||| sm b
 | .bd _ ps=>pM ps
 | .ld x _ _=>sm x
 | .bin _ _ x y=>sm x ||| sm y
 | .un _ x=>sm x
 | .ci _ x=>sm x
 | .cb x=>sm x
 | .mf _ xs=>XZ xs
 | .fa x _=>sm x
 | .ia x i _=>sm x ||| sm i
 | .ex x _=>sm x
 | .ln _ x=>sm x
 | .sc x lo hi _=>sm x ||| iM lo ||| iM hi
 | .ix x i=>sm x ||| sm i
 | .mm _ x y=>sm x ||| sm y
 | .nc x=>sm x
 | .nl _ x=>sm x
 | .lk x s _ _=>sm x ||| sm s
 | .mu x s y=>sm x ||| sm s ||| sm y
 | .mpg x=>sm x
 | .mpn x=>sm x
 | .mpe x=>sm x
 | .mpd x s=>sm x ||| sm s
 | .bo x=>sm x
 | .st x y _=>sm x ||| sm y
 | .bs _ _ xs=>XZ xs
 | .ap x y _ _=>sm x ||| sm y
 | .cl _ xs=>XZ xs
 | .cc f xs=>sm f ||| XZ xs
 | _=>0
def gm:Option (Nat × Bool)→Nat
 | none=>0
 | some (t,_)=>1 <<< t
def dm:Option Nat→Nat
 | none=>0
 | some d=>1 <<< d
def ki:Option (Nat × Bool)→Option Nat→Nat→Nat
 | none,some d,a=>cl a (1 <<< d)
 | none,none,a=>a
 | some _,_,a=>a
def lvO:CO→Nat→Nat
 | ⟨d,op,g,_,_⟩,a=>ki g d a ||| oM op ||| gm g
def lvB:CO→List CO × Nat→List CO × Nat
 | ⟨d,op,g,_,fz⟩,(r,b)=>(⟨d,op,g,[b],fz⟩::r,ki g d b ||| oM op ||| gm g)
def lvA:List CO→Nat→List CO × Nat
 | [],a=>([],a)
 | o::r,a=>lvB o (lvA r a)
def lvD:List DO→Nat→Nat
 | [],a=>a
 | ⟨o,_,_,_⟩::r,a=>lvO o (lvD r a)
def lkE (i:Nat):List (Nat × Nat)→Nat
 | []=>0
 | (k,m)::r=>match k == i with
  | true=>m
  | false=>lkE i r
def lvP (d:CC):CC × Nat→CC × Nat
 | (c,b)=>(.sq c d,b)
def lvK (f:Nat→CC × Nat):CC × Nat→CC × Nat
 | (d,b)=>lvP d (f b)
def lvQ (s:AX):CC × Nat→CC × Nat→CC × Nat
 | (c,m),(d,n)=>(.cd s c d,m ||| n ||| sm s)
def lvZ (i:Nat):CC × Nat→CC × Nat
 | (c,b)=>(.bl i c,b)
def lvV:CC × Nat→CC × Nat
 | (c,b)=>(.lp c,b)
def lvW (f:Nat→CC × Nat):CC × Nat→CC × Nat
 | (_,a)=>lvV (f a)
def lvG:List CO × Nat→CC × Nat
 | (l,b)=>(.rg l,b)
def Xf (e:Nat):CC→List (Nat × Nat)→Nat→CC × Nat
 | .skip,_,a=>(.skip,a)
 | .rt,_,_=>(.rt,e)
 | .ex i,x,_=>(.ex i,lkE i x)
 | .rg l,_,a=>lvG (lvA l a)
 | .dr l _,_,a=>(.dr l [a],lvD l a)
 | .sq c d,x,a=>lvK (Xf e c x) (Xf e d x a)
 | .sqw c d,x,a=>(.sqw c d,a)
 | .cd s c d,x,a=>lvQ s (Xf e c x a) (Xf e d x a)
 | .bl i c,x,a=>lvZ i (Xf e c ((i,a)::x) a)
 | .lp c,x,_=>lvW (Xf e c x) (Xf e c x 0)
def hd:List Nat→Nat
 | a::_=>a
 | []=>0
def fwB (d:Option Nat) (op:As) (g:Option (Nat × Bool)) (fz:Bool) (x:Nat):List CO × Nat→List CO × Nat
 | (r,w)=>(⟨d,op,g,bR 99 0 x,fz⟩::r,w)
def fwI (d:Option Nat) (op:As) (g:Option (Nat × Bool)) (fz:Bool) (f:Nat→List CO × Nat) (c w:Nat):List CO × Nat:=fwB d op g fz (c - w) (f w)
def fwH (d:Option Nat) (op:As) (g:Option (Nat × Bool)) (fz:Bool) (f:Nat→List CO × Nat) (a c:Nat):List CO × Nat:=fwI d op g fz f c (c &&& a)
def fwA:List CO→Nat→List CO × Nat
 | [],v=>([],v)
 | ⟨d,op,g,dp,fz⟩::r,v=>fwH d op g fz (fwA r) (hd dp) (v ||| dm d)
def dsD:List DO→Nat→Nat
 | [],v=>v
 | ⟨⟨d,_,_,_,_⟩,_,_,_⟩::r,v=>dsD r (v ||| dm d)
def apE:List (Nat × Nat)→List (Nat × Nat)→List (Nat × Nat)
 | [],y=>y
 | x::r,y=>x::apE r y
def exI (i:Nat):List (Nat × Nat)→Nat→Nat
 | [],w=>w
 | (k,m)::r,w=>match k == i with
  | true=>exI i r (w ||| m)
  | false=>exI i r w
def exO (i:Nat):List (Nat × Nat)→List (Nat × Nat)
 | []=>[]
 | (k,m)::r=>match k == i with
  | true=>exO i r
  | false=>(k,m)::exO i r
abbrev FR:=CC × Nat × List (Nat × Nat)
def fwP (c:CC) (x:List (Nat × Nat)):FR→FR
 | (d,v,y)=>(.sq c d,v,apE x y)
def fwK (f:Nat→FR):FR→FR
 | (c,v,x)=>fwP c x (f v)
def fwQ (s:AX):FR→FR→FR
 | (c,m,x),(d,n,y)=>(.cd s c d,m ||| n,apE x y)
def fwZ (i:Nat):FR→FR
 | (c,w,x)=>(.bl i c,exI i x w,exO i x)
def fwV:FR→FR
 | (c,_,x)=>(.lp c,0,x)
def fwW (f:Nat→FR) (v:Nat):FR→FR
 | (_,w,_)=>fwV (f (v ||| w))
def fwG:List CO × Nat→FR
 | (l,w)=>(.rg l,w,[])
def fwE (l:List DO) (c w:Nat):FR:=(.dr l (bR 99 0 (c - w)),w,[])
def fwD (l:List DO) (a c:Nat):FR:=fwE l c (c &&& a)
def Wq:CC→Nat→FR
 | .skip,v=>(.skip,v,[])
 | .rt,_=>(.rt,0,[])
 | .ex i,v=>(.ex i,0,[(i,v)])
 | .rg l,v=>fwG (fwA l v)
 | .dr l dp,v=>fwD l (hd dp) (dsD l v)
 | .sq c d,v=>fwK (Wq d) (Wq c v)
 | .sqw c d,v=>(.sqw c d,v,[])
 | .cd s c d,v=>fwQ s (Wq c v) (Wq d v)
 | .bl i c,v=>fwZ i (Wq c v)
 | .lp c,v=>fwW (Wq c) v (Wq c v)
def wkB (W:List Nat) (i:Nat) (c d:CC):CC:=match lZ i W with
 | true=>.sq c d
 | false=>.sqw c d
def wkP (W:List Nat) (i:Nat) (c:CC):CC × Nat→CC × Nat
 | (d,k)=>(wkB W i c d,k)
def wkK (W:List Nat) (i:Nat) (f:Nat→CC × Nat):CC × Nat→CC × Nat
 | (c,j)=>wkP W i c (f j)
def wkQ (s:AX) (c:CC):CC × Nat→CC × Nat
 | (d,k)=>(.cd s c d,k)
def wkS (s:AX) (f:Nat→CC × Nat):CC × Nat→CC × Nat
 | (c,j)=>wkQ s c (f j)
def wkZ (b:Nat):CC × Nat→CC × Nat
 | (c,j)=>(.bl b c,j)
def wkV:CC × Nat→CC × Nat
 | (c,j)=>(.lp c,j)
def BI (W:List Nat):CC→Nat→CC × Nat
 | .sq c d,i=>wkK W i (BI W d) (BI W c (i+1))
 | .cd s c d,i=>wkS s (BI W d) (BI W c i)
 | .bl b c,i=>wkZ b (BI W c i)
 | .lp c,i=>wkV (BI W c i)
 | .skip,i=>(.skip,i)
 | .rt,i=>(.rt,i)
 | .ex n,i=>(.ex n,i)
 | .rg l,i=>(.rg l,i)
 | .dr l d,i=>(.dr l d,i)
 | .sqw c d,i=>(.sqw c d,i)
def rsM:List ResultVar→Nat
 | []=>0
 | .tmp t::r=>1 <<< t ||| rsM r
 | .cell t _::r=>1 <<< t ||| rsM r
def wkD:List Nat→CC→CC
 | [],c=>c
 | w::W,c=>(BI (w::W) c 0).1
def cG (W:List Nat) (e:Nat) (c:CC):CC:=wkD W (Wq (Xf e c [] e).1 255).1
def cF (W Z:List Nat) (B:List (Nat × List Nat)):Func→CC
 | ⟨_,_,_,_,_,_,_,⟨rs⟩,some b,_,_,_,_,_,_,_⟩=>cG W (rsM rs) (lT Z B b)
 | _=>.skip
def cK {a b:CC} (h:a=b):CC:=b
theorem Ai0 {a b:CC} (h:a=b):cK h=b:=rfl
attribute [go_sem ↓] Ai0
attribute [go_sem] lA lF lG lM lD lZ lY bR eM eB eX wM rM cl uM uL orL bF bC dL dS dR dQ sm XZ pM iM oM gm dm ki lvO lvB lvA lvD lkE lvP lvK lvQ lvZ lvV lvW lvG Xf hd fwB fwI fwH fwA dsD apE exI exO fwP fwK fwQ fwZ fwV fwW fwG fwE fwD Wq wkB wkP wkK wkQ wkS wkZ wkV BI rsM wkD cG As.mw As.mr
attribute [go_sem ↓] cF.eq_1 lT.eq_1 lT.eq_2 lT.eq_3 lT.eq_4 lT.eq_5 lT.eq_6 lT.eq_7 lT.eq_8 lT.eq_9 lT.eq_10 lT.eq_11 lR.eq_1 lR.eq_2 lO.eq_1 lO.eq_2 lO.eq_3 lO.eq_4 lO.eq_5 lO.eq_6 lO.eq_7 lO.eq_8 lO.eq_9 lO.eq_10 lO.eq_11 lO.eq_12 lO.eq_13 lO.eq_14 lO.eq_15 lO.eq_16 lO.eq_17 lO.eq_18 lO.eq_19 lO.eq_20 lO.eq_21 lO.eq_22 lO.eq_23 lO.eq_24 lO.eq_25 lO.eq_26 lC.eq_1 lC.eq_2 lC.eq_3 lC.eq_4 lC.eq_5 lC.eq_6 lC.eq_7 lL.eq_1 lL.eq_2 lQ.eq_1 lQ.eq_2 lP.eq_1 lP.eq_2 lS.eq_1 lS.eq_2 lV.eq_1 lV.eq_2 lV.eq_3 lV.eq_4 lV.eq_5 lV.eq_6 lI.eq_1 lI.eq_2 lJ.eq_1 lJ.eq_2 lU.eq_1 lU.eq_2 eE.eq_1 eE.eq_2 eE.eq_3 eE.eq_4 eE.eq_5 eE.eq_6 eE.eq_7 eL.eq_1 eL.eq_2 lN.eq_1 lN.eq_2 lN.eq_3 lN.eq_4 lN.eq_5 lN.eq_6 lN.eq_7 lE.eq_1 lE.eq_2 lE.eq_3 lH.eq_1 lH.eq_2
attribute [go_sem] sT.eq_1 sT.eq_2 sT.eq_3 sT.eq_4 sT.eq_5 sT.eq_6 sT.eq_7 sT.eq_8 sT.eq_9 sT.eq_10 sT.eq_11 sT.eq_12 sT.eq_13 sT.eq_14 sT.eq_15 sT.eq_16 sT.eq_17 sT.eq_18 sT.eq_19 sT.eq_20 sT.eq_21 sT.eq_22 sT.eq_23 sT.eq_24 sT.eq_25 sT.eq_26 sT.eq_27 sT.eq_28 sT.eq_29 aT.eq_1 aT.eq_2 aT.eq_3 aT.eq_4 aT.eq_5 aT.eq_6 aT.eq_7 aT.eq_8 aT.eq_9 aT.eq_10 aT.eq_11 aT.eq_12 aT.eq_13 aT.eq_14 aT.eq_15 aT.eq_16 aT.eq_17 aT.eq_18 aT.eq_19 aT.eq_20 aT.eq_21 aT.eq_22 aT.eq_23 aT.eq_24 aT.eq_25 aT.eq_26 aT.eq_27 aT.eq_28 aT.eq_29 bT.eq_1 bT.eq_2 bT.eq_3 bT.eq_4 eT.eq_1 eT.eq_2 eT.eq_3 eT.eq_4 eT.eq_5 eT.eq_6 eT.eq_7 eT.eq_8 eT.eq_9 eT.eq_10 eT.eq_11 eT.eq_12 eT.eq_13 eT.eq_14 fT.eq_1 fT.eq_2 fT.eq_3 fT.eq_4 fT.eq_5 fT.eq_6 fT.eq_7 fT.eq_8 fT.eq_9 fT.eq_10 fT.eq_11 fT.eq_12 fT.eq_13 fT.eq_14 fT.eq_15 fT.eq_16 fT.eq_17 fT.eq_18 fT.eq_19 fT.eq_20 fT.eq_21 fT.eq_22 fT.eq_23 fT.eq_24 fT.eq_25 fT.eq_26 fT.eq_27 fT.eq_28 fT.eq_29 fT.eq_30 fT.eq_31 fT.eq_32 fT.eq_33 fT.eq_34 fT.eq_35 fT.eq_36 fT.eq_37 fT.eq_38 fT.eq_39 fT.eq_40 fT.eq_41 fT.eq_42 fT.eq_43 fT.eq_44 fT.eq_45 fT.eq_46 fT.eq_47 fT.eq_48 fT.eq_49 fT.eq_50 fT.eq_51 fT.eq_52 fT.eq_53 fT.eq_54 fT.eq_55 fT.eq_56 fT.eq_57 fT.eq_58 fT.eq_59 fT.eq_60 gT.eq_1 gT.eq_2 gT.eq_3 gT.eq_4 gT.eq_5 gT.eq_6 gT.eq_7 gT.eq_8 gT.eq_9 gT.eq_10 gT.eq_11 gT.eq_12 gT.eq_13 gT.eq_14 gT.eq_15 gT.eq_16 gT.eq_17 gT.eq_18 gT.eq_19 gT.eq_20 gT.eq_21 gT.eq_22 gT.eq_23 gT.eq_24 gT.eq_25 gT.eq_26 pT.eq_1 pT.eq_2 pT.eq_3 pT.eq_4 pT.eq_5 pT.eq_6 pT.eq_7 nT.eq_1 nT.eq_2 nT.eq_3 nT.eq_4 nT.eq_5 nT.eq_6 nT.eq_7 nT.eq_8 nT.eq_9 nT.eq_10 nT.eq_11 nT.eq_12 nT.eq_13 nT.eq_14 zT.eq_1 zT.eq_2 zT.eq_3 zT.eq_4 zT.eq_5 zT.eq_6 zT.eq_7 zT.eq_8 zT.eq_9 zT.eq_10 zT.eq_11 zT.eq_12 zT.eq_13 zT.eq_14 zT.eq_15 kT.eq_1 kT.eq_2 QG.eq_1 QG.eq_2
attribute [go_sem] Zb Zc Zg Zf Nat.reduceAnd Nat.reduceOr Nat.reduceShiftLeft Nat.reduceShiftRight Nat.reduceDiv Nat.reduceMod
end Go.KL
namespace Go.Proofs.YtgfidgoefioigaaGreatDoor
open Go.Eng Go.KL
set_option maxRecDepth 100000
noncomputable abbrev Bf (f:Func) (k:Nat):=f.body.bind (BL prog k)
noncomputable abbrev Bh (f:Func) (k:Nat):=MW prog k f.results.toList
def ck11:CC:=cK (a:=cF [] [] [] f11) (by delta f11;simp (config := { maxSteps := 9999999 }) only [go_sem];rfl)
theorem cc11:Bf f11 9=some ck11.erase:=by kernel_rfl
theorem cr11:Bh f11 9=some [(.t 4)]:=by kernel_rfl
def ck18:CC:=cK (a:=cF [] [] [] f18) (by delta f18;simp (config := { maxSteps := 9999999 }) only [go_sem];rfl)
theorem cc18:Bf f18 38=some ck18.erase:=by kernel_rfl
theorem cr18:Bh f18 38=some [(.c 4 5 true),(.t 5)]:=by kernel_rfl
def ck21:CC:=cK (a:=cF [] [] [] f21) (by delta f21;simp (config := { maxSteps := 9999999 }) only [go_sem];rfl)
theorem cc21:Bf f21 21=some ck21.erase:=by kernel_rfl
theorem cr21:Bh f21 21=some [(.t 2)]:=by kernel_rfl
def ck25:CC:=cK (a:=cF [] [] [] f25) (by delta f25;simp (config := { maxSteps := 9999999 }) only [go_sem];rfl)
theorem cc25:Bf f25 5=some ck25.erase:=by kernel_rfl
theorem cr25:Bh f25 5=some [(.c 2 5 true)]:=by kernel_rfl
def ck34:CC:=cK (a:=cF [] [] [] f34) (by delta f34;simp (config := { maxSteps := 9999999 }) only [go_sem];rfl)
theorem cc34:Bf f34 70=some ck34.erase:=by kernel_rfl
theorem cr34:Bh f34 70=some [(.t 4)]:=by kernel_rfl
def ck38:CC:=cK (a:=cF [] [] [] f38) (by delta f38;simp (config := { maxSteps := 9999999 }) only [go_sem];rfl)
theorem cc38:Bf f38 12=some ck38.erase:=by kernel_rfl
theorem cr38:Bh f38 12=some [(.c 2 5 true)]:=by kernel_rfl
def ck40:CC:=cK (a:=cF [] [12] [] f40) (by delta f40;simp (config := { maxSteps := 9999999 }) only [go_sem];rfl)
theorem cc40:Bf f40 17=some ck40.erase:=by kernel_rfl
theorem cr40:Bh f40 17=some [(.c 2 5 true)]:=by kernel_rfl
def ck68:CC:=cK (a:=cF [] [] [] f68) (by delta f68;simp (config := { maxSteps := 9999999 }) only [go_sem];rfl)
theorem cc68:Bf f68 11=some ck68.erase:=by kernel_rfl
theorem cr68:Bh f68 11=some [(.t 4)]:=by kernel_rfl
def ck69:CC:=cK (a:=cF [] [] [] f69) (by delta f69;simp (config := { maxSteps := 9999999 }) only [go_sem];rfl)
theorem cc69:Bf f69 11=some ck69.erase:=by kernel_rfl
theorem cr69:Bh f69 11=some [(.t 4)]:=by kernel_rfl
def ck70:CC:=cK (a:=cF [] [] [] f70) (by delta f70;simp (config := { maxSteps := 9999999 }) only [go_sem];rfl)
theorem cc70:Bf f70 15=some ck70.erase:=by kernel_rfl
theorem cr70:Bh f70 15=some [(.t 4)]:=by kernel_rfl
def ck71:CC:=cK (a:=cF [] [] [] f71) (by delta f71;simp (config := { maxSteps := 9999999 }) only [go_sem];rfl)
theorem cc71:Bf f71 20=some ck71.erase:=by kernel_rfl
theorem cr71:Bh f71 20=some [(.t 2)]:=by kernel_rfl
def ck74:CC:=cK (a:=cF [] [] [] f74) (by delta f74;simp (config := { maxSteps := 9999999 }) only [go_sem];rfl)
theorem cc74:Bf f74 19=some ck74.erase:=by kernel_rfl
theorem cr74:Bh f74 19=some [(.t 2)]:=by kernel_rfl
def ck78:CC:=cK (a:=cF [] [] [] f78) (by delta f78;simp (config := { maxSteps := 9999999 }) only [go_sem];rfl)
theorem cc78:Bf f78 34=some ck78.erase:=by kernel_rfl
theorem cr78:Bh f78 34=some [(.t 2)]:=by kernel_rfl
def ck93:CC:=cK (a:=cF [] [5] [] f93) (by delta f93;simp (config := { maxSteps := 9999999 }) only [go_sem];rfl)
theorem cc93:Bf f93 8=some ck93.erase:=by kernel_rfl
theorem cr93:Bh f93 8=some [(.t 2)]:=by kernel_rfl
def ck96:CC:=cK (a:=cF [] [] [] f96) (by delta f96;simp (config := { maxSteps := 9999999 }) only [go_sem];rfl)
theorem cc96:Bf f96 32=some ck96.erase:=by kernel_rfl
theorem cr96:Bh f96 32=some [(.c 4 5 true),(.t 5)]:=by kernel_rfl
def ck97:CC:=cK (a:=cF [] [] [] f97) (by delta f97;simp (config := { maxSteps := 9999999 }) only [go_sem];rfl)
theorem cc97:Bf f97 5=some ck97.erase:=by kernel_rfl
theorem cr97:Bh f97 5=some [(.c 2 5 true)]:=by kernel_rfl
def ck100:CC:=cK (a:=cF [] [] [] f100) (by delta f100;simp (config := { maxSteps := 9999999 }) only [go_sem];rfl)
theorem cc100:Bf f100 5=some ck100.erase:=by kernel_rfl
theorem cr100:Bh f100 5=some [(.c 2 5 true)]:=by kernel_rfl
def ck117:CC:=cK (a:=cF [] [] [] f117) (by delta f117;simp (config := { maxSteps := 9999999 }) only [go_sem];rfl)
theorem cc117:Bf f117 21=some ck117.erase:=by kernel_rfl
theorem cr117:Bh f117 21=some [(.t 2)]:=by kernel_rfl
def ck118:CC:=cK (a:=cF [] [] [] f118) (by delta f118;simp (config := { maxSteps := 9999999 }) only [go_sem];rfl)
theorem cc118:Bf f118 9=some ck118.erase:=by kernel_rfl
theorem cr118:Bh f118 9=some [(.t 2)]:=by kernel_rfl
def ck119:CC:=cK (a:=cF [] [] [] f119) (by delta f119;simp (config := { maxSteps := 9999999 }) only [go_sem];rfl)
theorem cc119:Bf f119 15=some ck119.erase:=by kernel_rfl
theorem cr119:Bh f119 15=some [(.t 2)]:=by kernel_rfl
def ck156:CC:=cK (a:=cF [] [] [] f156) (by delta f156;simp (config := { maxSteps := 9999999 }) only [go_sem];rfl)
theorem cc156:Bf f156 5=some ck156.erase:=by kernel_rfl
theorem cr156:Bh f156 5=some [(.c 2 5 true)]:=by kernel_rfl
def ck158:CC:=cK (a:=cF [] [] [] f158) (by delta f158;simp (config := { maxSteps := 9999999 }) only [go_sem];rfl)
theorem cc158:Bf f158 22=some ck158.erase:=by kernel_rfl
theorem cr158:Bh f158 22=some [(.t 2)]:=by kernel_rfl
def ck159:CC:=cK (a:=cF [] [] [] f159) (by delta f159;simp (config := { maxSteps := 9999999 }) only [go_sem];rfl)
theorem cc159:Bf f159 43=some ck159.erase:=by kernel_rfl
theorem cr159:Bh f159 43=some [(.t 4)]:=by kernel_rfl
def ck168:CC:=cK (a:=cF [] [] [] f168) (by delta f168;simp (config := { maxSteps := 9999999 }) only [go_sem];rfl)
theorem cc168:Bf f168 15=some ck168.erase:=by kernel_rfl
theorem cr168:Bh f168 15=some [(.t 2)]:=by kernel_rfl
def ck174:CC:=cK (a:=cF [] [] [] f174) (by delta f174;simp (config := { maxSteps := 9999999 }) only [go_sem];rfl)
theorem cc174:Bf f174 193=some ck174.erase:=by kernel_rfl
theorem cr174:Bh f174 193=some [(.t 4)]:=by kernel_rfl
def ck179:CC:=cK (a:=cF [] [] [] f179) (by delta f179;simp (config := { maxSteps := 9999999 }) only [go_sem];rfl)
theorem cc179:Bf f179 25=some ck179.erase:=by kernel_rfl
theorem cr179:Bh f179 25=some [(.t 2)]:=by kernel_rfl
def ck52:CC:=cK (a:=cF [] [] [] f52) (by delta f52;simp (config := { maxSteps := 9999999 }) only [go_sem];rfl)
theorem cc52:Bf f52 9=some ck52.erase:=by kernel_rfl
theorem cr52:Bh f52 9=some [(.t 4)]:=by kernel_rfl
def ck75:CC:=cK (a:=cF [] [5] [] f75) (by delta f75;simp (config := { maxSteps := 9999999 }) only [go_sem];rfl)
theorem cc75:Bf f75 8=some ck75.erase:=by kernel_rfl
theorem cr75:Bh f75 8=some [(.t 2)]:=by kernel_rfl
def ck94:CC:=cK (a:=cF [] [] [] f94) (by delta f94;simp (config := { maxSteps := 9999999 }) only [go_sem];rfl)
theorem cc94:Bf f94 19=some ck94.erase:=by kernel_rfl
theorem cr94:Bh f94 19=some [(.t 4)]:=by kernel_rfl
open Go.Eng
set_option linter.all false
inductive Ak where
 | mk (k n:Int) (s:ByteArray) (items:List Ak) (keys:List ByteArray)
def Ak.k:Ak→Int | .mk k _ _ _ _=>k
def Ak.n:Ak→Int | .mk _ n _ _ _=>n
def Ak.s:Ak→ByteArray | .mk _ _ s _ _=>s
def Ak.items:Ak→List Ak | .mk _ _ _ i _=>i
def Ak.keys:Ak→List ByteArray | .mk _ _ _ _ l=>l
section
variable (k n:Int) (s:ByteArray) (i:List Ak) (l:List ByteArray)
theorem Ak.k_mk:(Ak.mk k n s i l).k=k:=rfl
theorem Ak.n_mk:(Ak.mk k n s i l).n=n:=rfl
theorem Ak.s_mk:(Ak.mk k n s i l).s=s:=rfl
theorem Ak.items_mk:(Ak.mk k n s i l).items=i:=rfl
theorem Ak.keys_mk:(Ak.mk k n s i l).keys=l:=rfl
end
theorem Ak.ext {v w:Ak} (h1:v.k=w.k) (h2:v.n=w.n) (h3:v.s=w.s) (h4:v.items=w.items) (h5:v.keys=w.keys):v=w:=by
 cases v;cases w
 simp only [Ak.k_mk,Ak.n_mk,Ak.s_mk,Ak.items_mk,Ak.keys_mk] at *
 simp [*]
mutual
def A2:Ak→List AV
 | .mk k n s i l=>[.i .i64 k,.i .i64 n,.s s,.ds (Q7 i),.ds (Bv l)]
def Q7:List Ak→List (List AV)
 | []=>[]
 | v::r=>A2 v::Q7 r
end
theorem Uf (l:List Ak):Q7 l=Ad A2 l:=by
 induction l with
 | nil=>rfl
 | cons v l ih=>rw [Q7,BT,ih]
theorem Bz (v:Ak):A2 v=[.i .i64 v.k,.i .i64 v.n,.s v.s,.ds (Ad A2 v.items),.ds (Bv v.keys)]:=by
 cases v
 rw [A2,Uf]
 rfl
def Ak.av (v:Ak):AV:=.ag (A2 v)
theorem Ak.av_eq (v:Ak):v.av=.ag (A2 v):=rfl
theorem Ak.items_lt (v x:Ak) (h:x∈v.items):SizeOf.sizeOf x<SizeOf.sizeOf v:=by
 cases v
 have:=List.sizeOf_lt_of_mem h
 simp only [Ak.items_mk] at this
 simp
 omega
theorem Ak.ind {Q:Ak→Prop} (h:∀v,(∀x∈v.items,Q x)→Q v) (v:Ak):Q v:=h v fun x hx=>Ak.ind h x
termination_by SizeOf.sizeOf v
decreasing_by exact Ak.items_lt v x hx
inductive Ak.Fit:Ak→Prop
 | mk (v:Ak):v.items.length*80≤140737488355327→v.keys.length*16≤140737488355327→(∀x∈v.items,Ak.Fit x)→Ak.Fit v
theorem Ak.Fit.i {v:Ak} (h:v.Fit):v.items.length*80≤140737488355327:=by cases h;assumption
theorem Ak.Fit.l {v:Ak} (h:v.Fit):v.keys.length*16≤140737488355327:=by cases h;assumption
theorem Ak.Fit.x {v:Ak} (h:v.Fit) {x:Ak} (hx:x∈v.items):x.Fit:=by cases h with | mk _ _ _ h=>exact h x hx
theorem K1 (l:List Ak):DP 5 (Ad A2 l)=True:=DL fun v=>by rw [Bz];exact ⟨rfl,rfl⟩
abbrev vx (v:Ak):AV:=.ag [.i .i64 v.k,.i .i64 v.n,.s v.s,.ds (Ad A2 v.items),.ds (Bv v.keys)]
theorem CW (l:List Ak) (v:Ak):Ad A2 l++[[AV.i .i64 v.k,.i .i64 v.n,.s v.s,.ds (Ad A2 v.items),.ds (Bv v.keys)]]=Ad A2 (l++[v]):=by rw [←Bz,Bi]
theorem Bg {α:Type} {l:List α} {j:Nat} {x:α} (h:l[j]?=some x):l.take j++[x]=l.take (j+1):=by rw [List.take_add_one,h];rfl
theorem Y3 (l:List ByteArray):(∀e,e∈Ad C9 l→e.length=1)=True:=eq_true fun e h=>((of_eq_true (Ni l)) e h).1
theorem Wx (l:List Ak):(∀e,e∈Ad A2 l→e.length=5)=True:=eq_true fun e h=>((of_eq_true (K1 l)) e h).1
theorem To (m:Nat) (a:List AV) (l:List (List AV)):(∀e,e∈a::l→e.length=m)=(a.length=m∧∀e,e∈l→e.length=m):=propext ⟨fun h=>⟨h a (by simp),fun e he=>h e (by simp [he])⟩,fun h e he=>by
 rcases List.mem_cons.1 he with rfl | he
 .exact h.1
 .exact h.2 e he⟩
attribute [go_sem] To
theorem Xy (l:List Ak) (i:Nat) (v:Ak):(Ad A2 l).set i [AV.i .i64 v.k,.i .i64 v.n,.s v.s,.ds (Ad A2 v.items),.ds (Bv v.keys)]=Ad A2 (l.set i v):=by rw [←Bz];simp [Ad,List.map_set]
theorem Aar {α:Type} (l:List α) (i:Nat) (x:α):(l.length≤(l.set i x).length)=True:=by simp
theorem UR {α:Type} (l:List α) (i:Nat) (x:α):(l.set i x).take l.length=l.set i x:=by rw [List.take_of_length_le (by simp)]
attribute [go_sem] Xy Aar UR
theorem Wf (l:List ByteArray) (y:ByteArray):Ad C9 l++[[AV.s y]]=Ad C9 (l++[y]):=Bi C9 l y
theorem Afa {α:Type} (l:List α) (x:α):(l.length+1≤(l++[x]).length)=True:=by simp
theorem VO {α:Type} (l:List α) (x:α):(l++[x]).take (l.length+1)=l++[x]:=by rw [List.take_of_length_le (by simp)]
theorem Z2 (n:Nat):(0<n+1)=True:=by simp
attribute [go_sem] Afa VO Z2
attribute [go_sem] Wf AV.one
attribute [go_sem] CW vx Y3 Wx
attribute [go_sem] Bz Ak.av_eq Ak.k_mk Ak.n_mk Ak.s_mk Ak.items_mk Ak.keys_mk K1
attribute [grind =] Ak.k_mk Ak.n_mk Ak.s_mk Ak.items_mk Ak.keys_mk
theorem A5 {α:Type} {l:List α} {j:Nat} {x:α} (h:l[j]?=some x):l.drop j=x::l.drop (j+1):=by
 obtain ⟨hj,rfl⟩:=List.getElem?_eq_some_iff.1 h
 exact List.drop_eq_getElem_cons hj
def ix (k:ByteArray):List ByteArray→Nat→Int
 | [],_=>-1
 | x::r,j=>if k=x then j else ix k r (j+1)
theorem M0 (k:ByteArray):∀(l:List ByteArray) (j:Nat),ix k l j=-1∨((j:Int)≤ix k l j∧ix k l j<(j+l.length:Nat))
 | [],j=>.inl rfl
 | x::r,j=>by
  unfold ix
  split
  .right;simp;omega
  .have:=M0 k r (j+1)
   simp at this ⊢
   omega
mutual
def Bu:Ak→Nat
 | .mk _ _ _ i l=>1+Df i+l.length
def Df:List Ak→Nat
 | []=>0
 | x::r=>Bu x+Df r
end
theorem Bn (v:Ak):Bu v=1+Df v.items+v.keys.length:=by cases v;rw [Bu];rfl
theorem Es (v:Ak):1≤Bu v:=by rw [Bn];omega
theorem Cq {x:Ak}:∀{l:List Ak},x∈l→Bu x≤Df l
 | y::r,h=>by
  rw [Df]
  rcases List.mem_cons.1 h with rfl | h
  .omega
  .have:=Cq h
   omega
theorem GP:∀l:List Ak,l.length≤Df l
 | []=>by simp
 | y::r=>by
  have:=GP r
  have:=Es y
  rw [Df]
  simp
  omega
theorem QK (l r:List Ak):Df (l++r)=Df l+Df r:=by
 induction l with
 | nil=>simp [Df]
 | cons x l ih=>rw [List.cons_append,Df,Df,ih];omega
theorem CX (v:Ak) (h:Bu v≤1000000000000):v.Fit:=by
 have:=Ak.ind (Q:=fun v=>Bu v≤1000000000000→v.Fit) (fun v ih h=>by
  rw [Bn] at h
  have:=GP v.items
  exact .mk v (by omega) (by omega) fun x hx=>ih x hx (by have:=Cq hx;omega)) v
 exact this h
def AB:Ak:=.mk 0 0 ⟨#[]⟩ [] []
noncomputable instance:DecidableEq Ak:=fun _ _=>Classical.propDecidable _
end Go.Proofs.YtgfidgoefioigaaGreatDoor
