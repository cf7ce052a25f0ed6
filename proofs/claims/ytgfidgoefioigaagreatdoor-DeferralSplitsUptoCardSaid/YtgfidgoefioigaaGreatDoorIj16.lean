/- Proof. Conditions: none. -/
import Derived.Test.YtgfidgoefioigaaGreatDoorProg
import Derived.Test.YtgfidgoefioigaaGreatDoorIj15
noncomputable section
open List renaming take_of_length_le->z10
open Go.Proofs.Tryz
open Nat renaming reduceBEq->Zb,reduceAdd->Zc,reduceMul->Zf,reduceSub->Zg
namespace Go.KL
open Go.Eng
set_option linter.unusedVariables false
def sT:Nat->Nat
 | 3=>1
 | 4=>1
 | 9=>1
 | 22=>1
 | 24=>1
 | 25=>1
 | 27=>2
 | 28=>1
 | 29=>1
 | 31=>5
 | 35=>1
 | 36=>1
 | 46=>8
 | 47=>1
 | 61=>1
 | 62=>1
 | 64=>2
 | 66=>9
 | 75=>2
 | 78=>1
 | 85=>1
 | 86=>1
 | 87=>1
 | 88=>1
 | 90=>7
 | 92=>5
 | 156=>6
 | 159=>2
 | 161=>10
 |_=>0
def aT:Nat->Bool
 | 3=>false
 | 4=>false
 | 9=>false
 | 22=>false
 | 24=>true
 | 25=>false
 | 27=>true
 | 28=>false
 | 29=>false
 | 31=>true
 | 35=>false
 | 36=>false
 | 46=>true
 | 47=>false
 | 61=>false
 | 62=>false
 | 64=>true
 | 66=>true
 | 75=>true
 | 78=>false
 | 85=>false
 | 86=>false
 | 87=>false
 | 88=>false
 | 90=>true
 | 92=>true
 | 156=>true
 | 159=>true
 | 161=>true
 |_=>true
def bT:Nat->Nat
 | 3=>0
 | 5=>0
 | 9=>0
 | 47=>0
 |_=>0
def eT:Nat->Nat
 | 22=>7
 | 25=>9
 | 28=>5
 | 29=>1
 | 35=>2
 | 36=>8
 | 56=>2
 | 61=>6
 | 62=>1
 | 85=>2
 | 86=>5
 | 87=>2
 | 88=>10
 | 203=>1
 |_=>0
def fT:Nat->Nat->Nat
 | 24,0=>0
 | 27,0=>0
 | 27,1=>1
 | 31,0=>0
 | 31,1=>1
 | 31,2=>2
 | 31,3=>3
 | 31,4=>4
 | 46,0=>0
 | 46,1=>1
 | 46,2=>2
 | 46,3=>7
 | 64,0=>0
 | 64,1=>1
 | 66,0=>0
 | 66,1=>1
 | 66,2=>2
 | 66,3=>3
 | 66,4=>4
 | 66,5=>6
 | 66,6=>7
 | 66,7=>8
 | 70,0=>0
 | 70,1=>1
 | 75,0=>0
 | 75,1=>1
 | 80,0=>0
 | 80,1=>1
 | 80,2=>2
 | 90,0=>0
 | 90,1=>1
 | 90,2=>2
 | 90,3=>3
 | 90,4=>4
 | 90,5=>5
 | 90,6=>6
 | 92,0=>0
 | 92,1=>1
 | 92,2=>2
 | 92,3=>4
 | 108,0=>0
 | 108,1=>1
 | 134,0=>0
 | 134,1=>1
 | 154,0=>0
 | 154,1=>1
 | 156,0=>0
 | 156,1=>1
 | 159,0=>0
 | 159,1=>1
 | 161,0=>0
 | 161,1=>1
 | 161,2=>3
 | 161,3=>4
 | 161,4=>9
 | 189,0=>0
 | 189,1=>1
 | 189,2=>6
 | 189,3=>7
 | 189,4=>8
 |_,_=>0
def gT:Nat->Nat->Nat
 | 31,0=>1
 | 31,1=>1
 | 31,2=>1
 | 31,3=>1
 | 31,4=>1
 | 46,0=>1
 | 46,1=>1
 | 46,2=>5
 | 46,3=>1
 | 64,0=>1
 | 64,1=>1
 | 66,0=>1
 | 66,5=>1
 | 70,0=>1
 | 75,0=>1
 | 75,1=>1
 | 80,0=>1
 | 80,1=>1
 | 90,4=>1
 | 90,5=>1
 | 108,0=>1
 | 134,0=>1
 | 134,1=>1
 | 189,0=>1
 | 189,1=>5
 | 189,2=>1
 |_,_=>0
def pT:Nat->Nat×Nat
 | 25=>(9,160)
 | 28=>(5,80)
 | 29=>(1,16)
 | 35=>(2,40)
 | 36=>(8,144)
 | 56=>(2,24)
 | 62=>(1,8)
 |_=>(0,0)
def nT:Nat->Bool
 | 9=>true
 | 22=>false
 | 25=>false
 | 28=>false
 | 29=>false
 | 35=>false
 | 36=>false
 | 56=>false
 | 61=>false
 | 62=>false
 | 85=>false
 | 86=>false
 | 87=>false
 | 88=>false
 |_=>false
def zT:Nat->List AV
 | 31=>[(.i .i64 0),(.i .i64 0),(.s ⟨#[]⟩),.e0,.e0]
 | 46=>[(.s ⟨#[]⟩),.e0,(.i .i64 0),(.i .i64 0),(.s ⟨#[]⟩),.e0,.e0,.e0]
 | 64=>[(.s ⟨#[]⟩),.e0]
 | 66=>[(.s ⟨#[]⟩),(.s ⟨#[]⟩),(.s ⟨#[]⟩),.e0,(.s ⟨#[]⟩),.e0,(.s ⟨#[]⟩),(.i .i64 0),.e0]
 | 70=>[.e0,.e0]
 | 75=>[.e0,(.s ⟨#[]⟩)]
 | 80=>[.e0,.mn,.e0]
 | 90=>[(.i .i64 0),(.s ⟨#[]⟩),.e0,.e0,.e0,.e0,.e0]
 | 92=>[(.s ⟨#[]⟩),.e0,(.s ⟨#[]⟩),.e0,.e0]
 | 108=>[.e0,.e0]
 | 134=>[(.i .i64 0),(.s ⟨#[]⟩)]
 | 156=>[(.s ⟨#[]⟩),(.i .i64 0),(.i .i64 0),(.s ⟨#[]⟩),.e0,.e0]
 | 159=>[(.s ⟨#[]⟩),.e0]
 | 161=>[(.s ⟨#[]⟩),(.s ⟨#[]⟩),.e0,(.b false),(.i .i64 0),(.i .i64 0),(.s ⟨#[]⟩),.e0,.e0,.e0]
 | 189=>[.e0,(.i .i64 0),(.i .i64 0),(.s ⟨#[]⟩),.e0,.e0,(.b false),(.i .i64 0),(.i .i64 0)]
 |_=>[]
def kT:Nat->AV
 | 78=>.e0
 | 194=>(.b false)
 |_=>.un
def T7:Nat->Nat->Bj->Au
 | 3,5=>fun x=>.ci .u8 x
 | 203,9=>fun x=>.cb x
 |_,_=>fun _=>.mk
def lV:Value->AV
 | .int k n=>.i k n
 | .bool b=>.b b
 | .string s=>.s s
 | .slice _ _ _=>.e0
 | .pointer _=>.np
 | .map _=>.mn
 |_=>.un
def lS:Operand->Bj
 | .tmp n=>.t n
 | .const v=>.c (lV v)
 |_=>.c .un
def lL:List Operand->List Bj
 | []=>[]
 |x::r=>lS x::lL r
def lI:Option Operand->Option Bj
 |none=>none
 |some x=>some (lS x)
def lP (t:Nat):List (Nat×Operand)->List (Nat×Nat×Bj)
 | []=>[]
 | (i,x)::r=>(fT t i,gT t i,lS x)::lP t r
def lQ:List (Nat×Operand)->List Bj
 | []=>[]
 | (_,x)::r=>lS x::lQ r
def lN:Operand->Bool
 | .const (.slice _ _ _)=>true
 | .const (.int _ _)=>false
 | .const (.string _)=>false
 | .const (.bool _)=>false
 | .const (.pointer _)=>false
 | .tmp _=>false
 |_=>false
def lE:BinOp->Bool
 | .eql=>false
 | .neq=>true
 |_=>false
def lA (t:Nat):List Bj->Au
 | [x,y]=>.ap x y (pT t).1 (pT t).2
 |_=>.mk
def lF:List Bj->Au
 | [x]=>.ln false x
 |_=>.mk
def lG:List Bj->Au
 | [x]=>.ln true x
 |_=>.mk
def lM (b:Bool):List Bj->Au
 | [x,y]=>.mm b x y
 |_=>.mk
def lD:List Bj->Au
 | [x,y]=>.mpd x y
 |_=>.mk
def lH:List Nat->Nat
 |t::_=>t
 | []=>0
def lC:Callee->List Operand->List Nat->Au
 | .value (.func f),a,_=>.cl f (lL a)
 | .value (.tmp x),a,_=>.cc (.t x) (lL a)
 | .builtin .append,a,t=>lA (lH t) (lL a)
 | .builtin .len,a,t=>match nT (lH t) with
  |true=>lG (lL a)
  |false=>lF (lL a)
 | .builtin .min,a,_=>lM false (lL a)
 | .builtin .max,a,_=>lM true (lL a)
 | .builtin .delete,a,_=>lD (lL a)
 |_,_,_=>.mk
def lZ (d:Nat):List Nat->Bool
 | []=>true
 |z::r=>match d == z with
  |true=>false
  |false=>lZ d r
def lY:Option Nat->Nat
 |some d=>d
 |none=>0
def lO (Z:List Nat) (d:Option Nat):Op->Au
 | .move x=>.mv (lS x)
 | .assign x=>.mv (lS x)
 | .pick c a b=>.pk (lS c) (lS a) (lS b)
 | .build t ⟨ps⟩=>.bd (zT t) (lP t ps)
 | .load t x=>.ld (lS x) (sT t) (aT t)
 | .binOp op t x y _=>match lN y with
  |true=>.nl (lE op) (lS x)
  |false=>.bin op (bT t) (lS x) (lS y)
 | .unOp op _ x=>.un op (lS x)
 | .convert s d x=>T7 s d (lS x)
 | .makeFunc (.func f) _ ⟨cap⟩=>.mf f (lL cap)
 | .extract x j=>.ex (lS x) j
 | .fieldAddr t x f=>.fa (lS x) (fT t f)
 | .indexAddr t x i=>.ia (lS x) (lS i) (eT t)
 | .index _ x i=>.ix (lS x) (lS i)
 | .slice t x lo hi _=>.sc (lS x) (lI lo) (lI hi) (eT t)
 | .alloc t=>.al (zT t)
 | .box _ x=>.bo (lS x)
 | .store t x y=>.st (lS x) (lS y) (sT t)
 | .buildSlice t _ ⟨ps⟩=>.bs (lZ (lY d) Z) (eT t) (lQ ps)
 | .nilCheck x=>.nc (lS x)
 | .makeMap _ _=>.mk
 | .lookup t x i ok=>.lk (lS x) (lS i) ok (kT t)
 | .mapUpdate _ m k x=>.mu (lS m) (lS k) (lS x)
 | .range _ x=>.mpg (lS x)
 | .next x _=>.mpn (lS x)
 | .entry x=>.mpe (lS x)
 | .call ⟨f,⟨a⟩,⟨t⟩⟩=>lC f a t
 |_=>.mk
def lJ:List Oper->Nat->Nat
 | [],_=>0
 | ⟨d,_,_,_,_,_⟩::r,j=>match j == 0 with
  |true=>lY d
  |false=>lJ r (j - 1)
def lU (d4:List Oper):Option (Nat×Bool)->Option (Nat×Bool)
 |none=>none
 |some (j,w)=>some (lJ d4 j,w)
def lR (Z:List Nat) (d4:List Oper):List Oper->List CO
 | []=>[]
 | ⟨d,op,_,_,_,g⟩::r=>⟨d,lO Z d op,lU d4 g,[],false⟩::lR Z d4 r
def bR:Nat->Nat->Nat->List Nat
 | 0,_,_=>[]
 |k+1,i,m=>match m == 0 with
  |true=>[]
  |false=>match m % 65536 == 0 with
   |true=>bR k (i+16) (m / 65536)
   |false=>match m % 16 == 0 with
    |true=>bR k (i+4) (m / 16)
    |false=>match m % 2 == 0 with
     |true=>bR k (i+1) (m / 2)
     |false=>i::bR k (i+1) (m / 2)
def eE:List Edge->List Nat
 | []=>[]
 | ⟨_,.gcOnly _⟩::r=>eE r
 | ⟨_,.textOnly _⟩::r=>eE r
 | ⟨on,.data⟩::r=>on::eE r
 | ⟨on,.chain⟩::r=>on::eE r
 | ⟨on,.guard⟩::r=>on::eE r
 | ⟨on,.phase⟩::r=>on::eE r
def eL:List Oper->List (List Nat)
 | []=>[]
 | ⟨_,_,_,_,⟨e⟩,_⟩::r=>eE e::eL r
def eM (A:Nat):List Nat->Nat->Nat
 | [],m=>m
 |on::r,m=>eM A r (m ||| 1 <<< on ||| (A >>> (64*on)) % 18446744073709551616)
def eB:List (List Nat)->Nat->Nat->Nat
 | [],_,A=>A
 |e::r,i,A=>eB r (i+1) (A ||| eM A e 0 <<< (64*i))
def eX (A:Nat):List (List Nat)->Nat->List Nat
 | [],_=>[]
 |_::r,i=>(A >>> (64*i)) % 18446744073709551616::eX A r (i+1)
def wM:List CO->Nat->Nat
 | [],_=>0
 | ⟨_,op,_,_,_⟩::r,i=>match op.mw with
  |true=>1 <<< i ||| wM r (i+1)
  |false=>wM r (i+1)
def rM:List CO->Nat->Nat
 | [],_=>0
 | ⟨_,op,_,_,_⟩::r,i=>match op.mr with
  |true=>1 <<< i ||| rM r (i+1)
  |false=>rM r (i+1)
def cl (a b:Nat):Nat:=a - (a &&& b)
def uM (W R i m:Nat):Au->Nat:=fun op=>match op.mw with
 |true=>cl ((W ||| R) &&& (1 <<< i - 1)) m
 |false=>match op.mr with
  |true=>cl (W &&& (1 <<< i - 1)) m
  |false=>0
def uL (W R:Nat):List CO->List Nat->Nat->List Nat
 | [],_,_=>[]
 | ⟨_,op,_,_,_⟩::r,m::b,i=>uM W R i m op::uL W R r b (i+1)
 |_::_,[],_=>[]
def orL:List Nat->Nat
 | []=>0
 |x::r=>x ||| orL r
def bF (B:List (Nat×List Nat)) (d:Nat) (m:Nat):List Nat:=match B with
 | []=>bR 99 0 m
 | (k,l)::r=>match k == d with
  |true=>l
  |false=>bF r d m
def bC (B:List (Nat×List Nat)) (W m:Nat) (d:Option Nat):Au->List Nat
 | .cl _ _=>bF B (lY d) (m &&& W)
 | .cc _ _=>bF B (lY d) (m &&& W)
 |_=>[]
def dL (B:List (Nat×List Nat)) (W L:Nat):List CO->List Nat->List Nat->Nat->List DO
 | ⟨d,op,g,dp,fz⟩::r,m::b,u::us,i=>⟨⟨d,op,g,dp,fz⟩,bR 99 0 u,(L >>> i) % 2 == 1,bC B W m d op⟩::dL B W L r b us (i+1)
 |_,_,_,_=>[]
def dS (B:List (Nat × List Nat)) (l:List CO) (b:List Nat) (W:Nat) (us:List Nat):CC:=.dr (dL B W (orL us) l b us 0) []
def dR (B:List (Nat × List Nat)) (l:List CO) (b:List Nat) (W R:Nat):CC:=dS B l b W (uL W R l b 0)
def dQ (B:List (Nat × List Nat)) (l:List CO) (e:List (List Nat)):CC:=dR B l (eX (eB e 0 0) e 0) (wM l 0) (rM l 0)
def lT (Z:List Nat) (B:List (Nat×List Nat)):Code->CC
 | .skip=>.skip
 | .region _ ⟨d4⟩ false=>.rg (lR Z d4 d4)
 | .region _ ⟨d4⟩ true=>dQ B (lR Z d4 d4) (eL d4)
 | .seq a b=>.sq (lT Z B a) (lT Z B b)
 | .cond c a b=>.cd (lS c) (lT Z B a) (lT Z B b)
 | .block i c=>.bl i (lT Z B c)
 | .loop c=>.lp (lT Z B c)
 | .exit i=>.ex i
 | .ret=>.rt
 | .label _=>.skip
 | .scope c=>lT Z B c
 |_=>.skip
/-! What each operation lets go. -/
def sm:Bj->Nat
 | .t n=>1 <<< n
 | .c _=>0
def Id:List Bj->Nat
 | []=>0
 |x::r=>sm x ||| Id r
def pM:List (Nat×Nat×Bj)->Nat
 | []=>0
 | (_,_,x)::r=>sm x ||| pM r
def iM:Option Bj->Nat
 |none=>0
 |some x=>sm x
def oM:Au->Nat
 | .mv x=>sm x
 | .pk c a b=>sm c ||| sm a ||| sm b
 | .bd _ ps=>pM ps
 | .ld x _ _=>sm x
 | .bin _ _ x y=>sm x ||| sm y
 | .un _ x=>sm x
 | .ci _ x=>sm x
 | .cb x=>sm x
 | .mf _ xs=>Id xs
 | .fa x _=>sm x
 | .ia x i _=>sm x ||| sm i
 | .ex x _=>sm x
 | .ln _ x=>sm x
 | .sc x lo hi _=>sm x ||| iM lo ||| iM hi
 | .ix x i=>sm x ||| sm i
 | .mm _ x y=>sm x ||| sm y
 | .nc x=>sm x
 | .nl _ x=>sm x
 | .lk x s _ _=>sm x ||| sm s
 | .mu x s y=>sm x ||| sm s ||| sm y
 | .mpg x=>sm x
 | .mpn x=>sm x
 | .mpe x=>sm x
 | .mpd x s=>sm x ||| sm s
 | .bo x=>sm x
 | .st x y _=>sm x ||| sm y
 | .bs _ _ xs=>Id xs
 | .ap x y _ _=>sm x ||| sm y
 | .cl _ xs=>Id xs
 | .cc f xs=>sm f ||| Id xs
 |_=>0
def gm:Option (Nat×Bool)->Nat
 |none=>0
 |some (t,_)=>1 <<< t
def dm:Option Nat->Nat
 |none=>0
 |some d=>1 <<< d
def ki:Option (Nat×Bool)->Option Nat->Nat->Nat
 |none,some d,a=>cl a (1 <<< d)
 |none,none,a=>a
 |some _,_,a=>a
def lvO:CO->Nat->Nat
 | ⟨d,op,g,_,_⟩,a=>ki g d a ||| oM op ||| gm g
def lvB:CO->List CO×Nat->List CO×Nat
 | ⟨d,op,g,_,fz⟩,(r,b)=>(⟨d,op,g,[b],fz⟩::r,ki g d b ||| oM op ||| gm g)
def lvA:List CO->Nat->List CO×Nat
 | [],a=>([],a)
 |o::r,a=>lvB o (lvA r a)
def lvD:List DO->Nat->Nat
 | [],a=>a
 | ⟨o,_,_,_⟩::r,a=>lvO o (lvD r a)
def lkE (i:Nat):List (Nat×Nat)->Nat
 | []=>0
 | (k,m)::r=>match k == i with
  |true=>m
  |false=>lkE i r
def lvP (d:CC):CC×Nat->CC×Nat
 | (c,b)=>(.sq c d,b)
def lvK (f:Nat->CC×Nat):CC×Nat->CC×Nat
 | (d,b)=>lvP d (f b)
def lvQ (s:Bj):CC×Nat->CC×Nat->CC×Nat
 | (c,m),(d,n)=>(.cd s c d,m ||| n ||| sm s)
def lvZ (i:Nat):CC×Nat->CC×Nat
 | (c,b)=>(.bl i c,b)
def lvV:CC×Nat->CC×Nat
 | (c,b)=>(.lp c,b)
def lvW (f:Nat->CC×Nat):CC×Nat->CC×Nat
 | (_,a)=>lvV (f a)
def lvG:List CO×Nat->CC×Nat
 | (l,b)=>(.rg l,b)
def lvC (e:Nat):CC->List (Nat×Nat)->Nat->CC×Nat
 | .skip,_,a=>(.skip,a)
 | .rt,_,_=>(.rt,e)
 | .ex i,x,_=>(.ex i,lkE i x)
 | .rg l,_,a=>lvG (lvA l a)
 | .dr l _,_,a=>(.dr l [a],lvD l a)
 | .sq c d,x,a=>lvK (lvC e c x) (lvC e d x a)
 | .sqw c d,x,a=>(.sqw c d,a)
 | .cd s c d,x,a=>lvQ s (lvC e c x a) (lvC e d x a)
 | .bl i c,x,a=>lvZ i (lvC e c ((i,a)::x) a)
 | .lp c,x,_=>lvW (lvC e c x) (lvC e c x 0)
def hd:List Nat->Nat
 |a::_=>a
 | []=>0
def fwB (d:Option Nat) (op:Au) (g:Option (Nat×Bool)) (fz:Bool) (x:Nat):List CO×Nat->List CO×Nat
 | (r,w)=>(⟨d,op,g,bR 99 0 x,fz⟩::r,w)
def fwI (d:Option Nat) (op:Au) (g:Option (Nat × Bool)) (fz:Bool) (f:Nat->List CO × Nat) (c w:Nat):List CO × Nat:=fwB d op g fz (c - w) (f w)
def fwH (d:Option Nat) (op:Au) (g:Option (Nat × Bool)) (fz:Bool) (f:Nat->List CO × Nat) (a c:Nat):List CO × Nat:=fwI d op g fz f c (c &&& a)
def fwA:List CO->Nat->List CO×Nat
 | [],v=>([],v)
 | ⟨d,op,g,dp,fz⟩::r,v=>fwH d op g fz (fwA r) (hd dp) (v ||| dm d)
def dsD:List DO->Nat->Nat
 | [],v=>v
 | ⟨⟨d,_,_,_,_⟩,_,_,_⟩::r,v=>dsD r (v ||| dm d)
def apE:List (Nat×Nat)->List (Nat×Nat)->List (Nat×Nat)
 | [],y=>y
 |x::r,y=>x::apE r y
def exI (i:Nat):List (Nat×Nat)->Nat->Nat
 | [],w=>w
 | (k,m)::r,w=>match k == i with
  |true=>exI i r (w ||| m)
  |false=>exI i r w
def exO (i:Nat):List (Nat×Nat)->List (Nat×Nat)
 | []=>[]
 | (k,m)::r=>match k == i with
  |true=>exO i r
  |false=>(k,m)::exO i r
abbrev FR:=CC × Nat × List (Nat × Nat)
def fwP (c:CC) (x:List (Nat×Nat)):FR->FR
 | (d,v,y)=>(.sq c d,v,apE x y)
def fwK (f:Nat->FR):FR->FR
 | (c,v,x)=>fwP c x (f v)
def fwQ (s:Bj):FR->FR->FR
 | (c,m,x),(d,n,y)=>(.cd s c d,m ||| n,apE x y)
def fwZ (i:Nat):FR->FR
 | (c,w,x)=>(.bl i c,exI i x w,exO i x)
def fwV:FR->FR
 | (c,_,x)=>(.lp c,0,x)
def fwW (f:Nat->FR) (v:Nat):FR->FR
 | (_,w,_)=>fwV (f (v ||| w))
def fwG:List CO×Nat->FR
 | (l,w)=>(.rg l,w,[])
def fwE (l:List DO) (c w:Nat):FR:=(.dr l (bR 99 0 (c - w)),w,[])
def fwD (l:List DO) (a c:Nat):FR:=fwE l c (c &&& a)
def Z7:CC->Nat->FR
 | .skip,v=>(.skip,v,[])
 | .rt,_=>(.rt,0,[])
 | .ex i,v=>(.ex i,0,[(i,v)])
 | .rg l,v=>fwG (fwA l v)
 | .dr l dp,v=>fwD l (hd dp) (dsD l v)
 | .sq c d,v=>fwK (Z7 d) (Z7 c v)
 | .sqw c d,v=>(.sqw c d,v,[])
 | .cd s c d,v=>fwQ s (Z7 c v) (Z7 d v)
 | .bl i c,v=>fwZ i (Z7 c v)
 | .lp c,v=>fwW (Z7 c) v (Z7 c v)
def wkB (W:List Nat) (i:Nat) (c d:CC):CC:=match lZ i W with
 |true=>.sq c d
 |false=>.sqw c d
def wkP (W:List Nat) (i:Nat) (c:CC):CC×Nat->CC×Nat
 | (d,k)=>(wkB W i c d,k)
def wkK (W:List Nat) (i:Nat) (f:Nat->CC×Nat):CC×Nat->CC×Nat
 | (c,j)=>wkP W i c (f j)
def wkQ (s:Bj) (c:CC):CC×Nat->CC×Nat
 | (d,k)=>(.cd s c d,k)
def wkS (s:Bj) (f:Nat->CC×Nat):CC×Nat->CC×Nat
 | (c,j)=>wkQ s c (f j)
def wkZ (b:Nat):CC×Nat->CC×Nat
 | (c,j)=>(.bl b c,j)
def wkV:CC×Nat->CC×Nat
 | (c,j)=>(.lp c,j)
def BZ (W:List Nat):CC->Nat->CC×Nat
 | .sq c d,i=>wkK W i (BZ W d) (BZ W c (i+1))
 | .cd s c d,i=>wkS s (BZ W d) (BZ W c i)
 | .bl b c,i=>wkZ b (BZ W c i)
 | .lp c,i=>wkV (BZ W c i)
 | .skip,i=>(.skip,i)
 | .rt,i=>(.rt,i)
 | .ex n,i=>(.ex n,i)
 | .rg l,i=>(.rg l,i)
 | .dr l d,i=>(.dr l d,i)
 | .sqw c d,i=>(.sqw c d,i)
def rsM:List ResultVar->Nat
 | []=>0
 | .tmp t::r=>1 <<< t ||| rsM r
 | .cell t _::r=>1 <<< t ||| rsM r
def wkD:List Nat->CC->CC
 | [],c=>c
 |w::W,c=>(BZ (w::W) c 0).1
def cG (W:List Nat) (e:Nat) (c:CC):CC:=wkD W (Z7 (lvC e c [] e).1 255).1
def cF (W Z:List Nat) (B:List (Nat×List Nat)):Func->CC
 | ⟨_,_,_,_,_,_,_,⟨rs⟩,some b,_,_,_,_,_,_,_⟩=>cG W (rsM rs) (lT Z B b)
 |_=>.skip
def cK {a b:CC} (h:a=b):CC:=b
theorem Amu {a b:CC} (h:a=b):cK h=b:=rfl
attribute [go_sem ↓] Amu
attribute [go_sem] lA lF lG lM lD lZ lY bR eM eB eX wM rM cl uM uL orL bF bC dL dS dR dQ sm Id pM iM oM gm dm ki lvO lvB lvA lvD lkE lvP lvK lvQ lvZ lvV lvW lvG lvC hd fwB fwI fwH fwA dsD apE exI exO fwP fwK fwQ fwZ fwV fwW fwG fwE fwD Z7 wkB wkP wkK wkQ wkS wkZ wkV BZ rsM wkD cG Au.mw Au.mr
attribute [go_sem ↓] cF.eq_1 lT.eq_1 lT.eq_2 lT.eq_3 lT.eq_4 lT.eq_5 lT.eq_6 lT.eq_7 lT.eq_8 lT.eq_9 lT.eq_10 lT.eq_11 lR.eq_1 lR.eq_2 lO.eq_1 lO.eq_2 lO.eq_3 lO.eq_4 lO.eq_5 lO.eq_6 lO.eq_7 lO.eq_8 lO.eq_9 lO.eq_10 lO.eq_11 lO.eq_12 lO.eq_13 lO.eq_14 lO.eq_15 lO.eq_16 lO.eq_17 lO.eq_18 lO.eq_19 lO.eq_20 lO.eq_21 lO.eq_22 lO.eq_23 lO.eq_24 lO.eq_25 lO.eq_26 lC.eq_1 lC.eq_2 lC.eq_3 lC.eq_4 lC.eq_5 lC.eq_6 lC.eq_7 lL.eq_1 lL.eq_2 lQ.eq_1 lQ.eq_2 lP.eq_1 lP.eq_2 lS.eq_1 lS.eq_2 lV.eq_1 lV.eq_2 lV.eq_3 lV.eq_4 lV.eq_5 lV.eq_6 lI.eq_1 lI.eq_2 lJ.eq_1 lJ.eq_2 lU.eq_1 lU.eq_2 eE.eq_1 eE.eq_2 eE.eq_3 eE.eq_4 eE.eq_5 eE.eq_6 eE.eq_7 eL.eq_1 eL.eq_2 lN.eq_1 lN.eq_2 lN.eq_3 lN.eq_4 lN.eq_5 lN.eq_6 lN.eq_7 lE.eq_1 lE.eq_2 lE.eq_3 lH.eq_1 lH.eq_2
attribute [go_sem] sT.eq_1 sT.eq_2 sT.eq_3 sT.eq_4 sT.eq_5 sT.eq_6 sT.eq_7 sT.eq_8 sT.eq_9 sT.eq_10 sT.eq_11 sT.eq_12 sT.eq_13 sT.eq_14 sT.eq_15 sT.eq_16 sT.eq_17 sT.eq_18 sT.eq_19 sT.eq_20 sT.eq_21 sT.eq_22 sT.eq_23 sT.eq_24 sT.eq_25 sT.eq_26 sT.eq_27 sT.eq_28 sT.eq_29 aT.eq_1 aT.eq_2 aT.eq_3 aT.eq_4 aT.eq_5 aT.eq_6 aT.eq_7 aT.eq_8 aT.eq_9 aT.eq_10 aT.eq_11 aT.eq_12 aT.eq_13 aT.eq_14 aT.eq_15 aT.eq_16 aT.eq_17 aT.eq_18 aT.eq_19 aT.eq_20 aT.eq_21 aT.eq_22 aT.eq_23 aT.eq_24 aT.eq_25 aT.eq_26 aT.eq_27 aT.eq_28 aT.eq_29 bT.eq_1 bT.eq_2 bT.eq_3 bT.eq_4 eT.eq_1 eT.eq_2 eT.eq_3 eT.eq_4 eT.eq_5 eT.eq_6 eT.eq_7 eT.eq_8 eT.eq_9 eT.eq_10 eT.eq_11 eT.eq_12 eT.eq_13 eT.eq_14 fT.eq_1 fT.eq_2 fT.eq_3 fT.eq_4 fT.eq_5 fT.eq_6 fT.eq_7 fT.eq_8 fT.eq_9 fT.eq_10 fT.eq_11 fT.eq_12 fT.eq_13 fT.eq_14 fT.eq_15 fT.eq_16 fT.eq_17 fT.eq_18 fT.eq_19 fT.eq_20 fT.eq_21 fT.eq_22 fT.eq_23 fT.eq_24 fT.eq_25 fT.eq_26 fT.eq_27 fT.eq_28 fT.eq_29 fT.eq_30 fT.eq_31 fT.eq_32 fT.eq_33 fT.eq_34 fT.eq_35 fT.eq_36 fT.eq_37 fT.eq_38 fT.eq_39 fT.eq_40 fT.eq_41 fT.eq_42 fT.eq_43 fT.eq_44 fT.eq_45 fT.eq_46 fT.eq_47 fT.eq_48 fT.eq_49 fT.eq_50 fT.eq_51 fT.eq_52 fT.eq_53 fT.eq_54 fT.eq_55 fT.eq_56 fT.eq_57 fT.eq_58 fT.eq_59 fT.eq_60 gT.eq_1 gT.eq_2 gT.eq_3 gT.eq_4 gT.eq_5 gT.eq_6 gT.eq_7 gT.eq_8 gT.eq_9 gT.eq_10 gT.eq_11 gT.eq_12 gT.eq_13 gT.eq_14 gT.eq_15 gT.eq_16 gT.eq_17 gT.eq_18 gT.eq_19 gT.eq_20 gT.eq_21 gT.eq_22 gT.eq_23 gT.eq_24 gT.eq_25 gT.eq_26 pT.eq_1 pT.eq_2 pT.eq_3 pT.eq_4 pT.eq_5 pT.eq_6 pT.eq_7 nT.eq_1 nT.eq_2 nT.eq_3 nT.eq_4 nT.eq_5 nT.eq_6 nT.eq_7 nT.eq_8 nT.eq_9 nT.eq_10 nT.eq_11 nT.eq_12 nT.eq_13 nT.eq_14 zT.eq_1 zT.eq_2 zT.eq_3 zT.eq_4 zT.eq_5 zT.eq_6 zT.eq_7 zT.eq_8 zT.eq_9 zT.eq_10 zT.eq_11 zT.eq_12 zT.eq_13 zT.eq_14 zT.eq_15 kT.eq_1 kT.eq_2 T7.eq_1 T7.eq_2
attribute [go_sem] Zb Zc Zg Zf Nat.reduceAnd Nat.reduceOr Nat.reduceShiftLeft Nat.reduceShiftRight Nat.reduceDiv Nat.reduceMod
end Go.KL
namespace Go.Eng
section
variable {f:Func} {a:Bool} {b:Option CC} {c:Option (List RS)}
noncomputable def A3 (f : Func) : Bool × Option CC × Option (List RS) := (f.name == "runtime.NumGoroutine", f.body.bind (BX Go.Proofs.Tryz.prog f.ntmps), OB Go.Proofs.Tryz.prog f.ntmps f.results.toList)
theorem tA (h : A3 f = (a, b, c)) : (f.name == "runtime.NumGoroutine") = a := congrArg (·.1) h
theorem tB (h:A3 f=(a,b,c)):f.body.bind (BX Go.Proofs.Tryz.prog f.ntmps)=b:=congrArg (·.2.1) h
theorem tC (h:A3 f=(a,b,c)):OB Go.Proofs.Tryz.prog f.ntmps f.results.toList=c:=congrArg (·.2.2) h
end
end Go.Eng
namespace Go.Proofs.YtgfidgoefioigaaGreatDoor
open Go.Eng Go.KL
set_option maxRecDepth 100000
def ck11:CC:=cK (a:=cF [] [] [] f11) (by delta f11;simp only [go_sem];rfl)
theorem cc11:A3 f11=(false,some ck11.erase,some [(.t 4)]):=by kernel_rfl
def ck18:CC:=cK (a:=cF [] [] [] f18) (by delta f18;simp only [go_sem];rfl)
theorem cc18:A3 f18=(false,some ck18.erase,some [(.c 4 5 true),(.t 5)]):=by kernel_rfl
def ck21:CC:=cK (a:=cF [] [] [] f21) (by delta f21;simp only [go_sem];rfl)
theorem cc21:A3 f21=(false,some ck21.erase,some [(.t 2)]):=by kernel_rfl
def ck25:CC:=cK (a:=cF [] [] [] f25) (by delta f25;simp only [go_sem];rfl)
theorem cc25:A3 f25=(false,some ck25.erase,some [(.c 2 5 true)]):=by kernel_rfl
def ck34:CC:=cK (a:=cF [] [] [] f34) (by delta f34;simp (config := { maxSteps := 9999999 }) only [go_sem];rfl)
theorem cc34:A3 f34=(false,some ck34.erase,some [(.t 4)]):=by kernel_rfl
def ck38:CC:=cK (a:=cF [] [] [] f38) (by delta f38;simp only [go_sem];rfl)
theorem cc38:A3 f38=(false,some ck38.erase,some [(.c 2 5 true)]):=by kernel_rfl
def ck40:CC:=cK (a:=cF [] [12] [] f40) (by delta f40;simp only [go_sem];rfl)
theorem cc40:A3 f40=(false,some ck40.erase,some [(.c 2 5 true)]):=by kernel_rfl
def ck65:CC:=cK (a:=cF [] [] [] f65) (by delta f65;simp only [go_sem];rfl)
theorem cc65:A3 f65=(false,some ck65.erase,some [(.c 2 5 true)]):=by kernel_rfl
def ck68:CC:=cK (a:=cF [] [] [] f68) (by delta f68;simp only [go_sem];rfl)
theorem cc68:A3 f68=(false,some ck68.erase,some [(.t 4)]):=by kernel_rfl
def ck69:CC:=cK (a:=cF [] [] [] f69) (by delta f69;simp only [go_sem];rfl)
theorem cc69:A3 f69=(false,some ck69.erase,some [(.t 4)]):=by kernel_rfl
def ck70:CC:=cK (a:=cF [] [] [] f70) (by delta f70;simp only [go_sem];rfl)
theorem cc70:A3 f70=(false,some ck70.erase,some [(.t 4)]):=by kernel_rfl
def ck71:CC:=cK (a:=cF [] [] [] f71) (by delta f71;simp only [go_sem];rfl)
theorem cc71:A3 f71=(false,some ck71.erase,some [(.t 2)]):=by kernel_rfl
def ck74:CC:=cK (a:=cF [] [] [] f74) (by delta f74;simp only [go_sem];rfl)
theorem cc74:A3 f74=(false,some ck74.erase,some [(.t 2)]):=by kernel_rfl
def ck78:CC:=cK (a:=cF [] [] [] f78) (by delta f78;simp only [go_sem];rfl)
theorem cc78:A3 f78=(false,some ck78.erase,some [(.t 2)]):=by kernel_rfl
def ck93:CC:=cK (a:=cF [] [5] [] f93) (by delta f93;simp only [go_sem];rfl)
theorem cc93:A3 f93=(false,some ck93.erase,some [(.t 2)]):=by kernel_rfl
def ck96:CC:=cK (a:=cF [] [] [] f96) (by delta f96;simp only [go_sem];rfl)
theorem cc96:A3 f96=(false,some ck96.erase,some [(.c 4 5 true),(.t 5)]):=by kernel_rfl
def ck97:CC:=cK (a:=cF [] [] [] f97) (by delta f97;simp only [go_sem];rfl)
theorem cc97:A3 f97=(false,some ck97.erase,some [(.c 2 5 true)]):=by kernel_rfl
def ck100:CC:=cK (a:=cF [] [] [] f100) (by delta f100;simp only [go_sem];rfl)
theorem cc100:A3 f100=(false,some ck100.erase,some [(.c 2 5 true)]):=by kernel_rfl
def ck117:CC:=cK (a:=cF [] [] [] f117) (by delta f117;simp only [go_sem];rfl)
theorem cc117:A3 f117=(false,some ck117.erase,some [(.t 2)]):=by kernel_rfl
def ck118:CC:=cK (a:=cF [] [] [] f118) (by delta f118;simp only [go_sem];rfl)
theorem cc118:A3 f118=(false,some ck118.erase,some [(.t 2)]):=by kernel_rfl
def ck119:CC:=cK (a:=cF [] [] [] f119) (by delta f119;simp only [go_sem];rfl)
theorem cc119:A3 f119=(false,some ck119.erase,some [(.t 2)]):=by kernel_rfl
def ck156:CC:=cK (a:=cF [] [] [] f156) (by delta f156;simp only [go_sem];rfl)
theorem cc156:A3 f156=(false,some ck156.erase,some [(.c 2 5 true)]):=by kernel_rfl
def ck158:CC:=cK (a:=cF [] [] [] f158) (by delta f158;simp only [go_sem];rfl)
theorem cc158:A3 f158=(false,some ck158.erase,some [(.t 2)]):=by kernel_rfl
def ck159:CC:=cK (a:=cF [] [] [] f159) (by delta f159;simp only [go_sem];rfl)
theorem cc159:A3 f159=(false,some ck159.erase,some [(.t 4)]):=by kernel_rfl
def ck168:CC:=cK (a:=cF [] [] [] f168) (by delta f168;simp only [go_sem];rfl)
theorem cc168:A3 f168=(false,some ck168.erase,some [(.t 2)]):=by kernel_rfl
def ck174:CC:=cK (a:=cF [] [] [] f174) (by delta f174;simp (config := { maxSteps := 9999999 }) only [go_sem];rfl)
theorem cc174:A3 f174=(false,some ck174.erase,some [(.t 4)]):=by kernel_rfl
def ck179:CC:=cK (a:=cF [] [] [] f179) (by delta f179;simp only [go_sem];rfl)
theorem cc179:A3 f179=(false,some ck179.erase,some [(.t 2)]):=by kernel_rfl
def ck52:CC:=cK (a:=cF [] [] [] f52) (by delta f52;simp only [go_sem];rfl)
theorem cc52:A3 f52=(false,some ck52.erase,some [(.t 4)]):=by kernel_rfl
def ck75:CC:=cK (a:=cF [] [5] [] f75) (by delta f75;simp only [go_sem];rfl)
theorem cc75:A3 f75=(false,some ck75.erase,some [(.t 2)]):=by kernel_rfl
def ck94:CC:=cK (a:=cF [] [] [] f94) (by delta f94;simp only [go_sem];rfl)
theorem cc94:A3 f94=(false,some ck94.erase,some [(.t 4)]):=by kernel_rfl
open Go.Eng
set_option linter.all false
inductive Ag where
 | mk (k n:Int) (s:qB) (items:List Ag) (keys:List qB)
def Ag.k:Ag->Int | .mk k _ _ _ _=>k
def Ag.n:Ag->Int | .mk _ n _ _ _=>n
def Ag.s:Ag->qB | .mk _ _ s _ _=>s
def Ag.items:Ag->List Ag | .mk _ _ _ i _=>i
def Ag.keys:Ag->List qB | .mk _ _ _ _ l=>l
section
variable (k n:Int) (s:qB) (i:List Ag) (l:List qB)
theorem Ag.k_mk:(Ag.mk k n s i l).k=k:=rfl
theorem Ag.n_mk:(Ag.mk k n s i l).n=n:=rfl
theorem Ag.s_mk:(Ag.mk k n s i l).s=s:=rfl
theorem Ag.items_mk:(Ag.mk k n s i l).items=i:=rfl
theorem Ag.keys_mk:(Ag.mk k n s i l).keys=l:=rfl
end
section
variable {v:Ag} {j:Nat}
theorem Ag.ext {w:Ag} (h1:v.k=w.k) (h2:v.n=w.n) (h3:v.s=w.s) (h4:v.items=w.items) (h5:v.keys=w.keys):v=w:=by
 cases v;cases w
 simp only [Ag.k_mk,Ag.n_mk,Ag.s_mk,Ag.items_mk,Ag.keys_mk] at *
 simp [*]
mutual
def Ar:Ag->List AV
 | .mk k n s i l=>[.i .i64 k,.i .i64 n,.s s,.ds (ST i),.ds (Bd l)]
def ST:List Ag->List (List AV)
 | []=>[]
 |v::r=>Ar v::ST r
end
theorem Xs (l:List Ag):ST l=Ab Ar l:=by
 induction l with
 |nil=>rfl
 |cons v l ih=>rw [ST,Cl,ih]
theorem B4 (v:Ag):Ar v=[.i .i64 v.k,.i .i64 v.n,.s v.s,.ds (Ab Ar v.items),.ds (Bd v.keys)]:=by
 cases v
 rw [Ar,Xs]
 rfl
def Ag.av (v:Ag):AV:=.ag (Ar v)
theorem Ag.av_eq (v:Ag):v.av=.ag (Ar v):=rfl
theorem Ag.items_lt (v x:Ag) (h:x∈v.items):SizeOf.sizeOf x<SizeOf.sizeOf v:=by
 cases v
 have:=List.sizeOf_lt_of_mem h
 simp only [Ag.items_mk] at this
 simp
 omega
theorem Ag.ind {Q:Ag->Prop} (h:∀v,(∀x∈v.items,Q x)->Q v) (v:Ag):Q v:=h v fun x hx=>Ag.ind h x
termination_by SizeOf.sizeOf v
decreasing_by exact Ag.items_lt v x hx
inductive Ag.Fit:Ag->Prop
 | mk (v:Ag):v.items.length*80<=140737488355327->v.keys.length*16<=140737488355327->(∀x∈v.items,Ag.Fit x)->Ag.Fit v
theorem Ag.Fit.i (h:v.Fit):v.items.length*80<=140737488355327:=by cases h;assumption
theorem Ag.Fit.l (h:v.Fit):v.keys.length*16<=140737488355327:=by cases h;assumption
theorem Ag.Fit.x (h:v.Fit) {x:Ag} (hx:x∈v.items):x.Fit:=by cases h with | mk _ _ _ h=>exact h x hx
theorem Nc (l:List Ag):Ew 5 (Ab Ar l)=True:=DT fun v=>by rw [B4];exact ⟨rfl,rfl⟩
abbrev vx (v:Ag):AV:=.ag [.i .i64 v.k,.i .i64 v.n,.s v.s,.ds (Ab Ar v.items),.ds (Bd v.keys)]
theorem Dl (l:List Ag) (v:Ag):Ab Ar l++[[AV.i .i64 v.k,.i .i64 v.n,.s v.s,.ds (Ab Ar v.items),.ds (Bd v.keys)]]=Ab Ar (l++[v]):=by rw [<-B4,AX]
theorem AN {U:Type} {l:List U} {x:U} (h:l[j]?=some x):l.take j++[x]=l.take (j+1):=by rw [List.take_add_one,h];rfl
theorem Aej (l:List qB):(∀e,e∈Ab Cz l->e.length=1)=True:=eq_true fun e h=>((of_eq_true (PE l)) e h).1
theorem Aak (l:List Ag):(∀e,e∈Ab Ar l->e.length=5)=True:=eq_true fun e h=>((of_eq_true (Nc l)) e h).1
theorem W6 (m:Nat) (a:List AV) (l:List (List AV)):(∀e,e∈a::l->e.length=m)=(a.length=m∧∀e,e∈l->e.length=m):=propext ⟨fun h=>⟨h a (by simp),fun e he=>h e (by simp [he])⟩,fun h e he=>by
 rcases List.mem_cons.1 he with rfl | he
 .exact h.1
 .exact h.2 e he⟩
attribute [go_sem] W6
theorem Aa5 (l:List Ag) (i:Nat) (v:Ag):(Ab Ar l).set i [AV.i .i64 v.k,.i .i64 v.n,.s v.s,.ds (Ab Ar v.items),.ds (Bd v.keys)]=Ab Ar (l.set i v):=by rw [<-B4];simp [Ab,List.map_set]
theorem Af8 {U:Type} (l:List U) (i:Nat) (x:U):(l.length<=(l.set i x).length)=True:=by simp
theorem YT {U:Type} (l:List U) (i:Nat) (x:U):(l.set i x).take l.length=l.set i x:=by rw [z10 (by simp)]
attribute [go_sem] Aa5 Af8 YT
theorem Z3 (l:List qB) (y:qB):Ab Cz l++[[AV.s y]]=Ab Cz (l++[y]):=AX Cz l y
theorem Akk {U:Type} (l:List U) (x:U):(l.length+1<=(l++[x]).length)=True:=by simp
theorem Aa3 {U:Type} (l:List U) (x:U):(l++[x]).take (l.length+1)=l++[x]:=by rw [z10 (by simp)]
theorem Agx (n:Nat):(0<n+1)=True:=by simp
attribute [go_sem] Akk Aa3 Agx
attribute [go_sem] Z3 AV.one
attribute [go_sem] Dl vx Aej Aak
attribute [go_sem] B4 Ag.av_eq Ag.k_mk Ag.n_mk Ag.s_mk Ag.items_mk Ag.keys_mk Nc
attribute [grind =] Ag.k_mk Ag.n_mk Ag.s_mk Ag.items_mk Ag.keys_mk
theorem A2 {U:Type} {l:List U} {x:U} (h:l[j]?=some x):l.drop j=x::l.drop (j+1):=by
 obtain ⟨hj,rfl⟩:=List.getElem?_eq_some_iff.1 h
 exact List.drop_eq_getElem_cons hj
def ix (k:qB):List qB->Nat->Int
 | [],_=>-1
 |x::r,j=>if k=x then j else ix k r (j+1)
theorem Nl (k:qB):∀(l:List qB) (j:Nat),ix k l j=-1∨((j:Int)<=ix k l j∧ix k l j<(j+l.length:Nat))
 | [],j=>.inl rfl
 |x::r,j=>by
  unfold ix
  split
  .right;simp;omega
  .have:=Nl k r (j+1)
   simp at this ⊢
   omega
mutual
def AG:Ag->Nat
 | .mk _ _ _ i l=>1+Ci i+l.length
def Ci:List Ag->Nat
 | []=>0
 |x::r=>AG x+Ci r
end
theorem AE (v:Ag):AG v=1+Ci v.items+v.keys.length:=by cases v;rw [AG];rfl
theorem CT (v:Ag):1<=AG v:=by rw [AE];omega
theorem B1 {x:Ag}:∀{l:List Ag},x∈l->AG x<=Ci l
 |y::r,h=>by
  rw [Ci]
  rcases List.mem_cons.1 h with rfl | h
  .omega
  .have:=B1 h
   omega
theorem Is:∀l:List Ag,l.length<=Ci l
 | []=>by simp
 |y::r=>by
  have:=Is r
  have:=CT y
  rw [Ci]
  simp
  omega
theorem Ou (l r:List Ag):Ci (l++r)=Ci l+Ci r:=by
 induction l with
 |nil=>simp [Ci]
 |cons x l ih=>rw [List.cons_append,Ci,Ci,ih];omega
theorem CZ (v:Ag) (h:AG v<=1000000000000):v.Fit:=by
 have:=Ag.ind (Q:=fun v=>AG v<=1000000000000->v.Fit) (fun v ih h=>by
  rw [AE] at h
  have:=Is v.items
  exact .mk v (by omega) (by omega) fun x hx=>ih x hx (by have:=B1 hx;omega)) v
 exact this h
def A6:Ag:=.mk 0 0 ⟨#[]⟩ [] []
instance:DecidableEq Ag:=fun _ _=>Classical.propDecidable _
end
