/- Parts of the proof. -/
import Derived.Test.YtgfkglhelfkpoaaGreatRSC
import Derived.Deep.Upon
set_option maxRecDepth 100000
set_option maxHeartbeats 4000000
open Go.Proofs.Tryz
open Go.Value renaming int→I,slice→V
open Go.IntKind renaming i64→J
open Option renaming some→M,none→U
open Go.Ending renaming returned→If
open Go.Obj renaming cells→Is
open Go renaming World→Iv,Calls→I0,Value→I1,maxLen→I2,Addr→I3
open Go.RowKit renaming Below→Ix
open Nat renaming le_refl→Jn,le_trans→Mp,zero_add→Mu
open Go.RowKit.Below renaming refl→Jx,heap_setCell→J1
open List renaming mem_cons_self→M3,getD→Up,mem_cons_of_mem→V2
namespace Go.Proofs.YtgfkglhelfkpoaaGreat
section
open Go.RowKit Plain
theorem S_(t:av)(r:List av):rE (t :: r)=t.1.length+rE r:=by simp[rE,Lj]
end
section
open Go.RowKit Plain xP
open Go.Sort (PermIn SortedIn SWO swp swp_permIn permIn_refl permIn_trans permIn_mono size_swp HoldsK grow)
section
variable {w0:Iv}{blk n' off:Nat}[Inhabited (kN w0 blk n')] {d0:Array (kN w0 blk n')}
theorem OI(H:qb off d0)(cap:Nat)(w:Iv)(hsm:d0.size<=1000000000)(S:jU w0 blk n' off d0 w) :
  I0 Tryz.prog 237 #[V (M ⟨blk,off,U⟩) d0.size cap,I J d0.size,.func (.func 178) #[] #[]] w λe w'=>e=If (.tuple #[])/\∃ d',jU w0 blk n' off d' w'/\PermIn 0 d0.size d0 d'/\SortedIn (ltOf iw) 0 d0.size d':=by
 obtain⟨n,hn⟩:=aD d0.size
 have S0:=aj S;have oI:ak (∀ (a b:Nat) (az bz:Int) (d:Array (kN w0 blk n')) (wr:Iv),az=a->bz=b->d.size=d0.size->jU w0 blk n' off d wr->a<=b->b<=n ->
   I0 Tryz.prog 267 #[V (M ⟨blk,off,U⟩) n cap,I J az,I J bz,.func (.func 178) #[] #[]] wr λe w'=>e=If (.tuple #[])/\∃ d',jU w0 blk n' off d' w'/\PermIn a b d d'/\SortedIn (ltOf iw) a b d'):=by
  intro a b az bz d wr ha hb hd hS h1 h2;have h:=Ev H cap a b az bz ha hb d wr hd hS h1 ah
  rwa [hd,<-hn] at h
 have HSY:ak (∀ (a m b:Nat) (az mz bz:Int) (d:Array (kN w0 blk n')) (wr:Iv),az=a->mz=m->bz=b->d.size=d0.size->jU w0 blk n' off d wr->a<m->m<b->b<=n->SortedIn (ltOf iw) a m d->SortedIn (ltOf iw) m b d ->
   I0 Tryz.prog 268 #[V (M ⟨blk,off,U⟩) n cap,I J az,I J mz,I J bz,.func (.func 178) #[] #[]] wr λe w'=>e=If (.tuple #[])/\∃ d',jU w0 blk n' off d' w'/\PermIn a b d d'/\SortedIn (ltOf iw) a b d'):=by
  intro a m b az mz bz d wr ha hm hb hd hS h1 h2 h3 h4 h5;have h:=H_ H cap (b - a) a m b az mz bz d wr ha hm hb hd hS h1 h2 ah (Jn _) h4 h5
  rwa [<-hn] at h
 have HN:ak (n=d0.size):=hn;have amN:n<=1000000000:=ah;rw[<-hn];clear S hsm hn;go_enter func237,ntmps237;go_wp2
 go_loopg [7,8] (n+1) (λkx s7 s8 wr=>∃ (a:Nat) (d:Array (kN w0 blk n')),s7=I J (a:Int)/\s8=I J ((a:Int)+20)/\a<=n/\n - a<kx/\ak (d.size=d0.size)/\ak (jU w0 blk n' off d wr)/\ak (PermIn 0 n d0 d)/\ak (sF (ltOf iw) 20 d a))
 case atStart=>exact⟨0,d0,rfl,by first | rfl | go_num,ah,ah,rfl,S0,permIn_refl _ _ _,sF.zero⟩
 case round=>
  clear S0;obtain⟨a,d,rfl,rfl,han,hkx,HD,S1,HP,HB⟩:=hrel
  by_cases hlt:a+20<=n
  ·have hltz:(a:Int)+20<=(n:Int):=ah
   go_wp2_with fail;refine (oI.o a (a+20) _ _ d wr rfl ah HD.o S1.o ah hlt).mono ?_;rintro e w2 ⟨rfl,d2,hS2,wT,hO2⟩;have HD2:ak (d2.size=d0.size):=wT.1.trans HD.o;have mU:ak (PermIn 0 n d0 d2):=permIn_trans _ _ _ _ _ HP.o (permIn_mono _ _ a (a+20) _ _ ah hlt (by rw[HD.o,<-HN.o];exact Jn _) wT);have HB2:ak (sF (ltOf iw) 20 d2 (a+20)):=.step (sF.congr HB.o λi hi=>wT.2.1 i (Or.inl hi)) hO2
   have HS2:=aj hS2;clear hS2 wT hO2 S1 HP HB HD;go_wp2
   go_roundg (n - (a+20)+1)
   case measure=>omega
   case rel=>exact⟨a+20,d2,by first | rfl | go_num,by first | rfl | go_num | (congr 1;omega),ah,ah,HD2,HS2,mU,HB2⟩
  ·have hltz:¬ (a:Int)+20<=(n:Int):=ah
   go_wp2_with fail;refine (oI.o a n _ _ d wr rfl rfl HD.o S1.o han (Jn _)).mono ?_;rintro e w2 ⟨rfl,d2,hS2,wT,hO2⟩;have HD2:ak (d2.size=d0.size):=wT.1.trans HD.o;have mU:ak (PermIn 0 n d0 d2):=permIn_trans _ _ _ _ _ HP.o (permIn_mono _ _ a n _ _ ah (Jn _) (by rw[HD.o,<-HN.o];exact Jn _) wT);have HB2:ak (wG (ltOf iw) 20 d2 n 0):=wG.from (sF.congr HB.o λi hi=>wT.2.1 i (Or.inl hi)) (.last ah hO2) han
   have HS2:=aj hS2;clear hS2 wT hO2 S1 HP HB HD;go_wp2
   go_loopg [6] (n+20) (λkx s6 wr=>∃ (bs:Nat) (d:Array (kN w0 blk n')),s6=I J (bs:Int)/\0<bs/\bs<=2*n+20/\n+20 - bs<=kx/\ak (d.size=d0.size)/\ak (jU w0 blk n' off d wr)/\ak (PermIn 0 n d0 d)/\ak (wG (ltOf iw) bs d n 0))
   case atStart=>exact⟨20,d2,rfl,ah,ah,ah,HD2,HS2,mU,HB2⟩
   case round=>
    clear HD2 HS2 mU HB2 hkx;obtain⟨bs,d,rfl,aky,amh,hkx,HD,S1,HP,HB⟩:=hrel
    by_cases hbn:bs<n
    ·have akw:(bs:Int)<(n:Int):=ah
     have hwb:IntKind.i64.wrap (2*(bs:Int))=2*(bs:Int):=by rw[IntKind.wrap_i64];omega
     go_wp2
     go_loopg [7,8] (n+1) (λkx s7 s8 wr=>∃ (a:Nat) (d:Array (kN w0 blk n')),s7=I J (a:Int)/\s8=I J ((a:Int)+2*(bs:Int))/\a<=n/\n - a<kx/\ak (d.size=d0.size)/\ak (jU w0 blk n' off d wr)/\ak (PermIn 0 n d0 d)/\ak (sF (ltOf iw) (2*bs) d a)/\ak (wG (ltOf iw) bs d n a))
     case atStart=>exact⟨0,d,rfl,by first | rfl | go_num | (congr 1;omega),ah,ah,HD,S1,HP,sF.zero,HB⟩
     case round=>
      rename Nat=>kx0
      clear S1 HP HB HD;obtain⟨a,d,rfl,rfl,han,abk,HD,S1,HP,HL,HB⟩:=hrel
      by_cases hlt:a+2*bs<=n
      ·have hltz:(a:Int)+2*(bs:Int)<=(n:Int):=ah
       have HTW:=aj (wG.two HB.o aky hlt);go_wp2_with fail;refine (HSY.o a (a+bs) (a+2*bs) _ _ _ d wr rfl ah ah HD.o S1.o ah ah hlt HTW.o.1 HTW.o.2.1).mono ?_;rintro e w2 ⟨rfl,d2,hS2,wT,hO2⟩;have HD2:ak (d2.size=d0.size):=wT.1.trans HD.o;have mU:ak (PermIn 0 n d0 d2):=permIn_trans _ _ _ _ _ HP.o (permIn_mono _ _ a (a+2*bs) _ _ ah hlt (by rw[HD.o,<-HN.o];exact Jn _) wT)
       have HL2:ak (sF (ltOf iw) (2*bs) d2 (a+2*bs)):=.step (sF.congr HL.o λi hi=>wT.2.1 i (Or.inl hi)) hO2;have HB2:ak (wG (ltOf iw) bs d2 n (a+2*bs)):=wG.congr HTW.o.2.2 λi hi=>wT.2.1 i (Or.inr hi)
       have HS2:=aj hS2;have amT:IntKind.i64.wrap ((a:Int)+2*(bs:Int)+2*(bs:Int))=(a:Int)+2*(bs:Int)+2*(bs:Int):=by rw[IntKind.wrap_i64];omega
       clear hS2 wT hO2 S1 HP HB HL HD HTW;go_wp2
       go_roundg (n - (a+2*bs)+1)
       case measure=>omega
       case rel=>exact⟨a+2*bs,d2,by first | rfl | go_num | (congr 1;omega),by first | rfl | go_num | (congr 1;omega),ah,ah,HD2,HS2,mU,HL2,HB2⟩
      ·have hltz:¬ (a:Int)+2*(bs:Int)<=(n:Int):=ah
       have hwm:IntKind.i64.wrap ((bs:Int)*2)=(bs:Int)*2:=by rw[IntKind.wrap_i64];omega
       by_cases hm:a+bs<n
       ·have hmz:(a:Int)+(bs:Int)<(n:Int):=ah
        have HTW:=aj (wG.half HB.o ah hm);go_wp2_with fail;refine (HSY.o a (a+bs) n _ _ _ d wr rfl ah rfl HD.o S1.o ah ah (Jn _) HTW.o.1 HTW.o.2).mono ?_;rintro e w2 ⟨rfl,d2,hS2,wT,hO2⟩;have HD2:ak (d2.size=d0.size):=wT.1.trans HD.o;have mU:ak (PermIn 0 n d0 d2):=permIn_trans _ _ _ _ _ HP.o (permIn_mono _ _ a n _ _ ah (Jn _) (by rw[HD.o,<-HN.o];exact Jn _) wT)
        have HB2:ak (wG (ltOf iw) (bs*2) d2 n 0):=by
         have h:=wG.from (sF.congr HL.o λi hi=>wT.2.1 i (Or.inl hi)) (.last ah hO2) han;rw[Nat.mul_comm];exact h
        have HS2:=aj hS2;clear hS2 wT hO2 S1 HP HB HL HD HTW;go_wp2
        go_roundg (n+20 - bs*2)
        case measure=>omega
        case rel=>exact⟨bs*2,d2,by first | rfl | go_num | (congr 1;omega),ah,ah,ah,HD2,HS2,mU,HB2⟩
       ·have hmz:¬ (a:Int)+(bs:Int)<(n:Int):=ah
        have HB2:ak (wG (ltOf iw) (bs*2) d n 0):=by
         have h:=wG.from HL.o (.last ah (wG.one HB.o ah)) han;rw[Nat.mul_comm];exact h
        clear HB HL;go_wp2
        go_roundg (n+20 - bs*2)
        case measure=>omega
        case rel=>exact⟨bs*2,d,by first | rfl | go_num | (congr 1;omega),ah,ah,ah,HD,S1,HP,HB2⟩
    ·have akw:¬ (bs:Int)<(n:Int):=ah
     have HE:ak (∃ d',jU w0 blk n' off d' wr/\PermIn 0 n d0 d'/\SortedIn (ltOf iw) 0 n d'):=⟨d,S1.o,HP.o,wG.one HB.o ah⟩
     go_wp2
     go_end0
     exact⟨rfl,HE.o⟩
end
theorem DI(cap blk off n:Nat)(ts:List av)(w:Iv)(hblk:blk<w.heap.size)(h:Gb w blk off n ts)(hl:ts.length<=1000000000)(hn:n<=9223372036854775807)(hne:0<ts.length) :
  I0 Tryz.prog 177 #[V (M ⟨blk,off,U⟩) ts.length cap,.func (.func 178) #[] #[]] w λe w'=>e=If (.tuple #[])/\∃ yV,yV.Perm ts/\yV.Pairwise (λs t=>¬ cmpL t.1 s.1<0)/\Gb w' blk off n yV/\aC (λq=>q=blk) w w':=by
 obtain⟨A0,c0,_,_,_,_,h5⟩:=h 0 ts[0] (List.getElem?_eq_getElem hne)
 haveI:Inhabited (kN w blk n):=⟨⟨_,h5⟩⟩
 obtain⟨d,hd,hH,hts⟩:=SF h;have HC:=aj (OI (w0:=w) (blk:=blk) (n':=n) (off:=off) (d0:=d) ⟨hH,hblk,ah,hn⟩ cap w ah (SWK.start hH));rw[hd] at HC;have HF:ak (∀ w' d',jU w blk n off d' w'->PermIn 0 ts.length d d'->SortedIn (ltOf iw) 0 ts.length d'->∃ yV,yV.Perm ts/\yV.Pairwise (λs t=>¬ cmpL t.1 s.1<0)/\Gb w' blk off n yV/\aC (λq=>q=blk) w w'):=by
  intro w' d' hS hP hO;rw[<-hd] at hP hO;exact OG hblk hH hts hP hO hS
 clear h hH hts hd h5;go_enter func177,ntmps177;go_wp2_with fail;refine HC.o.mono ?_;rintro e w2 ⟨rfl,d',hS,hP,hO⟩;have HE:=aj (HF.o w2 d' hS hP hO);clear hS hP hO;go_wp2
 go_end0
 exact⟨rfl,HE.o⟩
end
section
open Go.RowKit Plain
def bW:List (I1×Int)->List I1
 | []=>[]
 | (u,c) :: r=>u :: I J c :: bW r
theorem vT(l:List (I1×Int)):(bW l).length=l.length*2:=by
 induction l with
 | nil=>rfl
 | cons x r ih=>obtain⟨u,c⟩:=x;simp only[bW,List.length_cons,ih];omega
theorem jO(l m:List (I1×Int)):bW (l++m)=bW l++bW m:=by
 induction l with
 | nil=>rfl
 | cons x r ih=>obtain⟨u,c⟩:=x;simp[bW,ih]
variable{l:List (I1×Int)}{i:Nat}{u:I1}{c:Int}
theorem nS(h:l[i]? = M (u,c)):(bW l)[i*2]? = M u/\(bW l)[i*2+1]? = M (I J c):=by
 induction l generalizing i with
 | nil=>simp at h
 | cons x r ih=>
  obtain⟨u',c'⟩:=x;cases i with
  | zero=>simp at h;simp[bW,h]
  | succ i=>
   simp at h;have:=ih h;rw[show (i+1)*2=i*2+1+1 by omega];simp only[bW,List.getElem?_cons_succ];exact this
theorem M0(h:∀ x∈l,x.1.oneCell'=true):∀ u∈bW l,u.oneCell'=true:=by
 induction l with
 | nil=>intro u hu;simp[bW] at hu
 | cons x r ih=>
  obtain⟨u',c'⟩:=x;intro u hu;simp only[bW,List.mem_cons] at hu
  rcases hu with rfl | rfl | hu
  ·exact h (u,c') (M3 ..)
  ·rfl
  ·exact ih (λy hy=>h y (V2 _ hy)) u hu
variable{w:Iv}{base e n:Nat}{v:I1}{xs:List I1}
theorem og(h:w.ownsRow base e 2 v n xs){g:Nat}(hg:v.ownBlock=M g):Typed w g e:=by
 rcases h.2 with ⟨rfl,_⟩ | ⟨g',cap,cur,rfl,_,hh,_⟩
 ·simp[Value.ownBlock] at hg
 ·simp[Value.ownBlock] at hg;subst hg;exact⟨cur,hh⟩
variable{w':Iv}
theorem iW(h:w.ownsRow base e 2 v n xs)(hb:∀ g,v.ownBlock=M g->w'.heap[g]? = w.heap[g]?):w'.ownsRow base e 2 v n xs:=by
 refine⟨h.1, ?_⟩
 rcases h.2 with hn | ⟨g,cap,cur,rfl,hb',BP,rest⟩
 ·exact .inl hn
 ·exact .inr ⟨g,cap,cur,rfl,hb',by rw[hb g rfl];exact BP,rest⟩
theorem DR{b:Nat}{t:TypeId}(h:Typed w b t)(hb:w'.heap[b]? = w.heap[b]?):Typed w' b t:=by
 obtain⟨cs,hc⟩:=h;exact⟨cs,hb.trans hc⟩
structure iF (w:Iv) (B:Nat) (v:I1) (ts:List av) (us:List (I1×Int)):Prop where
 len:us.length=ts.length
 own:w.ownsRow B 173 2 v ts.length (bW us)
 row:∀ (i:Nat) (u:I1×Int) (t:av),us[i]? = M u->ts[i]? = M t->u.2=t.2/\bg w B u.1 t.1
 dist:∀ (i j:Nat) (u u':I1×Int) (q:Nat),i<j->us[i]? = M u->us[j]? = M u'->u.1.ownBlock=M q->u'.1.ownBlock≠M q
def gT(w:Iv)(B:Nat)(v:I1)(ts:List av):Prop:=∃ us,iF w B v ts us
variable{B:Nat}{ts:List av}{us:List (I1×Int)}
theorem iF.keep(h:iF w B v ts us)(hb:∀ q,B<=q->q<w.heap.size->w'.heap[q]? = w.heap[q]?):iF w' B v ts us:=by
 refine⟨h.len,iW h.own λg hg=>?_,λi u t hu ht=>?_,h.dist⟩
 ·have:=World.ownsRow.lt h.own g hg;exact hb g this.1 this.2
 ·obtain⟨h1,h2⟩:=h.row i u t hu ht
  exact⟨h1,h2.keep λg hg=>by have:=h2.lt hg;exact hb g this.1 this.2⟩
theorem gT.keep(h:gT w B v ts)(hb:∀ q,B<=q->q<w.heap.size->w'.heap[q]? = w.heap[q]?):gT w' B v ts:=by
 obtain⟨us,h⟩:=h;exact⟨us,h.keep hb⟩
theorem gT.below(h:gT w B v ts)(hb:Ix w.heap.size w w'):gT w' B v ts:=h.keep λq _ hq=>hb.block q hq
theorem gT.only{S:Nat->Prop}(h:gT w B v ts)(ho:aC S w w')(hS:∀ q,B<=q->¬ S q):gT w' B v ts:=h.keep λq hq hs=>ho.block q hs (hS q hq)
theorem gT.form(h:gT w B v ts):∃ A cap,v=V A ts.length cap:=by
 obtain⟨us,h⟩:=h
 rcases h.own.2 with ⟨hv,h0⟩ | ⟨g,cap,_,hv,_⟩
 ·exact⟨U,0,by rw[hv,h0]⟩
 ·exact⟨_,_,hv⟩
theorem gT.EA(w:Iv)(B:Nat):gT w B (V U 0 0) []:=⟨[],rfl,⟨rfl,.inl ⟨rfl,rfl⟩⟩,λi u t h=>by simp at h,λi j u u' q _ h=>by simp at h⟩
theorem gT.start(w:Iv):gT (w.alloc (Is #[] 173)) w.heap.size (V (M ⟨w.heap.size,0,U⟩) 0 0) []:=
 ⟨[],rfl,World.ownsRow_lit w #[] 0 (Jn _) (by unfold I2;omega) (by rfl),λi u t h=>by simp at h,λi j u u' q _ h=>by simp at h⟩
theorem gT.lower{B':Nat}(h:gT w B v ts)(hB:B'<=B):gT w B' v ts:=by
 obtain⟨us,h⟩:=h;exact⟨us,h.len,h.own.mono hB,λi u t hu ht=>⟨(h.row i u t hu ht).1,World.ownsRow.mono (h.row i u t hu ht).2 hB⟩,h.dist⟩
variable{wr w1 w2:Iv}{cp:Nat}{Av:Option I3}{v2:I1}{t:av}
theorem iF.push(h:iF wr B (V Av ts.length cp) ts us)(hB:B<=wr.heap.size)
  (hb:Ix wr.heap.size wr w1) (hu:bg w1 wr.heap.size u t.1) (hown:w2.ownsRow B 173 2 v2 (ts.length+1) (bW us++[u,I J t.2])) (hg:w1.grownBy w2 (V Av ts.length cp).ownBlock) :
  gT w2 B v2 (ts++[t])/\Ix B wr w2:=by
 have hlen:=h.len;have hty:∀ q,(V Av ts.length cp).ownBlock=M q->Typed w1 q 173:=λq hq=>DR (og h.own hq) (hb.block q (World.ownsRow.lt h.own q hq).2)
 have hkeep:∀ b,b<w1.heap.size->Typed w1 b 2->w2.heap[b]? = w1.heap[b]?:=λb hbl ht=>
  hg.block b hbl λe=>ht.ne (hty b e.symm) bM rfl
 refine⟨⟨us++[(u,t.2)],by simp[hlen], ?_,λi x s hx hs=>?_,λi j x x' q hij hx hx' hq=>?_⟩, ?_⟩
 ·rw[jO]
  simpa [bW] using hown
 ·by_cases hi:i<ts.length
  ·rw[List.getElem?_append_left ah] at hx hs
   obtain⟨h1,h2⟩:=h.row i x s hx hs;have h3:bg w1 B x.1 s.1:=h2.keep λg hg'=>hb.block g (h2.lt hg').2
   exact⟨h1,h3.keep λg hg'=>hkeep g (h3.lt hg').2 (kE h3 hg')⟩
  ·have hil:=(List.getElem?_eq_some_iff.1 hs).1
   simp at hil;obtain rfl:i=ts.length:=ah;rw[List.getElem?_append_right ah] at hx hs;rw[<-hlen] at hx;simp at hx hs;subst hx;subst hs;have h3:bg w1 B u t.1:=World.ownsRow.mono hu hB;exact⟨rfl,h3.keep λg hg'=>hkeep g (h3.lt hg').2 (kE h3 hg')⟩
 ·by_cases hj:j<ts.length
  ·rw[List.getElem?_append_left ah] at hx hx'
   exact h.dist i j x x' q hij hx hx' hq
  ·have hjl:=(List.getElem?_eq_some_iff.1 hx').1
   simp at hjl;obtain rfl:j=us.length:=ah;rw[List.getElem?_append_left ah] at hx;simp at hx';subst hx';obtain⟨s,hs⟩:∃ s,ts[i]? = M s:=⟨_,List.getElem?_eq_getElem ah⟩
   have h2:=((h.row i x s hx hs).2.lt hq).2;intro e;have:=(hu.lt e).1;omega
 ·have hs:=hg.size
  have hs2:=hb.size;exact⟨hg.os.trans hb.os,hg.tape.trans hb.tape,hg.output.trans hb.output,ah,λi hi=>(hg.block i ah λe=>by have:=(World.ownsRow.lt h.own i e.symm).1;omega).trans (hb.block i ah)⟩
variable{A:Option I3}
theorem gT.rt{cap:Nat}(h:gT w B (V A ts.length cap) ts)(hB:B<=w.heap.size):RT w B w.heap.size A ts:=by
 obtain⟨us,h⟩:=h;refine⟨hB,Jn _,λhn=>?_,λ_ _ h hb=>h.keep hb⟩;obtain⟨g,c,hv,hg1,hg2⟩:=World.ownsRow.form h.own hn;have hA:A=M ⟨g,0,U⟩:=by injection hv
 have hc:cap=c:=by injection hv
 subst hA;subst hc;have hgt:=og h.own (g:=g) rfl;refine⟨g,0,λi=>((us[i]?.getD (V U 0 0,0)).1.ownBlock).getD 0,rfl,hg1,hg2,λi t ht=>?_,λi j ti tj hij hi hj l1 l2=>?_⟩
 ·have hi:i<ts.length:=(List.getElem?_eq_some_iff.1 ht).1
  obtain⟨x,hx⟩:∃ x,us[i]? = M x:=⟨us[i]'(by rw[h.len];exact hi),List.getElem?_eq_getElem (by rw[h.len];exact hi)⟩
  obtain⟨h1,h2⟩:=h.row i x t hx ht;obtain⟨Ai,ca,hu⟩:=h2.form;have hgt2:=nS (l:=us) (i:=i) (u:=x.1) (c:=x.2) hx;have c0:=(World.ownsRow.cellAt h.own (i*2) ah).trans hgt2.1;have c1:=(World.ownsRow.cellAt h.own (i*2+1) ah).trans hgt2.2;refine⟨Ai,ca,by rw[Mu,c0,hu],by rw[Mu,c1,h1],World.ownsRow.frozenAt h.own _,λh0=>?_⟩;rw[hu] at h2;obtain⟨q,oq,e1,e2,e3,e4⟩:=h2.JW h0
  subst e1;have hq:(V (M ⟨q,oq,U⟩) t.1.length ca).ownBlock=M q:=rfl;have hqt:=kE h2 hq;have hgi:((us[i]?.getD (V U 0 0,0)).1.ownBlock).getD 0=q:=by rw[hx];simp[hu,Value.ownBlock]
  simp only[hgi];exact⟨oq,rfl,e2,e3,hqt.ne hgt bM,e4⟩
 ·have hil:i<ts.length:=(List.getElem?_eq_some_iff.1 hi).1
  have hjl:j<ts.length:=(List.getElem?_eq_some_iff.1 hj).1;obtain⟨x,hx⟩:∃ x,us[i]? = M x:=⟨us[i]'(by rw[h.len];exact hil),List.getElem?_eq_getElem (by rw[h.len];exact hil)⟩
  obtain⟨y,hy⟩:∃ x,us[j]? = M x:=⟨us[j]'(by rw[h.len];exact hjl),List.getElem?_eq_getElem (by rw[h.len];exact hjl)⟩
  obtain⟨_,h2⟩:=h.row i x ti hx hi;obtain⟨_,h3⟩:=h.row j y tj hy hj;obtain⟨q,_,hu,_⟩:=World.ownsRow.form h2 l1;obtain⟨q',_,hu',_⟩:=World.ownsRow.form h3 l2;simp only[hx,hy,Option.getD_some,hu,hu',Value.ownBlock];intro e;have:=h.dist i j x y q hij hx hy (by rw[hu];rfl);rw[hu'] at this;exact this (by rw[e];rfl)
theorem iF.aev(h:iF wr B (V Av ts.length cp) ts us)(_hB:B<=wr.heap.size)
  (hb:Ix wr.heap.size wr w1) (hu:bg w1 B u t.1) (hd:∀ x∈us,∀ q,x.1.ownBlock=M q->u.ownBlock≠M q) (hown:w2.ownsRow B 173 2 v2 (ts.length+1) (bW us++[u,I J t.2])) (hg:w1.grownBy w2 (V Av ts.length cp).ownBlock) :
  iF w2 B v2 (ts++[t]) (us++[(u,t.2)])/\∀ q,q<w1.heap.size->Typed w1 q 2->w2.heap[q]? = w1.heap[q]?:=by
 have hlen:=h.len;have hty:∀ q,(V Av ts.length cp).ownBlock=M q->Typed w1 q 173:=λq hq=>DR (og h.own hq) (hb.block q (World.ownsRow.lt h.own q hq).2)
 have hkeep:∀ b,b<w1.heap.size->Typed w1 b 2->w2.heap[b]? = w1.heap[b]?:=λb hbl ht=>
  hg.block b hbl λe=>ht.ne (hty b e.symm) bM rfl
 refine⟨⟨by simp[hlen], ?_,λi x s hx hs=>?_,λi j x x' q hij hx hx' hq=>?_⟩,hkeep⟩
 ·rw[jO]
  simpa [bW] using hown
 ·by_cases hi:i<ts.length
  ·rw[List.getElem?_append_left ah] at hx hs
   obtain⟨h1,h2⟩:=h.row i x s hx hs;have h3:bg w1 B x.1 s.1:=h2.keep λg hg'=>hb.block g (h2.lt hg').2
   exact⟨h1,h3.keep λg hg'=>hkeep g (h3.lt hg').2 (kE h3 hg')⟩
  ·have hil:=(List.getElem?_eq_some_iff.1 hs).1
   simp at hil;obtain rfl:i=ts.length:=ah;rw[List.getElem?_append_right ah] at hx hs;rw[<-hlen] at hx;simp at hx hs;subst hx;subst hs;exact⟨rfl,hu.keep λg hg'=>hkeep g (hu.lt hg').2 (kE hu hg')⟩
 ·by_cases hj:j<ts.length
  ·rw[List.getElem?_append_left ah] at hx hx'
   exact h.dist i j x x' q hij hx hx' hq
  ·have hjl:=(List.getElem?_eq_some_iff.1 hx').1
   simp at hjl;obtain rfl:j=us.length:=ah;rw[List.getElem?_append_left ah] at hx;simp at hx';subst hx';exact hd x (List.mem_of_getElem? hx) q hq
theorem kg{P:Program}{ops:Array Oper}{rest:List Oper}{o:Oper}{a:Act}{Q:Exit->Act->Iv->Prop}(hgd:o.guard=U)(s x:Operand)(t:TypeId)
  (ho:o.op=.call { callee:=.builtin .append,args:=#[s,x],argTypes:=#[t,t] }) (e:TypeId) (i:TypeInfo) (ht:P.underlying t=M (.slice e)) (hi:P.info? e=M i)
  (base:Option I3) (ab2 ab1:Nat) (hle:ab2<=ab1) (hs:a.eval s=V base ab2 ab1) (xv:I1) (hx:a.eval x=xv) (hsrc:Src P i.size t xv 0 [] w)
  (h:wpList P ops Q rest (a.put o.dst (V base ab2 ab1)) w):wpList P ops Q (o :: rest) a w:=by
 refine wpList_plain hgd λK hK=>?_
 have hr:=run_append_nothing (P:=P) w t t o.type e i ht hi base ab2 ab1 hle xv hsrc;unfold Oper.wp;simp[execOp,ho,resolve,invoke,builtin,hs,hx,hr,Result.andThen];exact hK _ _ h
def xJ(zs:List Int)(w:Iv)(e:Ending)(w':Iv):Prop:=∃ A c,e=If (V A zs.length c)/\bg w' w.heap.size (V A zs.length c) zs/\Ix w.heap.size w w'
theorem zV(w:Iv):bg (w.alloc (Is #[] 2)) w.heap.size (V (M ⟨w.heap.size,0,U⟩) 0 0) []:=World.ownsRow_lit w #[] 0 (Jn _) (by unfold I2;omega) (by rfl)
theorem M5(A:Option I3)(cap:Nat)(zs:List Int)(w:Iv)(hA:Ints w A zs)(hl:zs.length<=1000000) :
  I0 Tryz.prog 182 #[V A zs.length cap] w (xJ zs w):=by
 obtain⟨i0,hi,hz0,hz1,hz2⟩:=info_parts Tryz.infoI;have hown:=zV w;have hg:Ix w.heap.size w (w.alloc (Is #[] 2)):=aV;have HO:=aj hown;have HG:=aj hg;have q22:∀ (w:Iv) (a:Option I3) (n c n' c':Nat),(binOp .eql 28 (V a n c) (V U n' c')).run Tryz.prog w=.ok (.bool a.isNone) w:=λw a n c n' c'=>Lib.run_eql_slice_nil w _ _ a n c n' c' underlying28
 by_cases h0:0<zs.length
 ·obtain⟨b,o,rfl,hb,hc⟩:=hA h0
  have HN:ak (∀ (j:Nat) u,(zs.map (I J))[j]? = M u->(w.alloc (Is #[] 2)).cell? ((Addr.mk b o U).add j)=M u):=by
   intro j u hu;rw[List.getElem?_map] at hu;obtain⟨x,hx,rfl⟩:=Option.map_eq_some_iff.1 hu;rw[addr_add];exact (hg.cell (p:=⟨b,o+j,U⟩) hb).trans (hc j x hx)
  have H1:ak (∀ u∈zs.map (I J),u.oneCell'=true):=by
   intro u hu;obtain⟨x,_,rfl⟩:=List.mem_map.1 hu;rfl
  clear hc hown hg hA;go_enter func182,ntmps182;go_wp2_with (at_builtin;refine wpList_append_own _ rfl _ _ 28 rfl w.heap.size 2 i0 (I J 0) 1 8 underlying28 hi hz0 hz1 hz2 rfl bM _ 0 _ rfl HO.o ⟨b,o,U⟩ zs.length cap (zs.map (I J)) rfl ?c0 HN.o H1.o ?c3 ?c4 ?c5 ?_)
  try (case c0=>simp)
  case c3=>unfold I2;omega
  case c4=>omega
  try (case c5=>simp;try omega)
  intro v2 w2 hown hg _;have hr:bg w2 w.heap.size v2 zs:=by
   unfold bg;simpa using hown
  obtain⟨A2,c2,hv⟩:=hr.form;subst hv;have hb2:Ix w.heap.size w w2:=HG.o.grown hg HG.o.size (λq hq=>(HO.o.lt hq).1);have HP:ak (xJ zs w (If (V A2 zs.length c2)) w2):=⟨_,_,rfl,hr,hb2⟩
  clear hown hg hr hb2;go_wp2;go_ret;exact HP.o
 ·obtain rfl:zs=[]:=List.length_eq_zero_iff.1 ah
  cases A with
  | none=>
   clear hown hg hA;go_enter func182,ntmps182;go_wp2;go_ret;exact⟨U,0,rfl,⟨rfl,.inl ⟨rfl,rfl⟩⟩,Jx _ _⟩
  | some a=>
   have HS:ak (∀ wx,Src Tryz.prog i0.size 28 (V (M a) 0 cap) 0 [] wx):=λwx=>Src.ofSlice wx underlying28 a 0 cap [] (by simp) (by simp) (by simp)
   clear hown hg hA;go_enter func182,ntmps182;go_wp2_with (at_builtin;refine kg rfl _ _ 28 rfl 2 i0 underlying28 hi _ 0 0 (Jn _) rfl _ rfl (HS.o _) ?_);go_ret;exact⟨_,_,rfl,HO.o,HG.o⟩
theorem Dp(A:Option I3)(cap:Nat)(zs:List Int)(w:Iv)(hA:Ints w A zs)(hl:zs.length<=1000000) :
  I0 Tryz.prog 244 #[V A zs.length cap] w (xJ zs w):=by
 obtain⟨i0,hi,hz0,hz1,hz2⟩:=info_parts Tryz.infoI;have hown:=zV w;have hg:Ix w.heap.size w (w.alloc (Is #[] 2)):=aV;have HO:=aj hown;have HG:=aj hg
 by_cases h0:0<zs.length
 ·obtain⟨b,o,rfl,hb,hc⟩:=hA h0
  have HN:ak (∀ (j:Nat) u,(zs.map (I J))[j]? = M u->(w.alloc (Is #[] 2)).cell? ((Addr.mk b o U).add j)=M u):=by
   intro j u hu;rw[List.getElem?_map] at hu;obtain⟨x,hx,rfl⟩:=Option.map_eq_some_iff.1 hu;rw[addr_add];exact (hg.cell (p:=⟨b,o+j,U⟩) hb).trans (hc j x hx)
  have H1:ak (∀ u∈zs.map (I J),u.oneCell'=true):=by
   intro u hu;obtain⟨x,_,rfl⟩:=List.mem_map.1 hu;rfl
  clear hc hown hg hA;go_enter func244,ntmps244;go_wp2_with (at_builtin;refine wpList_append_own _ rfl _ _ 28 rfl w.heap.size 2 i0 (I J 0) 1 8 underlying28 hi hz0 hz1 hz2 rfl bM _ 0 _ rfl HO.o ⟨b,o,U⟩ zs.length cap (zs.map (I J)) rfl ?c0 HN.o H1.o ?c3 ?c4 ?c5 ?_)
  try (case c0=>simp)
  case c3=>unfold I2;omega
  case c4=>omega
  try (case c5=>simp;try omega)
  intro v2 w2 hown hg _;have hr:bg w2 w.heap.size v2 zs:=by
   unfold bg;simpa using hown
  obtain⟨A2,c2,hv⟩:=hr.form;subst hv;have hb2:Ix w.heap.size w w2:=HG.o.grown hg HG.o.size (λq hq=>(HO.o.lt hq).1);have HP:ak (xJ zs w (If (V A2 zs.length c2)) w2):=⟨_,_,rfl,hr,hb2⟩
  clear hown hg hr hb2;go_wp2;go_ret;exact HP.o
 ·obtain rfl:zs=[]:=List.length_eq_zero_iff.1 ah
  have HS:ak (∀ wx,Src Tryz.prog i0.size 28 (V A 0 cap) 0 [] wx):=λwx=>by
   cases A with
   | none=>exact Src.ofNil wx underlying28 cap
   | some a=>exact Src.ofSlice wx underlying28 a 0 cap [] (by simp) (by simp) (by simp)
  clear hown hg hA;go_enter func244,ntmps244;go_wp2_with (at_builtin;refine kg rfl _ _ 28 rfl 2 i0 underlying28 hi _ 0 0 (Jn _) rfl _ rfl (HS.o _) ?_);go_ret;exact⟨_,_,rfl,HO.o,HG.o⟩
theorem Ng(A B:Option I3)(ca cb n:Nat)(a b:List Int)(w:Iv)(hA:Ints w A a)(hB:Ints w B b)(ha:a.length=n)(hb:b.length=n)(hn:n<=1000000000) :
  I0 Tryz.prog 180 #[V A n ca,V B n cb] w λe w'=>e=If (.bool (decide (a=b)))/\∃ q,w'=w.drewN q:=by
 have HA:=aj hA;have HB:=aj hB;have Vq:=aj ha;have HLB:=aj hb;clear hA hB ha hb;go_enter func180,ntmps180;go_wp2
 go_loopw [13] (λi wr=>∃ (k q:Nat),k<=n/\i=I J (k:Int)/\ak (wr=w.drewN q)/\ak (a.take k=b.take k)) (λi _=>n - (intOf i).toNat)
 case atStart=>exact⟨0,0,ah,bE,by show _=_;rfl,by show _=_;simp⟩
 case round=>
  obtain⟨k,q,hk,rfl,HQ,HE⟩:=hrel;have hqq:=HQ.o;subst hqq;clear HQ
  by_cases hlt:k<n
  ·obtain⟨ba,oa,rfl,_,TD⟩:=HA.o (by have:=Vq.o;omega)
   obtain⟨bb,ob,rfl,_,hcb⟩:=HB.o (by have:=HLB.o;omega);obtain⟨x,hx⟩:∃ x,a[k]? = M x:=⟨_,List.getElem?_eq_getElem (by have:=Vq.o;omega)⟩
   obtain⟨y,hy⟩:∃ y,b[k]? = M y:=⟨_,List.getElem?_eq_getElem (by have:=HLB.o;omega)⟩
   have hc1:=TD k x hx;have hc2:=hcb k y hy;have hkl:(k:Int)<(n:Int):=ah;have HX:=aj hx;have HY:=aj hy;clear TD hcb hx hy
   by_cases hxy:x=y
   ·subst hxy
    have dz:ak (a.take (k+1)=b.take (k+1)):=by show _=_;rw[List.take_add_one,List.take_add_one,HE.o,HX.o,HY.o]
    clear HE;go_wp2_with fail;have hc1':(w.drewN q).cell? ⟨ba,oa+k,U⟩=M (I J x):=hc1;have hc2':(w.drewN q).cell? ⟨bb,ob+k,U⟩=M (I J x):=hc2;generalize hW:w.drewN q=W at hc1' hc2' ⊢;have HW:=aj hW;clear hW hc1 hc2;go_quiet (fail);have HD:ak (∃ q',W.drewN nq=w.drewN q'):=⟨q+nq,by rw[<-HW.o,World.drewN_drewN]⟩
    obtain⟨q',BQ⟩:=HD.o;rw[BQ];clear BQ HD HW;go_wp2
    go_roundw
    case rel=>exact⟨k+1,q',ah,bE,by show _=_;rfl,dz⟩
    case measure=>simp[intOf];omega
   ·have hne:(x==y)=false:=by simp[hxy]
    have hne':(x != y)=true:=by simp[hxy]
    have HV:ak (decide (a=b)=false):=by
     show _=_;refine decide_eq_false λe=>hxy ?_
     have h1:=HX.o;rw[e,HY.o] at h1;exact (Option.some.inj h1).symm
    go_wp2_with fail;have hc1':(w.drewN q).cell? ⟨ba,oa+k,U⟩=M (I J x):=hc1;have hc2':(w.drewN q).cell? ⟨bb,ob+k,U⟩=M (I J y):=hc2;generalize hW:w.drewN q=W at hc1' hc2' ⊢;have HW:=aj hW;clear hW hc1 hc2;go_quiet (fail);have HD:ak (∃ q',W.drewN nq=w.drewN q'):=⟨q+nq,by rw[<-HW.o,World.drewN_drewN]⟩
    go_wp2;go_ret;exact⟨aG HV.o.symm,HD.o⟩
  ·obtain rfl:k=n:=ah
   have HV:ak (decide (a=b)=true):=by
    show _=_;have h:=HE.o;rw[List.take_of_length_le (by rw[Vq.o];exact Jn _),List.take_of_length_le (by rw[HLB.o];exact Jn _)] at h;exact decide_eq_true h
   go_wp2;go_ret;exact⟨aG HV.o.symm,q,rfl⟩
theorem C_(A:Option I3)(cap:Nat)(w:Iv) :
  I0 Tryz.prog 267 #[V A 0 cap,I J 0,I J 0,.func (.func 178) #[] #[]] w λe w'=>e=If (.tuple #[])/\w=w':=by
 go_enter func267,ntmps267;go_wp2;refine wp_loop_rounds 1 ?_;rw[rounds_succ];go_wp2
 go_end0
 exact⟨rfl,rfl⟩
theorem KJ(A:Option I3)(cap:Nat)(w:Iv) :
  I0 Tryz.prog 237 #[V A 0 cap,I J 0,.func (.func 178) #[] #[]] w λe w'=>e=If (.tuple #[])/\w=w':=by
 have HI:=aj (C_ A cap w);go_enter func237,ntmps237;go_wp2;refine wp_loop_rounds 1 ?_;rw[rounds_succ];go_wp2_with fail;refine HI.o.mono ?_;rintro e w2 ⟨rfl,rfl⟩;go_wp2;refine wp_loop_rounds 1 ?_;rw[rounds_succ];go_wp2
 go_end0
 exact⟨rfl,rfl⟩
theorem SY(A:Option I3)(cap:Nat)(w:Iv) :
  I0 Tryz.prog 177 #[V A 0 cap,.func (.func 178) #[] #[]] w λe w'=>e=If (.tuple #[])/\w=w':=by
 have HI:=aj (KJ A cap w);go_enter func177,ntmps177;go_wp2_with fail;refine HI.o.mono ?_;rintro e w2 ⟨rfl,rfl⟩;go_wp2
 go_end0
 exact⟨rfl,rfl⟩
structure Ga (w:Iv) (B:Nat) (ts:List av) (us:List (I1×Int)) (i:Nat) (out:List av) (L:List (I1×Int)) (A:Option I3) (m cp:Nat) (wr:Iv):Prop where
 own:wr.ownsRow w.heap.size 173 2 (V A m cp) m (bW L)
 parts:iF wr B (V A m cp) out L
 len:out.length=m
 old:∀ x∈L,(∃ k,k<i/\us[k]? = M x)∨(∀ q,x.1.ownBlock=M q->w.heap.size<=q)
 below:Ix w.heap.size w wr
variable{m:Nat}{out:List av}{L:List (I1×Int)}
theorem Ga.next(h:Ga w B ts us i out L A m cp wr)(hb:Ix wr.heap.size wr w1):Ga w B ts us i out L A m cp w1:=
 ⟨iW h.own λg hg=>hb.block g (World.ownsRow.lt h.own g hg).2,h.parts.keep λq _ hq=>hb.block q hq,h.len,h.old,aH h.below hb⟩
theorem Ga.start(w:Iv)(B:Nat)(hB:B<=w.heap.size)(ts:List av)(us:List (I1×Int)):Ga w B ts us 0 [] [] (M ⟨w.heap.size,0,U⟩) 0 0 (w.alloc (Is #[] 173)):=by
 have h:(w.alloc (Is #[] 173)).ownsRow w.heap.size 173 2 (V (M ⟨w.heap.size,0,U⟩) 0 0) 0 (bW []):=World.ownsRow_lit w #[] 0 (Jn _) (by unfold I2;omega) (by rfl);exact⟨h,⟨rfl,World.ownsRow.mono h hB,λi u t h=>by simp at h,λi j u u' q _ h=>by simp at h⟩,rfl,λx hx=>by simp at hx,aV⟩
variable{o:Obj}
theorem own_below(h:wr.ownsRow w.heap.size 173 2 (V A m cp) m (bW L))(hb:Ix w.heap.size w wr)(hg:(wr.alloc o).grownBy w2 (V A m cp).ownBlock):Ix w.heap.size w w2:=by
 have hs:=hg.size;have hs2:=hb.size;simp at hs;have fU:Ix wr.heap.size wr (wr.alloc o):=(Jx _ _).alloc (Jn _) o;exact⟨hg.os.trans (fU.os.trans hb.os),hg.tape.trans (fU.tape.trans hb.tape),hg.output.trans (fU.output.trans hb.output),ah,λk hk=>(hg.block k (by simp;omega) λe=>by have:=(World.ownsRow.lt h k e.symm).1;omega).trans ((fU.block k ah).trans (hb.block k hk))⟩
theorem Ga.copy{x:I1×Int}(h:Ga w B ts us i out L A m cp wr)(h0:iF w B v ts us)(hB:B<=w.heap.size)(hi:i<ts.length)(hx:us[i]? = M x)
  (hown:w2.ownsRow w.heap.size 173 2 v2 (m+1) (bW L++[x.1,I J x.2])) (hg:(wr.alloc o).grownBy w2 (V A m cp).ownBlock) :
  ∃ A2 c2,v2=V A2 (m+1) c2/\Ga w B ts us (i+1) (out++[aR ts i]) (L++[x]) A2 (m+1) c2 w2:=by
 have hl:=h.len;subst hl;obtain⟨r1,r2⟩:=h0.row i x _ hx (l7 hi);have fU:Ix wr.heap.size wr (wr.alloc o):=(Jx _ _).alloc (Jn _) o;have hba:Ix w.heap.size w (wr.alloc o):=aH h.below fU;have hu:bg (wr.alloc o) B x.1 (aR ts i).1:=r2.keep λg hg=>hba.block g (r2.lt hg).2
 obtain⟨A2,c2,hv,_⟩:=World.ownsRow.form hown ah;subst hv;rw[r1] at hown;obtain⟨p1,_⟩:=iF.aev (t:=aR ts i) h.parts (Mp hB h.below.size) fU hu (λy hy q hq e=>by
  rcases h.old y hy with ⟨k,hk,hyk⟩ | hf
  ·exact h0.dist k i y x q hk hyk hx hq e
  ·have:=hf q hq
   have:=(r2.lt e).2;omega) (World.ownsRow.mono hown hB) hg
 refine⟨M ⟨A2,0,U⟩,c2,rfl, ?_, ?_,by simp,λy hy=>?_,own_below h.own h.below hg⟩
 ·rw[jO];simpa [bW,<-r1] using hown
 ·rw[<-r1] at p1;exact p1
 ·rcases List.mem_append.1 hy with hy | hy
  ·rcases h.old y hy with ⟨k,hk,hyk⟩ | hf
   ·exact .inl ⟨k,ah,hyk⟩
   ·exact .inr hf
  ·simp at hy;subst hy
   exact .inl ⟨i,ah,hx⟩
theorem Ga.more(h:Ga w B ts us i out L A m cp wr)(hB:B<=w.heap.size)(hb:Ix wr.heap.size wr w1)(hu:bg w1 wr.heap.size u t.1)
  (hown:w2.ownsRow w.heap.size 173 2 v2 (m+1) (bW L++[u,I J t.2])) (hg:(w1.alloc o).grownBy w2 (V A m cp).ownBlock) :
  ∃ A2 c2,v2=V A2 (m+1) c2/\Ga w B ts us i (out++[t]) (L++[(u,t.2)]) A2 (m+1) c2 w2:=by
 have hl:=h.len;subst hl;have h1:=h.next hb;have fU:Ix w1.heap.size w1 (w1.alloc o):=(Jx _ _).alloc (Jn _) o;have hu2:bg (w1.alloc o) wr.heap.size u t.1:=hu.keep λg hg=>fU.block g (hu.lt hg).2
 obtain⟨A2,c2,hv,_⟩:=World.ownsRow.form hown ah;subst hv;obtain⟨p1,_⟩:=iF.aev (t:=t) h1.parts (Mp hB h1.below.size) fU (World.ownsRow.mono hu2 (Mp hB h.below.size)) (λy hy q hq e=>by
  obtain⟨k,hk,hyk⟩:=List.getElem_of_mem hy;have ak9:L[k]? = M y:=by rw[List.getElem?_eq_getElem hk,hyk]
  obtain⟨s,hs⟩:∃ s,out[k]? = M s:=⟨out[k]'(by rw[<-h.parts.len];exact hk),List.getElem?_eq_getElem _⟩
  have:=((h.parts.row k y s ak9 hs).2.lt hq).2;have:=(hu.lt e).1;omega) (World.ownsRow.mono hown hB) hg
 refine⟨M ⟨A2,0,U⟩,c2,rfl, ?_,p1,by simp,λy hy=>?_,own_below h1.own h1.below hg⟩
 ·rw[jO];simpa [bW] using hown
 ·rcases List.mem_append.1 hy with hy | hy
  ·exact h.old y hy
  ·simp at hy;subst hy
   exact .inr λq hq=>by have:=(hu.lt hq).1;have:=h.below.size;omega
theorem Ga.skip{j:Nat}(h:Ga w B ts us i out L A m cp wr)(hij:i<=j):Ga w B ts us j out L A m cp wr:=
 ⟨h.own,h.parts,h.len,λx hx=>(h.old x hx).imp (λ⟨k,hk,h⟩=>⟨k,ah,h⟩) id,h.below⟩
def QL(ts:List av)(E:List Int)(c:Int)(a:Nat)(c':Int)(a':Nat):Prop:=
 Canon (ts.take a++n_ E c'++ts.drop a')/\∀ x,eH (ts.take a++n_ E c'++ts.drop a') x=if E=x then pl c (eH ts E) else eH ts x
variable{E:List Int}{a:Nat}
theorem abJ(h:Canon ts)(ha:a<ts.length)(he:(aR ts a).1=E):QL ts E c a (pl c (aR ts a).2) (a+1):=by
 have hs:ts=ts.take a++(E,(aR ts a).2) :: ts.drop (a+1):=by
  have h1:ts.drop a=aR ts a :: ts.drop (a+1):=by
   rw[List.drop_eq_getElem_cons ha,show ts[a]=aR ts a by simp[aR,Up,ha]]
  have h2:=List.take_append_drop a ts;rw[h1] at h2;have h3:aR ts a=(E,(aR ts a).2):=Prod.ext he rfl;rw[h3] at h2;exact h2.symm
 have h2:=h;rw[hs] at h2;have h3:=Ow (c:=c) h2;rw[<-hs] at h3;exact h3
theorem ZQ(h:Canon ts)(hlo:∀ k,k<a->cmpL (aR ts k).1 E<0)(hal:a<=ts.length)(hhi:a<ts.length->0<cmpL (aR ts a).1 E)(c0:0<=c)(c1:c<=1000002):QL ts E c a c a:=by
 have hs:=List.take_append_drop a ts;have h3:=BX (P:=ts.take a) (S:=ts.drop a) (e:=E) (c:=c) (by rw[hs];exact h) (λp hp=>?_) (λs hs'=>?_) c0 c1
 ·rw[hs] at h3;exact h3
 ·obtain⟨k,hk,rfl⟩:=List.getElem_of_mem hp
  simp only[List.length_take] at hk;rw[List.getElem_take];have:=hlo k ah
  rwa [show aR ts k=ts[k] by simp[aR,Up,show k<ts.length by omega]] at this
 ·obtain⟨k,hk,rfl⟩:=List.getElem_of_mem hs'
  simp only[List.length_drop] at hk;rw[List.getElem_drop];have h1:=hhi ah;have h2:=nK (aR ts a).1 E;have h4:cmpL E (aR ts a).1<0:=ah;rw[show aR ts a=ts[a] by simp[aR,Up,show a<ts.length by omega]] at h4
  by_cases hk0:k=0
  ·subst hk0;exact h4
  ·exact gZ h4 (List.pairwise_iff_getElem.1 h.Ef a (a+k) ah ah ah)
theorem sM(w:Iv)(u:I1)(c:Int)(t:TypeId)(j:Nat)(x:I1)(h:[u,I J c][j]? = M x):(w.alloc (Is #[u,I J c] t)).cell? ((Addr.mk w.heap.size 0 U).add j)=M x:=by
 have hc:=(au.new w t [u,I J c]).cell j;rw[addr_add,Mu];exact hc.trans h
def Pq(B:Nat)(ts:List av)(E:List Int)(c:Int)(w:Iv)(e:Ending)(w':Iv):Prop:=
 ∃ (A':Option I3) (c':Nat) (yV:List av),e=If (V A' yV.length c')/\gT w' B (V A' yV.length c') yV/\Canon yV/\(∀ x,eH yV x=if E=x then pl c (eH ts E) else eH ts x)/\jG E.length yV/\yV.length<=ts.length+1/\Ix w.heap.size w w'
theorem Ql(B:Nat)(A Ae:Option I3)(cap ce:Nat)(ts:List av)(E:List Int)(c:Int)(w:Iv)(hT:gT w B (V A ts.length cap) ts)(hB:B<=w.heap.size)(hE:Ints w Ae E)(hC:Canon ts)(hL:jG E.length ts)(c0:0<=c)(c1:c<=1000002)(hl:ts.length<=1000000)(hEl:E.length<=1000000) :
  I0 Tryz.prog 203 #[V A ts.length cap,V Ae E.length ce,I J c] w (Pq B ts E c w):=by
 obtain⟨i0,hi,hz0,hz1,hz2⟩:=info_parts Tryz.infoT;obtain⟨us,Tx⟩:=hT;have lH:ak (∀ wx i,Ix w.heap.size w wx->i<ts.length->∃ g Ai ci,A=M ⟨g,0,U⟩/\us[i]? = M (V Ai E.length ci,(aR ts i).2)/\wx.cell? ⟨g,i*2,U⟩=M (V Ai E.length ci)/\wx.cell? ⟨g,i*2+1,U⟩=M (I J (aR ts i).2)/\Ints wx Ai (aR ts i).1/\(aR ts i).1.length=E.length):=by
  intro wx i hb hi;obtain⟨g,c',hv,hg1,hg2⟩:=World.ownsRow.form Tx.own ah;have hA:A=M ⟨g,0,U⟩:=by injection hv
  have hc:cap=c':=by injection hv
  subst hA;subst hc;have hil:i<us.length:=by rw[Tx.len];exact hi
  have hx:=List.getElem?_eq_getElem hil;obtain⟨r1,r2⟩:=Tx.row i _ _ hx (l7 hi);have hlen:(aR ts i).1.length=E.length:=hL _ (eZ hi);obtain⟨Ai,ci,hu⟩:=r2.form;rw[hlen] at hu;have ah7:us[i]=(V Ai E.length ci,(aR ts i).2):=Prod.ext hu r1;rw[ah7] at hx;have hcg:=nS hx;have hbk:=hb.block g hg2;refine⟨g,Ai,ci,rfl,hx, ?_, ?_, ?_,hlen⟩
  ·exact (World.cell?_of_block (a:=⟨g,_,U⟩) hbk).trans ((World.ownsRow.cellAt Tx.own (i*2) ah).trans hcg.1)
  ·exact (World.cell?_of_block (a:=⟨g,_,U⟩) hbk).trans ((World.ownsRow.cellAt Tx.own (i*2+1) ah).trans hcg.2)
  ·rw[hu] at r2
   have:bg w B (V Ai (aR ts i).1.length ci) (aR ts i).1:=by rw[hlen];exact r2
   exact this.JW.ints.below hb
 have HP0:=aj Tx;have HE:=aj hE;have HC:=aj hC;have LK:=aj hL;clear Tx hE hC hL;go_enter func203,ntmps203;go_upto_block 0 with fail
 go_cut [7] (λs7 wc=>∃ a:Nat,s7=I J (a:Int)/\a<=ts.length/\ak (∀ k,k<a->cmpL (aR ts k).1 E<0)/\ak (a<ts.length->¬ cmpL (aR ts a).1 E<0)/\ak (Ix w.heap.size w wc))
 case first=>
  go_wp2_with fail
  go_loopg [7] (ts.length+1) (λkx s7 wr=>∃ a:Nat,s7=I J (a:Int)/\a<=ts.length/\ts.length - a<kx/\ak (∀ k,k<a->cmpL (aR ts k).1 E<0)/\ak (Ix w.heap.size w wr))
  case atStart=>exact⟨0,by first | rfl | go_num,ah,ah,(λk hk=>ah),Jx _ _⟩
  case round=>
   obtain⟨a,rfl,ha,hkx,HLO,HB⟩:=hrel
   by_cases hlt:a<ts.length
   ·have hltz:(a:Int)<(ts.length:Int):=ah
    obtain⟨g,Ai,ci,rfl,_,d0,d1,l1,l2⟩:=lH.o wr a HB.o hlt;have HCM:ak (I0 Tryz.prog 249 #[V Ai E.length ci,V Ae E.length ce] wr λe w'=>e=If (I J (cmpL (aR ts a).1 E))/\rF wr w'):=by
     have h:=Jb Ai Ae ci ce (aR ts a).1 E wr l1 (HE.o.below HB.o) l2.symm (by rw[l2];omega);rw[l2] at h;exact h
    obtain⟨z,hz⟩:=aD (cmpL (aR ts a).1 E)
    rw[<-hz] at HCM;have HZ:=aj hz;clear hz d1 l1 l2
    by_cases hneg:z<0
    ·have hnb:decide (z<0)=true:=by simp[hneg]
     go_wp2_with fail;refine HCM.o.mono ?_;rintro e w2 ⟨rfl,hd⟩;have HB2:=aj (aH HB.o (hd.below _));have ajm:ak (∀ k,k<a+1->cmpL (aR ts k).1 E<0):=λk hk=>by
      by_cases e:k=a
      ·rw[e,<-HZ.o];exact hneg
      ·exact HLO.o k ah
     clear hd;go_wp2
     go_roundg (ts.length - (a+1)+1)
     case measure=>omega
     case rel=>exact⟨a+1,by first | rfl | go_num,ah,ah,ajm,HB2⟩
    ·have hnb:decide (z<0)=false:=by simp;omega
     go_wp2_with fail;refine HCM.o.mono ?_;rintro e w2 ⟨rfl,hd⟩;have HB2:=aj (aH HB.o (hd.below _));have xL:ak (a<ts.length->¬ cmpL (aR ts a).1 E<0):=λ_=>by rw[<-HZ.o];omega
     clear hd;go_wp2_with fail;go_meet
     case rel=>exact⟨a,rfl,ha,HLO,xL,HB2⟩
   ·have hltz:¬ (a:Int)<(ts.length:Int):=ah
    have ak0:decide ((a:Int)<(ts.length:Int))=false:=by simp;omega
    have xL:ak (a<ts.length->¬ cmpL (aR ts a).1 E<0):=λh=>absurd h hlt
    go_wp2_with fail;go_meet
    case rel=>exact⟨a,rfl,ha,HLO,xL,HB⟩
 case rest=>
 obtain⟨a,rfl,ha,HLO,HHI,HB⟩:=hcut;obtain⟨wo,rfl⟩:=aD wc
 have hBo:B<=wo.heap.size:=Mp hB HB.o.size;have QC:ak (iF wo B (V A ts.length cap) ts us):=HP0.o.keep λq _ hq=>HB.o.block q hq
 have HST:=aj (Ga.start wo B hBo ts us);have aax:ak (∀ wx i,Ix wo.heap.size wo wx->i<ts.length->∃ g Ai ci,A=M ⟨g,0,U⟩/\us[i]? = M (V Ai E.length ci,(aR ts i).2)/\wx.cell? ⟨g,i*2,U⟩=M (V Ai E.length ci)/\wx.cell? ⟨g,i*2+1,U⟩=M (I J (aR ts i).2)/\Ints wx Ai (aR ts i).1/\(aR ts i).1.length=E.length):=λwx i hb hi=>lH.o wx i (aH HB.o hb) hi
 have HEo:=aj (HE.o.below HB.o);clear lH HE HP0;go_wp2_with fail;generalize wo.alloc (Is #[] 173)=W1 at *
 go_loopg [8,9] (a+1) (λkx s8 s9 wr=>∃ (i:Nat) (A':Option I3) (cp:Nat),s8=V A' i cp/\s9=I J (i:Int)/\i<=a/\a - i<kx/\ak (Ga wo B ts us i (ts.take i) (us.take i) A' i cp wr))
 case atStart=>exact⟨0,_,0,rfl,by first | rfl | go_num,ah,ah,HST⟩
 case round=>
  clear HST;obtain⟨i,A',cp,rfl,rfl,hia,hkx,HS⟩:=hrel
  by_cases hlt:i<a
  ·have hltz:(i:Int)<(a:Int):=ah
   have hit:i<ts.length:=ah;obtain⟨g,Ai,ci,rfl,hx,d0,d1,_,_⟩:=aax.o wr i HS.o.below hit;have HX:=aj hx;have BK:ak (ts.take i++[aR ts i]=ts.take (i+1)/\us.take i++[(V Ai E.length ci,(aR ts i).2)]=us.take (i+1)):=⟨by rw[List.take_add_one,l7 hit];rfl,by rw[List.take_add_one,hx];rfl⟩
   obtain⟨v,hv⟩:=aD ((aR ts i).2)
   rw[<-hv] at d1 HX BK;clear hx hv;have hitz:(i:Int)<(ts.length:Int):=ah;go_wp2_with (at_builtin;refine wpList_append_own _ rfl _ _ 84 rfl wo.heap.size 173 i0 (Qp U 0 0 0) 2 32 underlying84 hi hz0 hz1 hz2 rfl bM _ i _ rfl (HS.o.own.alloc _) ⟨wr.heap.size,0,U⟩ 1 1 [V Ai E.length ci,I J v] rfl rfl ?c1 ?c2 ?c3 ?c4 ?c5 ?_)
   try (case c1=>exact sM _ _ _ _)
   try (case c2=>intro u hu;simp at hu;rcases hu with rfl | rfl<;>rfl)
   case c3=>unfold I2;omega
   case c4=>omega
   case c5=>first | (have:=HS.o.below.size;simp;omega)
   intro v2 w2 hown hg _;obtain⟨A2,c2,rfl,hS2⟩:=HS.o.copy QC.o hBo hit HX.o hown hg;have HS2:ak (Ga wo B ts us (i+1) (ts.take (i+1)) (us.take (i+1)) A2 (i+1) c2 w2):=by
    rw[<-BK.o.1,<-BK.o.2];exact hS2
   clear hown hg hS2 HS BK HX;go_wp2
   go_roundg (a - (i+1)+1)
   case measure=>omega
   case rel=>exact⟨i+1,A2,c2,rfl,by first | rfl | go_num,ah,ah,HS2⟩
  ·obtain rfl:i=a:=ah
   clear hkx;obtain⟨w3,rfl⟩:=aD wr
   go_upto_region 9 with fail
   go_cut [53] (λs53 wc=>∃ bb:Bool,s53=.bool bb/\ak (bb=true->i<ts.length/\(aR ts i).1=E)/\ak (bb=false->i<ts.length->0<cmpL (aR ts i).1 E)/\ak (Ix w3.heap.size w3 wc))
   case first=>
    by_cases hlt:i<ts.length
    ·have hltz:(i:Int)<(ts.length:Int):=ah
     obtain⟨g,Ai,ci,rfl,_,d0,d1,l1,l2⟩:=aax.o w3 i HS.o.below hlt;have HCM:ak (I0 Tryz.prog 249 #[V Ai E.length ci,V Ae E.length ce] w3 λe w'=>e=If (I J (cmpL (aR ts i).1 E))/\rF w3 w'):=by
      have h:=Jb Ai Ae ci ce (aR ts i).1 E w3 l1 (HEo.o.below HS.o.below) l2.symm (by rw[l2];omega);rw[l2] at h;exact h
     obtain⟨z,hz⟩:=aD (cmpL (aR ts i).1 E)
     rw[<-hz] at HCM;have HZ:=aj hz;have hhi:=HHI.o hlt;rw[<-hz] at hhi;clear hz l1 l2;have H1:ak ((z==0)=true->i<ts.length/\(aR ts i).1=E):=λh=>⟨hlt,cmpL_eq (by rw[<-HZ.o];simpa using h)⟩
     have H2:ak ((z==0)=false->i<ts.length->0<cmpL (aR ts i).1 E):=λh _=>by
      rw[<-HZ.o];have:z≠0:=by simpa using h
      omega
     clear hhi;go_wp2_with fail;refine HCM.o.mono ?_;rintro e w4 ⟨rfl,hd⟩;have yX:=aj (hd.below w3.heap.size);clear hd d0 d1;go_wp2_with fail;go_meet
     case rel=>exact⟨(z==0),rfl,H1,H2,yX⟩
    ·have hltz:¬ (i:Int)<(ts.length:Int):=ah
     have ak0:decide ((i:Int)<(ts.length:Int))=false:=by simp;omega
     go_wp2_with fail;go_meet
     case rel=>exact⟨false,rfl,(λh=>by simp at h),(λ_ h=>absurd h hlt),Jx _ _⟩
   case rest=>
   obtain⟨bb,rfl,HB1,HB2,yX⟩:=hcut;have EJ:=aj (HS.o.next yX.o);obtain⟨w4,rfl⟩:=aD wc
   clear HS yX;go_upto_if 53 with fail
   go_cut [2,7] (λs2 s7 wc=>∃ (c':Int) (a':Nat),s2=I J c'/\s7=I J (a':Int)/\i<=a'/\a'<=ts.length/\0<=c'/\c'<=1000002/\ak (QL ts E c i c' a')/\w4=wc)
   case first=>
    cases bb
    ·have HF:ak (QL ts E c i c i):=ZQ HC.o HLO.o ah (λh=>HB2.o rfl h) c0 c1
     go_wp2_with fail;go_meet
     case rel=>exact⟨c,i,rfl,rfl,ah,ah,c0,c1,HF,rfl⟩
    ·have hlt:=(HB1.o rfl).1
     have hltz:(i:Int)<(ts.length:Int):=ah;obtain⟨g,Ai,ci,rfl,_,d0,d1,_,_⟩:=aax.o w4 i EJ.o.below hlt;obtain⟨v,hv⟩:=aD ((aR ts i).2)
     rw[<-hv] at d1;have HF:ak (QL ts E c i (pl c v) (i+1)):=by
      rw[hv];exact abJ HC.o hlt (HB1.o rfl).2
     have kI:=aj (λwx=>Si c v wx);have hpb:=Fx c v;obtain⟨y,hy⟩:=aD (pl c v)
     rw[<-hy] at HF kI hpb;have hy0:=hpb.1;have hy1:=hpb.2;clear hpb hy hv d0;go_wp2_with (go_at_call 127;refine (kI.o _).mono ?_;rintro e w' ⟨rfl,rfl⟩);go_meet
     case rel=>exact⟨y,i+1,rfl,by first | rfl | go_num,ah,ah,hy0,hy1,HF,rfl⟩
   case rest=>
   obtain⟨c',a',rfl,rfl,akV,ama,hc0,hc1,HF,rfl⟩:=hcut;clear HLO HHI;go_upto_if 64 with fail
   go_cut [8] (λs8 wc=>∃ (A2:Option I3) (m cp2:Nat) (out:List av) (L:List (I1×Int)),s8=V A2 m cp2/\m<=i+1/\ak (Ga wo B ts us i out L A2 m cp2 wc)/\ak (out=ts.take i++n_ E c'))
   case first=>
    by_cases hcz:c'=0
    ·have hcb:(c' != 0)=false:=by simp[hcz]
     have HO:ak (ts.take i=ts.take i++n_ E c'):=by show _=_;rw[hcz];simp[n_]
     go_wp2_with fail;go_meet
     case rel=>exact⟨A',i,cp,_,_,rfl,ah,EJ,HO⟩
    ·have hcb:(c' != 0)=true:=by simp[hcz]
     have HO:ak (ts.take i++[(E,c')]=ts.take i++n_ E c'):=by show _=_;simp[n_,hcz]
     have yY:=aj (Dp Ae ce E w4 (HEo.o.below EJ.o.below) ah);clear hcz;go_wp2_with fail;refine yY.o.mono ?_;rintro e w5 ⟨Au,cu,rfl,hu,hb5⟩;have HU:=aj hu;have IL:=aj hb5;have Pj:=aj (EJ.o.next hb5);clear hu hb5 yY;go_wp2_with (at_builtin;refine wpList_append_own _ rfl _ _ 84 rfl wo.heap.size 173 i0 (Qp U 0 0 0) 2 32 underlying84 hi hz0 hz1 hz2 rfl bM _ i _ rfl (Pj.o.own.alloc _) ⟨w5.heap.size,0,U⟩ 1 1 [V Au E.length cu,I J c'] rfl rfl ?d1 ?d2 ?d3 ?d4 ?d5 ?_)
     try (case d1=>exact sM _ _ _ _)
     try (case d2=>intro u hu;simp at hu;rcases hu with rfl | rfl<;>rfl)
     case d3=>unfold I2;omega
     case d4=>omega
     case d5=>first | (have:=Pj.o.below.size;simp;omega)
     intro v2 w6 hown hg _;obtain⟨A2,c2,rfl,hS2⟩:=EJ.o.more (t:=(E,c')) hBo IL.o HU.o hown hg;have HS2:=aj hS2;clear hown hg hS2 Pj;go_wp2_with fail;go_meet
     case rel=>exact⟨A2,i+1,c2,_,_,rfl,ah,HS2,HO⟩
   case rest=>
   obtain⟨A2,m,cp2,out,L,rfl,hmi,Pj,QB⟩:=hcut;obtain⟨w6,rfl⟩:=aD wc
   have HS6:=aj (Pj.o.skip akV);clear EJ Pj;go_wp2
   go_loopg [8,10] (ts.length+1) (λkx s8 Hy wr=>∃ (k m:Nat) (A2:Option I3) (cp2:Nat) (out:List av) (L:List (I1×Int)),s8=V A2 m cp2/\Hy=I J (k:Int)/\a'<=k/\k<=ts.length/\ts.length - k<kx/\m<=k+1/\ak (Ga wo B ts us k out L A2 m cp2 wr)/\ak (out=ts.take i++n_ E c'++(ts.take k).drop a'))
   case atStart=>exact⟨a',m,A2,cp2,out,L,rfl,rfl,ah,ah,ah,ah,HS6,by
    show _=_;rw[List.drop_eq_nil_of_le (by simp;omega),List.append_nil];exact QB.o⟩
   case round=>
    clear HS6 QB;obtain⟨k,m,A2,cp2,out,L,rfl,rfl,hak,hkl,hkx,hmk,HS,QB⟩:=hrel
    by_cases hlt:k<ts.length
    ·have hltz:(k:Int)<(ts.length:Int):=ah
     obtain⟨g,Ai,ci,rfl,hx,e0,e1,_,_⟩:=aax.o wr k HS.o.below hlt;have HX:=aj hx;have BK:ak (out++[aR ts k]=ts.take i++n_ E c'++(ts.take (k+1)).drop a'):=by
      show _=_;have:=KD (us:=ts) hak hlt;unfold IB at this;rw[this,QB.o,List.append_assoc]
     obtain⟨v,hv⟩:=aD ((aR ts k).2)
     rw[<-hv] at e1 HX;clear hx hv;go_wp2_with (at_builtin;refine wpList_append_own _ rfl _ _ 84 rfl wo.heap.size 173 i0 (Qp U 0 0 0) 2 32 underlying84 hi hz0 hz1 hz2 rfl bM _ m _ rfl (HS.o.own.alloc _) ⟨wr.heap.size,0,U⟩ 1 1 [V Ai E.length ci,I J v] rfl rfl ?f1 ?f2 ?f3 ?f4 ?f5 ?_)
     try (case f1=>exact sM _ _ _ _)
     try (case f2=>intro u hu;simp at hu;rcases hu with rfl | rfl<;>rfl)
     case f3=>unfold I2;omega
     case f4=>omega
     case f5=>first | (have:=HS.o.below.size;simp;omega)
     intro v2 w7 hown hg _;obtain⟨A3,c3,rfl,hS2⟩:=HS.o.copy QC.o hBo hlt HX.o hown hg;have HS2:=aj hS2;clear hown hg hS2 HS HX QB;go_wp2
     go_roundg (ts.length - (k+1)+1)
     case measure=>omega
     case rel=>exact⟨k+1,m+1,A3,c3,_,_,rfl,by first | rfl | go_num,ah,ah,ah,ah,HS2,BK⟩
    ·obtain rfl:k=ts.length:=ah
     have HE:ak (Pq B ts E c w (If (V A2 m cp2)) wr):=by
      have ho:=QB.o;rw[List.take_length] at ho;have hm:=HS.o.len;have hp:=HS.o.parts;have hf:=HF.o;unfold QL at hf;rw[<-ho] at hf;refine⟨A2,cp2,out,by rw[hm],⟨L,by rw[hm];exact hp⟩,hf.1,hf.2,λt ht=>?_,by rw[hm];exact hmk,aH HB.o HS.o.below⟩;rw[ho] at ht
      rcases List.mem_append.1 ht with ht | ht
      ·rcases List.mem_append.1 ht with ht | ht
       ·exact LK.o t (List.mem_of_mem_take ht)
       ·rw[(tu ht).1]
      ·exact LK.o t (List.mem_of_mem_drop ht)
     go_wp2;go_ret;exact HE.o
def Pt(a:Int×List av)(b:Int)(w:Iv)(e:Ending)(w':Iv):Prop:=
 Ix w.heap.size w w'/\∃ A cp,e=If (.tuple #[fJ a.1 A a.2.length cp,I J b])/\RT w' w.heap.size w'.heap.size A a.2
structure D9 (W0:Iv) (p B:Nat) (vars:Int) (L:List av) (n:Nat) (out:List av) (m cp:Nat) (A:Option I3) (wr:Iv):Prop where
 box:au wr p 86 [I J vars,V A m cp]
 len:out.length=m
 row:gT wr B (V A m cp) out
 canon:Canon out
 Cx:∀ e,eH out e=eH L e
 J3:jG n out
 only:aC (λq=>q=p) W0 wr
 pB:p<B
 B0:B=W0.heap.size
variable{W0:Iv}{p:Nat}{vars:Int}
theorem D9.next{L:List av}(h:D9 W0 p B vars L n out m cp A wr)(hb:Ix wr.heap.size wr w1):D9 W0 p B vars L n out m cp A w1:=
 ⟨h.box.next hb,h.len,h.row.below hb,h.canon,h.Cx,h.J3,h.only.trans (aC.of_below hb),h.pB,h.B0⟩
theorem D9.size{L:List av}(h:D9 W0 p B vars L n out m cp A wr):B<=wr.heap.size:=by rw[h.B0];exact h.only.size
theorem D9.row'{L:List av}(h:D9 W0 p B vars L n out m cp A wr):gT wr B (V A out.length cp) out:=by rw[h.len];exact h.row
theorem D9.put{w3 w4:Iv}{c4:Nat}{L jM:List av}{A4:Option I3}(h:D9 W0 p B vars L n out m cp A w3)(hn:E.length=n)(hr:gT w4 B (V A4 jM.length c4) jM)(hc:Canon jM)
  (hco:∀ x,eH jM x=if E=x then pl c (eH out E) else eH out x) (hl:jG E.length jM) (hb:Ix w3.heap.size w3 w4):D9 W0 p B vars (L++[(E,c)]) n jM jM.length c4 A4 (w4.setCell ⟨p,1,U⟩ (V A4 jM.length c4)):=by
 have hB:=h.B0;have hpB:=h.pB;refine⟨?_,rfl, ?_,hc,λe=>?_,hn ▸ hl, ?_,h.pB,h.B0⟩
 ·have:=(h.box.next hb).aJ 1 (V A4 jM.length c4)
  simpa using this
 ·exact hr.keep λq hq _=>J1 _ _ _ _ (λe=>by simp only at e;omega)
 ·rw[eB,<-h.Cx]
  exact PK (t:=(E,c)) hco e
 ·exact (h.only.trans (aC.of_below hb)).chain (T:=λq=>q=p) ⟨rfl,rfl,rfl,by simp[World.setCell],λq _ hq=>J1 _ _ _ _ hq⟩ (λq _ h=>h)
theorem D9.same{L L':List av}(h:D9 W0 p B vars L n out m cp A wr)(e:L=L'):D9 W0 p B vars L' n out m cp A wr:=e ▸ h
end
section
open Plain
open Classical in
noncomputable def kD (L:List av):List av:=if h:∃ R,Canon R/\∀ e,eH R e=eH L e then Classical.choose h else []
theorem pO{R L:List av}(h:Canon R)(hc:∀ e,eH R e=eH L e):R=kD L:=by
 have hx:∃ R,Canon R/\∀ e,eH R e=eH L e:=⟨R,h,hc⟩
 unfold kD;rw[dif_pos hx];obtain⟨h1,h2⟩:=Classical.choose_spec hx;exact h.unique h1 λe=>by rw[hc,h2]
end
end Go.Proofs.YtgfkglhelfkpoaaGreat
