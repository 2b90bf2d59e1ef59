/- Texts put together: WPolyM, WSort3, WTRow, WGath1, WPut, WRetQ, PDer. -/
import Derived.Test.YtgfkglhelfkpoaaGreatRX
import Derived.Test.YtgfkglhelfkpoaaGreatRP
import Derived.Test.YtgfkglhelfkpoaaGreatRSC
import Derived.Test.YtgfkglhelfkpoaaGreatRB
import Derived.Laws.OwnMore
import Derived.Deep.Onto
import Derived.WalkSpells
import Derived.Deep.AppendLies
import Derived.Deep.Upon
import Derived.Test.YtgfkglhelfkpoaaGreatRSA
import Derived.Test.YtgfkglhelfkpoaaGreatRH
import Derived.Deep.CutBlock
import Derived.Deep.LoopGhost
set_option maxRecDepth 100000
set_option maxHeartbeats 4000000
open Go.Lib (hid)
namespace Go.Proofs.YtgfkglhelfkpoaaGreat
section
open Go.RowKit Plain
theorem totT_cons (t:Term') (r:List Term'):totT (t :: r)=t.1.length+totT r:=by simp [totT,tot]
end
section
open Go.RowKit Plain PSort
open Go.Sort (PermIn SortedIn SWO swp swp_permIn permIn_refl permIn_trans permIn_mono size_swp HoldsK grow)
section
variable {w0:World} {blk n' off:Nat} [Inhabited (TmS w0 blk n')] {d0:Array (TmS w0 blk n')}
theorem stable_any (H:SortC off d0) (cap:Nat) (w:World) (hsm:d0.size≤1000000000) (S:SW2 w0 blk n' off d0 w) :
  Calls Tryz.prog 237 #[.slice (some ⟨blk,off,none⟩) d0.size cap,.int .i64 d0.size,.func (.func 178) #[] #[]] w fun e w'=>e=.returned (.tuple #[])∧∃ d',SW2 w0 blk n' off d' w'∧PermIn 0 d0.size d0 d'∧SortedIn (ltOf cfS) 0 d0.size d':=by
 obtain ⟨n,hn⟩:∃ n,n=d0.size:=⟨_,rfl⟩
 have S0:=hid S
 have HIN:Hid (∀ (a b:Nat) (az bz:Int) (d:Array (TmS w0 blk n')) (wr:World),az=a→bz=b→d.size=d0.size→SW2 w0 blk n' off d wr→a≤b→b≤n →
   Calls Tryz.prog 267 #[.slice (some ⟨blk,off,none⟩) n cap,.int .i64 az,.int .i64 bz,.func (.func 178) #[] #[]] wr fun e w'=>e=.returned (.tuple #[])∧∃ d',SW2 w0 blk n' off d' w'∧PermIn a b d d'∧SortedIn (ltOf cfS) a b d'):=by
  intro a b az bz d wr ha hb hd hS h1 h2
  have h:=insertion_any H cap a b az bz ha hb d wr hd hS h1 (by omega)
  rwa [hd,←hn] at h
 have HSY:Hid (∀ (a m b:Nat) (az mz bz:Int) (d:Array (TmS w0 blk n')) (wr:World),az=a→mz=m→bz=b→d.size=d0.size→SW2 w0 blk n' off d wr→a<m→m<b→b≤n→SortedIn (ltOf cfS) a m d→SortedIn (ltOf cfS) m b d →
   Calls Tryz.prog 268 #[.slice (some ⟨blk,off,none⟩) n cap,.int .i64 az,.int .i64 mz,.int .i64 bz,.func (.func 178) #[] #[]] wr fun e w'=>e=.returned (.tuple #[])∧∃ d',SW2 w0 blk n' off d' w'∧PermIn a b d d'∧SortedIn (ltOf cfS) a b d'):=by
  intro a m b az mz bz d wr ha hm hb hd hS h1 h2 h3 h4 h5
  have h:=symMerge_any H cap (b - a) a m b az mz bz d wr ha hm hb hd hS h1 h2 (by omega) (Nat.le_refl _) h4 h5
  rwa [←hn] at h
 have HN:Hid (n=d0.size):=hn
 have hsm':n≤1000000000:=by omega
 rw [←hn]
 clear S hsm hn
 go_enter Tryz.func237,Tryz.ntmps237
 go_wp2
 go_loopg [7,8] (n+1) (fun kx s7 s8 wr=>∃ (a:Nat) (d:Array (TmS w0 blk n')),s7=.int .i64 (a:Int)∧s8=.int .i64 ((a:Int)+20)∧a≤n∧n - a<kx∧Hid (d.size=d0.size)∧Hid (SW2 w0 blk n' off d wr)∧Hid (PermIn 0 n d0 d)∧Hid (LBlk (ltOf cfS) 20 d a))
 case atStart=>exact ⟨0,d0,rfl,by first | rfl | go_num,by omega,by omega,rfl,S0,permIn_refl _ _ _,LBlk.zero⟩
 case round=>
  clear S0
  obtain ⟨a,d,rfl,rfl,han,hkx,HD,S1,HP,HB⟩:=hrel
  by_cases hlt:a+20≤n
  ·have hltz:(a:Int)+20≤(n:Int):=by omega
   go_wp2_with fail
   refine (HIN.out a (a+20) _ _ d wr rfl (by omega) HD.out S1.out (by omega) hlt).mono ?_
   rintro e w2 ⟨rfl,d2,hS2,hP2,hO2⟩
   have HD2:Hid (d2.size=d0.size):=hP2.1.trans HD.out
   have HP2:Hid (PermIn 0 n d0 d2):=permIn_trans _ _ _ _ _ HP.out (permIn_mono _ _ a (a+20) _ _ (by omega) hlt (by rw [HD.out,←HN.out];exact Nat.le_refl _) hP2)
   have HB2:Hid (LBlk (ltOf cfS) 20 d2 (a+20)):=.step (LBlk.congr HB.out fun i hi=>hP2.2.1 i (Or.inl hi)) hO2
   have HS2:=hid hS2
   clear hS2 hP2 hO2 S1 HP HB HD
   go_wp2
   go_roundg (n - (a+20)+1)
   case measure=>omega
   case rel=>exact ⟨a+20,d2,by first | rfl | go_num,by first | rfl | go_num | (congr 1;omega),by omega,by omega,HD2,HS2,HP2,HB2⟩
  ·have hltz:¬ (a:Int)+20≤(n:Int):=by omega
   go_wp2_with fail
   refine (HIN.out a n _ _ d wr rfl rfl HD.out S1.out han (Nat.le_refl _)).mono ?_
   rintro e w2 ⟨rfl,d2,hS2,hP2,hO2⟩
   have HD2:Hid (d2.size=d0.size):=hP2.1.trans HD.out
   have HP2:Hid (PermIn 0 n d0 d2):=permIn_trans _ _ _ _ _ HP.out (permIn_mono _ _ a n _ _ (by omega) (Nat.le_refl _) (by rw [HD.out,←HN.out];exact Nat.le_refl _) hP2)
   have HB2:Hid (Blk (ltOf cfS) 20 d2 n 0):=Blk.from (LBlk.congr HB.out fun i hi=>hP2.2.1 i (Or.inl hi)) (.last (by omega) hO2) han
   have HS2:=hid hS2
   clear hS2 hP2 hO2 S1 HP HB HD
   go_wp2
   go_loopg [6] (n+20) (fun kx s6 wr=>∃ (bs:Nat) (d:Array (TmS w0 blk n')),s6=.int .i64 (bs:Int)∧0<bs∧bs≤2*n+20∧n+20 - bs≤kx∧Hid (d.size=d0.size)∧Hid (SW2 w0 blk n' off d wr)∧Hid (PermIn 0 n d0 d)∧Hid (Blk (ltOf cfS) bs d n 0))
   case atStart=>exact ⟨20,d2,rfl,by omega,by omega,by omega,HD2,HS2,HP2,HB2⟩
   case round=>
    clear HD2 HS2 HP2 HB2 hkx
    obtain ⟨bs,d,rfl,hbs0,hbsn,hkx,HD,S1,HP,HB⟩:=hrel
    by_cases hbn:bs<n
    ·have hbnz:(bs:Int)<(n:Int):=by omega
     have hwb:IntKind.i64.wrap (2*(bs:Int))=2*(bs:Int):=by rw [IntKind.wrap_i64];omega
     go_wp2
     go_loopg [7,8] (n+1) (fun kx s7 s8 wr=>∃ (a:Nat) (d:Array (TmS w0 blk n')),s7=.int .i64 (a:Int)∧s8=.int .i64 ((a:Int)+2*(bs:Int))∧a≤n∧n - a<kx∧Hid (d.size=d0.size)∧Hid (SW2 w0 blk n' off d wr)∧Hid (PermIn 0 n d0 d)∧Hid (LBlk (ltOf cfS) (2*bs) d a)∧Hid (Blk (ltOf cfS) bs d n a))
     case atStart=>exact ⟨0,d,rfl,by first | rfl | go_num | (congr 1;omega),by omega,by omega,HD,S1,HP,LBlk.zero,HB⟩
     case round=>
      rename Nat=>kx0
      clear S1 HP HB HD
      obtain ⟨a,d,rfl,rfl,han,hkx2,HD,S1,HP,HL,HB⟩:=hrel
      by_cases hlt:a+2*bs≤n
      ·have hltz:(a:Int)+2*(bs:Int)≤(n:Int):=by omega
       have HTW:=hid (Blk.two HB.out hbs0 hlt)
       go_wp2_with fail
       refine (HSY.out a (a+bs) (a+2*bs) _ _ _ d wr rfl (by omega) (by omega) HD.out S1.out (by omega) (by omega) hlt HTW.out.1 HTW.out.2.1).mono ?_
       rintro e w2 ⟨rfl,d2,hS2,hP2,hO2⟩
       have HD2:Hid (d2.size=d0.size):=hP2.1.trans HD.out
       have HP2:Hid (PermIn 0 n d0 d2):=permIn_trans _ _ _ _ _ HP.out (permIn_mono _ _ a (a+2*bs) _ _ (by omega) hlt (by rw [HD.out,←HN.out];exact Nat.le_refl _) hP2)
       have HL2:Hid (LBlk (ltOf cfS) (2*bs) d2 (a+2*bs)):=.step (LBlk.congr HL.out fun i hi=>hP2.2.1 i (Or.inl hi)) hO2
       have HB2:Hid (Blk (ltOf cfS) bs d2 n (a+2*bs)):=Blk.congr HTW.out.2.2 fun i hi=>hP2.2.1 i (Or.inr hi)
       have HS2:=hid hS2
       have hwb2:IntKind.i64.wrap ((a:Int)+2*(bs:Int)+2*(bs:Int))=(a:Int)+2*(bs:Int)+2*(bs:Int):=by rw [IntKind.wrap_i64];omega
       clear hS2 hP2 hO2 S1 HP HB HL HD HTW
       go_wp2
       go_roundg (n - (a+2*bs)+1)
       case measure=>omega
       case rel=>exact ⟨a+2*bs,d2,by first | rfl | go_num | (congr 1;omega),by first | rfl | go_num | (congr 1;omega),by omega,by omega,HD2,HS2,HP2,HL2,HB2⟩
      ·have hltz:¬ (a:Int)+2*(bs:Int)≤(n:Int):=by omega
       have hwm:IntKind.i64.wrap ((bs:Int)*2)=(bs:Int)*2:=by rw [IntKind.wrap_i64];omega
       by_cases hm:a+bs<n
       ·have hmz:(a:Int)+(bs:Int)<(n:Int):=by omega
        have HTW:=hid (Blk.half HB.out (by omega) hm)
        go_wp2_with fail
        refine (HSY.out a (a+bs) n _ _ _ d wr rfl (by omega) rfl HD.out S1.out (by omega) (by omega) (Nat.le_refl _) HTW.out.1 HTW.out.2).mono ?_
        rintro e w2 ⟨rfl,d2,hS2,hP2,hO2⟩
        have HD2:Hid (d2.size=d0.size):=hP2.1.trans HD.out
        have HP2:Hid (PermIn 0 n d0 d2):=permIn_trans _ _ _ _ _ HP.out (permIn_mono _ _ a n _ _ (by omega) (Nat.le_refl _) (by rw [HD.out,←HN.out];exact Nat.le_refl _) hP2)
        have HB2:Hid (Blk (ltOf cfS) (bs*2) d2 n 0):=by
         have h:=Blk.from (LBlk.congr HL.out fun i hi=>hP2.2.1 i (Or.inl hi)) (.last (by omega) hO2) han
         rw [Nat.mul_comm];exact h
        have HS2:=hid hS2
        clear hS2 hP2 hO2 S1 HP HB HL HD HTW
        go_wp2
        go_roundg (n+20 - bs*2)
        case measure=>omega
        case rel=>exact ⟨bs*2,d2,by first | rfl | go_num | (congr 1;omega),by omega,by omega,by omega,HD2,HS2,HP2,HB2⟩
       ·have hmz:¬ (a:Int)+(bs:Int)<(n:Int):=by omega
        have HB2:Hid (Blk (ltOf cfS) (bs*2) d n 0):=by
         have h:=Blk.from HL.out (.last (by omega) (Blk.one HB.out (by omega))) han
         rw [Nat.mul_comm];exact h
        clear HB HL
        go_wp2
        go_roundg (n+20 - bs*2)
        case measure=>omega
        case rel=>exact ⟨bs*2,d,by first | rfl | go_num | (congr 1;omega),by omega,by omega,by omega,HD,S1,HP,HB2⟩
    ·have hbnz:¬ (bs:Int)<(n:Int):=by omega
     have HE:Hid (∃ d',SW2 w0 blk n' off d' wr∧PermIn 0 n d0 d'∧SortedIn (ltOf cfS) 0 n d'):=⟨d,S1.out,HP.out,Blk.one HB.out (by omega)⟩
     go_wp2
     go_end0
     exact ⟨rfl,HE.out⟩
end
theorem sortStable_any (cap blk off n:Nat) (ts:List Term') (w:World) (hblk:blk<w.heap.size) (h:RowT w blk off n ts) (hl:ts.length≤1000000000) (hn:n≤9223372036854775807) (hne:0<ts.length) :
  Calls Tryz.prog 177 #[.slice (some ⟨blk,off,none⟩) ts.length cap,.func (.func 178) #[] #[]] w fun e w'=>e=.returned (.tuple #[])∧∃ ts',ts'.Perm ts∧ts'.Pairwise (fun s t=>¬ cmpL t.1 s.1<0)∧RowT w' blk off n ts'∧Only (fun q=>q=blk) w w':=by
 obtain ⟨A0,c0,_,_,_,_,h5⟩:=h 0 ts[0] (List.getElem?_eq_getElem hne)
 haveI:Inhabited (TmS w blk n):=⟨⟨_,h5⟩⟩
 obtain ⟨d,hd,hH,hts⟩:=row_elems h
 have HC:=hid (stable_any (w0:=w) (blk:=blk) (n':=n) (off:=off) (d0:=d) ⟨hH,hblk,by omega,hn⟩ cap w (by omega) (SWK.start hH))
 rw [hd] at HC
 have HF:Hid (∀ w' d',SW2 w blk n off d' w'→PermIn 0 ts.length d d'→SortedIn (ltOf cfS) 0 ts.length d'→∃ ts',ts'.Perm ts∧ts'.Pairwise (fun s t=>¬ cmpL t.1 s.1<0)∧RowT w' blk off n ts'∧Only (fun q=>q=blk) w w'):=by
  intro w' d' hS hP hO
  rw [←hd] at hP hO
  exact sorted_row hblk hH hts hP hO hS
 clear h hH hts hd h5
 go_enter Tryz.func177,Tryz.ntmps177
 go_wp2_with fail
 refine HC.out.mono ?_
 rintro e w2 ⟨rfl,d',hS,hP,hO⟩
 have HE:=hid (HF.out w2 d' hS hP hO)
 clear hS hP hO
 go_wp2
 go_end0
 exact ⟨rfl,HE.out⟩
end
section
open Go.RowKit Plain
def cellsT:List (Value×Int)→List Value
 | []=>[]
 | (u,c) :: r=>u :: .int .i64 c :: cellsT r
theorem cellsT_length (l:List (Value×Int)):(cellsT l).length=l.length*2:=by
 induction l with
 | nil=>rfl
 | cons x r ih=>obtain ⟨u,c⟩:=x;simp only [cellsT,List.length_cons,ih];omega
theorem cellsT_append (l m:List (Value×Int)):cellsT (l++m)=cellsT l++cellsT m:=by
 induction l with
 | nil=>rfl
 | cons x r ih=>obtain ⟨u,c⟩:=x;simp [cellsT,ih]
theorem cellsT_get {l:List (Value×Int)} {i:Nat} {u:Value} {c:Int} (h:l[i]? = some (u,c)):(cellsT l)[i*2]? = some u∧(cellsT l)[i*2+1]? = some (.int .i64 c):=by
 induction l generalizing i with
 | nil=>simp at h
 | cons x r ih=>
  obtain ⟨u',c'⟩:=x
  cases i with
  | zero=>simp at h;simp [cellsT,h]
  | succ i=>
   simp at h
   have:=ih h
   rw [show (i+1)*2=i*2+1+1 by omega]
   simp only [cellsT,List.getElem?_cons_succ]
   exact this
theorem cellsT_one {l:List (Value×Int)} (h:∀ x∈l,x.1.oneCell'=true):∀ u∈cellsT l,u.oneCell'=true:=by
 induction l with
 | nil=>intro u hu;simp [cellsT] at hu
 | cons x r ih=>
  obtain ⟨u',c'⟩:=x
  intro u hu
  simp only [cellsT,List.mem_cons] at hu
  rcases hu with rfl | rfl | hu
  ·exact h (u,c') (List.mem_cons_self ..)
  ·rfl
  ·exact ih (fun y hy=>h y (List.mem_cons_of_mem _ hy)) u hu
theorem own2_typed {w:World} {base e n:Nat} {v:Value} {xs:List Value} (h:w.ownsRow base e 2 v n xs) {g:Nat} (hg:v.ownBlock=some g):Typed w g e:=by
 rcases h.2 with ⟨rfl,_⟩ | ⟨g',cap,cur,rfl,_,hh,_⟩
 ·simp [Value.ownBlock] at hg
 ·simp [Value.ownBlock] at hg;subst hg;exact ⟨cur,hh⟩
theorem ownsRow_keep2 {w w':World} {base e n:Nat} {v:Value} {xs:List Value} (h:w.ownsRow base e 2 v n xs) (hb:∀ g,v.ownBlock=some g→w'.heap[g]? = w.heap[g]?):w'.ownsRow base e 2 v n xs:=by
 refine ⟨h.1, ?_⟩
 rcases h.2 with hn | ⟨g,cap,cur,rfl,hb',hgg,rest⟩
 ·exact .inl hn
 ·exact .inr ⟨g,cap,cur,rfl,hb',by rw [hb g rfl];exact hgg,rest⟩
theorem typed_keep {w w':World} {b:Nat} {t:TypeId} (h:Typed w b t) (hb:w'.heap[b]? = w.heap[b]?):Typed w' b t:=by
 obtain ⟨cs,hc⟩:=h
 exact ⟨cs,hb.trans hc⟩
structure TParts (w:World) (B:Nat) (v:Value) (ts:List Term') (us:List (Value×Int)):Prop where
 len:us.length=ts.length
 own:w.ownsRow B 173 2 v ts.length (cellsT us)
 row:∀ (i:Nat) (u:Value×Int) (t:Term'),us[i]? = some u→ts[i]? = some t→u.2=t.2∧IntRow w B u.1 t.1
 dist:∀ (i j:Nat) (u u':Value×Int) (q:Nat),i<j→us[i]? = some u→us[j]? = some u'→u.1.ownBlock=some q→u'.1.ownBlock≠some q
def TRow (w:World) (B:Nat) (v:Value) (ts:List Term'):Prop:=∃ us,TParts w B v ts us
theorem TParts.keep {w w':World} {B:Nat} {v:Value} {ts:List Term'} {us:List (Value×Int)} (h:TParts w B v ts us) (hb:∀ q,B≤q→q<w.heap.size→w'.heap[q]? = w.heap[q]?):TParts w' B v ts us:=by
 refine ⟨h.len,ownsRow_keep2 h.own fun g hg=>?_,fun i u t hu ht=>?_,h.dist⟩
 ·have:=World.ownsRow.lt h.own g hg;exact hb g this.1 this.2
 ·obtain ⟨h1,h2⟩:=h.row i u t hu ht
  exact ⟨h1,h2.keep fun g hg=>by have:=h2.lt hg;exact hb g this.1 this.2⟩
theorem TRow.keep {w w':World} {B:Nat} {v:Value} {ts:List Term'} (h:TRow w B v ts) (hb:∀ q,B≤q→q<w.heap.size→w'.heap[q]? = w.heap[q]?):TRow w' B v ts:=by
 obtain ⟨us,h⟩:=h;exact ⟨us,h.keep hb⟩
theorem TRow.below {w w':World} {B:Nat} {v:Value} {ts:List Term'} (h:TRow w B v ts) (hb:Below w.heap.size w w'):TRow w' B v ts:=h.keep fun q _ hq=>hb.block q hq
theorem TRow.only {w w':World} {B:Nat} {v:Value} {ts:List Term'} {S:Nat→Prop} (h:TRow w B v ts) (ho:Only S w w') (hS:∀ q,B≤q→¬ S q):TRow w' B v ts:=h.keep fun q hq hs=>ho.block q hs (hS q hq)
theorem TRow.form {w:World} {B:Nat} {v:Value} {ts:List Term'} (h:TRow w B v ts):∃ A cap,v=.slice A ts.length cap:=by
 obtain ⟨us,h⟩:=h
 rcases h.own.2 with ⟨hv,h0⟩ | ⟨g,cap,_,hv,_⟩
 ·exact ⟨none,0,by rw [hv,h0]⟩
 ·exact ⟨_,_,hv⟩
theorem TRow.nilv (w:World) (B:Nat):TRow w B (.slice none 0 0) []:=⟨[],rfl,⟨rfl,.inl ⟨rfl,rfl⟩⟩,fun i u t h=>by simp at h,fun i j u u' q _ h=>by simp at h⟩
theorem TRow.start (w:World):TRow (w.alloc (.cells #[] 173)) w.heap.size (.slice (some ⟨w.heap.size,0,none⟩) 0 0) []:=
 ⟨[],rfl,World.ownsRow_lit w #[] 0 (Nat.le_refl _) (by unfold maxLen;omega) (by rfl),fun i u t h=>by simp at h,fun i j u u' q _ h=>by simp at h⟩
theorem TRow.lower {w:World} {B B':Nat} {v:Value} {ts:List Term'} (h:TRow w B v ts) (hB:B'≤B):TRow w B' v ts:=by
 obtain ⟨us,h⟩:=h
 exact ⟨us,h.len,h.own.mono hB,fun i u t hu ht=>⟨(h.row i u t hu ht).1,World.ownsRow.mono (h.row i u t hu ht).2 hB⟩,h.dist⟩
theorem TParts.push {wr w1 w2:World} {B cp:Nat} {Av:Option Addr} {v2 u:Value} {ts:List Term'} {us:List (Value×Int)} {t:Term'} (h:TParts wr B (.slice Av ts.length cp) ts us) (hB:B≤wr.heap.size)
  (hb:Below wr.heap.size wr w1) (hu:IntRow w1 wr.heap.size u t.1) (hown:w2.ownsRow B 173 2 v2 (ts.length+1) (cellsT us++[u,.int .i64 t.2])) (hg:w1.grownBy w2 (Value.slice Av ts.length cp).ownBlock) :
  TRow w2 B v2 (ts++[t])∧Below B wr w2:=by
 have hlen:=h.len
 have hty:∀ q,(Value.slice Av ts.length cp).ownBlock=some q→Typed w1 q 173:=fun q hq=>typed_keep (own2_typed h.own hq) (hb.block q (World.ownsRow.lt h.own q hq).2)
 have hkeep:∀ b,b<w1.heap.size→Typed w1 b 2→w2.heap[b]? = w1.heap[b]?:=fun b hbl ht=>
  hg.block b hbl fun e=>ht.ne (hty b e.symm) (by decide) rfl
 refine ⟨⟨us++[(u,t.2)],by simp [hlen], ?_,fun i x s hx hs=>?_,fun i j x x' q hij hx hx' hq=>?_⟩, ?_⟩
 ·rw [cellsT_append]
  simpa [cellsT] using hown
 ·by_cases hi:i<ts.length
  ·rw [List.getElem?_append_left (by omega)] at hx hs
   obtain ⟨h1,h2⟩:=h.row i x s hx hs
   have h3:IntRow w1 B x.1 s.1:=h2.keep fun g hg'=>hb.block g (h2.lt hg').2
   exact ⟨h1,h3.keep fun g hg'=>hkeep g (h3.lt hg').2 (own_typed h3 hg')⟩
  ·have hil:=(List.getElem?_eq_some_iff.1 hs).1
   simp at hil
   obtain rfl:i=ts.length:=by omega
   rw [List.getElem?_append_right (by omega)] at hx hs
   rw [←hlen] at hx
   simp at hx hs
   subst hx;subst hs
   have h3:IntRow w1 B u t.1:=World.ownsRow.mono hu hB
   exact ⟨rfl,h3.keep fun g hg'=>hkeep g (h3.lt hg').2 (own_typed h3 hg')⟩
 ·by_cases hj:j<ts.length
  ·rw [List.getElem?_append_left (by omega)] at hx hx'
   exact h.dist i j x x' q hij hx hx' hq
  ·have hjl:=(List.getElem?_eq_some_iff.1 hx').1
   simp at hjl
   obtain rfl:j=us.length:=by omega
   rw [List.getElem?_append_left (by omega)] at hx
   simp at hx'
   subst hx'
   obtain ⟨s,hs⟩:∃ s,ts[i]? = some s:=⟨_,List.getElem?_eq_getElem (by omega)⟩
   have h2:=((h.row i x s hx hs).2.lt hq).2
   intro e
   have:=(hu.lt e).1
   omega
 ·have hs:=hg.size
  have hs2:=hb.size
  exact ⟨hg.os.trans hb.os,hg.tape.trans hb.tape,hg.output.trans hb.output,by omega,fun i hi=>(hg.block i (by omega) fun e=>by have:=(World.ownsRow.lt h.own i e.symm).1;omega).trans (hb.block i (by omega))⟩
theorem TRow.rt {w:World} {B cap:Nat} {A:Option Addr} {ts:List Term'} (h:TRow w B (.slice A ts.length cap) ts) (hB:B≤w.heap.size):RT w B w.heap.size A ts:=by
 obtain ⟨us,h⟩:=h
 refine ⟨hB,Nat.le_refl _,fun hn=>?_,fun _ _ h hb=>h.keep hb⟩
 obtain ⟨g,c,hv,hg1,hg2⟩:=World.ownsRow.form h.own hn
 have hA:A=some ⟨g,0,none⟩:=by injection hv
 have hc:cap=c:=by injection hv
 subst hA;subst hc
 have hgt:=own2_typed h.own (g:=g) rfl
 refine ⟨g,0,fun i=>((us[i]?.getD (.slice none 0 0,0)).1.ownBlock).getD 0,rfl,hg1,hg2,fun i t ht=>?_,fun i j ti tj hij hi hj l1 l2=>?_⟩
 ·have hi:i<ts.length:=(List.getElem?_eq_some_iff.1 ht).1
  obtain ⟨x,hx⟩:∃ x,us[i]? = some x:=⟨us[i]'(by rw [h.len];exact hi),List.getElem?_eq_getElem (by rw [h.len];exact hi)⟩
  obtain ⟨h1,h2⟩:=h.row i x t hx ht
  obtain ⟨Ai,ca,hu⟩:=h2.form
  have hgt2:=cellsT_get (l:=us) (i:=i) (u:=x.1) (c:=x.2) hx
  have c0:=(World.ownsRow.cellAt h.own (i*2) (by omega)).trans hgt2.1
  have c1:=(World.ownsRow.cellAt h.own (i*2+1) (by omega)).trans hgt2.2
  refine ⟨Ai,ca,by rw [Nat.zero_add,c0,hu],by rw [Nat.zero_add,c1,h1],World.ownsRow.frozenAt h.own _,fun h0=>?_⟩
  rw [hu] at h2
  obtain ⟨q,oq,e1,e2,e3,e4⟩:=h2.intsM h0
  subst e1
  have hq:(Value.slice (some ⟨q,oq,none⟩) t.1.length ca).ownBlock=some q:=rfl
  have hqt:=own_typed h2 hq
  have hgi:((us[i]?.getD (.slice none 0 0,0)).1.ownBlock).getD 0=q:=by rw [hx];simp [hu,Value.ownBlock]
  simp only [hgi]
  exact ⟨oq,rfl,e2,e3,hqt.ne hgt (by decide),e4⟩
 ·have hil:i<ts.length:=(List.getElem?_eq_some_iff.1 hi).1
  have hjl:j<ts.length:=(List.getElem?_eq_some_iff.1 hj).1
  obtain ⟨x,hx⟩:∃ x,us[i]? = some x:=⟨us[i]'(by rw [h.len];exact hil),List.getElem?_eq_getElem (by rw [h.len];exact hil)⟩
  obtain ⟨y,hy⟩:∃ x,us[j]? = some x:=⟨us[j]'(by rw [h.len];exact hjl),List.getElem?_eq_getElem (by rw [h.len];exact hjl)⟩
  obtain ⟨_,h2⟩:=h.row i x ti hx hi
  obtain ⟨_,h3⟩:=h.row j y tj hy hj
  obtain ⟨q,_,hu,_⟩:=World.ownsRow.form h2 l1
  obtain ⟨q',_,hu',_⟩:=World.ownsRow.form h3 l2
  simp only [hx,hy,Option.getD_some,hu,hu',Value.ownBlock]
  intro e
  have:=h.dist i j x y q hij hx hy (by rw [hu];rfl)
  rw [hu'] at this
  exact this (by rw [e];rfl)
theorem TParts.push2 {wr w1 w2:World} {B cp:Nat} {Av:Option Addr} {v2 u:Value} {ts:List Term'} {us:List (Value×Int)} {t:Term'} (h:TParts wr B (.slice Av ts.length cp) ts us) (_hB:B≤wr.heap.size)
  (hb:Below wr.heap.size wr w1) (hu:IntRow w1 B u t.1) (hd:∀ x∈us,∀ q,x.1.ownBlock=some q→u.ownBlock≠some q) (hown:w2.ownsRow B 173 2 v2 (ts.length+1) (cellsT us++[u,.int .i64 t.2])) (hg:w1.grownBy w2 (Value.slice Av ts.length cp).ownBlock) :
  TParts w2 B v2 (ts++[t]) (us++[(u,t.2)])∧∀ q,q<w1.heap.size→Typed w1 q 2→w2.heap[q]? = w1.heap[q]?:=by
 have hlen:=h.len
 have hty:∀ q,(Value.slice Av ts.length cp).ownBlock=some q→Typed w1 q 173:=fun q hq=>typed_keep (own2_typed h.own hq) (hb.block q (World.ownsRow.lt h.own q hq).2)
 have hkeep:∀ b,b<w1.heap.size→Typed w1 b 2→w2.heap[b]? = w1.heap[b]?:=fun b hbl ht=>
  hg.block b hbl fun e=>ht.ne (hty b e.symm) (by decide) rfl
 refine ⟨⟨by simp [hlen], ?_,fun i x s hx hs=>?_,fun i j x x' q hij hx hx' hq=>?_⟩,hkeep⟩
 ·rw [cellsT_append]
  simpa [cellsT] using hown
 ·by_cases hi:i<ts.length
  ·rw [List.getElem?_append_left (by omega)] at hx hs
   obtain ⟨h1,h2⟩:=h.row i x s hx hs
   have h3:IntRow w1 B x.1 s.1:=h2.keep fun g hg'=>hb.block g (h2.lt hg').2
   exact ⟨h1,h3.keep fun g hg'=>hkeep g (h3.lt hg').2 (own_typed h3 hg')⟩
  ·have hil:=(List.getElem?_eq_some_iff.1 hs).1
   simp at hil
   obtain rfl:i=ts.length:=by omega
   rw [List.getElem?_append_right (by omega)] at hx hs
   rw [←hlen] at hx
   simp at hx hs
   subst hx;subst hs
   exact ⟨rfl,hu.keep fun g hg'=>hkeep g (hu.lt hg').2 (own_typed hu hg')⟩
 ·by_cases hj:j<ts.length
  ·rw [List.getElem?_append_left (by omega)] at hx hx'
   exact h.dist i j x x' q hij hx hx' hq
  ·have hjl:=(List.getElem?_eq_some_iff.1 hx').1
   simp at hjl
   obtain rfl:j=us.length:=by omega
   rw [List.getElem?_append_left (by omega)] at hx
   simp at hx'
   subst hx'
   exact hd x (List.mem_of_getElem? hx) q hq
end
section
open Go.RowKit Plain
theorem wpList_append_zero {P:Program} {w:World} {ops:Array Oper} {rest:List Oper} {o:Oper} {a:Act} {Q:Exit→Act→World→Prop} (hgd:o.guard=none) (s x:Operand) (t:TypeId)
  (ho:o.op=.call { callee:=.builtin .append,args:=#[s,x],argTypes:=#[t,t] }) (e:TypeId) (i:TypeInfo) (ht:P.underlying t=some (.slice e)) (hi:P.info? e=some i)
  (base:Option Addr) (sLen sCap:Nat) (hle:sLen≤sCap) (hs:a.eval s=.slice base sLen sCap) (xv:Value) (hx:a.eval x=xv) (hsrc:Src P i.size t xv 0 [] w)
  (h:wpList P ops Q rest (a.put o.dst (.slice base sLen sCap)) w):wpList P ops Q (o :: rest) a w:=by
 refine wpList_plain hgd fun K hK=>?_
 have hr:=run_append_nothing (P:=P) w t t o.type e i ht hi base sLen sCap hle xv hsrc
 unfold Oper.wp
 simp [execOp,ho,resolve,invoke,builtin,hs,hx,hr,Result.andThen]
 exact hK _ _ h
def CopyPost (zs:List Int) (w:World) (e:Ending) (w':World):Prop:=∃ A c,e=.returned (.slice A zs.length c)∧IntRow w' w.heap.size (.slice A zs.length c) zs∧Below w.heap.size w w'
theorem rowStartI (w:World):IntRow (w.alloc (.cells #[] 2)) w.heap.size (.slice (some ⟨w.heap.size,0,none⟩) 0 0) []:=World.ownsRow_lit w #[] 0 (Nat.le_refl _) (by unfold maxLen;omega) (by rfl)
theorem cloneR_any (A:Option Addr) (cap:Nat) (zs:List Int) (w:World) (hA:Ints w A zs) (hl:zs.length≤1000000) :
  Calls Tryz.prog 182 #[.slice A zs.length cap] w (CopyPost zs w):=by
 obtain ⟨i0,hi,hz0,hz1,hz2⟩:=info_parts Tryz.infoI
 have hown:=rowStartI w
 have hg:Below w.heap.size w (w.alloc (.cells #[] 2)):=by go_grown
 have HO:=hid hown
 have HG:=hid hg
 have q22:∀ (w:World) (a:Option Addr) (n c n' c':Nat),(binOp .eql 28 (.slice a n c) (.slice none n' c')).run Tryz.prog w=.ok (.bool a.isNone) w:=fun w a n c n' c'=>Lib.run_eql_slice_nil w _ _ a n c n' c' Tryz.underlying28
 by_cases h0:0<zs.length
 ·obtain ⟨b,o,rfl,hb,hc⟩:=hA h0
  have HN:Hid (∀ (j:Nat) u,(zs.map (Value.int .i64))[j]? = some u→(w.alloc (.cells #[] 2)).cell? ((Addr.mk b o none).add j)=some u):=by
   intro j u hu
   rw [List.getElem?_map] at hu
   obtain ⟨x,hx,rfl⟩:=Option.map_eq_some_iff.1 hu
   rw [addr_add]
   exact (hg.cell (p:=⟨b,o+j,none⟩) hb).trans (hc j x hx)
  have H1:Hid (∀ u∈zs.map (Value.int .i64),u.oneCell'=true):=by
   intro u hu
   obtain ⟨x,_,rfl⟩:=List.mem_map.1 hu
   rfl
  clear hc hown hg hA
  go_enter Tryz.func182,Tryz.ntmps182
  go_wp2_with (at_builtin;refine wpList_append_own _ rfl _ _ 28 rfl w.heap.size 2 i0 (.int .i64 0) 1 8 Tryz.underlying28 hi hz0 hz1 hz2 rfl (by decide) _ 0 _ rfl HO.out ⟨b,o,none⟩ zs.length cap (zs.map (Value.int .i64)) rfl ?c0 HN.out H1.out ?c3 ?c4 ?c5 ?_)
  try (case c0=>simp)
  case c3=>unfold maxLen;omega
  case c4=>omega
  try (case c5=>simp;try omega)
  intro v2 w2 hown hg _
  have hr:IntRow w2 w.heap.size v2 zs:=by
   unfold IntRow
   simpa using hown
  obtain ⟨A2,c2,hv⟩:=hr.form
  subst hv
  have hb2:Below w.heap.size w w2:=HG.out.grown hg HG.out.size (fun q hq=>(HO.out.lt hq).1)
  have HP:Hid (CopyPost zs w (.returned (.slice A2 zs.length c2)) w2):=⟨_,_,rfl,hr,hb2⟩
  clear hown hg hr hb2
  go_wp2
  go_ret
  exact HP.out
 ·obtain rfl:zs=[]:=List.length_eq_zero_iff.1 (by omega)
  cases A with
  | none=>
   clear hown hg hA
   go_enter Tryz.func182,Tryz.ntmps182
   go_wp2
   go_ret
   exact ⟨none,0,rfl,⟨rfl,.inl ⟨rfl,rfl⟩⟩,Below.refl _ _⟩
  | some a=>
   have HS:Hid (∀ wx,Src Tryz.prog i0.size 28 (.slice (some a) 0 cap) 0 [] wx):=fun wx=>Src.ofSlice wx Tryz.underlying28 a 0 cap [] (by simp) (by simp) (by simp)
   clear hown hg hA
   go_enter Tryz.func182,Tryz.ntmps182
   go_wp2_with (at_builtin;refine wpList_append_zero rfl _ _ 28 rfl 2 i0 Tryz.underlying28 hi _ 0 0 (Nat.le_refl _) rfl _ rfl (HS.out _) ?_)
   go_ret
   exact ⟨_,_,rfl,HO.out,HG.out⟩
theorem ownR_any (A:Option Addr) (cap:Nat) (zs:List Int) (w:World) (hA:Ints w A zs) (hl:zs.length≤1000000) :
  Calls Tryz.prog 244 #[.slice A zs.length cap] w (CopyPost zs w):=by
 obtain ⟨i0,hi,hz0,hz1,hz2⟩:=info_parts Tryz.infoI
 have hown:=rowStartI w
 have hg:Below w.heap.size w (w.alloc (.cells #[] 2)):=by go_grown
 have HO:=hid hown
 have HG:=hid hg
 by_cases h0:0<zs.length
 ·obtain ⟨b,o,rfl,hb,hc⟩:=hA h0
  have HN:Hid (∀ (j:Nat) u,(zs.map (Value.int .i64))[j]? = some u→(w.alloc (.cells #[] 2)).cell? ((Addr.mk b o none).add j)=some u):=by
   intro j u hu
   rw [List.getElem?_map] at hu
   obtain ⟨x,hx,rfl⟩:=Option.map_eq_some_iff.1 hu
   rw [addr_add]
   exact (hg.cell (p:=⟨b,o+j,none⟩) hb).trans (hc j x hx)
  have H1:Hid (∀ u∈zs.map (Value.int .i64),u.oneCell'=true):=by
   intro u hu
   obtain ⟨x,_,rfl⟩:=List.mem_map.1 hu
   rfl
  clear hc hown hg hA
  go_enter Tryz.func244,Tryz.ntmps244
  go_wp2_with (at_builtin;refine wpList_append_own _ rfl _ _ 28 rfl w.heap.size 2 i0 (.int .i64 0) 1 8 Tryz.underlying28 hi hz0 hz1 hz2 rfl (by decide) _ 0 _ rfl HO.out ⟨b,o,none⟩ zs.length cap (zs.map (Value.int .i64)) rfl ?c0 HN.out H1.out ?c3 ?c4 ?c5 ?_)
  try (case c0=>simp)
  case c3=>unfold maxLen;omega
  case c4=>omega
  try (case c5=>simp;try omega)
  intro v2 w2 hown hg _
  have hr:IntRow w2 w.heap.size v2 zs:=by
   unfold IntRow
   simpa using hown
  obtain ⟨A2,c2,hv⟩:=hr.form
  subst hv
  have hb2:Below w.heap.size w w2:=HG.out.grown hg HG.out.size (fun q hq=>(HO.out.lt hq).1)
  have HP:Hid (CopyPost zs w (.returned (.slice A2 zs.length c2)) w2):=⟨_,_,rfl,hr,hb2⟩
  clear hown hg hr hb2
  go_wp2
  go_ret
  exact HP.out
 ·obtain rfl:zs=[]:=List.length_eq_zero_iff.1 (by omega)
  have HS:Hid (∀ wx,Src Tryz.prog i0.size 28 (.slice A 0 cap) 0 [] wx):=fun wx=>by
   cases A with
   | none=>exact Src.ofNil wx Tryz.underlying28 cap
   | some a=>exact Src.ofSlice wx Tryz.underlying28 a 0 cap [] (by simp) (by simp) (by simp)
  clear hown hg hA
  go_enter Tryz.func244,Tryz.ntmps244
  go_wp2_with (at_builtin;refine wpList_append_zero rfl _ _ 28 rfl 2 i0 Tryz.underlying28 hi _ 0 0 (Nat.le_refl _) rfl _ rfl (HS.out _) ?_)
  go_ret
  exact ⟨_,_,rfl,HO.out,HG.out⟩
theorem equalI_any (A B:Option Addr) (ca cb n:Nat) (a b:List Int) (w:World) (hA:Ints w A a) (hB:Ints w B b) (ha:a.length=n) (hb:b.length=n) (hn:n≤1000000000) :
  Calls Tryz.prog 180 #[.slice A n ca,.slice B n cb] w fun e w'=>e=.returned (.bool (decide (a=b)))∧∃ q,w'=w.drewN q:=by
 have HA:=hid hA
 have HB:=hid hB
 have HLA:=hid ha
 have HLB:=hid hb
 clear hA hB ha hb
 go_enter Tryz.func180,Tryz.ntmps180
 go_wp2
 go_loopw [13] (fun i wr=>∃ (k q:Nat),k≤n∧i=.int .i64 (k:Int)∧Hid (wr=w.drewN q)∧Hid (a.take k=b.take k)) (fun i _=>n - (intOf i).toNat)
 case atStart=>exact ⟨0,0,by omega,by go_num,by show _=_;rfl,by show _=_;simp⟩
 case round=>
  obtain ⟨k,q,hk,rfl,HQ,HE⟩:=hrel
  have hqq:=HQ.out
  subst hqq
  clear HQ
  by_cases hlt:k<n
  ·obtain ⟨ba,oa,rfl,_,hca⟩:=HA.out (by have:=HLA.out;omega)
   obtain ⟨bb,ob,rfl,_,hcb⟩:=HB.out (by have:=HLB.out;omega)
   obtain ⟨x,hx⟩:∃ x,a[k]? = some x:=⟨_,List.getElem?_eq_getElem (by have:=HLA.out;omega)⟩
   obtain ⟨y,hy⟩:∃ y,b[k]? = some y:=⟨_,List.getElem?_eq_getElem (by have:=HLB.out;omega)⟩
   have hc1:=hca k x hx
   have hc2:=hcb k y hy
   have hkl:(k:Int)<(n:Int):=by omega
   have HX:=hid hx
   have HY:=hid hy
   clear hca hcb hx hy
   by_cases hxy:x=y
   ·subst hxy
    have HE2:Hid (a.take (k+1)=b.take (k+1)):=by show _=_;rw [List.take_add_one,List.take_add_one,HE.out,HX.out,HY.out]
    clear HE
    go_wp2_with fail
    have hc1':(w.drewN q).cell? ⟨ba,oa+k,none⟩=some (.int .i64 x):=hc1
    have hc2':(w.drewN q).cell? ⟨bb,ob+k,none⟩=some (.int .i64 x):=hc2
    generalize hW:w.drewN q=W at hc1' hc2' ⊢
    have HW:=hid hW
    clear hW hc1 hc2
    go_quiet (fail)
    have HD:Hid (∃ q',W.drewN nq=w.drewN q'):=⟨q+nq,by rw [←HW.out,World.drewN_drewN]⟩
    obtain ⟨q',hq'⟩:=HD.out
    rw [hq']
    clear hq' HD HW
    go_wp2
    go_roundw
    case rel=>exact ⟨k+1,q',by omega,by go_num,by show _=_;rfl,HE2⟩
    case measure=>simp [intOf];omega
   ·have hne:(x==y)=false:=by simp [hxy]
    have hne':(x != y)=true:=by simp [hxy]
    have HV:Hid (decide (a=b)=false):=by
     show _=_
     refine decide_eq_false fun e=>hxy ?_
     have h1:=HX.out
     rw [e,HY.out] at h1
     exact (Option.some.inj h1).symm
    go_wp2_with fail
    have hc1':(w.drewN q).cell? ⟨ba,oa+k,none⟩=some (.int .i64 x):=hc1
    have hc2':(w.drewN q).cell? ⟨bb,ob+k,none⟩=some (.int .i64 y):=hc2
    generalize hW:w.drewN q=W at hc1' hc2' ⊢
    have HW:=hid hW
    clear hW hc1 hc2
    go_quiet (fail)
    have HD:Hid (∃ q',W.drewN nq=w.drewN q'):=⟨q+nq,by rw [←HW.out,World.drewN_drewN]⟩
    go_wp2
    go_ret
    exact ⟨ret_bool HV.out.symm,HD.out⟩
  ·obtain rfl:k=n:=by omega
   have HV:Hid (decide (a=b)=true):=by
    show _=_
    have h:=HE.out
    rw [List.take_of_length_le (by rw [HLA.out];exact Nat.le_refl _),List.take_of_length_le (by rw [HLB.out];exact Nat.le_refl _)] at h
    exact decide_eq_true h
   go_wp2
   go_ret
   exact ⟨ret_bool HV.out.symm,q,rfl⟩
theorem insertion_none (A:Option Addr) (cap:Nat) (w:World) :
  Calls Tryz.prog 267 #[.slice A 0 cap,.int .i64 0,.int .i64 0,.func (.func 178) #[] #[]] w fun e w'=>e=.returned (.tuple #[])∧w=w':=by
 go_enter Tryz.func267,Tryz.ntmps267
 go_wp2
 refine wp_loop_rounds 1 ?_
 rw [rounds_succ]
 go_wp2
 go_end0
 exact ⟨rfl,rfl⟩
theorem stable_none (A:Option Addr) (cap:Nat) (w:World) :
  Calls Tryz.prog 237 #[.slice A 0 cap,.int .i64 0,.func (.func 178) #[] #[]] w fun e w'=>e=.returned (.tuple #[])∧w=w':=by
 have HI:=hid (insertion_none A cap w)
 go_enter Tryz.func237,Tryz.ntmps237
 go_wp2
 refine wp_loop_rounds 1 ?_
 rw [rounds_succ]
 go_wp2_with fail
 refine HI.out.mono ?_
 rintro e w2 ⟨rfl,rfl⟩
 go_wp2
 refine wp_loop_rounds 1 ?_
 rw [rounds_succ]
 go_wp2
 go_end0
 exact ⟨rfl,rfl⟩
theorem sort_none (A:Option Addr) (cap:Nat) (w:World) :
  Calls Tryz.prog 177 #[.slice A 0 cap,.func (.func 178) #[] #[]] w fun e w'=>e=.returned (.tuple #[])∧w=w':=by
 have HI:=hid (stable_none A cap w)
 go_enter Tryz.func177,Tryz.ntmps177
 go_wp2_with fail
 refine HI.out.mono ?_
 rintro e w2 ⟨rfl,rfl⟩
 go_wp2
 go_end0
 exact ⟨rfl,rfl⟩
end
section
open Go.RowKit Plain
structure PSt (w:World) (B:Nat) (ts:List Term') (us:List (Value×Int)) (i:Nat) (out:List Term') (L:List (Value×Int)) (A:Option Addr) (m cp:Nat) (wr:World):Prop where
 own:wr.ownsRow w.heap.size 173 2 (.slice A m cp) m (cellsT L)
 parts:TParts wr B (.slice A m cp) out L
 len:out.length=m
 old:∀ x∈L,(∃ k,k<i∧us[k]? = some x)∨(∀ q,x.1.ownBlock=some q→w.heap.size≤q)
 below:Below w.heap.size w wr
theorem PSt.next {w wr w1:World} {B i m cp:Nat} {ts out:List Term'} {us L:List (Value×Int)} {A:Option Addr} (h:PSt w B ts us i out L A m cp wr) (hb:Below wr.heap.size wr w1):PSt w B ts us i out L A m cp w1:=
 ⟨ownsRow_keep2 h.own fun g hg=>hb.block g (World.ownsRow.lt h.own g hg).2,h.parts.keep fun q _ hq=>hb.block q hq,h.len,h.old,bnext h.below hb⟩
theorem PSt.start (w:World) (B:Nat) (hB:B≤w.heap.size) (ts:List Term') (us:List (Value×Int)):PSt w B ts us 0 [] [] (some ⟨w.heap.size,0,none⟩) 0 0 (w.alloc (.cells #[] 173)):=by
 have h:(w.alloc (.cells #[] 173)).ownsRow w.heap.size 173 2 (.slice (some ⟨w.heap.size,0,none⟩) 0 0) 0 (cellsT []):=World.ownsRow_lit w #[] 0 (Nat.le_refl _) (by unfold maxLen;omega) (by rfl)
 exact ⟨h,⟨rfl,World.ownsRow.mono h hB,fun i u t h=>by simp at h,fun i j u u' q _ h=>by simp at h⟩,rfl,fun x hx=>by simp at hx,by go_grown⟩
theorem own_below {w wr w2:World} {m cp:Nat} {A:Option Addr} {L:List (Value×Int)} {o:Obj} (h:wr.ownsRow w.heap.size 173 2 (.slice A m cp) m (cellsT L)) (hb:Below w.heap.size w wr) (hg:(wr.alloc o).grownBy w2 (Value.slice A m cp).ownBlock):Below w.heap.size w w2:=by
 have hs:=hg.size
 have hs2:=hb.size
 simp at hs
 have hga:Below wr.heap.size wr (wr.alloc o):=(Below.refl _ _).alloc (Nat.le_refl _) o
 exact ⟨hg.os.trans (hga.os.trans hb.os),hg.tape.trans (hga.tape.trans hb.tape),hg.output.trans (hga.output.trans hb.output),by omega,fun k hk=>(hg.block k (by simp;omega) fun e=>by have:=(World.ownsRow.lt h k e.symm).1;omega).trans ((hga.block k (by omega)).trans (hb.block k hk))⟩
theorem PSt.copy {w wr w2:World} {B i m cp:Nat} {ts out:List Term'} {us L:List (Value×Int)} {A:Option Addr} {v v2:Value} {o:Obj} {x:Value×Int} (h:PSt w B ts us i out L A m cp wr) (h0:TParts w B v ts us) (hB:B≤w.heap.size) (hi:i<ts.length) (hx:us[i]? = some x)
  (hown:w2.ownsRow w.heap.size 173 2 v2 (m+1) (cellsT L++[x.1,.int .i64 x.2])) (hg:(wr.alloc o).grownBy w2 (Value.slice A m cp).ownBlock) :
  ∃ A2 c2,v2=.slice A2 (m+1) c2∧PSt w B ts us (i+1) (out++[tmAt ts i]) (L++[x]) A2 (m+1) c2 w2:=by
 have hl:=h.len
 subst hl
 obtain ⟨r1,r2⟩:=h0.row i x _ hx (tm_get hi)
 have hga:Below wr.heap.size wr (wr.alloc o):=(Below.refl _ _).alloc (Nat.le_refl _) o
 have hba:Below w.heap.size w (wr.alloc o):=bnext h.below hga
 have hu:IntRow (wr.alloc o) B x.1 (tmAt ts i).1:=r2.keep fun g hg=>hba.block g (r2.lt hg).2
 obtain ⟨A2,c2,hv,_⟩:=World.ownsRow.form hown (by omega)
 subst hv
 rw [r1] at hown
 obtain ⟨p1,_⟩:=TParts.push2 (t:=tmAt ts i) h.parts (Nat.le_trans hB h.below.size) hga hu (fun y hy q hq e=>by
  rcases h.old y hy with ⟨k,hk,hyk⟩ | hf
  ·exact h0.dist k i y x q hk hyk hx hq e
  ·have:=hf q hq
   have:=(r2.lt e).2
   omega) (World.ownsRow.mono hown hB) hg
 refine ⟨some ⟨A2,0,none⟩,c2,rfl, ?_, ?_,by simp,fun y hy=>?_,own_below h.own h.below hg⟩
 ·rw [cellsT_append];simpa [cellsT,←r1] using hown
 ·rw [←r1] at p1;exact p1
 ·rcases List.mem_append.1 hy with hy | hy
  ·rcases h.old y hy with ⟨k,hk,hyk⟩ | hf
   ·exact .inl ⟨k,by omega,hyk⟩
   ·exact .inr hf
  ·simp at hy;subst hy
   exact .inl ⟨i,by omega,hx⟩
theorem PSt.more {w wr w1 w2:World} {B i m cp:Nat} {ts out:List Term'} {us L:List (Value×Int)} {A:Option Addr} {v2 u:Value} {o:Obj} {t:Term'} (h:PSt w B ts us i out L A m cp wr) (hB:B≤w.heap.size) (hb:Below wr.heap.size wr w1) (hu:IntRow w1 wr.heap.size u t.1)
  (hown:w2.ownsRow w.heap.size 173 2 v2 (m+1) (cellsT L++[u,.int .i64 t.2])) (hg:(w1.alloc o).grownBy w2 (Value.slice A m cp).ownBlock) :
  ∃ A2 c2,v2=.slice A2 (m+1) c2∧PSt w B ts us i (out++[t]) (L++[(u,t.2)]) A2 (m+1) c2 w2:=by
 have hl:=h.len
 subst hl
 have h1:=h.next hb
 have hga:Below w1.heap.size w1 (w1.alloc o):=(Below.refl _ _).alloc (Nat.le_refl _) o
 have hu2:IntRow (w1.alloc o) wr.heap.size u t.1:=hu.keep fun g hg=>hga.block g (hu.lt hg).2
 obtain ⟨A2,c2,hv,_⟩:=World.ownsRow.form hown (by omega)
 subst hv
 obtain ⟨p1,_⟩:=TParts.push2 (t:=t) h1.parts (Nat.le_trans hB h1.below.size) hga (World.ownsRow.mono hu2 (Nat.le_trans hB h.below.size)) (fun y hy q hq e=>by
  obtain ⟨k,hk,hyk⟩:=List.getElem_of_mem hy
  have hyk':L[k]? = some y:=by rw [List.getElem?_eq_getElem hk,hyk]
  obtain ⟨s,hs⟩:∃ s,out[k]? = some s:=⟨out[k]'(by rw [←h.parts.len];exact hk),List.getElem?_eq_getElem _⟩
  have:=((h.parts.row k y s hyk' hs).2.lt hq).2
  have:=(hu.lt e).1
  omega) (World.ownsRow.mono hown hB) hg
 refine ⟨some ⟨A2,0,none⟩,c2,rfl, ?_,p1,by simp,fun y hy=>?_,own_below h1.own h1.below hg⟩
 ·rw [cellsT_append];simpa [cellsT] using hown
 ·rcases List.mem_append.1 hy with hy | hy
  ·exact h.old y hy
  ·simp at hy;subst hy
   exact .inr fun q hq=>by have:=(hu.lt hq).1;have:=h.below.size;omega
theorem PSt.skip {w wr:World} {B i j m cp:Nat} {ts out:List Term'} {us L:List (Value×Int)} {A:Option Addr} (h:PSt w B ts us i out L A m cp wr) (hij:i≤j):PSt w B ts us j out L A m cp wr:=
 ⟨h.own,h.parts,h.len,fun x hx=>(h.old x hx).imp (fun ⟨k,hk,h⟩=>⟨k,by omega,h⟩) id,h.below⟩
def PutF (ts:List Term') (E:List Int) (c:Int) (a:Nat) (c':Int) (a':Nat):Prop:=
 Canon (ts.take a++midT E c'++ts.drop a')∧∀ x,cof (ts.take a++midT E c'++ts.drop a') x=if E=x then pl c (cof ts E) else cof ts x
theorem putF_at {ts:List Term'} {E:List Int} {c:Int} {a:Nat} (h:Canon ts) (ha:a<ts.length) (he:(tmAt ts a).1=E):PutF ts E c a (pl c (tmAt ts a).2) (a+1):=by
 have hs:ts=ts.take a++(E,(tmAt ts a).2) :: ts.drop (a+1):=by
  have h1:ts.drop a=tmAt ts a :: ts.drop (a+1):=by
   rw [List.drop_eq_getElem_cons ha,show ts[a]=tmAt ts a by simp [tmAt,List.getD,ha]]
  have h2:=List.take_append_drop a ts
  rw [h1] at h2
  have h3:tmAt ts a=(E,(tmAt ts a).2):=Prod.ext he rfl
  rw [h3] at h2
  exact h2.symm
 have h2:=h
 rw [hs] at h2
 have h3:=put_at (c:=c) h2
 rw [←hs] at h3
 exact h3
theorem putF_new {ts:List Term'} {E:List Int} {c:Int} {a:Nat} (h:Canon ts) (hlo:∀ k,k<a→cmpL (tmAt ts k).1 E<0) (hal:a≤ts.length) (hhi:a<ts.length→0<cmpL (tmAt ts a).1 E) (c0:0≤c) (c1:c≤1000002):PutF ts E c a c a:=by
 have hs:=List.take_append_drop a ts
 have h3:=put_new (P:=ts.take a) (S:=ts.drop a) (e:=E) (c:=c) (by rw [hs];exact h) (fun p hp=>?_) (fun s hs'=>?_) c0 c1
 ·rw [hs] at h3;exact h3
 ·obtain ⟨k,hk,rfl⟩:=List.getElem_of_mem hp
  simp only [List.length_take] at hk
  rw [List.getElem_take]
  have:=hlo k (by omega)
  rwa [show tmAt ts k=ts[k] by simp [tmAt,List.getD,show k<ts.length by omega]] at this
 ·obtain ⟨k,hk,rfl⟩:=List.getElem_of_mem hs'
  simp only [List.length_drop] at hk
  rw [List.getElem_drop]
  have h1:=hhi (by omega)
  have h2:=cmpL_swap (tmAt ts a).1 E
  have h4:cmpL E (tmAt ts a).1<0:=by omega
  rw [show tmAt ts a=ts[a] by simp [tmAt,List.getD,show a<ts.length by omega]] at h4
  by_cases hk0:k=0
  ·subst hk0;exact h4
  ·exact cmpL_trans h4 (List.pairwise_iff_getElem.1 h.asc a (a+k) (by omega) (by omega) (by omega))
theorem cell_tmn (w:World) (u:Value) (c:Int) (t:TypeId) (j:Nat) (x:Value) (h:[u,Value.int .i64 c][j]? = some x):(w.alloc (.cells #[u,.int .i64 c] t)).cell? ((Addr.mk w.heap.size 0 none).add j)=some x:=by
 have hc:=(Cells.new w t [u,.int .i64 c]).cell j
 rw [addr_add,Nat.zero_add]
 exact hc.trans h
def PutPost (B:Nat) (ts:List Term') (E:List Int) (c:Int) (w:World) (e:Ending) (w':World):Prop:=
 ∃ (A':Option Addr) (c':Nat) (ts':List Term'),e=.returned (.slice A' ts'.length c')∧TRow w' B (.slice A' ts'.length c') ts'∧Canon ts'∧(∀ x,cof ts' x=if E=x then pl c (cof ts E) else cof ts x)∧LenT E.length ts'∧ts'.length≤ts.length+1∧Below w.heap.size w w'
theorem put_any (B:Nat) (A Ae:Option Addr) (cap ce:Nat) (ts:List Term') (E:List Int) (c:Int) (w:World) (hT:TRow w B (.slice A ts.length cap) ts) (hB:B≤w.heap.size) (hE:Ints w Ae E) (hC:Canon ts) (hL:LenT E.length ts) (c0:0≤c) (c1:c≤1000002) (hl:ts.length≤1000000) (hEl:E.length≤1000000) :
  Calls Tryz.prog 203 #[.slice A ts.length cap,.slice Ae E.length ce,.int .i64 c] w (PutPost B ts E c w):=by
 obtain ⟨i0,hi,hz0,hz1,hz2⟩:=info_parts Tryz.infoT
 obtain ⟨us,hP0⟩:=hT
 have HEL:Hid (∀ wx i,Below w.heap.size w wx→i<ts.length→∃ g Ai ci,A=some ⟨g,0,none⟩∧us[i]? = some (.slice Ai E.length ci,(tmAt ts i).2)∧wx.cell? ⟨g,i*2,none⟩=some (.slice Ai E.length ci)∧wx.cell? ⟨g,i*2+1,none⟩=some (.int .i64 (tmAt ts i).2)∧Ints wx Ai (tmAt ts i).1∧(tmAt ts i).1.length=E.length):=by
  intro wx i hb hi
  obtain ⟨g,c',hv,hg1,hg2⟩:=World.ownsRow.form hP0.own (by omega)
  have hA:A=some ⟨g,0,none⟩:=by injection hv
  have hc:cap=c':=by injection hv
  subst hA;subst hc
  have hil:i<us.length:=by rw [hP0.len];exact hi
  have hx:=List.getElem?_eq_getElem hil
  obtain ⟨r1,r2⟩:=hP0.row i _ _ hx (tm_get hi)
  have hlen:(tmAt ts i).1.length=E.length:=hL _ (tmAt_mem hi)
  obtain ⟨Ai,ci,hu⟩:=r2.form
  rw [hlen] at hu
  have hpair:us[i]=(.slice Ai E.length ci,(tmAt ts i).2):=Prod.ext hu r1
  rw [hpair] at hx
  have hcg:=cellsT_get hx
  have hbk:=hb.block g hg2
  refine ⟨g,Ai,ci,rfl,hx, ?_, ?_, ?_,hlen⟩
  ·exact (World.cell?_of_block (a:=⟨g,_,none⟩) hbk).trans ((World.ownsRow.cellAt hP0.own (i*2) (by omega)).trans hcg.1)
  ·exact (World.cell?_of_block (a:=⟨g,_,none⟩) hbk).trans ((World.ownsRow.cellAt hP0.own (i*2+1) (by omega)).trans hcg.2)
  ·rw [hu] at r2
   have:IntRow w B (.slice Ai (tmAt ts i).1.length ci) (tmAt ts i).1:=by rw [hlen];exact r2
   exact this.intsM.ints.below hb
 have HP0:=hid hP0
 have HE:=hid hE
 have HC:=hid hC
 have HLT:=hid hL
 clear hP0 hE hC hL
 go_enter Tryz.func203,Tryz.ntmps203
 go_upto_block 0 with fail
 go_cut [7] (fun s7 wc=>∃ a:Nat,s7=.int .i64 (a:Int)∧a≤ts.length∧Hid (∀ k,k<a→cmpL (tmAt ts k).1 E<0)∧Hid (a<ts.length→¬ cmpL (tmAt ts a).1 E<0)∧Hid (Below w.heap.size w wc))
 case first=>
  go_wp2_with fail
  go_loopg [7] (ts.length+1) (fun kx s7 wr=>∃ a:Nat,s7=.int .i64 (a:Int)∧a≤ts.length∧ts.length - a<kx∧Hid (∀ k,k<a→cmpL (tmAt ts k).1 E<0)∧Hid (Below w.heap.size w wr))
  case atStart=>exact ⟨0,by first | rfl | go_num,by omega,by omega,(fun k hk=>by omega),Below.refl _ _⟩
  case round=>
   obtain ⟨a,rfl,ha,hkx,HLO,HB⟩:=hrel
   by_cases hlt:a<ts.length
   ·have hltz:(a:Int)<(ts.length:Int):=by omega
    obtain ⟨g,Ai,ci,rfl,_,d0,d1,l1,l2⟩:=HEL.out wr a HB.out hlt
    have HCM:Hid (Calls Tryz.prog 249 #[.slice Ai E.length ci,.slice Ae E.length ce] wr fun e w'=>e=.returned (.int .i64 (cmpL (tmAt ts a).1 E))∧Drawn wr w'):=by
     have h:=cmpS_any Ai Ae ci ce (tmAt ts a).1 E wr l1 (HE.out.below HB.out) l2.symm (by rw [l2];omega)
     rw [l2] at h
     exact h
    obtain ⟨z,hz⟩:∃ z,z=cmpL (tmAt ts a).1 E:=⟨_,rfl⟩
    rw [←hz] at HCM
    have HZ:=hid hz
    clear hz d1 l1 l2
    by_cases hneg:z<0
    ·have hnb:decide (z<0)=true:=by simp [hneg]
     go_wp2_with fail
     refine HCM.out.mono ?_
     rintro e w2 ⟨rfl,hd⟩
     have HB2:=hid (bnext HB.out (hd.below _))
     have HLO2:Hid (∀ k,k<a+1→cmpL (tmAt ts k).1 E<0):=fun k hk=>by
      by_cases e:k=a
      ·rw [e,←HZ.out];exact hneg
      ·exact HLO.out k (by omega)
     clear hd
     go_wp2
     go_roundg (ts.length - (a+1)+1)
     case measure=>omega
     case rel=>exact ⟨a+1,by first | rfl | go_num,by omega,by omega,HLO2,HB2⟩
    ·have hnb:decide (z<0)=false:=by simp;omega
     go_wp2_with fail
     refine HCM.out.mono ?_
     rintro e w2 ⟨rfl,hd⟩
     have HB2:=hid (bnext HB.out (hd.below _))
     have HNE:Hid (a<ts.length→¬ cmpL (tmAt ts a).1 E<0):=fun _=>by rw [←HZ.out];omega
     clear hd
     go_wp2_with fail
     go_meet
     case rel=>exact ⟨a,rfl,ha,HLO,HNE,HB2⟩
   ·have hltz:¬ (a:Int)<(ts.length:Int):=by omega
    have hltb:decide ((a:Int)<(ts.length:Int))=false:=by simp;omega
    have HNE:Hid (a<ts.length→¬ cmpL (tmAt ts a).1 E<0):=fun h=>absurd h hlt
    go_wp2_with fail
    go_meet
    case rel=>exact ⟨a,rfl,ha,HLO,HNE,HB⟩
 case rest=>
 obtain ⟨a,rfl,ha,HLO,HHI,HB⟩:=hcut
 obtain ⟨wo,rfl⟩:∃ x,x=wc:=⟨_,rfl⟩
 have hBo:B≤wo.heap.size:=Nat.le_trans hB HB.out.size
 have HPO:Hid (TParts wo B (.slice A ts.length cap) ts us):=HP0.out.keep fun q _ hq=>HB.out.block q hq
 have HST:=hid (PSt.start wo B hBo ts us)
 have HELo:Hid (∀ wx i,Below wo.heap.size wo wx→i<ts.length→∃ g Ai ci,A=some ⟨g,0,none⟩∧us[i]? = some (.slice Ai E.length ci,(tmAt ts i).2)∧wx.cell? ⟨g,i*2,none⟩=some (.slice Ai E.length ci)∧wx.cell? ⟨g,i*2+1,none⟩=some (.int .i64 (tmAt ts i).2)∧Ints wx Ai (tmAt ts i).1∧(tmAt ts i).1.length=E.length):=fun wx i hb hi=>HEL.out wx i (bnext HB.out hb) hi
 have HEo:=hid (HE.out.below HB.out)
 clear HEL HE HP0
 go_wp2_with fail
 generalize wo.alloc (.cells #[] 173)=W1 at *
 go_loopg [8,9] (a+1) (fun kx s8 s9 wr=>∃ (i:Nat) (A':Option Addr) (cp:Nat),s8=.slice A' i cp∧s9=.int .i64 (i:Int)∧i≤a∧a - i<kx∧Hid (PSt wo B ts us i (ts.take i) (us.take i) A' i cp wr))
 case atStart=>exact ⟨0,_,0,rfl,by first | rfl | go_num,by omega,by omega,HST⟩
 case round=>
  clear HST
  obtain ⟨i,A',cp,rfl,rfl,hia,hkx,HS⟩:=hrel
  by_cases hlt:i<a
  ·have hltz:(i:Int)<(a:Int):=by omega
   have hit:i<ts.length:=by omega
   obtain ⟨g,Ai,ci,rfl,hx,d0,d1,_,_⟩:=HELo.out wr i HS.out.below hit
   have HX:=hid hx
   have HTK:Hid (ts.take i++[tmAt ts i]=ts.take (i+1)∧us.take i++[(.slice Ai E.length ci,(tmAt ts i).2)]=us.take (i+1)):=⟨by rw [List.take_add_one,tm_get hit];rfl,by rw [List.take_add_one,hx];rfl⟩
   obtain ⟨v,hv⟩:∃ v,v=(tmAt ts i).2:=⟨_,rfl⟩
   rw [←hv] at d1 HX HTK
   clear hx hv
   have hitz:(i:Int)<(ts.length:Int):=by omega
   go_wp2_with (at_builtin;refine wpList_append_own _ rfl _ _ 84 rfl wo.heap.size 173 i0 (tmV none 0 0 0) 2 32 Tryz.underlying84 hi hz0 hz1 hz2 rfl (by decide) _ i _ rfl (HS.out.own.alloc _) ⟨wr.heap.size,0,none⟩ 1 1 [.slice Ai E.length ci,.int .i64 v] rfl rfl ?c1 ?c2 ?c3 ?c4 ?c5 ?_)
   try (case c1=>exact cell_tmn _ _ _ _)
   try (case c2=>intro u hu;simp at hu;rcases hu with rfl | rfl<;>rfl)
   case c3=>unfold maxLen;omega
   case c4=>omega
   case c5=>first | (have:=HS.out.below.size;simp;omega)
   intro v2 w2 hown hg _
   obtain ⟨A2,c2,rfl,hS2⟩:=HS.out.copy HPO.out hBo hit HX.out hown hg
   have HS2:Hid (PSt wo B ts us (i+1) (ts.take (i+1)) (us.take (i+1)) A2 (i+1) c2 w2):=by
    rw [←HTK.out.1,←HTK.out.2];exact hS2
   clear hown hg hS2 HS HTK HX
   go_wp2
   go_roundg (a - (i+1)+1)
   case measure=>omega
   case rel=>exact ⟨i+1,A2,c2,rfl,by first | rfl | go_num,by omega,by omega,HS2⟩
  ·obtain rfl:i=a:=by omega
   clear hkx
   obtain ⟨w3,rfl⟩:∃ x,x=wr:=⟨_,rfl⟩
   go_upto_region 9 with fail
   go_cut [53] (fun s53 wc=>∃ bb:Bool,s53=.bool bb∧Hid (bb=true→i<ts.length∧(tmAt ts i).1=E)∧Hid (bb=false→i<ts.length→0<cmpL (tmAt ts i).1 E)∧Hid (Below w3.heap.size w3 wc))
   case first=>
    by_cases hlt:i<ts.length
    ·have hltz:(i:Int)<(ts.length:Int):=by omega
     obtain ⟨g,Ai,ci,rfl,_,d0,d1,l1,l2⟩:=HELo.out w3 i HS.out.below hlt
     have HCM:Hid (Calls Tryz.prog 249 #[.slice Ai E.length ci,.slice Ae E.length ce] w3 fun e w'=>e=.returned (.int .i64 (cmpL (tmAt ts i).1 E))∧Drawn w3 w'):=by
      have h:=cmpS_any Ai Ae ci ce (tmAt ts i).1 E w3 l1 (HEo.out.below HS.out.below) l2.symm (by rw [l2];omega)
      rw [l2] at h
      exact h
     obtain ⟨z,hz⟩:∃ z,z=cmpL (tmAt ts i).1 E:=⟨_,rfl⟩
     rw [←hz] at HCM
     have HZ:=hid hz
     have hhi:=HHI.out hlt
     rw [←hz] at hhi
     clear hz l1 l2
     have H1:Hid ((z==0)=true→i<ts.length∧(tmAt ts i).1=E):=fun h=>⟨hlt,cmpL_eq (by rw [←HZ.out];simpa using h)⟩
     have H2:Hid ((z==0)=false→i<ts.length→0<cmpL (tmAt ts i).1 E):=fun h _=>by
      rw [←HZ.out]
      have:z≠0:=by simpa using h
      omega
     clear hhi
     go_wp2_with fail
     refine HCM.out.mono ?_
     rintro e w4 ⟨rfl,hd⟩
     have HBD:=hid (hd.below w3.heap.size)
     clear hd d0 d1
     go_wp2_with fail
     go_meet
     case rel=>exact ⟨(z==0),rfl,H1,H2,HBD⟩
    ·have hltz:¬ (i:Int)<(ts.length:Int):=by omega
     have hltb:decide ((i:Int)<(ts.length:Int))=false:=by simp;omega
     go_wp2_with fail
     go_meet
     case rel=>exact ⟨false,rfl,(fun h=>by simp at h),(fun _ h=>absurd h hlt),Below.refl _ _⟩
   case rest=>
   obtain ⟨bb,rfl,HB1,HB2,HBD⟩:=hcut
   have HS3:=hid (HS.out.next HBD.out)
   obtain ⟨w4,rfl⟩:∃ x,x=wc:=⟨_,rfl⟩
   clear HS HBD
   go_upto_if 53 with fail
   go_cut [2,7] (fun s2 s7 wc=>∃ (c':Int) (a':Nat),s2=.int .i64 c'∧s7=.int .i64 (a':Int)∧i≤a'∧a'≤ts.length∧0≤c'∧c'≤1000002∧Hid (PutF ts E c i c' a')∧w4=wc)
   case first=>
    cases bb
    ·have HF:Hid (PutF ts E c i c i):=putF_new HC.out HLO.out (by omega) (fun h=>HB2.out rfl h) c0 c1
     go_wp2_with fail
     go_meet
     case rel=>exact ⟨c,i,rfl,rfl,by omega,by omega,c0,c1,HF,rfl⟩
    ·have hlt:=(HB1.out rfl).1
     have hltz:(i:Int)<(ts.length:Int):=by omega
     obtain ⟨g,Ai,ci,rfl,_,d0,d1,_,_⟩:=HELo.out w4 i HS3.out.below hlt
     obtain ⟨v,hv⟩:∃ v,v=(tmAt ts i).2:=⟨_,rfl⟩
     rw [←hv] at d1
     have HF:Hid (PutF ts E c i (pl c v) (i+1)):=by
      rw [hv]
      exact putF_at HC.out hlt (HB1.out rfl).2
     have HPL:=hid (fun wx=>plusS_any c v wx)
     have hpb:=pl_bd c v
     obtain ⟨y,hy⟩:∃ y,y=pl c v:=⟨_,rfl⟩
     rw [←hy] at HF HPL hpb
     have hy0:=hpb.1
     have hy1:=hpb.2
     clear hpb hy hv d0
     go_wp2_with (go_at_call 127;refine (HPL.out _).mono ?_;rintro e w' ⟨rfl,rfl⟩)
     go_meet
     case rel=>exact ⟨y,i+1,rfl,by first | rfl | go_num,by omega,by omega,hy0,hy1,HF,rfl⟩
   case rest=>
   obtain ⟨c',a',rfl,rfl,hia',ha'l,hc0,hc1,HF,rfl⟩:=hcut
   clear HLO HHI
   go_upto_if 64 with fail
   go_cut [8] (fun s8 wc=>∃ (A2:Option Addr) (m cp2:Nat) (out:List Term') (L:List (Value×Int)),s8=.slice A2 m cp2∧m≤i+1∧Hid (PSt wo B ts us i out L A2 m cp2 wc)∧Hid (out=ts.take i++midT E c'))
   case first=>
    by_cases hcz:c'=0
    ·have hcb:(c' != 0)=false:=by simp [hcz]
     have HO:Hid (ts.take i=ts.take i++midT E c'):=by show _=_;rw [hcz];simp [midT]
     go_wp2_with fail
     go_meet
     case rel=>exact ⟨A',i,cp,_,_,rfl,by omega,HS3,HO⟩
    ·have hcb:(c' != 0)=true:=by simp [hcz]
     have HO:Hid (ts.take i++[(E,c')]=ts.take i++midT E c'):=by show _=_;simp [midT,hcz]
     have HCL:=hid (ownR_any Ae ce E w4 (HEo.out.below HS3.out.below) (by omega))
     clear hcz
     go_wp2_with fail
     refine HCL.out.mono ?_
     rintro e w5 ⟨Au,cu,rfl,hu,hb5⟩
     have HU:=hid hu
     have HB5:=hid hb5
     have HS5:=hid (HS3.out.next hb5)
     clear hu hb5 HCL
     go_wp2_with (at_builtin;refine wpList_append_own _ rfl _ _ 84 rfl wo.heap.size 173 i0 (tmV none 0 0 0) 2 32 Tryz.underlying84 hi hz0 hz1 hz2 rfl (by decide) _ i _ rfl (HS5.out.own.alloc _) ⟨w5.heap.size,0,none⟩ 1 1 [.slice Au E.length cu,.int .i64 c'] rfl rfl ?d1 ?d2 ?d3 ?d4 ?d5 ?_)
     try (case d1=>exact cell_tmn _ _ _ _)
     try (case d2=>intro u hu;simp at hu;rcases hu with rfl | rfl<;>rfl)
     case d3=>unfold maxLen;omega
     case d4=>omega
     case d5=>first | (have:=HS5.out.below.size;simp;omega)
     intro v2 w6 hown hg _
     obtain ⟨A2,c2,rfl,hS2⟩:=HS3.out.more (t:=(E,c')) hBo HB5.out HU.out hown hg
     have HS2:=hid hS2
     clear hown hg hS2 HS5
     go_wp2_with fail
     go_meet
     case rel=>exact ⟨A2,i+1,c2,_,_,rfl,by omega,HS2,HO⟩
   case rest=>
   obtain ⟨A2,m,cp2,out,L,rfl,hmi,HS5,HOUT⟩:=hcut
   obtain ⟨w6,rfl⟩:∃ x,x=wc:=⟨_,rfl⟩
   have HS6:=hid (HS5.out.skip hia')
   clear HS3 HS5
   go_wp2
   go_loopg [8,10] (ts.length+1) (fun kx s8 s10 wr=>∃ (k m:Nat) (A2:Option Addr) (cp2:Nat) (out:List Term') (L:List (Value×Int)),s8=.slice A2 m cp2∧s10=.int .i64 (k:Int)∧a'≤k∧k≤ts.length∧ts.length - k<kx∧m≤k+1∧Hid (PSt wo B ts us k out L A2 m cp2 wr)∧Hid (out=ts.take i++midT E c'++(ts.take k).drop a'))
   case atStart=>exact ⟨a',m,A2,cp2,out,L,rfl,rfl,by omega,by omega,by omega,by omega,HS6,by
    show _=_
    rw [List.drop_eq_nil_of_le (by simp;omega),List.append_nil];exact HOUT.out⟩
   case round=>
    clear HS6 HOUT
    obtain ⟨k,m,A2,cp2,out,L,rfl,rfl,hak,hkl,hkx,hmk,HS,HOUT⟩:=hrel
    by_cases hlt:k<ts.length
    ·have hltz:(k:Int)<(ts.length:Int):=by omega
     obtain ⟨g,Ai,ci,rfl,hx,e0,e1,_,_⟩:=HELo.out wr k HS.out.below hlt
     have HX:=hid hx
     have HTK:Hid (out++[tmAt ts k]=ts.take i++midT E c'++(ts.take (k+1)).drop a'):=by
      show _=_
      have:=seg_push (us:=ts) hak hlt
      unfold seg at this
      rw [this,HOUT.out,List.append_assoc]
     obtain ⟨v,hv⟩:∃ v,v=(tmAt ts k).2:=⟨_,rfl⟩
     rw [←hv] at e1 HX
     clear hx hv
     go_wp2_with (at_builtin;refine wpList_append_own _ rfl _ _ 84 rfl wo.heap.size 173 i0 (tmV none 0 0 0) 2 32 Tryz.underlying84 hi hz0 hz1 hz2 rfl (by decide) _ m _ rfl (HS.out.own.alloc _) ⟨wr.heap.size,0,none⟩ 1 1 [.slice Ai E.length ci,.int .i64 v] rfl rfl ?f1 ?f2 ?f3 ?f4 ?f5 ?_)
     try (case f1=>exact cell_tmn _ _ _ _)
     try (case f2=>intro u hu;simp at hu;rcases hu with rfl | rfl<;>rfl)
     case f3=>unfold maxLen;omega
     case f4=>omega
     case f5=>first | (have:=HS.out.below.size;simp;omega)
     intro v2 w7 hown hg _
     obtain ⟨A3,c3,rfl,hS2⟩:=HS.out.copy HPO.out hBo hlt HX.out hown hg
     have HS2:=hid hS2
     clear hown hg hS2 HS HX HOUT
     go_wp2
     go_roundg (ts.length - (k+1)+1)
     case measure=>omega
     case rel=>exact ⟨k+1,m+1,A3,c3,_,_,rfl,by first | rfl | go_num,by omega,by omega,by omega,by omega,HS2,HTK⟩
    ·obtain rfl:k=ts.length:=by omega
     have HE:Hid (PutPost B ts E c w (.returned (.slice A2 m cp2)) wr):=by
      have ho:=HOUT.out
      rw [List.take_length] at ho
      have hm:=HS.out.len
      have hp:=HS.out.parts
      have hf:=HF.out
      unfold PutF at hf
      rw [←ho] at hf
      refine ⟨A2,cp2,out,by rw [hm],⟨L,by rw [hm];exact hp⟩,hf.1,hf.2,fun t ht=>?_,by rw [hm];exact hmk,bnext HB.out HS.out.below⟩
      rw [ho] at ht
      rcases List.mem_append.1 ht with ht | ht
      ·rcases List.mem_append.1 ht with ht | ht
       ·exact HLT.out t (List.mem_of_mem_take ht)
       ·rw [(midT_mem ht).1]
      ·exact HLT.out t (List.mem_of_mem_drop ht)
     go_wp2
     go_ret
     exact HE.out
end
section
open Go.RowKit Plain
def RetQi (a:Int×List Term') (b:Int) (w:World) (e:Ending) (w':World):Prop:=
 Below w.heap.size w w'∧∃ A cp,e=.returned (.tuple #[poV a.1 A a.2.length cp,.int .i64 b])∧RT w' w.heap.size w'.heap.size A a.2
structure DSt (W0:World) (p B:Nat) (vars:Int) (L:List Term') (n:Nat) (out:List Term') (m cp:Nat) (A:Option Addr) (wr:World):Prop where
 box:Cells wr p 86 [.int .i64 vars,.slice A m cp]
 len:out.length=m
 row:TRow wr B (.slice A m cp) out
 canon:Canon out
 cofs:∀ e,cof out e=cof L e
 lenT:LenT n out
 only:Only (fun q=>q=p) W0 wr
 pB:p<B
 B0:B=W0.heap.size
theorem DSt.next {W0 wr w1:World} {p B n:Nat} {vars:Int} {L out:List Term'} {m cp:Nat} {A:Option Addr} (h:DSt W0 p B vars L n out m cp A wr) (hb:Below wr.heap.size wr w1):DSt W0 p B vars L n out m cp A w1:=
 ⟨h.box.next hb,h.len,h.row.below hb,h.canon,h.cofs,h.lenT,h.only.trans (Only.of_below hb),h.pB,h.B0⟩
theorem DSt.size {W0 wr:World} {p B n:Nat} {vars:Int} {L out:List Term'} {m cp:Nat} {A:Option Addr} (h:DSt W0 p B vars L n out m cp A wr):B≤wr.heap.size:=by rw [h.B0];exact h.only.size
theorem DSt.row' {W0 wr:World} {p B n:Nat} {vars:Int} {L out:List Term'} {m cp:Nat} {A:Option Addr} (h:DSt W0 p B vars L n out m cp A wr):TRow wr B (.slice A out.length cp) out:=by rw [h.len];exact h.row
theorem DSt.put {W0 w3 w4:World} {p B n m cp c4:Nat} {vars c:Int} {L out ts4:List Term'} {A A4:Option Addr} {E:List Int} (h:DSt W0 p B vars L n out m cp A w3) (hn:E.length=n) (hr:TRow w4 B (.slice A4 ts4.length c4) ts4) (hc:Canon ts4)
  (hco:∀ x,cof ts4 x=if E=x then pl c (cof out E) else cof out x) (hl:LenT E.length ts4) (hb:Below w3.heap.size w3 w4):DSt W0 p B vars (L++[(E,c)]) n ts4 ts4.length c4 A4 (w4.setCell ⟨p,1,none⟩ (.slice A4 ts4.length c4)):=by
 have hB:=h.B0
 have hpB:=h.pB
 refine ⟨?_,rfl, ?_,hc,fun e=>?_,hn ▸ hl, ?_,h.pB,h.B0⟩
 ·have:=(h.box.next hb).set_ 1 (.slice A4 ts4.length c4)
  simpa using this
 ·exact hr.keep fun q hq _=>Below.heap_setCell _ _ _ _ (fun e=>by simp only at e;omega)
 ·rw [cof_append,←h.cofs]
  exact cof_put (t:=(E,c)) hco e
 ·exact (h.only.trans (Only.of_below hb)).chain (T:=fun q=>q=p) ⟨rfl,rfl,rfl,by simp [World.setCell],fun q _ hq=>Below.heap_setCell _ _ _ _ hq⟩ (fun q _ h=>h)
theorem DSt.same {W0 wr:World} {p B n:Nat} {vars:Int} {L L' out:List Term'} {m cp:Nat} {A:Option Addr} (h:DSt W0 p B vars L n out m cp A wr) (e:L=L'):DSt W0 p B vars L' n out m cp A wr:=e ▸ h
end
section
open Plain
open Classical in
noncomputable def nfT (L:List Term'):List Term':=if h:∃ R,Canon R∧∀ e,cof R e=cof L e then Classical.choose h else []
theorem nfT_eq {R L:List Term'} (h:Canon R) (hc:∀ e,cof R e=cof L e):R=nfT L:=by
 have hx:∃ R,Canon R∧∀ e,cof R e=cof L e:=⟨R,h,hc⟩
 unfold nfT
 rw [dif_pos hx]
 obtain ⟨h1,h2⟩:=Classical.choose_spec hx
 exact h.unique h1 fun e=>by rw [hc,h2]
end
end Go.Proofs.YtgfkglhelfkpoaaGreat
